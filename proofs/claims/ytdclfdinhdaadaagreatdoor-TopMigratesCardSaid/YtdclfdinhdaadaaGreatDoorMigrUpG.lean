/- Package migr: the contracts of Clone and Up. -/
import Derived.Test.YtdclfdinhdaadaaGreatDoorCopyG
import Derived.Test.YtdclfdinhdaadaaGreatDoorMgB
namespace Go.Proofs.YtdclfdinhdaadaaGreatDoor
open Go.RowKit

set_option maxHeartbeats 400000 in
set_option maxRecDepth 100000 in
theorem migr_Clone (v : Int) (ps : List Pa) (ss : List Se) (A1 A2 : Option Addr) (n1 c1 n2 c2 : Nat) (R1 R2 : Nat → Prop) (w : World) (h1 : Reads w R1 3 A1 n1 (pcs ps)) (h2 : Reads w R2 8 A2 n2 (ecs ss)) (hn1 : n1 ≤ 100000) (hn2 : n2 ≤ 100000) :
    Calls Tryz.prog 41 #[stv v (.slice A1 n1 c1) (.slice A2 n2 c2)] w fun e w' => ∃ g1 g2, e = .returned (stv v (.slice (some ⟨g1, 0, none⟩) n1 n1) (.slice (some ⟨g2, 0, none⟩) n2 n2)) ∧
      OwnP w' w.heap.size (.slice (some ⟨g1, 0, none⟩) n1 n1) ps ∧ OwnE w' w.heap.size (.slice (some ⟨g2, 0, none⟩) n2 n2) ss ∧ g1 ≠ g2 ∧ Mod Non w w' := by
  have hl1 : n1 = ps.length := by have := h1.1; rw [pcs_length] at this; omega
  have hl2 : n2 = ss.length := by have := h2.1; rw [ecs_length] at this; omega
  have HL1 := Lib.hid hl1
  have HL2 := Lib.hid hl2
  clear hl1 hl2
  go_enter Tryz.func41, Tryz.ntmps41
  obtain ⟨ip, ip1, ip2, ip3, ip4⟩ := info_parts Pa.info
  obtain ⟨ie, ie1, ie2, ie3, ie4⟩ := info_parts Se.info
  have b4p : ip.bytes * n1 ≤ 281474976710656 := by rw [ip4]; omega
  have b4e : ie.bytes * n2 ≤ 281474976710656 := by rw [ie4]; omega
  have sp : (Tryz.prog.info? 42).map (·.size) = some 3 := by rw [ip1]; simp [ip3]
  have se : (Tryz.prog.info? 68).map (·.size) = some 8 := by rw [ie1]; simp [ie3]
  clear ip4 ie4
  go_wp2_with (first
    | (at_make; refine wpList_make_full _ rfl (.tmp 7) (.tmp 7) 22 rfl w.heap.size 42 ip _ 3 Tryz.underlying22 ip1 ip2 ip3 .i64 .i64 _ _ n1 rfl rfl rfl rfl b4p (by simp [maxLen]; omega) (by simp; omega) ?_; intro w1 ho1 hg1
       have hm1 := (((Mod.refl Non w).alloc (.cells #[.int .i64 v, .slice A1 n1 c1, .slice A2 n2 c2] 25)).alloc (.cells #[.int .i64 0, .slice none 0 0, .slice none 0 0] 25)).trans' (Mod.of_grown (S := Non) hg1 (by simp))
       have b1 := ((Blk.new w 25 #[.int .i64 v, .slice A1 n1 c1, .slice A2 n2 c2]).alloc (.cells #[.int .i64 0, .slice none 0 0, .slice none 0 0] 25)).mod (Mod.of_grown (S := Non) hg1 (by simp)) (fun h => h)
       have r1 := (Blk.new1 w (.cells #[.int .i64 v, .slice A1 n1 c1, .slice A2 n2 c2] 25) 25 #[.int .i64 0, .slice none 0 0, .slice none 0 0]).mod (Mod.of_grown (S := Non) hg1 (by simp)) (fun h => h)
       have e11 := b1.cell 1
       have e12 := b1.cell 2
       simp at e11 e12
       simp only [World.size_alloc] at ho1
       clear hg1)
    | (with_reducible (show wpList _ _ _ (⟨some 12, _, _, _, _, _⟩ :: _) _ _); refine wpList_copy_all rfl (.tmp 9) (.tmp 11) 22 22 rfl 42 3 Tryz.underlying22 sp w.heap.size _ n1 n1 c1 A1 R1 _ (pcs ps) rfl rfl ho1 (h1.mod hm1 fun _ _ _ h => h) (pcs_one ps) ?_; intro w2 ho2 hm2
       have hm12 : Mod Non w w2 := hm1.trans hm2 (fun i hi h => by unfold One at h; omega)
       have b2 := b1.mod hm2 (by unfold One; omega)
       have r2 := r1.mod hm2 (by unfold One; omega)
       have e21 := b2.cell 1
       have e22 := b2.cell 2
       have hlt2 := (ho2.lt _ rfl).2
       simp at e21 e22 hlt2
       clear ho1 hm2 b1 r1 e11 e12)
    | (at_make; refine wpList_make_full _ rfl (.tmp 15) (.tmp 15) 23 rfl w.heap.size 68 ie _ 8 Tryz.underlying23 ie1 ie2 ie3 .i64 .i64 _ _ n2 rfl rfl rfl rfl b4e (by simp [maxLen]; omega) (by omega) ?_; intro w3 ho3 hg3
       have hm23 : Mod Non w2 w3 := Mod.of_grown (S := Non) hg3 (by simp)
       have hm13 := hm12.trans' hm23
       have b3 := b2.mod hm23 (fun h => h)
       have r3 := r2.mod hm23 (fun h => h)
       have ho23 := own_non ho2 hm23
       have e31 := b3.cell 1
       have e32 := b3.cell 2
       simp at e31 e32
       clear hg3 hm23 b2 r2 ho2 e21 e22)
    | (with_reducible (show wpList _ _ _ (⟨some 20, _, _, _, _, _⟩ :: _) _ _); refine wpList_copy_all rfl (.tmp 17) (.tmp 19) 23 23 rfl 68 8 Tryz.underlying23 se w.heap.size _ n2 n2 c2 A2 R2 _ (ecs ss) rfl rfl ho3 (h2.mod hm13 fun _ _ _ h => h) (ecs_one ss) ?_; intro w4 ho4 hm4
       have hs2 := hm12.size
       have hm14 : Mod Non w w4 := hm13.trans hm4 (fun i hi h => by unfold One at h; omega)
       have b4 := b3.mod hm4 (by unfold One; omega)
       have r4 := r3.mod hm4 (by unfold One; omega)
       have ho24 := own_mod ho23 hm4 (fun g hg h => by injection hg with hg; unfold One at h; simp only at hg; omega)
       have e40 := b4.cell 0
       have e41 := b4.cell 1
       have e42 := b4.cell 2
       have c40 := r4.cell 0
       have c41 := r4.cell 1
       have c42 := r4.cell 2
       have f40 := r4.frozen 0
       have f41 := r4.frozen 1
       have f42 := r4.frozen 2
       simp at e40 e41 e42 c40 c41 c42
       clear ho3 hm4 b3 r3 ho23 e31 e32))
  have r5 : Blk (((w4.setCell ⟨w.heap.size + 1, 0, none⟩ (.int .i64 v)).setCell ⟨w.heap.size + 1, 1, none⟩ (.slice (some ⟨w.heap.size + 1 + 1, 0, none⟩) n1 n1)).setCell ⟨w.heap.size + 1, 2, none⟩ (.slice (some ⟨w2.heap.size, 0, none⟩) n2 n2)) (w.heap.size + 1) 25
      #[.int .i64 v, .slice (some ⟨w.heap.size + 1 + 1, 0, none⟩) n1 n1, .slice (some ⟨w2.heap.size, 0, none⟩) n2 n2] := ((r4.set_ 0 (.int .i64 v)).set_ 1 (.slice (some ⟨w.heap.size + 1 + 1, 0, none⟩) n1 n1)).set_ 2 (.slice (some ⟨w2.heap.size, 0, none⟩) n2 n2)
  have hm5 : Mod (One (w.heap.size + 1)) w4 (((w4.setCell ⟨w.heap.size + 1, 0, none⟩ (.int .i64 v)).setCell ⟨w.heap.size + 1, 1, none⟩ (.slice (some ⟨w.heap.size + 1 + 1, 0, none⟩) n1 n1)).setCell ⟨w.heap.size + 1, 2, none⟩ (.slice (some ⟨w2.heap.size, 0, none⟩) n2 n2)) :=
    (((Mod.refl _ _).setOne _).setOne _).setOne _
  refine bodyPost_ret (results_row rfl _ _ (w.heap.size + 1) 25 #[.int .i64 v, .slice (some ⟨w.heap.size + 1 + 1, 0, none⟩) n1 n1, .slice (some ⟨w2.heap.size, 0, none⟩) n2 n2] (0, 0) _ rfl r5 Tryz.underlying25 rfl (by kernel_rfl)) rfl ?_
  refine ⟨w.heap.size + 1 + 1, w2.heap.size, rfl, ?_, ?_, by omega, hm14.trans hm5 fun i hi h => by unfold One at h; omega⟩
  · have := own_mod ho24 hm5 fun g hg h => by injection hg with hg; unfold One at h; simp only at hg; omega
    unfold OwnP
    rw [← HL1.out]
    exact this
  · have := own_mod ho4 hm5 fun g hg h => by injection hg with hg; unfold One at h; simp only at hg; omega
    unfold OwnE
    rw [← HL2.out]
    exact this
set_option maxRecDepth 100000 in
set_option maxHeartbeats 1000000 in
theorem migr_Up (ps : List Pa) (ss : List Se) (A1 A2 : Option Addr) (n1 c1 n2 c2 : Nat) (R1 R2 : Nat → Prop) (w : World) (h1 : Reads w R1 3 A1 n1 (pcs ps)) (h2 : Reads w R2 8 A2 n2 (ecs ss)) (hok : St.Ok ⟨1, ps, ss⟩) (hT : T8 w) :
    Calls Tryz.prog 37 #[stv 1 (.slice A1 n1 c1) (.slice A2 n2 c2)] w fun e w' => ∃ g1 g2, e = .returned (.tuple #[stv 2 (.slice (some ⟨g1, 0, none⟩) n1 n1) (.slice (some ⟨g2, 0, none⟩) n2 n2), .int .i64 0]) ∧
      OwnP w' w.heap.size (.slice (some ⟨g1, 0, none⟩) n1 n1) (rev 1 ps) ∧ OwnE w' w.heap.size (.slice (some ⟨g2, 0, none⟩) n2 n2) ss ∧ Mod Non w w' := by
  have hl1 : n1 = ps.length := by have := h1.1; rw [pcs_length] at this; omega
  have hl2 : n2 = ss.length := by have := h2.1; rw [ecs_length] at this; omega
  have hn1 : n1 ≤ 64 := by have := hok.pairs.few; simp only at this; omega
  have hn2 : n2 ≤ 100000 := by have := hok.few; simp only at this; omega
  have HL1 := Lib.hid hl1
  have HL2 := Lib.hid hl2
  clear hl1 hl2
  go_enter Tryz.func37, Tryz.ntmps37
  go_wp2_with fail
  have hm0 := ((Mod.refl Non w).alloc (.cells #[.int .i64 1, .slice A1 n1 c1, .slice A2 n2 c2] 25)).alloc (.cells #[.int .i64 0, .slice none 0 0, .slice none 0 0] 25)
  have b0 := (Blk.new w 25 #[.int .i64 1, .slice A1 n1 c1, .slice A2 n2 c2]).alloc (.cells #[.int .i64 0, .slice none 0 0, .slice none 0 0] 25)
  have r0 := Blk.new1 w (.cells #[.int .i64 1, .slice A1 n1 c1, .slice A2 n2 c2] 25) 25 #[.int .i64 0, .slice none 0 0, .slice none 0 0]
  refine (migr_Check ⟨1, ps, ss⟩ A1 A2 n1 c1 n2 c2 R1 R2 _ (h1.mod hm0 fun _ _ _ h => h) (h2.mod hm0 fun _ _ _ h => h) hok (hT.non hm0)).mono ?_
  rintro e w1 ⟨rfl, hm1⟩
  have b1 := b0.mod hm1 (fun h => h)
  have r1 := r0.mod hm1 (fun h => h)
  have hm01 := hm0.trans' hm1
  have hlt1 := r1.lt
  have e10 := b1.cell 0
  have e11 := b1.cell 1
  have e12 := b1.cell 2
  simp at e10 e11 e12
  clear hm0 hm1 b0 r0
  go_wp2_with fail
  refine (migr_Clone 1 ps ss A1 A2 n1 c1 n2 c2 R1 R2 _ (h1.mod hm01 fun _ _ _ h => h) (h2.mod hm01 fun _ _ _ h => h) (by omega) hn2).mono ?_
  rintro e w2 ⟨g1, g2, rfl, ho1, ho2, hne, hm2⟩
  have b2 := b1.mod hm2 (fun h => h)
  have r2 := r1.mod hm2 (fun h => h)
  have hm02 := hm01.trans' hm2
  clear hm2 b1 r1 e10 e11 e12
  have hlo1 : w1.heap.size ≤ g1 ∧ g1 < w2.heap.size := ho1.lt _ rfl
  have hlo2 : w1.heap.size ≤ g2 ∧ g2 < w2.heap.size := ho2.lt _ rfl
  have i3 := Blk.new w2 25 #[.int .i64 2, (.slice (some ⟨g1, 0, none⟩) n1 n1), (.slice (some ⟨g2, 0, none⟩) n2 n2)]
  have hs3 := (Mod.refl Non w2).alloc (.cells #[.int .i64 2, (.slice (some ⟨g1, 0, none⟩) n1 n1), (.slice (some ⟨g2, 0, none⟩) n2 n2)] 25)
  have o13 := ho1.non hs3
  have o23 := ho2.non hs3
  have r3 := r2.mod hs3 (fun h => h)
  have hs12 := hm02.size
  have hm03 := hm02.trans' hs3
  clear hs3 b2 ho1 ho2 r2 hm02
  go_wp2_with fail
  go_loopw [23] (fun i wr => ∃ k : Nat, k ≤ n1 ∧ i = .int .i64 k ∧ OwnP wr w1.heap.size (.slice (some ⟨g1, 0, none⟩) n1 n1) (rev 1 (ps.take k) ++ ps.drop k) ∧ OwnE wr w1.heap.size (.slice (some ⟨g2, 0, none⟩) n2 n2) ss ∧ Blk wr w2.heap.size 25 #[.int .i64 2, (.slice (some ⟨g1, 0, none⟩) n1 n1), (.slice (some ⟨g2, 0, none⟩) n2 n2)] ∧ Blk wr (w.heap.size + 1) 25 #[.int .i64 0, .slice none 0 0, .slice none 0 0] ∧ Mod Non w wr) (fun i _ => n1 - (intOf i).toNat)
  case atStart => exact ⟨0, by omega, rfl, by simpa [rev] using o13, o23, i3, r3, hm03⟩
  case round =>
    obtain ⟨k, hk, rfl, ho, hoe, hI, hR, hm⟩ := hrel
    clear o13 o23 i3 r3 hm03
    by_cases hlt : k < n1
    · have hle : (rev 1 (ps.take k) ++ ps.drop k).length = n1 := by simp [rev]; have := HL1.out; omega
      obtain ⟨g, cur, hg0, hg1, hg2, hblk⟩ := ho.at (by omega)
      injection hg0 with hg0
      injection hg0 with hg0 _ _
      subst hg0
      have hkn : (k : Int) < n1 := by omega
      have hkq : k < ps.length := by have := HL1.out; omega
      have hpk : (rev 1 (ps.take k) ++ ps.drop k)[k]? = some ps[k] := by
        rw [List.getElem?_append_right (by simp [rev]; omega)]
        simp [rev, Nat.min_eq_left (Nat.le_of_lt hkq), hkq]
      have HO := Lib.hid ho
      have HPK := Lib.hid hpk
      have HOE := Lib.hid hoe
      clear ho hpk hle hoe
      obtain ⟨b, off, p, hA, hb, _, hp, d0, d1, d2⟩ := HO.out.reads.pa hlt
      injection hA with hA
      injection hA with e1 e2 _
      subst e1 e2
      simp only [Nat.zero_add] at d0 d1 d2
      clear hp
      have f2 := hblk.frozen (k * 3 + 2)
      have i1 := hI.cell 1
      simp at i1
      have HM := Lib.hid hm
      clear hm
      go_wp2
      go_roundw
      case rel =>
        have hs4 : Mod (One g1) wr (wr.setCell ⟨g1, k * 3 + 2, none⟩ (.int .i64 1)) := (Mod.refl _ _).setOne _
        refine ⟨k + 1, by omega, by go_num, ?_, own_mod HOE.out hs4 (fun g hg h => by injection hg with hg; unfold One at h; simp only at hg; omega), hI.mod hs4 (by unfold One; omega), hR.mod hs4 (by unfold One; omega), HM.out.trans hs4 fun i hi h => by unfold One at h; omega⟩
        have := HO.out.setRev HPK.out 1
        rwa [rev_set] at this
      case measure => simp [intOf]; omega
    · have hkn : ¬ (k : Int) < n1 := by omega
      have hkm : k = n1 := by omega
      subst hkm
      have i0 := hI.cell 0
      have i1 := hI.cell 1
      have i2 := hI.cell 2
      have c0 := hR.cell 0
      have c1 := hR.cell 1
      have c2 := hR.cell 2
      have f0 := hR.frozen 0
      have f1 := hR.frozen 1
      have f2 := hR.frozen 2
      simp at i0 i1 i2 c0 c1 c2
      rw [List.take_of_length_le (by have := HL1.out; omega), List.drop_eq_nil_of_le (by have := HL1.out; omega), List.append_nil] at ho
      have HO := Lib.hid ho
      have HOE := Lib.hid hoe
      have HM := Lib.hid hm
      clear ho hoe hm
      go_wp2
      have r5 : Blk (((wr.setCell ⟨w.heap.size + 1, 0, none⟩ (.int .i64 2)).setCell ⟨w.heap.size + 1, 1, none⟩ (.slice (some ⟨g1, 0, none⟩) k k)).setCell ⟨w.heap.size + 1, 2, none⟩ (.slice (some ⟨g2, 0, none⟩) n2 n2)) (w.heap.size + 1) 25 #[.int .i64 2, (.slice (some ⟨g1, 0, none⟩) k k), (.slice (some ⟨g2, 0, none⟩) n2 n2)] := ((hR.set_ 0 (.int .i64 2)).set_ 1 (.slice (some ⟨g1, 0, none⟩) k k)).set_ 2 (.slice (some ⟨g2, 0, none⟩) n2 n2)
      have hm5 : Mod (One (w.heap.size + 1)) wr (((wr.setCell ⟨w.heap.size + 1, 0, none⟩ (.int .i64 2)).setCell ⟨w.heap.size + 1, 1, none⟩ (.slice (some ⟨g1, 0, none⟩) k k)).setCell ⟨w.heap.size + 1, 2, none⟩ (.slice (some ⟨g2, 0, none⟩) n2 n2)) := (((Mod.refl _ _).setOne _).setOne _).setOne _
      refine bodyPost_ret (results_row_tmp rfl _ _ (w.heap.size + 1) 25 #[.int .i64 2, (.slice (some ⟨g1, 0, none⟩) k k), (.slice (some ⟨g2, 0, none⟩) n2 n2)] (0, 0) _ rfl r5 Tryz.underlying25 rfl (by kernel_rfl)) rfl ?_
      refine ⟨g1, g2, rfl, ?_, ?_, HM.out.trans hm5 fun i hi h => by unfold One at h; omega⟩
      · exact OwnP.below (OwnP.mod HO.out hm5 fun g hg h => by injection hg with hg; unfold One at h; simp only at hg; omega) (by omega)
      · exact OwnE.below (OwnE.mod HOE.out hm5 fun g hg h => by injection hg with hg; unfold One at h; simp only at hg; omega) (by omega)
end Go.Proofs.YtdclfdinhdaadaaGreatDoor
