/- Package snaptwo: the contracts of first and Decode at the bytes of a state. -/
import Derived.Test.YtdclfdinhdaadaaGreatDoorTimes
namespace Go.Proofs.YtdclfdinhdaadaaGreatDoor
open Go.RowKit

theorem two_first (l : List UInt8) (v t0 : Nat) (A : Option Addr) (n c : Nat) (R : Nat → Prop) (w : World) (hr : Reads w R 1 A n (vbs l)) (h1 : gscan 0 0 (l.drop 0) = .ok (v, t0)) (hv : v ≤ 2) (hn : n ≤ 10000000) :
    Calls Tryz.prog 39 #[.slice A n c] w fun e w' => ∃ g, e = .returned (.tuple #[.pointer (some ⟨g, 0, none⟩), .int .i64 v, .int .i64 0]) ∧ w.heap.size ≤ g ∧ Rd w' g l (0 + t0) ∧ Mod Non w w' := by
  have H1 := Lib.hid h1
  clear h1
  go_enter Tryz.func39, Tryz.ntmps39
  go_wp2_with fail
  refine (rd_New A n c R l _ hr hn).mono ?_
  rintro e w1 ⟨g, rfl, hg, hr1, hm1⟩
  go_wp2_with fail
  refine (rd_Number g 0 v t0 l 2 _ hr1 H1.out (by omega)).mono ?_
  rintro e w3 ⟨rfl, hr3, hm3⟩
  have hm03 := hm1.trans hm3 (fun i hi h => by unfold One at h; omega)
  clear hm1 hm3 hr1
  go_wp2_with fail
  refine (rd_Err g _ l _ hr3).mono ?_
  rintro e w4 ⟨rfl, rfl⟩
  go_wp2
  go_ret3
  exact ⟨g, rfl, hg, hr3, hm03⟩

set_option maxRecDepth 100000 in
set_option maxHeartbeats 1000000 in
theorem snaptwo_Decode (ps : List Pa) (ss : List Se) (A : Option Addr) (n c : Nat) (R : Nat → Prop) (w : World) (hr : Reads w R 1 A n (vbs (senc ⟨2, ps, ss⟩))) (hok : St.Ok ⟨2, ps, ss⟩) (hT : T8 w) (hn : n ≤ 10000000) :
    Calls Tryz.prog 40 #[.slice A n c] w fun e w' => ∃ v1 v2, e = .returned (.tuple #[stv 2 v1 v2, .int .i64 0]) ∧ OwnP w' w.heap.size v1 ps ∧ OwnE w' w.heap.size v2 ss ∧ Mod Non w w' := by
  have hl0 : (senc ⟨2, ps, ss⟩).drop 0 = vbytes 2 ++ (vbytes ps.length ++ (ps.flatMap (penc 2) ++ (vbytes ss.length ++ (ss.flatMap (xenc 2) ++ [])))) := senc_at _
  obtain ⟨h1, hl1⟩ := at_num (n := 2) hl0 (by omega)
  have hl2 := drop_next (drop_next hl1)
  have hl3 := congrArg List.length hl0
  have hps : ps.length ≤ 64 := hok.pairs.few
  have hss : ss.length ≤ 8 := ses_few hok.sess
  have HE : Hid (0 + (vbytes 2).length + (vbytes ps.length).length + (ps.flatMap (penc 2)).length + (vbytes ss.length).length + (ss.flatMap (xenc 2)).length = (senc ⟨2, ps, ss⟩).length) := by
    show _ = _
    rw [List.drop_zero] at hl3
    rw [hl3]
    simp only [List.length_append, List.length_nil]
    omega
  obtain ⟨l, hl⟩ : ∃ l, l = senc ⟨2, ps, ss⟩ := ⟨_, rfl⟩
  rw [← hl] at hr h1 hl1 hl2 HE
  obtain ⟨t0, ht0⟩ : ∃ t0, t0 = (vbytes 2).length := ⟨_, rfl⟩
  rw [← ht0] at h1 hl1 hl2 HE
  have H1 := Lib.hid h1
  have HL1 := Lib.hid hl1
  have HL2 := Lib.hid hl2
  have HOK := Lib.hid hok
  have OKP : Hid (∀ x ∈ ps, x.Ok ∧ 1 ≤ x.rev ∧ x.rev ≤ 4294967296) := fun p hp => by simpa using hok.pairs.each p hp
  have OKE : Hid (∀ x ∈ ss, x.last.Ok ∧ x.last.client = x.client ∧ x.last.seq = x.seq) := fun x hx => ⟨(hok.sess.each x hx).2.2.1, (hok.sess.each x hx).1, (hok.sess.each x hx).2.1⟩
  clear h1 hl1 hl2 hl0 hl3 hl ht0 hok
  have hm0 := (Mod.refl Non w).alloc (.cells #[.int .i64 0, .slice none 0 0, .slice none 0 0] 25)
  have z0 := Blk.new w 25 #[.int .i64 0, .slice none 0 0, .slice none 0 0]
  go_enter Tryz.func40, Tryz.ntmps40
  go_wp2_with fail
  refine (two_first l 2 t0 A n c R _ (hr.mod hm0 fun _ _ _ h => h) H1.out (by omega) hn).mono ?_
  rintro e w1 ⟨g, rfl, hg, hr1, hm1⟩
  have z1 := z0.mod hm1 (fun h => h)
  have hz1 := z1.lt
  have hm01 := hm0.trans' hm1
  have hgl := hr1.lt
  rw [World.size_alloc] at hg
  have hm2 := (Mod.refl Non w1).alloc (.cells #[.pointer (some ⟨g, 0, none⟩)] 80)
  have b2 := Blk.new w1 80 #[.pointer (some ⟨g, 0, none⟩)]
  have hr2 := hr1.non hm2
  have z2 := z1.mod hm2 (fun h => h)
  have hm02 := hm01.trans' hm2
  have hm3 := (Mod.refl Non (w1.alloc (.cells #[.pointer (some ⟨g, 0, none⟩)] 80))).alloc (.cells #[.int .i64 2, .slice none 0 0, .slice none 0 0] 25)
  have s3 := Blk.new (w1.alloc (.cells #[.pointer (some ⟨g, 0, none⟩)] 80)) 25 #[.int .i64 2, .slice none 0 0, .slice none 0 0]
  have hr3 := hr2.non hm3
  have z3 := z2.mod hm3 (fun h => h)
  have b3 := b2.mod hm3 (fun h => h)
  have hm03 := hm02.trans' hm3
  rw [World.size_alloc] at s3
  clear hm0 z0 hm1 z1 hm01 hr1 hm2 hm02 hr2 z2 b2 hm3
  go_wp2_with fail
  refine (two_times_Pa g _ w1.heap.size (w1.heap.size + 1) (w1.heap.size + 2) l _ ps _ _ hr3 HL1.out OKP.out hps b3 s3 hgl (by omega) (by omega) (by simp)).mono ?_
  rintro e w5 ⟨rfl, hr5, ⟨v1, s5, ho5⟩, hm5⟩
  obtain ⟨A1, m1, c1, rfl, hx1, hc1⟩ := ho5.form
  have b5 := b3.mod hm5 (by unfold Trd; omega)
  have z5 := z3.mod hm5 (by unfold Trd; omega)
  have x5 := b5.cell 0
  simp at x5
  have hm05 := hm03.trans hm5 (fun i hi h => by unfold Trd at h; omega)
  have hl5 := s5.lt
  clear hm5 b3 z3 s3 hr3 hm03
  go_wp2_with fail
  refine (two_times_Se g _ w1.heap.size (w1.heap.size + 1) w5.heap.size l [] ss _ _ hr5 HL2.out OKE.out hss b5 s5 hgl (by omega) hl5 (Nat.le_refl _)).mono ?_
  rintro e w7 ⟨rfl, hr7, ⟨v2, s7, ho7⟩, hm7⟩
  obtain ⟨A2, m2, c2, rfl, hx2, hc2⟩ := ho7.form
  rw [HE.out] at hr7
  have b7 := b5.mod hm7 (by unfold Trd; omega)
  have z7 := z5.mod hm7 (by unfold Trd; omega)
  have hp7 := OwnP.mod ho5 hm7 (fun k hk h => by have := World.ownsRow.lt ho5 k hk; unfold Trd at h; omega)
  have x7 := b7.cell 0
  simp at x7
  have hm07 := hm05.trans hm7 (fun i hi h => by unfold Trd at h; omega)
  have hl57 := hm05.size
  clear hm7 b5 z5 s5 hr5 hm05 x5 ho5
  go_wp2_with fail
  refine (rd_Done g l w7 hr7).mono ?_
  rintro e w9 ⟨rfl, hm9⟩
  have s9 := s7.mod hm9 (fun h => h)
  have z9 := z7.mod hm9 (fun h => h)
  have hp9 := hp7.non hm9
  have ho9 := ho7.non hm9
  have hm09 := hm07.trans' hm9
  have e0 := s9.cell 0
  have e1 := s9.cell 1
  have e2 := s9.cell 2
  simp at e0 e1 e2
  clear x7 hm9 s7 z7 b7 hr7 hp7 ho7 hm07
  go_wp2_with fail
  refine (migr_Check ⟨2, ps, ss⟩ A1 A2 m1 c1 m2 c2 _ _ _ hp9.reads ho9.reads HOK.out (hT.non hm09)).mono ?_
  rintro e w10 ⟨rfl, hm10⟩
  have s10 := s9.mod hm10 (fun h => h)
  have z10 := z9.mod hm10 (fun h => h)
  have hp10 := hp9.non hm10
  have ho10 := ho9.non hm10
  have hm010 := hm09.trans' hm10
  have e0 := s10.cell 0
  have e1 := s10.cell 1
  have e2 := s10.cell 2
  have c0 := z10.cell 0
  have c1' := z10.cell 1
  have c2' := z10.cell 2
  have f0 := z10.frozen 0
  have f1 := z10.frozen 1
  have f2 := z10.frozen 2
  simp at e0 e1 e2 c0 c1' c2'
  clear hm10 s9 z9 hp9 ho9 hm09
  go_wp2_with fail
  have r5 : Blk (((w10.setCell ⟨w.heap.size, 0, none⟩ (.int .i64 2)).setCell ⟨w.heap.size, 1, none⟩ (.slice A1 m1 c1)).setCell ⟨w.heap.size, 2, none⟩ (.slice A2 m2 c2)) w.heap.size 25 #[.int .i64 2, (.slice A1 m1 c1), (.slice A2 m2 c2)] := ((z10.set_ 0 (.int .i64 2)).set_ 1 (.slice A1 m1 c1)).set_ 2 (.slice A2 m2 c2)
  have hm5 : Mod (One w.heap.size) w10 (((w10.setCell ⟨w.heap.size, 0, none⟩ (.int .i64 2)).setCell ⟨w.heap.size, 1, none⟩ (.slice A1 m1 c1)).setCell ⟨w.heap.size, 2, none⟩ (.slice A2 m2 c2)) := (((Mod.refl _ _).setOne _).setOne _).setOne _
  refine bodyPost_ret (results_row_tmp rfl _ _ w.heap.size 25 #[.int .i64 2, (.slice A1 m1 c1), (.slice A2 m2 c2)] (0, 0) _ rfl r5 Tryz.underlying25 rfl (by kernel_rfl)) rfl ?_
  refine ⟨_, _, rfl, ?_, ?_, hm010.trans hm5 fun i hi h => by unfold One at h; omega⟩
  · exact OwnP.below (OwnP.mod hp10 hm5 fun g2 hg h => by have := (World.ownsRow.lt hp10 g2 hg).1; unfold One at h; omega) (by omega)
  · exact OwnE.below (OwnE.mod ho10 hm5 fun g2 hg h => by have := (World.ownsRow.lt ho10 g2 hg).1; unfold One at h; omega) (by omega)
end Go.Proofs.YtdclfdinhdaadaaGreatDoor
