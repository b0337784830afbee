/- Package snapone: the contract of Decode at the bytes of a state. -/
import Derived.Test.YtdclfdinhdaadaaGreatDoorDecLists
namespace Go.Proofs.YtdclfdinhdaadaaGreatDoor
open Go.RowKit

theorem senc_at (s : St) : senc s = vbytes s.schema.toNat ++ (vbytes s.pairs.length ++ (s.pairs.flatMap (penc s.schema) ++ (vbytes s.sess.length ++ (s.sess.flatMap (xenc s.schema) ++ [])))) := by
  simp [senc, pencs, xencs]

/-- behind one part -/
theorem drop_next {l x r : List UInt8} {a : Nat} (h : l.drop a = x ++ r) : l.drop (a + x.length) = r := by rw [← List.drop_drop, h, List.drop_left' rfl]

set_option maxRecDepth 100000 in
set_option maxHeartbeats 1000000 in
theorem snapone_Decode (ps : List Pa) (ss : List Se) (A : Option Addr) (n c : Nat) (R : Nat → Prop) (w : World) (hr : Reads w R 1 A n (vbs (senc ⟨1, ps, ss⟩))) (hok : St.Ok ⟨1, ps, ss⟩) (hT : T8 w) (hn : n ≤ 10000000) :
    Calls Tryz.prog 36 #[.slice A n c] w fun e w' => ∃ v1 v2, e = .returned (.tuple #[stv 1 v1 v2, .int .i64 0]) ∧ OwnP w' w.heap.size v1 ps ∧ OwnE w' w.heap.size v2 ss ∧ Mod Non w w' := by
  have hl0 : (senc ⟨1, ps, ss⟩).drop 0 = vbytes 1 ++ (vbytes ps.length ++ (ps.flatMap (penc 1) ++ (vbytes ss.length ++ (ss.flatMap (xenc 1) ++ [])))) := senc_at _
  obtain ⟨h1, hl1⟩ := at_num (n := 1) hl0 (by omega)
  have hl2 := drop_next (drop_next hl1)
  have hl3 := congrArg List.length hl0
  have hps : ps.length ≤ 64 := hok.pairs.few
  have hss : ss.length ≤ 8 := ses_few hok.sess
  have HE : Hid (0 + (vbytes 1).length + (vbytes ps.length).length + (ps.flatMap (penc 1)).length + (vbytes ss.length).length + (ss.flatMap (xenc 1)).length = (senc ⟨1, ps, ss⟩).length) := by
    show _ = _
    rw [List.drop_zero] at hl3
    rw [hl3]
    simp only [List.length_append, List.length_nil]
    omega
  obtain ⟨l, hl⟩ : ∃ l, l = senc ⟨1, ps, ss⟩ := ⟨_, rfl⟩
  rw [← hl] at hr h1 hl1 hl2 HE
  obtain ⟨t0, ht0⟩ : ∃ t0, t0 = (vbytes 1).length := ⟨_, rfl⟩
  rw [← ht0] at h1 hl1 hl2 HE
  have H1 := Lib.hid h1
  have HL1 := Lib.hid hl1
  have HL2 := Lib.hid hl2
  have HOK := Lib.hid hok
  have OKP : Hid (∀ x ∈ ps, x.Ok ∧ x.rev = 0) := fun p hp => by simpa using hok.pairs.each p hp
  have OKE : Hid (∀ x ∈ ss, x.last.Ok ∧ x.last.rev = 0 ∧ x.last.client = x.client ∧ x.last.seq = x.seq) := fun x hx => ⟨(hok.sess.each x hx).2.2.1, hok.revs rfl x hx, (hok.sess.each x hx).1, (hok.sess.each x hx).2.1⟩
  clear h1 hl1 hl2 hl0 hl3 hl ht0 hok
  have hm0 := (Mod.refl Non w).alloc (.cells #[.int .i64 0, .slice none 0 0, .slice none 0 0] 25)
  have z0 := Blk.new w 25 #[.int .i64 0, .slice none 0 0, .slice none 0 0]
  go_enter Tryz.func36, Tryz.ntmps36
  go_wp2_with fail
  refine (rd_New A n c R l _ (hr.mod hm0 fun _ _ _ h => h) hn).mono ?_
  rintro e w1 ⟨g, rfl, hg, hr1, hm1⟩
  have z1 := z0.mod hm1 (fun h => h)
  have hz1 := z1.lt
  have hm01 := hm0.trans' hm1
  have hgl := hr1.lt
  rw [World.size_alloc] at hg
  have hm2 := (Mod.refl Non w1).alloc (.cells #[.pointer (some ⟨g, 0, none⟩)] 80)
  have b2 := Blk.new w1 80 #[.pointer (some ⟨g, 0, none⟩)]
  have hr2 := hr1.non hm2
  have z2 := z1.mod hm2 (fun h => h)
  have hm02 := hm01.trans' hm2
  have x2 := b2.cell 0
  simp at x2
  clear hm0 z0 hm1 z1 hm01 hr1 hm2
  go_wp2_with fail
  refine (rd_Number g 0 1 t0 l 2 _ hr2 H1.out (by omega)).mono ?_
  rintro e w3 ⟨rfl, hr3, hm3⟩
  have z3 := z2.mod hm3 (by unfold One; omega)
  have b3 := b2.mod hm3 (by unfold One; omega)
  have hm03 := hm02.trans hm3 (fun i hi h => by unfold One at h; omega)
  have x3 := b3.cell 0
  simp at x3
  clear hm02 hm3 z2 b2 hr2 x2
  go_wp2_with fail
  refine (rd_Err g _ l _ hr3).mono ?_
  rintro e w4 ⟨rfl, rfl⟩
  have hm4 := (Mod.refl Non w3).alloc (.cells #[.int .i64 1, .slice none 0 0, .slice none 0 0] 25)
  have s4 := Blk.new w3 25 #[.int .i64 1, .slice none 0 0, .slice none 0 0]
  have hr4 := hr3.non hm4
  have b4 := b3.mod hm4 (fun h => h)
  have z4 := z3.mod hm4 (fun h => h)
  have hm04 := hm03.trans' hm4
  have lb3 := b3.lt
  have lz3 := z3.lt
  have x4 := b4.cell 0
  simp only [List.getElem?_toArray, List.getElem?_cons_zero] at x4
  clear hm4 b3 z3 hm03 hr3
  go_wp2_with fail
  refine (one_list_Pa g _ w1.heap.size l _ ps _ hr4 HL1.out OKP.out hps b4 hgl).mono ?_
  rintro e w5 ⟨v1, rfl, ho5, hr5, hm5⟩
  obtain ⟨A1, m1, c1, rfl, hx1, hc1⟩ := ho5.form
  have b5 := b4.mod hm5 (by unfold One; omega)
  have z5 := z4.mod hm5 (by unfold One; omega)
  have s5 := s4.mod hm5 (by unfold One; omega)
  have x5 := b5.cell 0
  have f5 := s5.frozen 1
  have y5 := s5.cell 1
  simp at x5 y5
  have hm05 := hm04.trans hm5 (fun i hi h => by unfold One at h; omega)
  clear x3 x4 hm04 hr4 b4 z4 s4 hm5
  have hs6 : Mod (One w3.heap.size) w5 (w5.setCell ⟨w3.heap.size, 1, none⟩ (.slice A1 m1 c1)) := (Mod.refl _ _).setOne _
  have s6 : Blk (w5.setCell ⟨w3.heap.size, 1, none⟩ (.slice A1 m1 c1)) w3.heap.size 25 #[.int .i64 1, (.slice A1 m1 c1), .slice none 0 0] := s5.set_ 1 (.slice A1 m1 c1)
  have b6 := b5.mod hs6 (by unfold One; omega)
  have z6 := z5.mod hs6 (by unfold One; omega)
  have hr6 := hr5.mod hs6 (fun i hi h => by unfold One at h; omega)
  have hl5 := s5.lt
  have ho6 := OwnP.mod ho5 hs6 (fun g2 hg h => by have := (World.ownsRow.lt ho5 g2 hg).1; simp only [World.size_alloc] at this; unfold One at h; omega)
  have hm06 := hm05.trans hs6 (fun i hi h => by unfold One at h; have := hm05.size; omega)
  have hs5 := hm05.size
  go_wp2_with fail
  clear x5 f5 y5 hs6 s5 b5 z5 hr5 ho5 hm05
  generalize w5.setCell ⟨w3.heap.size, 1, none⟩ (.slice A1 m1 c1) = w6 at s6 b6 z6 hr6 ho6 hm06 ⊢
  have lb6 := b6.lt
  have ls6 := s6.lt
  refine (one_list_Se g _ w1.heap.size l [] ss _ hr6 HL2.out OKE.out hss b6 hgl).mono ?_
  rintro e w7 ⟨v2, rfl, ho7, hr7, hm7⟩
  obtain ⟨A2, m2, c2, rfl, hx2, hc2⟩ := ho7.form
  rw [HE.out] at hr7
  have b7 := b6.mod hm7 (by unfold One; omega)
  have z7 := z6.mod hm7 (by unfold One; omega)
  have s7 := s6.mod hm7 (by unfold One; omega)
  have hp7 := OwnP.mod ho6 hm7 (fun g2 hg h => by have := (World.ownsRow.lt ho6 g2 hg).1; simp only [World.size_alloc] at this; unfold One at h; omega)
  have x7 := b7.cell 0
  have f7 := s7.frozen 2
  have y7 := s7.cell 2
  simp at x7 y7
  have hm07 := hm06.trans hm7 (fun i hi h => by unfold One at h; omega)
  clear hm7 b6 z6 s6 ho6 hr6 hm06
  have hs8 : Mod (One w3.heap.size) w7 (w7.setCell ⟨w3.heap.size, 2, none⟩ (.slice A2 m2 c2)) := (Mod.refl _ _).setOne _
  have s8 : Blk (w7.setCell ⟨w3.heap.size, 2, none⟩ (.slice A2 m2 c2)) w3.heap.size 25 #[.int .i64 1, (.slice A1 m1 c1), (.slice A2 m2 c2)] := s7.set_ 2 (.slice A2 m2 c2)
  have b8 := b7.mod hs8 (by unfold One; omega)
  have z8 := z7.mod hs8 (by unfold One; omega)
  have hr8 := hr7.mod hs8 (fun i hi h => by unfold One at h; omega)
  have hp8 := OwnP.mod hp7 hs8 (fun g2 hg h => by have := (World.ownsRow.lt hp7 g2 hg).1; simp only [World.size_alloc] at this; unfold One at h; omega)
  have ho8 := OwnE.mod ho7 hs8 (fun g2 hg h => by have := (World.ownsRow.lt ho7 g2 hg).1; unfold One at h; omega)
  have hl7 := hm07.size
  have hm08 := hm07.trans hs8 (fun i hi h => by unfold One at h; omega)
  have hlz7 := s7.lt
  clear hs8 s7 b7 z7 hr7 hp7 ho7 hm07
  go_wp2_with fail
  generalize w7.setCell ⟨w3.heap.size, 2, none⟩ (.slice A2 m2 c2) = w8 at s8 b8 z8 hr8 hp8 ho8 hm08 ⊢
  refine (rd_Done g l w8 hr8).mono ?_
  rintro e w9 ⟨rfl, hm9⟩
  have s9 := s8.mod hm9 (fun h => h)
  have z9 := z8.mod hm9 (fun h => h)
  have hp9 := hp8.non hm9
  have ho9 := ho8.non hm9
  have hm09 := hm08.trans' hm9
  have e0 := s9.cell 0
  have e1 := s9.cell 1
  have e2 := s9.cell 2
  simp at e0 e1 e2
  clear x7 f7 y7 hm9 s8 z8 b8 hr8 hp8 ho8 hm08
  go_wp2_with fail
  refine (migr_Check ⟨1, ps, ss⟩ A1 A2 m1 c1 m2 c2 _ _ _ hp9.reads ho9.reads HOK.out (hT.non hm09)).mono ?_
  rintro e w10 ⟨rfl, hm10⟩
  have s10 := s9.mod hm10 (fun h => h)
  have z10 := z9.mod hm10 (fun h => h)
  have hp10 := hp9.non hm10
  have ho10 := ho9.non hm10
  have hm010 := hm09.trans' hm10
  have e0 := s10.cell 0
  have e1 := s10.cell 1
  have e2 := s10.cell 2
  have c0 := z10.cell 0
  have c1' := z10.cell 1
  have c2' := z10.cell 2
  have f0 := z10.frozen 0
  have f1 := z10.frozen 1
  have f2 := z10.frozen 2
  simp at e0 e1 e2 c0 c1' c2'
  clear hm10 s9 z9 hp9 ho9 hm09
  go_wp2_with fail
  have r5 : Blk (((w10.setCell ⟨w.heap.size, 0, none⟩ (.int .i64 1)).setCell ⟨w.heap.size, 1, none⟩ (.slice A1 m1 c1)).setCell ⟨w.heap.size, 2, none⟩ (.slice A2 m2 c2)) w.heap.size 25 #[.int .i64 1, (.slice A1 m1 c1), (.slice A2 m2 c2)] := ((z10.set_ 0 (.int .i64 1)).set_ 1 (.slice A1 m1 c1)).set_ 2 (.slice A2 m2 c2)
  have hm5 : Mod (One w.heap.size) w10 (((w10.setCell ⟨w.heap.size, 0, none⟩ (.int .i64 1)).setCell ⟨w.heap.size, 1, none⟩ (.slice A1 m1 c1)).setCell ⟨w.heap.size, 2, none⟩ (.slice A2 m2 c2)) := (((Mod.refl _ _).setOne _).setOne _).setOne _
  refine bodyPost_ret (results_row_tmp rfl _ _ w.heap.size 25 #[.int .i64 1, (.slice A1 m1 c1), (.slice A2 m2 c2)] (0, 0) _ rfl r5 Tryz.underlying25 rfl (by kernel_rfl)) rfl ?_
  refine ⟨_, _, rfl, ?_, ?_, hm010.trans hm5 fun i hi h => by unfold One at h; omega⟩
  · exact OwnP.below (OwnP.mod hp10 hm5 fun g2 hg h => by have := (World.ownsRow.lt hp10 g2 hg).1; simp only [World.size_alloc] at this; unfold One at h; omega) (by simp only [World.size_alloc]; omega)
  · exact OwnE.below (OwnE.mod ho10 hm5 fun g2 hg h => by have := (World.ownsRow.lt ho10 g2 hg).1; unfold One at h; omega) (by omega)
end Go.Proofs.YtdclfdinhdaadaaGreatDoor
