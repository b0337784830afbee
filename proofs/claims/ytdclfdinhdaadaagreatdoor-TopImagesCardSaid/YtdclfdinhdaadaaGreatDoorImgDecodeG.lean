/- Package image: the contract of Decode at the bytes of an image. -/
import Derived.Test.YtdclfdinhdaadaaGreatDoorImgReadG
import Derived.Deep.Cut
namespace Go.Proofs.YtdclfdinhdaadaaGreatDoor
open Go.RowKit

theorem ienc_length {m : Im} (h : m.Ok) : (ienc m).length ≤ 12000 := by
  have h1 := vbytes_five (n := m.st.schema.toNat) (by rcases h.st.schema with h | h <;> rw [h] <;> decide)
  have h2 := vbytes_five (n := m.index.toNat) (by have := h.index; omega)
  have h3 := vbytes_five (n := m.active.toNat) (by have := h.index; have := h.active; omega)
  have h4 := vbytes_five (n := m.confs.length) (by have := h.few; omega)
  have h5 := cencs_length h.confs.each h.few
  have h6 := senc_length h.st
  have h7 := vbytes_five (n := (senc m.st).length) (by omega)
  unfold ienc
  simp only [List.length_append]
  split
  · omega
  · simp only [List.length_nil]
    omega

theorem dec_none (k : Int) (w : World) : Calls Tryz.prog 56 #[.int .i64 k] w fun e w' => e = .returned (.tuple #[.agg (icells 0 0 (.slice none 0 0) 0 (.slice none 0 0) (.slice none 0 0)), .int .i64 k]) ∧ Mod Non w w' := by
  have M0 := Lib.hid ((Mod.refl Non w).alloc (.cells (icells 0 0 (.slice none 0 0) 0 (.slice none 0 0) (.slice none 0 0)) 53))
  have S0 := Lib.hid (Blk.new w 53 (icells 0 0 (.slice none 0 0) 0 (.slice none 0 0) (.slice none 0 0)))
  go_enter Tryz.func56, Tryz.ntmps56
  go_wp2_with fail
  refine bodyPost_ret (results_row_tmp rfl _ _ w.heap.size 53 (icells 0 0 (.slice none 0 0) 0 (.slice none 0 0) (.slice none 0 0)) (0, 0) _ rfl S0.out Tryz.underlying53 rfl (by kernel_rfl)) rfl ?_
  exact ⟨rfl, M0.out⟩

set_option maxRecDepth 100000 in
set_option maxHeartbeats 2000000 in
theorem image_Decode21 (ix ac : Int) (cs : List Cf) (ps : List Pa) (ss : List Se) (A : Option Addr) (n c : Nat) (R : Nat → Prop) (w : World) (hr : Reads w R 1 A n (vbs (ienc ⟨ix, ac, cs, ⟨1, ps, ss⟩⟩))) (hok : Im.Ok ⟨ix, ac, cs, ⟨1, ps, ss⟩⟩) (hT : T8 w) :
    Calls Tryz.prog 21 #[.int .i64 2, .slice A n c] w fun e w' => ∃ u, e = .returned (.tuple #[u, .int .i64 0]) ∧ ImV (fun k => w.heap.size ≤ k) w' u ⟨ix, ac, cs, ⟨1, ps, ss⟩⟩ ∧ Mod Non w w' := by
  have hl0 := ienc_length hok
  have hnl : (ienc ⟨ix, ac, cs, ⟨1, ps, ss⟩⟩).length = n := by have := hr.1; rw [vbs_length, Nat.mul_one] at this; exact this
  have hn : n ≤ 12000 := by omega
  have hnI : (n : Int) ≤ 32768 := by omega
  have hnI2 : ¬ (32768 < (n : Int)) := by omega
  obtain ⟨l, hl⟩ : ∃ l, l = ienc ⟨ix, ac, cs, ⟨1, ps, ss⟩⟩ := ⟨_, rfl⟩
  have hd0 : l.drop 0 = vbytes 1 ++ (vbytes ix.toNat ++ (vbytes cs.length ++ (cencs cs ++ (vbytes (senc ⟨1, ps, ss⟩).length ++ (senc ⟨1, ps, ss⟩ ++ []))))) := by
    rw [hl, List.drop_zero]
    unfold ienc
    simp [List.append_assoc]
  obtain ⟨f0, hd1⟩ := at_num hd0 (by omega)
  rw [← hl] at hr
  have HF := Lib.hid f0
  have HD := Lib.hid hd1
  have HOK := Lib.hid hok
  have HT := Lib.hid hT
  have hT2 := hT.1
  have hmay : Hid (∀ w', Calls Tryz.prog 57 #[.int .i64 2] w' fun e w'' => e = .returned (.bool true) ∧ w' = w'') := fun w' => vers_May 2 (by decide) w'
  have m0 := (Mod.refl Non w).alloc (.cells (icells 0 0 (.slice none 0 0) 0 (.slice none 0 0) (.slice none 0 0)) 53)
  have z0 := Blk.new w 53 (icells 0 0 (.slice none 0 0) 0 (.slice none 0 0) (.slice none 0 0))
  have HNW := Lib.hid (rd_New A n c R l _ (hr.mod m0 fun _ _ _ h => h) (by omega))
  have M0 := Lib.hid m0
  have Z0 := Lib.hid z0
  clear hl0 hnl hl hd0 hd1 f0 hok hT hr m0 z0
  go_enter Tryz.func21, Tryz.ntmps21
  go_wp2_with fail
  refine (hmay.out _).mono ?_
  rintro e w1 ⟨rfl, rfl⟩
  go_wp2_with fail
  refine HNW.out.mono ?_
  rintro e w1 ⟨g, rfl, hg, hr1, hm1⟩
  rw [World.size_alloc] at hg
  have M1 := Lib.hid (M0.out.trans' hm1)
  have Z1 := Lib.hid (Z0.out.mod hm1 (fun h => h))
  clear hm1 M0 Z0 HNW
  go_wp2_with fail
  refine (rd_Number g 0 1 _ l 2 _ hr1 HF.out (by decide)).mono ?_
  rintro e w2 ⟨rfl, hr2, hm2⟩
  have M2 := Lib.hid (M1.out.trans hm2 fun i hi h => by unfold One at h; omega)
  have Z2 := Lib.hid (Z1.out.mod hm2 (fun h => by unfold One at h; omega))
  clear hm2 hr1 M1 Z1
  go_wp2_with fail
  refine (rd_Err g _ l _ hr2).mono ?_
  rintro e w3 ⟨rfl, rfl⟩
  have hgl := hr2.lt
  have HRD := Lib.hid (image_read1 ix ac cs ps ss g _ l w2 hr2 HD.out HOK.out (HT.out.non M2.out) (by omega))
  clear hr2
  go_wp2_with fail
  refine HRD.out.mono ?_
  rintro e w4 ⟨u, rfl, ⟨B0, k0, d0, B1, k1, d1, B2, k2, d2, he, q0, q1, q2⟩, hm4⟩
  simp only at he q0 q1 q2
  subst he
  have hs2 := M2.out.size
  have M4 := Lib.hid (M2.out.trans hm4 fun i hi h => by unfold One at h; omega)
  have z4 := Z2.out.mod hm4 (fun h => by unfold One at h; omega)
  have hl2 := Z2.out.lt
  have ma := (Mod.refl Non w4).alloc (.cells (icells ix ac (.slice B0 k0 d0) 1 (.slice B1 k1 d1) (.slice B2 k2 d2)) 53)
  have z5 := z4.mod ma (fun h => h)
  have b5 := Blk.new w4 53 (icells ix ac (.slice B0 k0 d0) 1 (.slice B1 k1 d1) (.slice B2 k2 d2))
  have Q0 := Lib.hid (q0.non ma)
  have Q1 := Lib.hid (q1.mod ma fun _ _ _ h => h)
  have Q2 := Lib.hid (q2.mod ma fun _ _ _ h => h)
  have M5 := Lib.hid (M4.out.trans' ma)
  clear hm4 z4 HRD q0 q1 q2 ma
  go_upto_region 16 with fail
  obtain ⟨W5, hW5⟩ : ∃ W5, W5 = w4.alloc (.cells (icells ix ac (.slice B0 k0 d0) 1 (.slice B1 k1 d1) (.slice B2 k2 d2)) 53) := ⟨_, rfl⟩
  rw [← hW5] at z5 b5 Q0 Q1 Q2 M5 ⊢
  clear hW5 M4
  have hF := ((((((Mod.refl (One w.heap.size) W5).setOne (i := 0) (.int .i64 ix)).setOne (i := 1) (.int .i64 ac)).setOne (i := 2) (.slice B0 k0 d0)).setOne (i := 3) (.int .i64 1)).setOne (i := 4) (.slice B1 k1 d1)).setOne (i := 5) (.slice B2 k2 d2)
  have zz := (((((z5.set_ 0 (.int .i64 ix)).set_ 1 (.int .i64 ac)).set_ 2 (.slice B0 k0 d0)).set_ 3 (.int .i64 1)).set_ 4 (.slice B1 k1 d1)).set_ 5 (.slice B2 k2 d2)
  have HFF := Lib.hid hF
  have HZZ := Lib.hid zz
  have e0 := z5.cell 0
  have e1 := z5.cell 1
  have e2 := z5.cell 2
  have e3 := z5.cell 3
  have e4 := z5.cell 4
  have e5 := z5.cell 5
  simp at e0 e1 e2 e3 e4 e5
  have f0 := z5.frozen 0
  have f1 := z5.frozen 1
  have f2 := z5.frozen 2
  have f3 := z5.frozen 3
  have f4 := z5.frozen 4
  have f5 := z5.frozen 5
  have g0 := b5.cell 0
  have g1 := b5.cell 1
  have g2 := b5.cell 2
  have g3 := b5.cell 3
  have g4 := b5.cell 4
  have g5 := b5.cell 5
  simp at g0 g1 g2 g3 g4 g5
  clear hF zz z5 b5
  go_wp2_with fail
  refine bodyPost_ret (results_row_tmp rfl _ _ w.heap.size 53 (icells ix ac (.slice B0 k0 d0) 1 (.slice B1 k1 d1) (.slice B2 k2 d2)) (0, 0) _ rfl HZZ.out Tryz.underlying53 rfl (by kernel_rfl)) rfl ?_
  have hlow : ∀ k, w2.heap.size ≤ k → ¬ One w.heap.size k := fun k hk h => by unfold One at h; omega
  refine ⟨_, rfl, ⟨B0, k0, d0, B1, k1, d1, B2, k2, d2, rfl, ?_, ?_, ?_⟩, M5.out.trans HFF.out fun i hi h => by unfold One at h; omega⟩
  · exact (Q0.out.mod HFF.out fun k _ h e => hlow k h e).more fun k _ h => by have h : w2.heap.size ≤ k := h; omega
  · exact (Q1.out.mod HFF.out fun k _ h e => hlow k h e).more fun k _ h => by have h : w2.heap.size ≤ k := h; omega
  · exact (Q2.out.mod HFF.out fun k _ h e => hlow k h e).more fun k _ h => by have h : w2.heap.size ≤ k := h; omega

set_option maxRecDepth 100000 in
set_option maxHeartbeats 2000000 in
theorem image_Decode22 (ix ac : Int) (cs : List Cf) (ps : List Pa) (ss : List Se) (A : Option Addr) (n c : Nat) (R : Nat → Prop) (w : World) (hr : Reads w R 1 A n (vbs (ienc ⟨ix, ac, cs, ⟨2, ps, ss⟩⟩))) (hok : Im.Ok ⟨ix, ac, cs, ⟨2, ps, ss⟩⟩) (hT : T8 w) :
    Calls Tryz.prog 21 #[.int .i64 2, .slice A n c] w fun e w' => ∃ u, e = .returned (.tuple #[u, .int .i64 0]) ∧ ImV (fun k => w.heap.size ≤ k) w' u ⟨ix, ac, cs, ⟨2, ps, ss⟩⟩ ∧ Mod Non w w' := by
  have hl0 := ienc_length hok
  have hnl : (ienc ⟨ix, ac, cs, ⟨2, ps, ss⟩⟩).length = n := by have := hr.1; rw [vbs_length, Nat.mul_one] at this; exact this
  have hn : n ≤ 12000 := by omega
  have hnI : (n : Int) ≤ 32768 := by omega
  have hnI2 : ¬ (32768 < (n : Int)) := by omega
  obtain ⟨l, hl⟩ : ∃ l, l = ienc ⟨ix, ac, cs, ⟨2, ps, ss⟩⟩ := ⟨_, rfl⟩
  have hd0 : l.drop 0 = vbytes 2 ++ (vbytes ix.toNat ++ (vbytes ac.toNat ++ (vbytes cs.length ++ (cencs cs ++ (vbytes (senc ⟨2, ps, ss⟩).length ++ (senc ⟨2, ps, ss⟩ ++ [])))))) := by
    rw [hl, List.drop_zero]
    unfold ienc
    simp [List.append_assoc]
  obtain ⟨f0, hd1⟩ := at_num hd0 (by omega)
  rw [← hl] at hr
  have HF := Lib.hid f0
  have HD := Lib.hid hd1
  have HOK := Lib.hid hok
  have HT := Lib.hid hT
  have hT2 := hT.1
  have hmay : Hid (∀ w', Calls Tryz.prog 57 #[.int .i64 2] w' fun e w'' => e = .returned (.bool true) ∧ w' = w'') := fun w' => vers_May 2 (by decide) w'
  have m0 := (Mod.refl Non w).alloc (.cells (icells 0 0 (.slice none 0 0) 0 (.slice none 0 0) (.slice none 0 0)) 53)
  have z0 := Blk.new w 53 (icells 0 0 (.slice none 0 0) 0 (.slice none 0 0) (.slice none 0 0))
  have HNW := Lib.hid (rd_New A n c R l _ (hr.mod m0 fun _ _ _ h => h) (by omega))
  have M0 := Lib.hid m0
  have Z0 := Lib.hid z0
  clear hl0 hnl hl hd0 hd1 f0 hok hT hr m0 z0
  go_enter Tryz.func21, Tryz.ntmps21
  go_wp2_with fail
  refine (hmay.out _).mono ?_
  rintro e w1 ⟨rfl, rfl⟩
  go_wp2_with fail
  refine HNW.out.mono ?_
  rintro e w1 ⟨g, rfl, hg, hr1, hm1⟩
  rw [World.size_alloc] at hg
  have M1 := Lib.hid (M0.out.trans' hm1)
  have Z1 := Lib.hid (Z0.out.mod hm1 (fun h => h))
  clear hm1 M0 Z0 HNW
  go_wp2_with fail
  refine (rd_Number g 0 2 _ l 2 _ hr1 HF.out (by decide)).mono ?_
  rintro e w2 ⟨rfl, hr2, hm2⟩
  have M2 := Lib.hid (M1.out.trans hm2 fun i hi h => by unfold One at h; omega)
  have Z2 := Lib.hid (Z1.out.mod hm2 (fun h => by unfold One at h; omega))
  clear hm2 hr1 M1 Z1
  go_wp2_with fail
  refine (rd_Err g _ l _ hr2).mono ?_
  rintro e w3 ⟨rfl, rfl⟩
  have hgl := hr2.lt
  have HRD := Lib.hid (image_read2 ix ac cs ps ss g _ l w2 hr2 HD.out HOK.out (HT.out.non M2.out) (by omega))
  clear hr2
  go_wp2_with fail
  refine HRD.out.mono ?_
  rintro e w4 ⟨u, rfl, ⟨B0, k0, d0, B1, k1, d1, B2, k2, d2, he, q0, q1, q2⟩, hm4⟩
  simp only at he q0 q1 q2
  subst he
  have hs2 := M2.out.size
  have M4 := Lib.hid (M2.out.trans hm4 fun i hi h => by unfold One at h; omega)
  have z4 := Z2.out.mod hm4 (fun h => by unfold One at h; omega)
  have hl2 := Z2.out.lt
  have ma := (Mod.refl Non w4).alloc (.cells (icells ix ac (.slice B0 k0 d0) 2 (.slice B1 k1 d1) (.slice B2 k2 d2)) 53)
  have z5 := z4.mod ma (fun h => h)
  have b5 := Blk.new w4 53 (icells ix ac (.slice B0 k0 d0) 2 (.slice B1 k1 d1) (.slice B2 k2 d2))
  have Q0 := Lib.hid (q0.non ma)
  have Q1 := Lib.hid (q1.mod ma fun _ _ _ h => h)
  have Q2 := Lib.hid (q2.mod ma fun _ _ _ h => h)
  have M5 := Lib.hid (M4.out.trans' ma)
  clear hm4 z4 HRD q0 q1 q2 ma
  go_upto_region 16 with fail
  obtain ⟨W5, hW5⟩ : ∃ W5, W5 = w4.alloc (.cells (icells ix ac (.slice B0 k0 d0) 2 (.slice B1 k1 d1) (.slice B2 k2 d2)) 53) := ⟨_, rfl⟩
  rw [← hW5] at z5 b5 Q0 Q1 Q2 M5 ⊢
  clear hW5 M4
  have hF := ((((((Mod.refl (One w.heap.size) W5).setOne (i := 0) (.int .i64 ix)).setOne (i := 1) (.int .i64 ac)).setOne (i := 2) (.slice B0 k0 d0)).setOne (i := 3) (.int .i64 2)).setOne (i := 4) (.slice B1 k1 d1)).setOne (i := 5) (.slice B2 k2 d2)
  have zz := (((((z5.set_ 0 (.int .i64 ix)).set_ 1 (.int .i64 ac)).set_ 2 (.slice B0 k0 d0)).set_ 3 (.int .i64 2)).set_ 4 (.slice B1 k1 d1)).set_ 5 (.slice B2 k2 d2)
  have HFF := Lib.hid hF
  have HZZ := Lib.hid zz
  have e0 := z5.cell 0
  have e1 := z5.cell 1
  have e2 := z5.cell 2
  have e3 := z5.cell 3
  have e4 := z5.cell 4
  have e5 := z5.cell 5
  simp at e0 e1 e2 e3 e4 e5
  have f0 := z5.frozen 0
  have f1 := z5.frozen 1
  have f2 := z5.frozen 2
  have f3 := z5.frozen 3
  have f4 := z5.frozen 4
  have f5 := z5.frozen 5
  have g0 := b5.cell 0
  have g1 := b5.cell 1
  have g2 := b5.cell 2
  have g3 := b5.cell 3
  have g4 := b5.cell 4
  have g5 := b5.cell 5
  simp at g0 g1 g2 g3 g4 g5
  clear hF zz z5 b5
  go_wp2_with fail
  refine bodyPost_ret (results_row_tmp rfl _ _ w.heap.size 53 (icells ix ac (.slice B0 k0 d0) 2 (.slice B1 k1 d1) (.slice B2 k2 d2)) (0, 0) _ rfl HZZ.out Tryz.underlying53 rfl (by kernel_rfl)) rfl ?_
  have hlow : ∀ k, w2.heap.size ≤ k → ¬ One w.heap.size k := fun k hk h => by unfold One at h; omega
  refine ⟨_, rfl, ⟨B0, k0, d0, B1, k1, d1, B2, k2, d2, rfl, ?_, ?_, ?_⟩, M5.out.trans HFF.out fun i hi h => by unfold One at h; omega⟩
  · exact (Q0.out.mod HFF.out fun k _ h e => hlow k h e).more fun k _ h => by have h : w2.heap.size ≤ k := h; omega
  · exact (Q1.out.mod HFF.out fun k _ h e => hlow k h e).more fun k _ h => by have h : w2.heap.size ≤ k := h; omega
  · exact (Q2.out.mod HFF.out fun k _ h e => hlow k h e).more fun k _ h => by have h : w2.heap.size ≤ k := h; omega

set_option maxRecDepth 100000 in
set_option maxHeartbeats 2000000 in
theorem image_Decode11 (ix ac : Int) (cs : List Cf) (ps : List Pa) (ss : List Se) (A : Option Addr) (n c : Nat) (R : Nat → Prop) (w : World) (hr : Reads w R 1 A n (vbs (ienc ⟨ix, ac, cs, ⟨1, ps, ss⟩⟩))) (hok : Im.Ok ⟨ix, ac, cs, ⟨1, ps, ss⟩⟩) (hT : T8 w) :
    Calls Tryz.prog 21 #[.int .i64 1, .slice A n c] w fun e w' => ∃ u, e = .returned (.tuple #[u, .int .i64 0]) ∧ ImV (fun k => w.heap.size ≤ k) w' u ⟨ix, ac, cs, ⟨1, ps, ss⟩⟩ ∧ Mod Non w w' := by
  have hl0 := ienc_length hok
  have hnl : (ienc ⟨ix, ac, cs, ⟨1, ps, ss⟩⟩).length = n := by have := hr.1; rw [vbs_length, Nat.mul_one] at this; exact this
  have hn : n ≤ 12000 := by omega
  have hnI : (n : Int) ≤ 32768 := by omega
  have hnI2 : ¬ (32768 < (n : Int)) := by omega
  obtain ⟨l, hl⟩ : ∃ l, l = ienc ⟨ix, ac, cs, ⟨1, ps, ss⟩⟩ := ⟨_, rfl⟩
  have hd0 : l.drop 0 = vbytes 1 ++ (vbytes ix.toNat ++ (vbytes cs.length ++ (cencs cs ++ (vbytes (senc ⟨1, ps, ss⟩).length ++ (senc ⟨1, ps, ss⟩ ++ []))))) := by
    rw [hl, List.drop_zero]
    unfold ienc
    simp [List.append_assoc]
  obtain ⟨f0, hd1⟩ := at_num hd0 (by omega)
  rw [← hl] at hr
  have HF := Lib.hid f0
  have HD := Lib.hid hd1
  have HOK := Lib.hid hok
  have HT := Lib.hid hT
  have hT2 := hT.1
  have hmay : Hid (∀ w', Calls Tryz.prog 57 #[.int .i64 1] w' fun e w'' => e = .returned (.bool true) ∧ w' = w'') := fun w' => vers_May 1 (by decide) w'
  have m0 := (Mod.refl Non w).alloc (.cells (icells 0 0 (.slice none 0 0) 0 (.slice none 0 0) (.slice none 0 0)) 53)
  have z0 := Blk.new w 53 (icells 0 0 (.slice none 0 0) 0 (.slice none 0 0) (.slice none 0 0))
  have HNW := Lib.hid (rd_New A n c R l _ (hr.mod m0 fun _ _ _ h => h) (by omega))
  have M0 := Lib.hid m0
  have Z0 := Lib.hid z0
  clear hl0 hnl hl hd0 hd1 f0 hok hT hr m0 z0
  go_enter Tryz.func21, Tryz.ntmps21
  go_wp2_with fail
  refine (hmay.out _).mono ?_
  rintro e w1 ⟨rfl, rfl⟩
  go_wp2_with fail
  refine HNW.out.mono ?_
  rintro e w1 ⟨g, rfl, hg, hr1, hm1⟩
  rw [World.size_alloc] at hg
  have M1 := Lib.hid (M0.out.trans' hm1)
  have Z1 := Lib.hid (Z0.out.mod hm1 (fun h => h))
  clear hm1 M0 Z0 HNW
  go_wp2_with fail
  refine (rd_Number g 0 1 _ l 2 _ hr1 HF.out (by decide)).mono ?_
  rintro e w2 ⟨rfl, hr2, hm2⟩
  have M2 := Lib.hid (M1.out.trans hm2 fun i hi h => by unfold One at h; omega)
  have Z2 := Lib.hid (Z1.out.mod hm2 (fun h => by unfold One at h; omega))
  clear hm2 hr1 M1 Z1
  go_wp2_with fail
  refine (rd_Err g _ l _ hr2).mono ?_
  rintro e w3 ⟨rfl, rfl⟩
  have hgl := hr2.lt
  have HRD := Lib.hid (image_read1 ix ac cs ps ss g _ l w2 hr2 HD.out HOK.out (HT.out.non M2.out) (by omega))
  clear hr2
  go_wp2_with fail
  refine HRD.out.mono ?_
  rintro e w4 ⟨u, rfl, ⟨B0, k0, d0, B1, k1, d1, B2, k2, d2, he, q0, q1, q2⟩, hm4⟩
  simp only at he q0 q1 q2
  subst he
  have hs2 := M2.out.size
  have M4 := Lib.hid (M2.out.trans hm4 fun i hi h => by unfold One at h; omega)
  have z4 := Z2.out.mod hm4 (fun h => by unfold One at h; omega)
  have hl2 := Z2.out.lt
  have ma := (Mod.refl Non w4).alloc (.cells (icells ix ac (.slice B0 k0 d0) 1 (.slice B1 k1 d1) (.slice B2 k2 d2)) 53)
  have z5 := z4.mod ma (fun h => h)
  have b5 := Blk.new w4 53 (icells ix ac (.slice B0 k0 d0) 1 (.slice B1 k1 d1) (.slice B2 k2 d2))
  have Q0 := Lib.hid (q0.non ma)
  have Q1 := Lib.hid (q1.mod ma fun _ _ _ h => h)
  have Q2 := Lib.hid (q2.mod ma fun _ _ _ h => h)
  have M5 := Lib.hid (M4.out.trans' ma)
  clear hm4 z4 HRD q0 q1 q2 ma
  go_upto_region 16 with fail
  obtain ⟨W5, hW5⟩ : ∃ W5, W5 = w4.alloc (.cells (icells ix ac (.slice B0 k0 d0) 1 (.slice B1 k1 d1) (.slice B2 k2 d2)) 53) := ⟨_, rfl⟩
  rw [← hW5] at z5 b5 Q0 Q1 Q2 M5 ⊢
  clear hW5 M4
  have hF := ((((((Mod.refl (One w.heap.size) W5).setOne (i := 0) (.int .i64 ix)).setOne (i := 1) (.int .i64 ac)).setOne (i := 2) (.slice B0 k0 d0)).setOne (i := 3) (.int .i64 1)).setOne (i := 4) (.slice B1 k1 d1)).setOne (i := 5) (.slice B2 k2 d2)
  have zz := (((((z5.set_ 0 (.int .i64 ix)).set_ 1 (.int .i64 ac)).set_ 2 (.slice B0 k0 d0)).set_ 3 (.int .i64 1)).set_ 4 (.slice B1 k1 d1)).set_ 5 (.slice B2 k2 d2)
  have HFF := Lib.hid hF
  have HZZ := Lib.hid zz
  have e0 := z5.cell 0
  have e1 := z5.cell 1
  have e2 := z5.cell 2
  have e3 := z5.cell 3
  have e4 := z5.cell 4
  have e5 := z5.cell 5
  simp at e0 e1 e2 e3 e4 e5
  have f0 := z5.frozen 0
  have f1 := z5.frozen 1
  have f2 := z5.frozen 2
  have f3 := z5.frozen 3
  have f4 := z5.frozen 4
  have f5 := z5.frozen 5
  have g0 := b5.cell 0
  have g1 := b5.cell 1
  have g2 := b5.cell 2
  have g3 := b5.cell 3
  have g4 := b5.cell 4
  have g5 := b5.cell 5
  simp at g0 g1 g2 g3 g4 g5
  clear hF zz z5 b5
  go_wp2_with fail
  refine bodyPost_ret (results_row_tmp rfl _ _ w.heap.size 53 (icells ix ac (.slice B0 k0 d0) 1 (.slice B1 k1 d1) (.slice B2 k2 d2)) (0, 0) _ rfl HZZ.out Tryz.underlying53 rfl (by kernel_rfl)) rfl ?_
  have hlow : ∀ k, w2.heap.size ≤ k → ¬ One w.heap.size k := fun k hk h => by unfold One at h; omega
  refine ⟨_, rfl, ⟨B0, k0, d0, B1, k1, d1, B2, k2, d2, rfl, ?_, ?_, ?_⟩, M5.out.trans HFF.out fun i hi h => by unfold One at h; omega⟩
  · exact (Q0.out.mod HFF.out fun k _ h e => hlow k h e).more fun k _ h => by have h : w2.heap.size ≤ k := h; omega
  · exact (Q1.out.mod HFF.out fun k _ h e => hlow k h e).more fun k _ h => by have h : w2.heap.size ≤ k := h; omega
  · exact (Q2.out.mod HFF.out fun k _ h e => hlow k h e).more fun k _ h => by have h : w2.heap.size ≤ k := h; omega

set_option maxRecDepth 100000 in
set_option maxHeartbeats 2000000 in
theorem image_Decode12 (ix ac : Int) (cs : List Cf) (ps : List Pa) (ss : List Se) (A : Option Addr) (n c : Nat) (R : Nat → Prop) (w : World) (hr : Reads w R 1 A n (vbs (ienc ⟨ix, ac, cs, ⟨2, ps, ss⟩⟩))) (hok : Im.Ok ⟨ix, ac, cs, ⟨2, ps, ss⟩⟩) (hT : T8 w) :
    Calls Tryz.prog 21 #[.int .i64 1, .slice A n c] w fun e w' => ∃ u, e = .returned (.tuple #[u, .int .i64 8]) ∧ ImV (fun k => w.heap.size ≤ k) w' u ⟨0, 0, [], ⟨0, [], []⟩⟩ ∧ Mod Non w w' := by
  have hl0 := ienc_length hok
  have hnl : (ienc ⟨ix, ac, cs, ⟨2, ps, ss⟩⟩).length = n := by have := hr.1; rw [vbs_length, Nat.mul_one] at this; exact this
  have hn : n ≤ 12000 := by omega
  have hnI : (n : Int) ≤ 32768 := by omega
  have hnI2 : ¬ (32768 < (n : Int)) := by omega
  obtain ⟨l, hl⟩ : ∃ l, l = ienc ⟨ix, ac, cs, ⟨2, ps, ss⟩⟩ := ⟨_, rfl⟩
  have hd0 : l.drop 0 = vbytes 2 ++ (vbytes ix.toNat ++ (vbytes ac.toNat ++ (vbytes cs.length ++ (cencs cs ++ (vbytes (senc ⟨2, ps, ss⟩).length ++ (senc ⟨2, ps, ss⟩ ++ [])))))) := by
    rw [hl, List.drop_zero]
    unfold ienc
    simp [List.append_assoc]
  obtain ⟨f0, hd1⟩ := at_num hd0 (by omega)
  rw [← hl] at hr
  have HF := Lib.hid f0
  have HD := Lib.hid hd1
  have HOK := Lib.hid hok
  have HT := Lib.hid hT
  have hT2 := hT.1
  have hmay : Hid (∀ w', Calls Tryz.prog 57 #[.int .i64 1] w' fun e w'' => e = .returned (.bool true) ∧ w' = w'') := fun w' => vers_May 1 (by decide) w'
  have m0 := (Mod.refl Non w).alloc (.cells (icells 0 0 (.slice none 0 0) 0 (.slice none 0 0) (.slice none 0 0)) 53)
  have z0 := Blk.new w 53 (icells 0 0 (.slice none 0 0) 0 (.slice none 0 0) (.slice none 0 0))
  have HNW := Lib.hid (rd_New A n c R l _ (hr.mod m0 fun _ _ _ h => h) (by omega))
  have M0 := Lib.hid m0
  have Z0 := Lib.hid z0
  clear hl0 hnl hl hd0 hd1 f0 hok hT hr m0 z0
  go_enter Tryz.func21, Tryz.ntmps21
  go_wp2_with fail
  refine (hmay.out _).mono ?_
  rintro e w1 ⟨rfl, rfl⟩
  go_wp2_with fail
  refine HNW.out.mono ?_
  rintro e w1 ⟨g, rfl, hg, hr1, hm1⟩
  rw [World.size_alloc] at hg
  have M1 := Lib.hid (M0.out.trans' hm1)
  have Z1 := Lib.hid (Z0.out.mod hm1 (fun h => h))
  clear hm1 M0 Z0 HNW
  go_wp2_with fail
  refine (rd_Number g 0 2 _ l 2 _ hr1 HF.out (by decide)).mono ?_
  rintro e w2 ⟨rfl, hr2, hm2⟩
  have M2 := Lib.hid (M1.out.trans hm2 fun i hi h => by unfold One at h; omega)
  have Z2 := Lib.hid (Z1.out.mod hm2 (fun h => by unfold One at h; omega))
  clear hm2 hr1 M1 Z1
  go_wp2_with fail
  refine (rd_Err g _ l _ hr2).mono ?_
  rintro e w3 ⟨rfl, rfl⟩
  clear hr2
  go_wp2_with fail
  refine (dec_none 8 _).mono ?_
  rintro e w4 ⟨rfl, hm4⟩
  have M4 := Lib.hid (M2.out.trans' hm4)
  have z4 := Z2.out.mod hm4 (fun h => h)
  have hF := ((((((Mod.refl (One w.heap.size) w4).setOne (i := 0) (.int .i64 0)).setOne (i := 1) (.int .i64 0)).setOne (i := 2) (.slice none 0 0)).setOne (i := 3) (.int .i64 0)).setOne (i := 4) (.slice none 0 0)).setOne (i := 5) (.slice none 0 0)
  have zz := (((((z4.set_ 0 (.int .i64 0)).set_ 1 (.int .i64 0)).set_ 2 (.slice none 0 0)).set_ 3 (.int .i64 0)).set_ 4 (.slice none 0 0)).set_ 5 (.slice none 0 0)
  have HFF := Lib.hid hF
  have HZZ := Lib.hid zz
  have e0 := z4.cell 0
  have e1 := z4.cell 1
  have e2 := z4.cell 2
  have e3 := z4.cell 3
  have e4 := z4.cell 4
  have e5 := z4.cell 5
  simp at e0 e1 e2 e3 e4 e5
  have f0 := z4.frozen 0
  have f1 := z4.frozen 1
  have f2 := z4.frozen 2
  have f3 := z4.frozen 3
  have f4 := z4.frozen 4
  have f5 := z4.frozen 5
  clear hF zz z4 hm4
  go_wp2_with fail
  refine bodyPost_ret (results_row_tmp rfl _ _ w.heap.size 53 (icells 0 0 (.slice none 0 0) 0 (.slice none 0 0) (.slice none 0 0)) (0, 0) _ rfl HZZ.out Tryz.underlying53 rfl (by kernel_rfl)) rfl ?_
  exact ⟨_, rfl, ⟨_, _, _, _, _, _, _, _, _, rfl, ⟨[], Reads.none_, rfl, fun i v c h => by simp at h⟩, Reads.none_, Reads.none_⟩, M4.out.trans HFF.out fun i hi h => by unfold One at h; omega⟩
end Go.Proofs.YtdclfdinhdaadaaGreatDoor
