/- Package window: the contract of Apply at a command that may not be. -/
import Derived.Test.YtdclfdinhdaadaaGreatDoorWinDoG
import Derived.Test.YtdclfdinhdaadaaGreatDoorCmdErrG
import Derived.Test.YtdclfdinhdaadaaGreatDoorMgW
namespace Go.Proofs.YtdclfdinhdaadaaGreatDoor
open Go.RowKit

theorem fill12 {W : World} {g h : Nat} {tS tA : TypeId} {q0 q1 q2 q3 q4 q5 r0 r1 r2 r3 r4 r5 : Value} (hq : Blk W g tS #[q0, q1, q2, q3, q4, q5]) (hr : Blk W h tA #[r0, r1, r2, r3, r4, r5]) (hne : g ≠ h) (s0 s1 s2 s3 s4 s5 a0 a1 a2 a3 a4 a5 : Value) :
    Blk ((((((((((((((((((((((((W).setCell ⟨g, 0, none⟩ s0)).setCell ⟨g, 1, none⟩ s1)).setCell ⟨g, 2, none⟩ s2)).setCell ⟨g, 3, none⟩ s3)).setCell ⟨g, 4, none⟩ s4)).setCell ⟨g, 5, none⟩ s5)).setCell ⟨h, 0, none⟩ a0)).setCell ⟨h, 1, none⟩ a1)).setCell ⟨h, 2, none⟩ a2)).setCell ⟨h, 3, none⟩ a3)).setCell ⟨h, 4, none⟩ a4)).setCell ⟨h, 5, none⟩ a5) g tS #[s0, s1, s2, s3, s4, s5] ∧ Blk ((((((((((((((((((((((((W).setCell ⟨g, 0, none⟩ s0)).setCell ⟨g, 1, none⟩ s1)).setCell ⟨g, 2, none⟩ s2)).setCell ⟨g, 3, none⟩ s3)).setCell ⟨g, 4, none⟩ s4)).setCell ⟨g, 5, none⟩ s5)).setCell ⟨h, 0, none⟩ a0)).setCell ⟨h, 1, none⟩ a1)).setCell ⟨h, 2, none⟩ a2)).setCell ⟨h, 3, none⟩ a3)).setCell ⟨h, 4, none⟩ a4)).setCell ⟨h, 5, none⟩ a5) h tA #[a0, a1, a2, a3, a4, a5] ∧
    (∀ a : World, a.heap.size ≤ g → a.heap.size ≤ h → Mod Non a W → Mod Non a ((((((((((((((((((((((((W).setCell ⟨g, 0, none⟩ s0)).setCell ⟨g, 1, none⟩ s1)).setCell ⟨g, 2, none⟩ s2)).setCell ⟨g, 3, none⟩ s3)).setCell ⟨g, 4, none⟩ s4)).setCell ⟨g, 5, none⟩ s5)).setCell ⟨h, 0, none⟩ a0)).setCell ⟨h, 1, none⟩ a1)).setCell ⟨h, 2, none⟩ a2)).setCell ⟨h, 3, none⟩ a3)).setCell ⟨h, 4, none⟩ a4)).setCell ⟨h, 5, none⟩ a5)) ∧ Mod (Two g h) W ((((((((((((((((((((((((W).setCell ⟨g, 0, none⟩ s0)).setCell ⟨g, 1, none⟩ s1)).setCell ⟨g, 2, none⟩ s2)).setCell ⟨g, 3, none⟩ s3)).setCell ⟨g, 4, none⟩ s4)).setCell ⟨g, 5, none⟩ s5)).setCell ⟨h, 0, none⟩ a0)).setCell ⟨h, 1, none⟩ a1)).setCell ⟨h, 2, none⟩ a2)).setCell ⟨h, 3, none⟩ a3)).setCell ⟨h, 4, none⟩ a4)).setCell ⟨h, 5, none⟩ a5) := by
  refine ⟨?_, ?_, fun a h1 h2 hm => ?_, ?_⟩
  · exact ((((((((((((hq.set_ 0 s0).set_ 1 s1).set_ 2 s2).set_ 3 s3).set_ 4 s4).set_ 5 s5).far (p := ⟨h, 0, none⟩) hne a0).far (p := ⟨h, 1, none⟩) hne a1).far (p := ⟨h, 2, none⟩) hne a2).far (p := ⟨h, 3, none⟩) hne a3).far (p := ⟨h, 4, none⟩) hne a4).far (p := ⟨h, 5, none⟩) hne a5)
  · exact ((((((((((((hr.far (p := ⟨g, 0, none⟩) (Ne.symm hne) s0).far (p := ⟨g, 1, none⟩) (Ne.symm hne) s1).far (p := ⟨g, 2, none⟩) (Ne.symm hne) s2).far (p := ⟨g, 3, none⟩) (Ne.symm hne) s3).far (p := ⟨g, 4, none⟩) (Ne.symm hne) s4).far (p := ⟨g, 5, none⟩) (Ne.symm hne) s5).set_ 0 a0).set_ 1 a1).set_ 2 a2).set_ 3 a3).set_ 4 a4).set_ 5 a5)
  · exact ((((((((((((hm.setNew h1 _ _).setNew h1 _ _).setNew h1 _ _).setNew h1 _ _).setNew h1 _ _).setNew h1 _ _).setNew h2 _ _).setNew h2 _ _).setNew h2 _ _).setNew h2 _ _).setNew h2 _ _).setNew h2 _ _)
  · exact (((((((((((((Mod.refl (Two g h) W).setCell (p := ⟨g, 0, none⟩) (fun _ => .inl rfl) s0).setCell (p := ⟨g, 1, none⟩) (fun _ => .inl rfl) s1).setCell (p := ⟨g, 2, none⟩) (fun _ => .inl rfl) s2).setCell (p := ⟨g, 3, none⟩) (fun _ => .inl rfl) s3).setCell (p := ⟨g, 4, none⟩) (fun _ => .inl rfl) s4).setCell (p := ⟨g, 5, none⟩) (fun _ => .inl rfl) s5).setCell (p := ⟨h, 0, none⟩) (fun _ => .inr rfl) a0).setCell (p := ⟨h, 1, none⟩) (fun _ => .inr rfl) a1).setCell (p := ⟨h, 2, none⟩) (fun _ => .inr rfl) a2).setCell (p := ⟨h, 3, none⟩) (fun _ => .inr rfl) a3).setCell (p := ⟨h, 4, none⟩) (fun _ => .inr rfl) a4).setCell (p := ⟨h, 5, none⟩) (fun _ => .inr rfl) a5)

theorem win_none (k : Int) (w : World) : Calls Tryz.prog 48 #[.int .i64 k] w fun e w' => e = .returned (.tuple #[.agg (icells 0 0 (.slice none 0 0) 0 (.slice none 0 0) (.slice none 0 0)), An.v ⟨0, 0, 0, false, ⟨#[]⟩, 0⟩, .int .i64 k]) ∧ Mod Non w w' := by
  have m0 := ((Mod.refl Non w).alloc (.cells (icells 0 0 (.slice none 0 0) 0 (.slice none 0 0) (.slice none 0 0)) 53)).alloc (.cells #[.int .i64 0, .int .i64 0, .int .i64 0, .bool false, .string ⟨#[]⟩, .int .i64 0] 57)
  have s0 := (Blk.new w 53 (icells 0 0 (.slice none 0 0) 0 (.slice none 0 0) (.slice none 0 0))).alloc (.cells #[.int .i64 0, .int .i64 0, .int .i64 0, .bool false, .string ⟨#[]⟩, .int .i64 0] 57)
  have s1 := Blk.new1 w (.cells (icells 0 0 (.slice none 0 0) 0 (.slice none 0 0) (.slice none 0 0)) 53) 57 #[.int .i64 0, .int .i64 0, .int .i64 0, .bool false, .string ⟨#[]⟩, .int .i64 0]
  have M0 := Lib.hid m0
  have S0 := Lib.hid s0
  have S1 := Lib.hid s1
  clear m0 s0 s1
  go_enter Tryz.func48, Tryz.ntmps48
  go_wp2_with fail
  refine bodyPost_ret (results_row_row_tmp rfl _ _ w.heap.size 53 (icells 0 0 (.slice none 0 0) 0 (.slice none 0 0) (.slice none 0 0)) (0, 0) _ (w.heap.size + 1) 57 #[.int .i64 0, .int .i64 0, .int .i64 0, .bool false, .string ⟨#[]⟩, .int .i64 0] (0, 0) _ rfl S0.out Tryz.underlying53 rfl (by kernel_rfl) rfl S1.out Tryz.underlying57 rfl (by kernel_rfl)) rfl ?_
  exact ⟨rfl, M0.out⟩

set_option maxRecDepth 100000 in
set_option maxHeartbeats 4000000 in
theorem window_Apply_no (m : Im) (c : Cm) (A0 A1 A2 : Option Addr) (n0 c0 n1 c1 n2 c2 : Nat) (R0 R1 R2 : Nat → Prop) (w : World) (h0 : Confs w R0 A0 n0 m.confs) (h1 : Reads w R1 3 A1 n1 (pcs m.st.pairs)) (h2 : Reads w R2 8 A2 n2 (ecs m.st.sess)) (hok : m.Ok) (hix : m.index ≤ 1000000) (hT : T8 w) (hc : ¬ c.Ok) :
    Calls Tryz.prog 19 #[imv m.index m.active (.slice A0 n0 c0) m.st.schema (.slice A1 n1 c1) (.slice A2 n2 c2), c.v] w fun e w' => e = .returned (.tuple #[.agg (icells 0 0 (.slice none 0 0) 0 (.slice none 0 0) (.slice none 0 0)), An.v ⟨0, 0, 0, false, ⟨#[]⟩, 0⟩, .int .i64 (ckErr c)]) ∧ Mod Non w w' := by
  have HWC := Lib.hid (fun w' (h : Mod Non w w') => window_Check m A0 A1 A2 n0 c0 n1 c1 n2 c2 R0 R1 R2 w' (h0.non h) (h1.mod h fun _ _ _ h => h) (h2.mod h fun _ _ _ h => h) hok (hT.non h))
  have HCC := Lib.hid (fun w' (h : Mod Non w w') => cmd_Check_err c w' (hT.non h))
  obtain ⟨er, her⟩ : ∃ er, er = ckErr c := ⟨_, rfl⟩
  have hne : (er != 0) = true := by
    rw [her]
    have := mt ckErr_zero.1 hc
    simpa using this
  rw [← her] at HCC ⊢
  obtain ⟨ix, ac, cs, ⟨v, ps, ss⟩⟩ := m
  obtain ⟨kind, client, seq, key, val, old, node⟩ := c
  simp only at hix HWC HCC
  have m1 := ((((Mod.refl Non w).alloc (.cells (icells ix ac (.slice A0 n0 c0) v (.slice A1 n1 c1) (.slice A2 n2 c2)) 53)).alloc (.cells #[.int .i64 kind, .int .i64 client, .int .i64 seq, .string key, .string val, .string old, .int .i64 node] 33)).alloc (.cells (icells 0 0 (.slice none 0 0) 0 (.slice none 0 0) (.slice none 0 0)) 53)).alloc (.cells #[.int .i64 0, .int .i64 0, .int .i64 0, .bool false, .string ⟨#[]⟩, .int .i64 0] 57)
  have p1 := (((Blk.new w 53 (icells ix ac (.slice A0 n0 c0) v (.slice A1 n1 c1) (.slice A2 n2 c2))).alloc (.cells #[.int .i64 kind, .int .i64 client, .int .i64 seq, .string key, .string val, .string old, .int .i64 node] 33)).alloc (.cells (icells 0 0 (.slice none 0 0) 0 (.slice none 0 0) (.slice none 0 0)) 53)).alloc (.cells #[.int .i64 0, .int .i64 0, .int .i64 0, .bool false, .string ⟨#[]⟩, .int .i64 0] 57)
  have d1 : Blk _ (w.heap.size + 1) _ _ := ((Blk.new1 w (.cells (icells ix ac (.slice A0 n0 c0) v (.slice A1 n1 c1) (.slice A2 n2 c2)) 53) 33 #[.int .i64 kind, .int .i64 client, .int .i64 seq, .string key, .string val, .string old, .int .i64 node]).alloc (.cells (icells 0 0 (.slice none 0 0) 0 (.slice none 0 0) (.slice none 0 0)) 53)).alloc (.cells #[.int .i64 0, .int .i64 0, .int .i64 0, .bool false, .string ⟨#[]⟩, .int .i64 0] 57)
  have z1 : Blk _ (w.heap.size + 1 + 1) _ _ := (Blk.new2 w (.cells (icells ix ac (.slice A0 n0 c0) v (.slice A1 n1 c1) (.slice A2 n2 c2)) 53) (.cells #[.int .i64 kind, .int .i64 client, .int .i64 seq, .string key, .string val, .string old, .int .i64 node] 33) 53 (icells 0 0 (.slice none 0 0) 0 (.slice none 0 0) (.slice none 0 0))).alloc (.cells #[.int .i64 0, .int .i64 0, .int .i64 0, .bool false, .string ⟨#[]⟩, .int .i64 0] 57)
  have a1 : Blk _ (w.heap.size + 1 + 1 + 1) _ _ := Blk.new3 w (.cells (icells ix ac (.slice A0 n0 c0) v (.slice A1 n1 c1) (.slice A2 n2 c2)) 53) (.cells #[.int .i64 kind, .int .i64 client, .int .i64 seq, .string key, .string val, .string old, .int .i64 node] 33) (.cells (icells 0 0 (.slice none 0 0) 0 (.slice none 0 0) (.slice none 0 0)) 53) 57 #[.int .i64 0, .int .i64 0, .int .i64 0, .bool false, .string ⟨#[]⟩, .int .i64 0]
  have M1 := Lib.hid m1
  have P1 := Lib.hid p1
  have D1 := Lib.hid d1
  have Z1 := Lib.hid z1
  have A1' := Lib.hid a1
  have hix' : ix < 4294967292 := by omega
  clear her hc hok h0 h1 h2 hT m1 p1 d1 z1 a1
  go_enter Tryz.func19, Tryz.ntmps19
  go_wp2_with fail
  refine (HWC.out _ M1.out).mono ?_
  rintro e w1 ⟨rfl, hm1⟩
  have M2 := Lib.hid (M1.out.trans' hm1)
  have p2 := P1.out.mod hm1 (fun h => h)
  have d2 := D1.out.mod hm1 (fun h => h)
  have Z2 := Lib.hid (Z1.out.mod hm1 (fun h => h))
  have A2' := Lib.hid (A1'.out.mod hm1 (fun h => h))
  have e0 := p2.cell 0
  simp at e0
  have g0 := d2.cell 0
  have g1 := d2.cell 1
  have g2 := d2.cell 2
  have g3 := d2.cell 3
  have g4 := d2.cell 4
  have g5 := d2.cell 5
  have g6 := d2.cell 6
  simp at g0 g1 g2 g3 g4 g5 g6
  clear hm1 M1 P1 D1 Z1 A1' HWC p2 d2
  go_wp2_with fail
  refine (HCC.out _ M2.out).mono ?_
  rintro e w2 ⟨rfl, hm2⟩
  have M3 := Lib.hid (M2.out.trans' hm2)
  have Z3 := Lib.hid (Z2.out.mod hm2 (fun h => h))
  have A3' := Lib.hid (A2'.out.mod hm2 (fun h => h))
  clear hm2 M2 Z2 A2' HCC e0 g0 g1 g2 g3 g4 g5 g6
  go_wp2_with fail
  refine (win_none er _).mono ?_
  rintro e w3 ⟨rfl, hm3⟩
  have M4 := Lib.hid (M3.out.trans' hm3)
  have z4 := Z3.out.mod hm3 (fun h => h)
  have a4 := A3'.out.mod hm3 (fun h => h)
  have e0 := z4.cell 0
  have e1 := z4.cell 1
  have e2 := z4.cell 2
  have e3 := z4.cell 3
  have e4 := z4.cell 4
  have e5 := z4.cell 5
  simp at e0 e1 e2 e3 e4 e5
  have g0 := a4.cell 0
  have g1 := a4.cell 1
  have g2 := a4.cell 2
  have g3 := a4.cell 3
  have g4 := a4.cell 4
  have g5 := a4.cell 5
  simp at g0 g1 g2 g3 g4 g5
  have f0 := z4.frozen 0
  have f1 := z4.frozen 1
  have f2 := z4.frozen 2
  have f3 := z4.frozen 3
  have f4 := z4.frozen 4
  have f5 := z4.frozen 5
  have k0 := a4.frozen 0
  have k1 := a4.frozen 1
  have k2 := a4.frozen 2
  have k3 := a4.frozen 3
  have k4 := a4.frozen 4
  have k5 := a4.frozen 5
  have hF := fill12 z4 a4 (by omega) (.int .i64 0) (.int .i64 0) (.slice none 0 0) (.int .i64 0) (.slice none 0 0) (.slice none 0 0) (.int .i64 0) (.int .i64 0) (.int .i64 0) (.bool false) (.string ⟨#[]⟩) (.int .i64 0)
  have HF := Lib.hid hF
  clear hm3 z4 a4 M3 Z3 A3' hF
  go_wp2_with fail
  refine bodyPost_ret (results_row_row_tmp rfl _ _ (w.heap.size + 1 + 1) 53 (icells 0 0 (.slice none 0 0) 0 (.slice none 0 0) (.slice none 0 0)) (0, 0) _ (w.heap.size + 1 + 1 + 1) 57 #[.int .i64 0, .int .i64 0, .int .i64 0, .bool false, .string ⟨#[]⟩, .int .i64 0] (0, 0) _ rfl HF.out.1 Tryz.underlying53 rfl (by kernel_rfl) rfl HF.out.2.1 Tryz.underlying57 rfl (by kernel_rfl)) rfl ?_
  exact ⟨rfl, HF.out.2.2.1 w (by omega) (by omega) M4.out⟩
end Go.Proofs.YtdclfdinhdaadaaGreatDoor
