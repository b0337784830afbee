/- The reference of migr: Revs: a state with other revisions. -/
import Derived.Test.YtdclfdinhdaadaaGreatDoorMgW
namespace Go.Proofs.YtdclfdinhdaadaaGreatDoor
open Go.RowKit

set_option maxRecDepth 100000 in
set_option maxHeartbeats 4000000 in
theorem ref25_Revs (s : St) (sc r : Int) (A1 A2 : Option Addr) (n1 c1 n2 c2 : Nat) (R2 R1 : Nat → Prop) (w : World) (h1 : Reads w R1 3 A1 n1 (pcs s.pairs)) (h2 : Reads w R2 8 A2 n2 (ecs s.sess)) (hn1 : n1 ≤ 10000) :
    Calls Tryz.prog 17 #[stv s.schema (.slice A1 n1 c1) (.slice A2 n2 c2), .int .i64 sc, .int .i64 r] w fun e w' => ∃ u, e = .returned u ∧ StV (fun _ => True) w' u ⟨sc, rev r s.pairs, s.sess⟩ ∧ Mod Non w w' := by
  obtain ⟨v, ps, ss⟩ := s
  simp only at h1 h2
  have hl1 : ps.length = n1 := by have := h1.1; rw [pcs_length] at this; omega
  have HL1 := Lib.hid hl1
  clear hl1
  have m0 := (((Mod.refl Non w).alloc (.cells #[.int .i64 v, .slice A1 n1 c1, .slice A2 n2 c2] 25)).alloc (.cells #[.int .i64 0, .slice none 0 0, .slice none 0 0] 25)).alloc (.cells #[.int .i64 sc, .slice none 0 0, .slice A2 n2 c2] 25)
  have s0 := ((Blk.new w 25 #[.int .i64 v, .slice A1 n1 c1, .slice A2 n2 c2]).alloc (.cells #[.int .i64 0, .slice none 0 0, .slice none 0 0] 25)).alloc (.cells #[.int .i64 sc, .slice none 0 0, .slice A2 n2 c2] 25)
  have q0 : Blk _ (w.heap.size + 1) _ _ := (Blk.new1 w (.cells #[.int .i64 v, .slice A1 n1 c1, .slice A2 n2 c2] 25) 25 #[.int .i64 0, .slice none 0 0, .slice none 0 0]).alloc (.cells #[.int .i64 sc, .slice none 0 0, .slice A2 n2 c2] 25)
  have p0 : Blk _ (w.heap.size + 1 + 1) _ _ := Blk.new2 w (.cells #[.int .i64 v, .slice A1 n1 c1, .slice A2 n2 c2] 25) (.cells #[.int .i64 0, .slice none 0 0, .slice none 0 0] 25) 25 #[.int .i64 sc, .slice none 0 0, .slice A2 n2 c2]
  have HM0 := Lib.hid m0
  have HS0 := Lib.hid s0
  have HQ0 := Lib.hid q0
  have HP0 := Lib.hid p0
  clear m0 s0 q0 p0
  go_enter Tryz.func17, Tryz.ntmps17
  go_wp2_with fail
  go_loopw [8] (fun i wr => ∃ (k : Nat) (pv : Value), k ≤ n1 ∧ i = .int .i64 k ∧ Blk wr w.heap.size 25 #[.int .i64 v, .slice A1 n1 c1, .slice A2 n2 c2] ∧ Blk wr (w.heap.size + 1) 25 #[.int .i64 0, .slice none 0 0, .slice none 0 0] ∧
    Blk wr (w.heap.size + 1 + 1) 25 #[.int .i64 sc, pv, .slice A2 n2 c2] ∧ OwnP wr (w.heap.size + 3) pv (rev r (ps.take k)) ∧ Mod Non w wr) (fun i _ => n1 - (intOf i).toNat)
  case atStart => exact ⟨0, _, by omega, rfl, HS0.out, HQ0.out, HP0.out, OwnP.nil _ _, HM0.out⟩
  case round =>
    obtain ⟨k, pv, hk, rfl, hs, hq, hp, ho, hm⟩ := hrel
    clear HS0 HQ0 HP0 HM0
    have hg := hp.lt
    have hg0 : w.heap.size < wr.heap.size := by omega
    have hg1 : w.heap.size + 1 < wr.heap.size := by omega
    obtain ⟨A8, n8, c8, rfl, hn8, hc8⟩ := ho.form
    have es0 := hs.cell 0
    have es1 := hs.cell 1
    have es2 := hs.cell 2
    simp at es0 es1 es2
    by_cases hlt : k < n1
    · obtain ⟨b, off, x, hA, hbk, _, hxk, d0, d1, d2⟩ := (h1.mod hm fun _ _ _ h => h).pa hlt
      subst hA
      have hkn : (k : Int) < n1 := by omega
      obtain ⟨key, val, rv⟩ := x
      simp only at d0 d1 d2
      have HX := Lib.hid hxk
      have hlk : (rev r (ps.take k)).length ≤ 100000 := by rw [rev_length, List.length_take]; omega
      have s1 := hs.alloc (.cells #[.string key, .string val, .int .i64 r] 42)
      have q1 := hq.alloc (.cells #[.string key, .string val, .int .i64 r] 42)
      have p1 := hp.alloc (.cells #[.string key, .string val, .int .i64 r] 42)
      have x1 := Blk.new wr 42 #[.string key, .string val, .int .i64 r]
      have mx : Mod Non wr (wr.alloc (.cells #[.string key, .string val, .int .i64 r] 42)) := (Mod.refl Non wr).alloc _
      have m1 := hm.trans' mx
      have o1 := ho.non mx
      obtain ⟨W1, hW1⟩ : ∃ W1, W1 = wr.alloc (.cells #[.string key, .string val, .int .i64 r] 42) := ⟨_, rfl⟩
      rw [← hW1] at s1 q1 p1 x1 m1 o1
      have HW1 := Lib.hid hW1
      have HN8 := hn8
      clear hW1 hxk mx hs hq hp ho hm hn8
      go_wp2_with (with_reducible (show wpList _ _ _ (⟨some 29, _, _, _, _, _⟩ :: _) _ _); refine Hid.out ?_)
      rw [← HW1.out]
      have hz := m1.size
      have np := own_ne_blk o1 p1 (by decide)
      have nq := own_ne_blk o1 q1 (by decide)
      have ns := own_ne_blk o1 s1 (by decide)
      have ex0 := x1.cell 0
      have ex1 := x1.cell 1
      have ex2 := x1.cell 2
      have ep0 := p1.cell 0
      have ep1 := p1.cell 1
      have ep2 := p1.cell 2
      simp at ex0 ex1 ex2 ep0 ep1 ep2
      have hp1 := p1.lt
      clear es0 es1 es2 d0 d1 d2
      refine Lib.hid ?_
      go_wp2_with (at_builtin; refine wpList_append_Pa rfl (.tmp 29) (.tmp 31) rfl (w.heap.size + 3) _ (rev r (ps.take k)) rfl o1 ⟨key, val, r⟩ W1.heap.size rfl rfl hlk (by omega) ?_
                   intro v6 w6 hown6 hm6
                   obtain ⟨A6, m6, c6, rfl, hx6, hc6⟩ := hown6.form
                   have p6 := p1.mod hm6 np
                   have y6 := p6.cell 1
                   have z6 := p6.frozen 1
                   simp at y6)
      go_roundw
      case rel =>
        have hb6 := World.ownsRow.lt hown6
        refine ⟨k + 1, _, by omega, by go_num, (s1.mod hm6 ns).far (by simp only; omega) _, (q1.mod hm6 nq).far (by simp only; omega) _, p6.set_ 1 (.slice A6 m6 c6), ?_, ?_⟩
        · obtain ⟨z1, z2⟩ := List.getElem?_eq_some_iff.1 HX.out
          have e : rev r (ps.take (k + 1)) = rev r (ps.take k) ++ [⟨key, val, r⟩] := by
            rw [List.take_succ_eq_append_getElem z1, z2]
            simp [rev]
          rw [e]
          exact OwnP.mod hown6 (Mod.one w6 (w.heap.size + 1 + 1) 1 _) fun j hj h => by have := (hb6 j hj).1; unfold One at h; omega
        · have hbo := World.ownsRow.lt o1
          exact (m1.trans hm6 fun i hi h => by have := (hbo i h).1; omega).setNew (by omega) _ _
      case measure => simp [intOf]; omega
    · have hkn : ¬ (k : Int) < n1 := by omega
      have hkm : ps.take k = ps := List.take_of_length_le (by rw [HL1.out]; omega)
      rw [hkm] at ho
      have hF := ((((Mod.refl (One (w.heap.size + 1)) wr).setOne (i := 0) (.int .i64 sc)).setOne (i := 1) (.slice A8 n8 c8)).setOne (i := 2) (.slice A2 n2 c2))
      have q9 := ((hq.set_ 0 (.int .i64 sc)).set_ 1 (.slice A8 n8 c8)).set_ 2 (.slice A2 n2 c2)
      have m9 := hm.trans hF fun i hi h => by unfold One at h; omega
      have g1 := (OwnP.mod ho hF (fun g hg h => own_ne_blk ho hq (by decide) (hg.trans (congrArg some h)))).reads
      have g2 := ((h2.here.mod hm fun _ _ _ h => h).mod hF fun j hj hr h => by unfold One at h; omega)
      have ep0 := hp.cell 0
      have ep1 := hp.cell 1
      have ep2 := hp.cell 2
      have eq0 := hq.cell 0
      have eq1 := hq.cell 1
      have eq2 := hq.cell 2
      simp at ep0 ep1 ep2 eq0 eq1 eq2
      have fq0 := hq.frozen 0
      have fq1 := hq.frozen 1
      have fq2 := hq.frozen 2
      have HQ9 := Lib.hid q9
      have HM9 := Lib.hid m9
      have HG := Lib.hid (show _ ∧ _ from ⟨g1, g2⟩)
      clear hkm ho hF q9 m9 g1 g2 hs hq hp hm hn8
      go_wp2_with fail
      refine bodyPost_ret (results_row rfl _ _ (w.heap.size + 1) 25 #[.int .i64 sc, .slice A8 n8 c8, .slice A2 n2 c2] (0, 0) _ rfl HQ9.out Tryz.underlying25 rfl (by kernel_rfl)) rfl ?_
      exact ⟨_, rfl, ⟨_, _, _, _, _, _, rfl, HG.out.1.more fun _ _ _ => trivial, HG.out.2.more fun _ _ _ => trivial⟩, HM9.out⟩
theorem ref25_Revs_v (s : St) (sc r : Int) (u : Value) (R : Nat → Prop) (w : World) (hu : StV R w u s) (hn : s.pairs.length ≤ 10000) :
    Calls Tryz.prog 17 #[u, .int .i64 sc, .int .i64 r] w fun e w' => ∃ u, e = .returned u ∧ StV (fun _ => True) w' u ⟨sc, rev r s.pairs, s.sess⟩ ∧ Mod Non w w' := by
  obtain ⟨A1, n1, c1, A2, n2, c2, rfl, r1, r2⟩ := hu
  have e1 : n1 = s.pairs.length := by have := r1.1; rw [pcs_length] at this; omega
  exact ref25_Revs s sc r A1 A2 n1 c1 n2 c2 _ _ w r1 r2 (by omega)
end Go.Proofs.YtdclfdinhdaadaaGreatDoor
