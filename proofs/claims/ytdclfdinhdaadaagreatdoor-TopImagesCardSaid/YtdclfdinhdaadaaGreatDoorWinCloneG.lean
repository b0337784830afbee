/- Package window: the contract of Clone. -/
import Derived.Test.YtdclfdinhdaadaaGreatDoorMgE
namespace Go.Proofs.YtdclfdinhdaadaaGreatDoor
open Go.RowKit

theorem OwnC.set {w : World} {B g i : Nat} {v : Value} {cs : List Cf} (h : OwnC w B v cs) (hg : g < B) (u : Value) : OwnC (w.setCell ⟨g, i, none⟩ u) B v cs := by
  obtain ⟨vs, h1, h2⟩ := h
  have hm := Mod.one w g i u
  exact ⟨vs, own_mod h1 hm fun k hk e => by have := (World.ownsRow.lt h1 k hk).1; unfold One at e; omega, h2.mod hm fun k _ hr e => by have := hr.1; unfold One at e; omega⟩

set_option maxRecDepth 100000 in
set_option maxHeartbeats 4000000 in
theorem window_Clone (m : Im) (A0 A1 A2 : Option Addr) (n0 c0 n1 c1 n2 c2 : Nat) (R0 R1 R2 : Nat → Prop) (w : World) (h0 : Confs w R0 A0 n0 m.confs) (h1 : Reads w R1 3 A1 n1 (pcs m.st.pairs)) (h2 : Reads w R2 8 A2 n2 (ecs m.st.sess)) (hok : m.Ok) :
    Calls Tryz.prog 51 #[imv m.index m.active (.slice A0 n0 c0) m.st.schema (.slice A1 n1 c1) (.slice A2 n2 c2)] w fun e w' => ∃ B0 k0 d0 B1 k1 d1 B2 k2 d2, e = .returned (imv m.index m.active (.slice B0 k0 d0) m.st.schema (.slice B1 k1 d1) (.slice B2 k2 d2)) ∧ Confs w' (fun k => w.heap.size ≤ k) B0 k0 m.confs ∧ k0 ≤ d0 ∧ Reads w' (fun k => w.heap.size ≤ k) 3 B1 k1 (pcs m.st.pairs) ∧ Reads w' (fun k => w.heap.size ≤ k) 8 B2 k2 (ecs m.st.sess) ∧ Mod Non w w' := by
  obtain ⟨ix, ac, cs, ⟨v, ps, ss⟩⟩ := m
  obtain ⟨k1, k2, kcs, kfew, kst, k6⟩ := hok
  simp only at h0 h1 h2 kcs kfew kst
  have hl := h0.len
  have HL := Lib.hid hl
  have hn : n0 ≤ 64 := by omega
  have HMM : Hid (∀ x ∈ cs, x.mem.length ≤ 1000) := fun x hx => by have := mem_few (kcs.each x hx).1; omega
  have hn1 : n1 ≤ 100000 := by have := h1.1; rw [pcs_length] at this; have := kst.pairs.few; simp only at this; omega
  have hn2 : n2 ≤ 100000 := by have := h2.1; rw [ecs_length] at this; have := kst.few; simp only at this; omega
  have HMC := Lib.hid (fun w' (hm : Mod Non w w') => migr_Clone v ps ss A1 A2 n1 c1 n2 c2 R1 R2 w' (h1.mod hm fun _ _ _ h => h) (h2.mod hm fun _ _ _ h => h) hn1 hn2)
  clear hl k1 k2 kcs kfew kst k6 h1 h2
  have m0 := (((Mod.refl Non w).alloc (.cells #[.int .i64 ix, .int .i64 ac, .slice A0 n0 c0, .int .i64 v, .slice A1 n1 c1, .slice A2 n2 c2] 53)).alloc (.cells #[.int .i64 0, .int .i64 0, .slice none 0 0, .int .i64 0, .slice none 0 0, .slice none 0 0] 53)).alloc (.cells #[.int .i64 ix, .int .i64 ac, .slice none 0 0, .int .i64 v, .slice A1 n1 c1, .slice A2 n2 c2] 53)
  have p0 := ((Blk.new w 53 #[.int .i64 ix, .int .i64 ac, .slice A0 n0 c0, .int .i64 v, .slice A1 n1 c1, .slice A2 n2 c2]).alloc (.cells #[.int .i64 0, .int .i64 0, .slice none 0 0, .int .i64 0, .slice none 0 0, .slice none 0 0] 53)).alloc (.cells #[.int .i64 ix, .int .i64 ac, .slice none 0 0, .int .i64 v, .slice A1 n1 c1, .slice A2 n2 c2] 53)
  have z0 := (Blk.new1 w (.cells #[.int .i64 ix, .int .i64 ac, .slice A0 n0 c0, .int .i64 v, .slice A1 n1 c1, .slice A2 n2 c2] 53) 53 #[.int .i64 0, .int .i64 0, .slice none 0 0, .int .i64 0, .slice none 0 0, .slice none 0 0]).alloc (.cells #[.int .i64 ix, .int .i64 ac, .slice none 0 0, .int .i64 v, .slice A1 n1 c1, .slice A2 n2 c2] 53)
  have o0 : Blk _ (w.heap.size + 1 + 1) _ _ := Blk.new2 w (.cells #[.int .i64 ix, .int .i64 ac, .slice A0 n0 c0, .int .i64 v, .slice A1 n1 c1, .slice A2 n2 c2] 53) (.cells #[.int .i64 0, .int .i64 0, .slice none 0 0, .int .i64 0, .slice none 0 0, .slice none 0 0] 53) 53 #[.int .i64 ix, .int .i64 ac, .slice none 0 0, .int .i64 v, .slice A1 n1 c1, .slice A2 n2 c2]
  have M0 := Lib.hid m0
  have P0 := Lib.hid p0
  have Z0 := Lib.hid z0
  have O0 := Lib.hid o0
  clear m0 p0 z0 o0
  go_enter Tryz.func51, Tryz.ntmps51
  go_wp2
  go_loopw [11] (fun i wr => ∃ (k : Nat) (o : Value), k ≤ n0 ∧ i = .int .i64 k ∧ OwnC wr (w.heap.size + 3) o (cs.take k) ∧ Blk wr w.heap.size 53 #[.int .i64 ix, .int .i64 ac, .slice A0 n0 c0, .int .i64 v, .slice A1 n1 c1, .slice A2 n2 c2] ∧ Blk wr (w.heap.size + 1) 53 #[.int .i64 0, .int .i64 0, .slice none 0 0, .int .i64 0, .slice none 0 0, .slice none 0 0] ∧ Blk wr (w.heap.size + 1 + 1) 53 #[.int .i64 ix, .int .i64 ac, o, .int .i64 v, .slice A1 n1 c1, .slice A2 n2 c2] ∧ Mod Non w wr) (fun i _ => n0 - (intOf i).toNat)
  case atStart => exact ⟨0, _, by omega, rfl, OwnC.nil _ _, P0.out, Z0.out, O0.out, M0.out⟩
  case round =>
    obtain ⟨k, o, hk, rfl, ho, bp, bz, bo, hm⟩ := hrel
    clear M0 P0 Z0 O0
    have hlo := bo.lt
    by_cases hlt : k < n0
    · obtain ⟨b, off, x, A', n', c', hA, hbk, _, hxk, d0, d1, dm⟩ := (h0.non hm).at_ hlt
      subst hA
      have hkn : (k : Int) < n0 := by omega
      have HX := Lib.hid hxk
      have hmx := HMM.out x (List.mem_of_getElem? hxk)
      obtain ⟨cf, hcf⟩ : ∃ cf, cf = x.from_ := ⟨_, rfl⟩
      rw [← hcf] at d0
      have HCF := Lib.hid hcf
      have HM := Lib.hid hm
      have HO := Lib.hid ho
      have BP := Lib.hid bp
      have BZ := Lib.hid bz
      have BO := Lib.hid bo
      have HCL := Lib.hid (fun w' (h : Mod Non wr w') => slices_Clone_I A' n' c' _ x.mem w' (dm.mod h fun _ _ _ h => h) (by omega))
      have hsz := HM.out.size
      clear hcf dm hxk hm ho hmx bp bz bo
      obtain ⟨A8, c8, he8, hc8⟩ := HO.out.len
      obtain ⟨n8, hn8⟩ : ∃ n8, n8 = (cs.take k).length := ⟨_, rfl⟩
      rw [← hn8] at he8 hc8
      have HN8 := Lib.hid hn8
      have hlk : (cs.take k).length ≤ 100000 := by rw [List.length_take]; omega
      have HLK := Lib.hid hlk
      clear hn8 hlk
      subst he8
      have oc := BO.out.cell 2
      simp at oc
      have hlne : w.heap.size + 1 + 1 ≠ wr.heap.size := by omega
      go_wp2
      have HFR : Hid (∀ j, wr.heap.size ≤ j → (Value.slice A8 n8 c8).ownBlock ≠ some j) := by
        intro j hj he
        obtain ⟨vs, q1, _⟩ := HO.out
        have := (World.ownsRow.lt q1 j he).2
        omega
      have HF3 : Hid ((Value.slice A8 n8 c8).ownBlock ≠ some (w.heap.size + 1 + 1)) := by
        intro he
        obtain ⟨vs, q1, _⟩ := HO.out
        have := (World.ownsRow.lt q1 _ he).1
        omega
      go_region_law (first | (refine step_append_Cf rfl (.tmp 16) (.tmp 23) rfl (w.heap.size + 3) (.slice A8 n8 c8) (cs.take k) (by simp [Act.eval]) hown2 ⟨cf, x.mem⟩ A2' m2' k2' hmem2 _ rfl (by simp [Act.eval]) HLK.out (by omega) ?_; intro v6 w6 hown6 hm6; obtain ⟨n6, hn6⟩ : ∃ n6, n6 = (cs.take k ++ [(⟨cf, x.mem⟩ : Cf)]).length := ⟨_, rfl⟩; obtain ⟨A6, c6, he6, hc6⟩ := hown6.len; rw [← hn6] at he6 hc6; have HN6 := Lib.hid hn6; clear hn6; subst he6; have bo6 := (bo2.mod hm6 HF3.out); have oc6 := bo6.cell 2; have of6 := bo6.frozen 2; simp at oc6) | (go_simp; go_at_call 45; refine (HCL.out _ (((Mod.refl _ _).alloc _).drew)).mono ?_; rintro e w2 ⟨v2, rfl, hi2, hm2⟩; obtain ⟨A2', m2', k2', rfl, hm2', hk2'⟩ := hi2.form; have mm2 := (((Mod.refl Non wr).alloc (.cells #[.int .i64 cf, .slice A' n' c'] 90)).drew).trans' hm2; have bx := (Blk.new wr 90 #[.int .i64 cf, .slice A' n' c']).drew.mod hm2 (fun h => h); have bx0 := bx.cell 0; have bx1 := bx.cell 1; simp at bx0 bx1; have bo2 := BO.out.mod mm2 (fun h => h); have oc2 := bo2.cell 2; have hl2 := bo2.lt; simp at oc2; have hown2 := HO.out.non mm2; have hsz2 := mm2.size; have hmem2 := hi2.reads.more (R' := fun j => w.heap.size + 3 ≤ j ∧ (Value.slice A8 n8 c8).ownBlock ≠ some j) (fun j _ h => by have h1 := h.1; have h2 : wr.heap.size ≤ j := Nat.le_trans (by simp) h1; exact ⟨by omega, HFR.out j h2⟩)))
      all_goals
        have HO6 := Lib.hid hown6
        have HB6 := Lib.hid bo6
        have HM6 := Lib.hid hm6
        have MM2 := Lib.hid mm2
        have mfar : ∀ j, (Value.slice A8 n8 c8).ownBlock = some j → w.heap.size + 3 ≤ j := fun j h => by
          obtain ⟨vs, q1, _⟩ := HO.out
          exact (World.ownsRow.lt q1 j h).1
        have HFA := Lib.hid mfar
        clear hown6 bo6 hm6 mm2 hown2 hmem2 hi2 hm2 bx bo2 mfar
        go_wp2
        go_roundw
        case rel =>
          have e1 : cs.take (k + 1) = cs.take k ++ [⟨cf, x.mem⟩] := by
            obtain ⟨z1, z2⟩ := List.getElem?_eq_some_iff.1 HX.out
            rw [List.take_succ_eq_append_getElem z1, z2, HCF.out]
          have bp6 := (BP.out.mod MM2.out (fun h => h)).mod HM6.out (fun h => by have := HFA.out _ h; omega)
          have bz6 := (BZ.out.mod MM2.out (fun h => h)).mod HM6.out (fun h => by have := HFA.out _ h; omega)
          have bs6 := HB6.out.set_ 2 (.slice A6 n6 c6)
          have HO6' := HO6.out
          rw [← e1] at HO6'
          refine ⟨k + 1, _, by omega, by go_num, OwnC.set HO6' (by omega) _, bp6.far (by show ¬ _ = _; simp only; omega) _, bz6.far (by show ¬ _ = _; simp only; omega) _, bs6, ?_⟩
          refine ((HM.out.trans' MM2.out).trans HM6.out fun j hj h => ?_).setNew (by omega) _ _
          have := HFA.out _ h
          omega
        case measure => simp [intOf]; omega
    · have hkn : ¬ (k : Int) < n0 := by omega
      have hkk : cs.take k = cs := List.take_of_length_le (by rw [HL.out]; omega)
      rw [hkk] at ho
      obtain ⟨A8, c8, rfl, hc8⟩ := ho.len
      obtain ⟨n8, hn8⟩ : ∃ n8, n8 = cs.length := ⟨_, rfl⟩
      rw [← hn8] at ho hc8 bo
      have HO := Lib.hid ho
      have HM := Lib.hid hm
      have BO := Lib.hid bo
      have BZ := Lib.hid bz
      have p3 := bp.cell 3
      have p4 := bp.cell 4
      have p5 := bp.cell 5
      simp at p3 p4 p5
      clear ho hm hn8 hkk
      go_wp2_with fail
      refine (HMC.out _ HM.out).mono ?_
      rintro e w2 ⟨g1, g2, rfl, o1, o2, _, hm2⟩
      have HO2 := Lib.hid (HO.out.non hm2)
      have M2 := Lib.hid (HM.out.trans' hm2)
      have bo2 := BO.out.mod hm2 (fun h => h)
      have bz2 := BZ.out.mod hm2 (fun h => h)
      have r1 := o1.reads
      have r2 := o2.reads
      have b3 := ((bo2.set_ 3 (.int .i64 v)).set_ 4 (.slice (some ⟨g1, 0, none⟩) n1 n1)).set_ 5 (.slice (some ⟨g2, 0, none⟩) n2 n2)
      have M3 := Lib.hid (((M2.out.setNew (g := w.heap.size + 1 + 1) (by omega) 3 (.int .i64 v)).setNew (g := w.heap.size + 1 + 1) (by omega) 4 (.slice (some ⟨g1, 0, none⟩) n1 n1)).setNew (g := w.heap.size + 1 + 1) (by omega) 5 (.slice (some ⟨g2, 0, none⟩) n2 n2))
      have hm3 := (((Mod.refl (One (w.heap.size + 1 + 1)) w2).setOne (i := 3) (.int .i64 v)).setOne (i := 4) (.slice (some ⟨g1, 0, none⟩) n1 n1)).setOne (i := 5) (.slice (some ⟨g2, 0, none⟩) n2 n2)
      have bz3 := bz2.mod hm3 (fun h => by unfold One at h; omega)
      have hlw := M2.out.size
      have hwr := HM.out.size
      have R1 := Lib.hid (r1.mod hm3 fun j _ hj h => by have := hj.1; unfold One at h; omega)
      have R2' := Lib.hid (r2.mod hm3 fun j _ hj h => by have := hj.1; unfold One at h; omega)
      have HC3 := Lib.hid (HO2.out.confs.mod hm3 fun j _ hj h => by have hj : w.heap.size + 3 ≤ j := hj; unfold One at h; omega)
      have e0 := bo2.cell 0
      have e1 := bo2.cell 1
      have e2 := bo2.cell 2
      have e3 := bo2.cell 3
      have e4 := bo2.cell 4
      have e5 := bo2.cell 5
      have f3 := bo2.frozen 3
      have f4 := bo2.frozen 4
      have f5 := bo2.frozen 5
      have z0 := bz2.cell 0
      have z1 := bz2.cell 1
      have z2 := bz2.cell 2
      have z3 := bz2.cell 3
      have z4 := bz2.cell 4
      have z5 := bz2.cell 5
      have y0 := bz2.frozen 0
      have y1 := bz2.frozen 1
      have y2 := bz2.frozen 2
      have y3 := bz2.frozen 3
      have y4 := bz2.frozen 4
      have y5 := bz2.frozen 5
      simp at e0 e1 e2 e3 e4 e5 z0 z1 z2 z3 z4 z5
      have hF := ((((((Mod.refl (One (w.heap.size + 1)) (((w2.setCell ⟨w.heap.size + 1 + 1, 3, none⟩ (.int .i64 v)).setCell ⟨w.heap.size + 1 + 1, 4, none⟩ (.slice (some ⟨g1, 0, none⟩) n1 n1)).setCell ⟨w.heap.size + 1 + 1, 5, none⟩ (.slice (some ⟨g2, 0, none⟩) n2 n2))).setOne (i := 0) (.int .i64 ix)).setOne (i := 1) (.int .i64 ac)).setOne (i := 2) (.slice A8 n8 c8)).setOne (i := 3) (.int .i64 v)).setOne (i := 4) (.slice (some ⟨g1, 0, none⟩) n1 n1)).setOne (i := 5) (.slice (some ⟨g2, 0, none⟩) n2 n2)
      have bz4 := (((((bz3.set_ 0 (.int .i64 ix)).set_ 1 (.int .i64 ac)).set_ 2 (.slice A8 n8 c8)).set_ 3 (.int .i64 v)).set_ 4 (.slice (some ⟨g1, 0, none⟩) n1 n1)).set_ 5 (.slice (some ⟨g2, 0, none⟩) n2 n2)
      have HF := Lib.hid hF
      have HB4 := Lib.hid bz4
      clear hF bz4 bz3 hm3 r1 r2 b3 o1 o2 hm2 bo bz bp bo2 bz2 p3 p4 p5
      go_wp2_with fail
      refine bodyPost_ret (results_row rfl _ _ (w.heap.size + 1) 53 #[.int .i64 ix, .int .i64 ac, .slice A8 n8 c8, .int .i64 v, .slice (some ⟨g1, 0, none⟩) n1 n1, .slice (some ⟨g2, 0, none⟩) n2 n2] (0, 0) _ rfl HB4.out Tryz.underlying53 rfl (by kernel_rfl)) rfl ?_
      refine ⟨A8, n8, c8, _, _, _, _, _, _, rfl, ?_, hc8, ?_, ?_, M3.out.trans HF.out fun j hj h => by unfold One at h; omega⟩
      · exact (HC3.out.mod HF.out fun j _ hj h => by have hj : w.heap.size + 3 ≤ j := hj; unfold One at h; omega).more fun j _ hj => by have hj : w.heap.size + 3 ≤ j := hj; omega
      · exact (R1.out.mod HF.out fun j _ hj h => by have := hj.1; unfold One at h; omega).more fun j _ hj => by have := hj.1; omega
      · exact (R2'.out.mod HF.out fun j _ hj h => by have := hj.1; unfold One at h; omega).more fun j _ hj => by have := hj.1; omega
end Go.Proofs.YtdclfdinhdaadaaGreatDoor
