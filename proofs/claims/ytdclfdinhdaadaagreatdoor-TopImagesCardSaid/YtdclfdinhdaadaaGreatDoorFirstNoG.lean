/- Package window: the contract of First at numbers that may not be members; an image in a block. -/
import Derived.Test.YtdclfdinhdaadaaGreatDoorMgW
namespace Go.Proofs.YtdclfdinhdaadaaGreatDoor
open Go.RowKit

/-- block M is an image; what it points to lies elsewhere -/
def ImB (w : World) (M : Nat) (m : Im) : Prop :=
  ∃ A0 n0 c0 A1 n1 c1 A2 n2 c2, Blk w M 53 #[.int .i64 m.index, .int .i64 m.active, .slice A0 n0 c0, .int .i64 m.st.schema, .slice A1 n1 c1, .slice A2 n2 c2] ∧ Confs w (fun b => b ≠ M) A0 n0 m.confs ∧ Reads w (fun b => b ≠ M) 3 A1 n1 (pcs m.st.pairs) ∧ Reads w (fun b => b ≠ M) 8 A2 n2 (ecs m.st.sess)
theorem ImB.non {w w' : World} {M : Nat} {m : Im} (h : ImB w M m) (hm : Mod Non w w') : ImB w' M m := by
  obtain ⟨A0, n0, c0, A1, n1, c1, A2, n2, c2, h1, h2, h3, h4⟩ := h
  exact ⟨A0, n0, c0, A1, n1, c1, A2, n2, c2, h1.mod hm (fun h => h), h2.non hm, h3.mod hm (fun _ _ _ h => h), h4.mod hm (fun _ _ _ h => h)⟩

set_option maxRecDepth 100000 in
set_option maxHeartbeats 4000000 in
theorem window_First_no (A : Option Addr) (n c : Nat) (R : Nat → Prop) (l : List Int) (w : World) (hr : Reads w R 1 A n (vis l)) (hn : l.length ≤ 1000) (hno : ¬ MemOk l) :
    Calls Tryz.prog 18 #[.slice A n c] w fun e w' => (∃ k : Int, e = .returned (.tuple #[.agg #[.int .i64 0, .int .i64 0, .slice none 0 0, .int .i64 0, .slice none 0 0, .slice none 0 0], .int .i64 k]) ∧ (k != 0) = true) ∧ Mod Non w w' := by
  have HNN := Lib.hid hno
  clear hno
  have m0 := (Mod.refl Non w).alloc (.cells #[.int .i64 0, .int .i64 0, .slice none 0 0, .int .i64 0, .slice none 0 0, .slice none 0 0] 53)
  have b0 := Blk.new w 53 #[.int .i64 0, .int .i64 0, .slice none 0 0, .int .i64 0, .slice none 0 0, .slice none 0 0]
  have HCL := Lib.hid (slices_Clone_I A n c R l _ (hr.mod m0 fun _ _ _ h => h) (by omega))
  clear hr
  go_enter Tryz.func18, Tryz.ntmps18
  go_wp2_with fail
  refine HCL.out.mono ?_
  rintro e w1 ⟨v1, rfl, ho, hm1⟩
  have b1 := b0.mod hm1 (fun h => h)
  have m1 := m0.trans' hm1
  clear b0 m0 hm1 HCL
  obtain ⟨A1, n1, c1, rfl, hn1, hc1⟩ := ho.form
  have hrd := ho.reads
  have hg1 := b1.lt
  have m2 := m1.alloc (.cells #[.int .i64 1, .slice A1 n1 c1] 90)
  have b2 := b1.alloc (.cells #[.int .i64 1, .slice A1 n1 c1] 90)
  have HCF : Hid (Confs (w1.alloc (.cells #[.int .i64 1, .slice A1 n1 c1] 90)) (fun k => w.heap.size + 1 ≤ k) (some ⟨w1.heap.size, 0, none⟩) 1 [⟨1, l⟩]) := by
    refine ⟨[⟨1, A1, n1, c1⟩], ?_, rfl, ?_⟩
    · have := reads_new w1 #[.int .i64 1, .slice A1 n1 c1] 90 (fun k => w.heap.size + 1 ≤ k) (by show _ ≤ _; omega) 2 rfl
      simpa [vcs, Cv.cells] using this
    · intro i v c hv hc
      have : i = 0 := by
        have := (List.getElem?_eq_some_iff.1 hv).1
        simp at this
        exact this
      subst this
      simp at hv hc
      subst hv hc
      exact ⟨rfl, (hrd.alloc _).more fun k _ h => by have := h.1; simp only [World.size_alloc] at this; exact this⟩
  obtain ⟨W2, hW2⟩ : ∃ W2, W2 = w1.alloc (.cells #[.int .i64 1, .slice A1 n1 c1] 90) := ⟨_, rfl⟩
  rw [← hW2] at m2 b2 HCF
  have HW2 := Lib.hid hW2
  have HCC := Lib.hid (conf_Check (some ⟨w1.heap.size, 0, none⟩) 1 1 _ [⟨1, l⟩] W2 HCF.out (by omega) (by simp; omega))
  clear hW2 ho hrd hn1 b1 m1
  go_wp2_with fail
  rw [← HW2.out]
  refine HCC.out.mono ?_
  rintro e w3 ⟨⟨k, rfl, hk⟩, hm3⟩
  have b3 := b2.mod hm3 (fun h => h)
  have m3 := m2.trans' hm3
  have HC3 := Lib.hid (HCF.out.non hm3)
  have HK := Lib.hid (hk.trans (cfs0 l))
  clear hk HCC hm3 b2 m2 HW2 HCF
  have hk0 : k ≠ 0 := fun h => HNN.out (HK.out.1 h)
  have hk1 : (k != 0) = true := by simp [hk0]
  have hF := ((((((Mod.refl (One w.heap.size) w3).setOne (i := 0) (.int .i64 0)).setOne (i := 1) (.int .i64 0)).setOne (i := 2) (.slice none 0 0)).setOne (i := 3) (.int .i64 0)).setOne (i := 4) (.slice none 0 0)).setOne (i := 5) (.slice none 0 0)
  have b5 := (((((b3.set_ 0 (.int .i64 0)).set_ 1 (.int .i64 0)).set_ 2 (.slice none 0 0)).set_ 3 (.int .i64 0)).set_ 4 (.slice none 0 0)).set_ 5 (.slice none 0 0)
  have m5 := m3.trans hF fun i hi h => by unfold One at h; omega
  have HB5 := Lib.hid b5
  have HM5 := Lib.hid m5
  have e0 := b3.cell 0
  have e1 := b3.cell 1
  have e2 := b3.cell 2
  have e3 := b3.cell 3
  have e4 := b3.cell 4
  have e5 := b3.cell 5
  simp at e0 e1 e2 e3 e4 e5
  have f0 := b3.frozen 0
  have f1 := b3.frozen 1
  have f2 := b3.frozen 2
  have f3 := b3.frozen 3
  have f4 := b3.frozen 4
  have f5 := b3.frozen 5
  clear hF b5 m5 b3 m3 HC3 hk0
  go_wp2_with fail
  refine bodyPost_ret (results_row_tmp rfl _ _ w.heap.size 53 #[.int .i64 0, .int .i64 0, .slice none 0 0, .int .i64 0, .slice none 0 0, .slice none 0 0] (0, 0) _ rfl HB5.out Tryz.underlying53 rfl (by kernel_rfl)) rfl ?_
  exact ⟨⟨k, rfl, hk1⟩, HM5.out⟩
end Go.Proofs.YtdclfdinhdaadaaGreatDoor
