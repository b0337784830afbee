/- Cells of an own row of pairs set. -/
import Derived.Test.YtdclfdinhdaadaaGreatDoorOwnG
namespace Go.Proofs.YtdclfdinhdaadaaGreatDoor
open Go.RowKit

theorem own_set {w : World} {B s g m c n i : Nat} {e : TypeId} {xs : List Value} (h : w.ownsRow B e s (.slice (some ⟨g, 0, none⟩) m c) n xs) (x : Value) (hi : i < n * s) :
    (w.setCell ⟨g, i, none⟩ x).ownsRow B e s (.slice (some ⟨g, 0, none⟩) m c) n (xs.set i x) := by
  obtain ⟨h1, h2⟩ := h
  rcases h2 with ⟨h3, _⟩ | ⟨g', cap, cur, hv, hb, hh, hn, hm, hs, ht⟩
  · cases h3
  · injection hv with e1 e2 e3
    injection e1 with e1
    injection e1 with e1 _ _
    subst e1 e2 e3
    have hb' : Blk w g e cur := hh
    refine ⟨by rw [List.length_set]; exact h1, .inr ⟨g, c, cur.setIfInBounds i x, rfl, hb, hb'.set_ i x, hn, hm, by rw [Array.size_setIfInBounds]; exact hs, ?_⟩⟩
    rw [Array.toList_setIfInBounds, List.take_set, ht]

theorem pcs_rev (l : List Pa) (j : Nat) (r : Int) (p : Pa) (hp : l[j]? = some p) : (pcs l).set (j * 3 + 2) (.int .i64 r) = pcs (l.set j { p with rev := r }) := by
  induction l generalizing j with
  | nil => simp at hp
  | cons a l ih =>
    cases j with
    | zero =>
      simp at hp
      subst hp
      rfl
    | succ j =>
      simp at hp
      have e1 : (j + 1) * 3 + 2 = (j * 3 + 2) + 3 := by omega
      rw [e1]
      show (a.cells ++ pcs l).set _ _ = a.cells ++ pcs (l.set j _)
      rw [← ih j hp]
      rfl
theorem pcs_set3 (l : List Pa) (j : Nat) (p : Pa) (hj : j < l.length) : (((pcs l).set (j * 3) (.string p.key)).set (j * 3 + 1) (.string p.val)).set (j * 3 + 2) (.int .i64 p.rev) = pcs (l.set j p) := by
  induction l generalizing j with
  | nil => simp at hj
  | cons a l ih =>
    cases j with
    | zero => rfl
    | succ j =>
      simp at hj
      have e1 : (j + 1) * 3 + 2 = (j * 3 + 2) + 3 := by omega
      have e2 : (j + 1) * 3 + 1 = (j * 3 + 1) + 3 := by omega
      have e3 : (j + 1) * 3 = (j * 3) + 3 := by omega
      rw [e1, e2, e3]
      show (((a.cells ++ pcs l).set _ _).set _ _).set _ _ = a.cells ++ pcs (l.set j _)
      rw [← ih j hj]
      rfl

section
variable {w : World} {B g m c : Nat} {l : List Pa} {A : Option Addr}
theorem OwnP.at (h : OwnP w B (.slice A m c) l) (h0 : 0 < l.length) : ∃ g cur, A = some ⟨g, 0, none⟩ ∧ B ≤ g ∧ g < w.heap.size ∧ Blk w g 42 cur := by
  obtain ⟨h1, h2⟩ := h
  rcases h2 with ⟨h3, h4⟩ | ⟨g', cap, cur, hv, hb, hh, _⟩
  · omega
  · injection hv with e1 _ _
    exact ⟨g', cur, e1, hb, (Array.getElem?_eq_some_iff.1 hh).1, hh⟩
theorem OwnP.setRev (h : OwnP w B (.slice (some ⟨g, 0, none⟩) m c) l) {j : Nat} {p : Pa} (hp : l[j]? = some p) (r : Int) :
    OwnP (w.setCell ⟨g, j * 3 + 2, none⟩ (.int .i64 r)) B (.slice (some ⟨g, 0, none⟩) m c) (l.set j { p with rev := r }) := by
  have hj : j < l.length := (List.getElem?_eq_some_iff.1 hp).1
  have := own_set (i := j * 3 + 2) h (.int .i64 r) (by omega)
  rw [pcs_rev l j r p hp] at this
  unfold OwnP
  rw [List.length_set]
  exact this
theorem OwnP.setPa (h : OwnP w B (.slice (some ⟨g, 0, none⟩) m c) l) {j : Nat} (hj : j < l.length) (p : Pa) :
    OwnP (((w.setCell ⟨g, j * 3, none⟩ (.string p.key)).setCell ⟨g, j * 3 + 1, none⟩ (.string p.val)).setCell ⟨g, j * 3 + 2, none⟩ (.int .i64 p.rev)) B (.slice (some ⟨g, 0, none⟩) m c) (l.set j p) := by
  have h1 := own_set (i := j * 3) h (.string p.key) (by omega)
  have h2 := own_set (i := j * 3 + 1) h1 (.string p.val) (by omega)
  have h3 := own_set (i := j * 3 + 2) h2 (.int .i64 p.rev) (by omega)
  rw [pcs_set3 l j p hj] at h3
  unfold OwnP
  rw [List.length_set]
  exact h3
end
end Go.Proofs.YtdclfdinhdaadaaGreatDoor
