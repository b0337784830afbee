/- A byte stored into a row of the call's own. -/
import Derived.Test.YtlkifobajdafpaaDoorArr4
namespace Go.Proofs.YtlkifobajdafpaaDoor
open Go.RowKit

theorem OwnB.set {w : World} {B g m c : Nat} {l : List UInt8} (h : OwnB w B (.slice (some ⟨g, 0, none⟩) m c) l) (j : Nat) (x : UInt8) : OwnB (w.setCell ⟨g, j, none⟩ (vb x)) B (.slice (some ⟨g, 0, none⟩) m c) (l.set j x) := by
  obtain ⟨h1, h2⟩ := h
  rcases h2 with ⟨h3, _⟩ | ⟨g', cap, cur, hv, hb, hh, hn, hm, hs, ht⟩
  · cases h3
  · injection hv with e1 e2 e3
    injection e1 with e1
    injection e1 with e1 _ _
    subst e1 e2 e3
    have hb' : Blk w g 5 cur := hh
    refine ⟨by simp [vbs], .inr ⟨g, c, cur.setIfInBounds j (vb x), by rw [List.length_set], hb, hb'.set_ j (vb x), by rw [List.length_set]; exact hn, hm, by rw [Array.size_setIfInBounds]; exact hs, ?_⟩⟩
    rw [List.length_set, Array.toList_setIfInBounds, List.take_set, ht]
    simp [vbs, List.map_set]
end Go.Proofs.YtlkifobajdafpaaDoor
