/- FrameCut: the walk's claim at the arguments as they come in. -/
import Derived.Test.YtlkifobajdafpaaDoorFrameCut
import Derived.Test.YtlkifobajdafpaaDoorOpen
namespace Go.Proofs.YtlkifobajdafpaaDoor
open Go.ChangeShapes Go.WideShapes Go.ChangeAt Go.RowKit Go.Deep

section
variable {H : Type} {enc : TypeId × Value → H} {w : World} {spare : Nat → Bool} {held : Bool}
theorem open_byteslice {n : Nat} {cs : List Value} {y : DataW H × List MemPlace} (h : DataW.trod enc Tryd.prog w 0 spare held n 22 cs = some y) (hlt : ∀ x ∈ y.2, x.block < w.heap.size) :
    ∃ v : Option Addr × Nat × Nat, cs = [.slice v.1 v.2.1 v.2.2] ∧ v.2.1 ≤ v.2.2 ∧ ∃ l, Reads w (fun b => b < w.heap.size) 1 v.1 v.2.1 (vbs l) := by
  have hs : ∃ A k c, cs = [.slice A k c] := by
    rcases open_slice Tryd.underlying22 h with ⟨hcs, _⟩ | ⟨a, len, cap, m, n, D, Pl, hcs, _⟩
    · exact ⟨_, _, _, hcs⟩
    · exact ⟨_, _, _, hcs⟩
  obtain ⟨A, k, c, rfl⟩ := hs
  obtain ⟨d, hd1, hd2, hd3, hd4⟩ := open_bytes (a0 := A) (len := k) (cap := c) (d := y.1) (p := y.2) Tryd.underlying22 Tryd.underlying5 (by kernel_rfl) ⟨n, by simpa [Value.cells] using h⟩ hlt
  exact ⟨(A, k, c), rfl, hd2, d, hd4.here⟩

theorem open_bytess {a0 : Option Addr} {len cap : Nat} {d : DataW H} {p : List MemPlace} (h : DataW.Trod enc Tryd.prog w 0 spare held 34 (.slice a0 len cap) d p) (hlt : ∀ x ∈ p, x.block < w.heap.size) :
    ∃ (vs : List Value) (ls : List (List UInt8)), len ≤ cap ∧ cap ≤ maxLen ∧ Reads w (fun _ => True) 1 a0 len vs ∧ RowsB w (fun b => b < w.heap.size) vs ls := by
  obtain ⟨l, h1, h2, h3, h4, h5⟩ := open_rows (fun v : Option Addr × Nat × Nat => [Value.slice v.1 v.2.1 v.2.2]) (fun v => v.2.1 ≤ v.2.2 ∧ ∃ l, Reads w (fun b => b < w.heap.size) 1 v.1 v.2.1 (vbs l)) Tryd.underlying34 (show Tryd.prog.cellsOf 22 = 1 by kernel_rfl) h hlt (by omega) (fun _ _ => rfl) (fun n cs y hy hp => open_byteslice hy hp)
  rw [flatMap_one] at h5
  obtain ⟨ls, hl1, hl2⟩ := choose_list l.length (fun i (x : List UInt8) => ∀ v, l[i]? = some v → Reads w (fun b => b < w.heap.size) 1 v.1 v.2.1 (vbs x)) (fun i hi => by
    obtain ⟨x, hx⟩ := (h2 _ (List.getElem_mem hi)).2
    exact ⟨x, fun v hv => by rw [List.getElem?_eq_getElem hi] at hv; injection hv with hv; subst hv; exact hx⟩)
  refine ⟨_, ls, h3, h4, h5, by simp [hl1], fun i v x hv hx => ?_⟩
  rw [List.getElem?_map] at hv
  rcases hq : l[i]? with _ | q
  · rw [hq] at hv; cases hv
  · rw [hq] at hv
    injection hv with hv
    exact ⟨q.1, q.2.1, q.2.2, hv.symm, (h2 q (List.mem_of_getElem? hq)).1, hl2 i x hx q hq⟩
end

theorem cut_done (A : Option Addr) (n c : Nat) (vs : List Value) (ls : List (List UInt8)) (k : Int) (W : World) (_ : n ≤ c) (_ : c ≤ maxLen) (hr : Reads W (fun _ => True) 1 A n vs) (hb : RowsB W (fun b => b < W.heap.size) vs ls) (_ : (Lit.int .i64 k).wf = true) (hT : Tab W) :
    Calls Tryd.prog 6 #[.slice A n c, .int .i64 k] W fun e W' => e = .returned (.bool true) ∧ Below W.heap.size W W' := by
  suffices h : Calls Tryd.prog 6 #[.slice A n c, .int .i64 k] W fun e W' => e = .returned (.bool true) ∧ Mod Non W W' from h.mono fun e W' ⟨h1, h2⟩ => ⟨h1, h2.below'⟩
  by_cases h : 30 < n
  · exact cut_edge A n c k W hT h
  · exact cut_in A n c k _ _ vs ls W hr hb hT (by omega) fun _ h => h
end Go.Proofs.YtlkifobajdafpaaDoor
