/- Arguments opened: a packet, a row of steps. -/
import Derived.Test.YtlkifobajdafpaaBagSteps
import Derived.Deep.Strs
namespace Go.Proofs.Ytlkifobajdafpaa
open Go.ChangeShapes Go.WideShapes Go.ChangeAt Go.RowKit Go.Deep

section
variable {H : Type} {enc : TypeId × Value → H} {w : World} {spare : Nat → Bool} {held : Bool}

/-- what a packet that came in is -/
def OkPv (w : World) (q : Pv) : Prop := (∃ d, Reads w (fun _ => True) 1 q.A q.n (vbs d)) ∧ q.n ≤ q.c ∧ q.c ≤ maxLen ∧ (Lit.int .i64 q.f).wf = true ∧ (Lit.int .i64 q.t).wf = true

theorem len3 {α : Type} {cs : List α} (h : cs.length = 3) : ∃ a b c, cs = [a, b, c] := by
  match cs, h with
  | [a, b, c], _ => exact ⟨a, b, c, rfl⟩
theorem len5 {α : Type} {cs : List α} (h : cs.length = 5) : ∃ a b c d e, cs = [a, b, c, d, e] := by
  match cs, h with
  | [a, b, c, d, e], _ => exact ⟨a, b, c, d, e, rfl⟩

theorem open_packet {n : Nat} {cs : List Value} {y : DataW H × List MemPlace} (h : DataW.trod enc Try.prog w 0 spare held n 48 cs = some y) (hlt : ∀ x ∈ y.2, x.block < w.heap.size) :
    ∃ q : Pv, cs = q.cells ∧ OkPv w q := by
  obtain ⟨y0, y1, y2, m, rfl, hl, h0, h1, h2⟩ := trod_struct3 Try.underlying48 h
  rw [show Try.prog.cellsOf 48 = 3 by kernel_rfl] at hl
  obtain ⟨v0, v1, v2, rfl⟩ := len3 hl
  replace h0 : DataW.trod enc Try.prog w 0 spare held m 3 [v0] = some y0 := by
    have e : Try.prog.cellsOf 3 = 1 := by kernel_rfl
    simpa [e] using h0
  replace h1 : DataW.trod enc Try.prog w 0 spare held m 3 [v1] = some y1 := by
    have e : Try.prog.cellsOf 3 = 1 := by kernel_rfl
    simpa [e] using h1
  replace h2 : DataW.trod enc Try.prog w 0 spare held m 31 [v2] = some y2 := by
    have e : Try.prog.cellsOf 31 = 1 := by kernel_rfl
    simpa [e] using h2
  obtain ⟨f, e0, _, wf0⟩ := DataW.trod_int Try.underlying3 h0
  obtain ⟨t, e1, _, wf1⟩ := DataW.trod_int Try.underlying3 h1
  injection e0 with e0 _; injection e1 with e1 _
  subst e0 e1
  have hs : ∃ A k c, v2 = .slice A k c := by
    rcases open_slice Try.underlying31 h2 with ⟨hcs, _⟩ | ⟨a, len, cap, m, n, D, Pl, hcs, _⟩
    · injection hcs with hcs _; exact ⟨_, _, _, hcs⟩
    · injection hcs with hcs _; exact ⟨_, _, _, hcs⟩
  obtain ⟨A, k, c, rfl⟩ := hs
  obtain ⟨d, hd1, hd2, hd3, hd4⟩ := open_bytes (a0 := A) (len := k) (cap := c) (d := y2.1) (p := y2.2) Try.underlying31 Try.underlying5 (by kernel_rfl) ⟨m, by simpa [Value.cells] using h2⟩ (fun x hx => hlt x (by simp; exact .inr (.inr hx)))
  exact ⟨⟨f, t, A, k, c⟩, rfl, ⟨d, hd4⟩, hd2, hd3, wf0, wf1⟩

theorem open_packetV {v : Value} {base : Nat} {d : DataW H} {p : List MemPlace} (hv : Value.okWide Try.prog w .any base 48 v) (h : DataW.Trod enc Try.prog w 0 spare held 48 v d p) (hlt : ∀ x ∈ p, x.block < w.heap.size) :
    ∃ q : Pv, v = .agg #[.int .i64 q.f, .int .i64 q.t, .slice q.A q.n q.c] ∧ OkPv w q := by
  obtain ⟨cs, rfl, _⟩ := okWide_struct Try.underlying48 hv
  obtain ⟨n, hn⟩ := h
  obtain ⟨q, hq, hok⟩ := open_packet hn hlt
  refine ⟨q, ?_, hok⟩
  obtain ⟨l⟩ := cs
  have hq' : l = q.cells := hq
  rw [hq']; rfl

theorem open_step {n : Nat} {cs : List Value} {y : DataW H × List MemPlace} (h : DataW.trod enc Try.prog w 0 spare held n 52 cs = some y) (hlt : ∀ x ∈ y.2, x.block < w.heap.size) :
    ∃ s : Sv, cs = s.cells ∧ OkPv w s.q := by
  obtain ⟨y0, y1, y2, m, rfl, hl, h0, h1, h2⟩ := trod_struct3 Try.underlying52 h
  rw [show Try.prog.cellsOf 52 = 5 by kernel_rfl] at hl
  obtain ⟨v0, v1, v2, v3, v4, rfl⟩ := len5 hl
  replace h0 : DataW.trod enc Try.prog w 0 spare held m 3 [v0] = some y0 := by
    have e : Try.prog.cellsOf 3 = 1 := by kernel_rfl
    simpa [e] using h0
  replace h1 : DataW.trod enc Try.prog w 0 spare held m 3 [v1] = some y1 := by
    have e : Try.prog.cellsOf 3 = 1 := by kernel_rfl
    simpa [e] using h1
  replace h2 : DataW.trod enc Try.prog w 0 spare held m 48 [v2, v3, v4] = some y2 := by
    have e : Try.prog.cellsOf 48 = 3 := by kernel_rfl
    simpa [e] using h2
  obtain ⟨k, e0, _, wf0⟩ := DataW.trod_int Try.underlying3 h0
  obtain ⟨i, e1, _, wf1⟩ := DataW.trod_int Try.underlying3 h1
  injection e0 with e0 _; injection e1 with e1 _
  subst e0 e1
  obtain ⟨q, hq, hok⟩ := open_packet h2 (fun x hx => hlt x (by simp; exact .inr (.inr hx)))
  refine ⟨⟨k, i, q⟩, ?_, hok⟩
  rw [Pv.cells] at hq
  injection hq with q0 hq; injection hq with q1 hq; injection hq with q2 _
  rw [q0, q1, q2]; rfl

theorem open_steps {a0 : Option Addr} {len cap : Nat} {d : DataW H} {p : List MemPlace} (h : DataW.Trod enc Try.prog w 0 spare held 42 (.slice a0 len cap) d p) (hlt : ∀ x ∈ p, x.block < w.heap.size) :
    ∃ ss : List Sv, (∀ s ∈ ss, OkPv w s.q) ∧ len ≤ cap ∧ cap ≤ maxLen ∧ Reads w (fun _ => True) 5 a0 len (scs ss) := by
  obtain ⟨l, _, h2, h3, h4, h5⟩ := open_rows Sv.cells (fun s => OkPv w s.q) Try.underlying42 (show Try.prog.cellsOf 52 = 5 by kernel_rfl) h hlt (by omega) (fun _ _ => rfl) (fun n cs y hy hp => open_step hy hp)
  exact ⟨l, h2, h3, h4, h5⟩
end
end Go.Proofs.Ytlkifobajdafpaa
