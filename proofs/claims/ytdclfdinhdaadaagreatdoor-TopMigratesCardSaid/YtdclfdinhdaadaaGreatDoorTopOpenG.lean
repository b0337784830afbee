/- Arguments opened: a state, a row of commands. -/
import Derived.Test.YtdclfdinhdaadaaGreatDoorMgA
import Derived.Test.YtdclfdinhdaadaaGreatDoorMigrCheckG
import Derived.Deep.Strs
namespace Go.Proofs.YtdclfdinhdaadaaGreatDoor
open Go.ChangeShapes Go.WideShapes Go.ChangeAt Go.RowKit Go.Deep

theorem tlen3 {α : Type} {cs : List α} (h : cs.length = 3) : ∃ a0 a1 a2, cs = [a0, a1, a2] := by
  match cs, h with
  | [a0, a1, a2], _ => exact ⟨a0, a1, a2, rfl⟩
theorem tlen6 {α : Type} {cs : List α} (h : cs.length = 6) : ∃ a0 a1 a2 a3 a4 a5, cs = [a0, a1, a2, a3, a4, a5] := by
  match cs, h with
  | [a0, a1, a2, a3, a4, a5], _ => exact ⟨a0, a1, a2, a3, a4, a5, rfl⟩
theorem tlen7 {α : Type} {cs : List α} (h : cs.length = 7) : ∃ a0 a1 a2 a3 a4 a5 a6, cs = [a0, a1, a2, a3, a4, a5, a6] := by
  match cs, h with
  | [a0, a1, a2, a3, a4, a5, a6], _ => exact ⟨a0, a1, a2, a3, a4, a5, a6, rfl⟩
theorem tlen8 {α : Type} {cs : List α} (h : cs.length = 8) : ∃ a0 a1 a2 a3 a4 a5 a6 a7, cs = [a0, a1, a2, a3, a4, a5, a6, a7] := by
  match cs, h with
  | [a0, a1, a2, a3, a4, a5, a6, a7], _ => exact ⟨a0, a1, a2, a3, a4, a5, a6, a7, rfl⟩
section
variable {H : Type} {enc : TypeId × Value → H} {w : World} {spare : Nat → Bool} {held : Bool}
theorem ttrod_struct3 {P : Program} {base : Nat} {t : TypeId} {f0 f1 f2 : Field} {fuel : Nat} {cs : List Value} {x : DataW H × List MemPlace} (ht : P.underlying t = some (.struct #[f0, f1, f2])) (h : DataW.trod enc P w base spare held fuel t cs = some x) :
    ∃ y0 y1 y2 n, (∀ z, z ∈ y0.2 ∨ z ∈ y1.2 ∨ z ∈ y2.2 → z ∈ x.2) ∧ cs.length = P.cellsOf t ∧ DataW.trod enc P w base spare held n f0.type ((cs.drop f0.offset).take (P.cellsOf f0.type)) = some y0 ∧ DataW.trod enc P w base spare held n f1.type ((cs.drop f1.offset).take (P.cellsOf f1.type)) = some y1 ∧ DataW.trod enc P w base spare held n f2.type ((cs.drop f2.offset).take (P.cellsOf f2.type)) = some y2 := by
  obtain ⟨xs, n, _, rfl, hl, hlen, hf⟩ := DataW.trod_struct ht h
  match xs, hlen with
  | [y0, y1, y2], _ => exact ⟨y0, y1, y2, n, fun z hz => by simpa using hz, hl, by simpa using hf 0 f0 rfl, by simpa using hf 1 f1 rfl, by simpa using hf 2 f2 rfl⟩
theorem ttrod_struct6 {P : Program} {base : Nat} {t : TypeId} {f0 f1 f2 f3 f4 f5 : Field} {fuel : Nat} {cs : List Value} {x : DataW H × List MemPlace} (ht : P.underlying t = some (.struct #[f0, f1, f2, f3, f4, f5])) (h : DataW.trod enc P w base spare held fuel t cs = some x) :
    ∃ y0 y1 y2 y3 y4 y5 n, (∀ z, z ∈ y0.2 ∨ z ∈ y1.2 ∨ z ∈ y2.2 ∨ z ∈ y3.2 ∨ z ∈ y4.2 ∨ z ∈ y5.2 → z ∈ x.2) ∧ cs.length = P.cellsOf t ∧ DataW.trod enc P w base spare held n f0.type ((cs.drop f0.offset).take (P.cellsOf f0.type)) = some y0 ∧ DataW.trod enc P w base spare held n f1.type ((cs.drop f1.offset).take (P.cellsOf f1.type)) = some y1 ∧ DataW.trod enc P w base spare held n f2.type ((cs.drop f2.offset).take (P.cellsOf f2.type)) = some y2 ∧ DataW.trod enc P w base spare held n f3.type ((cs.drop f3.offset).take (P.cellsOf f3.type)) = some y3 ∧ DataW.trod enc P w base spare held n f4.type ((cs.drop f4.offset).take (P.cellsOf f4.type)) = some y4 ∧ DataW.trod enc P w base spare held n f5.type ((cs.drop f5.offset).take (P.cellsOf f5.type)) = some y5 := by
  obtain ⟨xs, n, _, rfl, hl, hlen, hf⟩ := DataW.trod_struct ht h
  match xs, hlen with
  | [y0, y1, y2, y3, y4, y5], _ => exact ⟨y0, y1, y2, y3, y4, y5, n, fun z hz => by simpa using hz, hl, by simpa using hf 0 f0 rfl, by simpa using hf 1 f1 rfl, by simpa using hf 2 f2 rfl, by simpa using hf 3 f3 rfl, by simpa using hf 4 f4 rfl, by simpa using hf 5 f5 rfl⟩
theorem ttrod_struct7 {P : Program} {base : Nat} {t : TypeId} {f0 f1 f2 f3 f4 f5 f6 : Field} {fuel : Nat} {cs : List Value} {x : DataW H × List MemPlace} (ht : P.underlying t = some (.struct #[f0, f1, f2, f3, f4, f5, f6])) (h : DataW.trod enc P w base spare held fuel t cs = some x) :
    ∃ y0 y1 y2 y3 y4 y5 y6 n, (∀ z, z ∈ y0.2 ∨ z ∈ y1.2 ∨ z ∈ y2.2 ∨ z ∈ y3.2 ∨ z ∈ y4.2 ∨ z ∈ y5.2 ∨ z ∈ y6.2 → z ∈ x.2) ∧ cs.length = P.cellsOf t ∧ DataW.trod enc P w base spare held n f0.type ((cs.drop f0.offset).take (P.cellsOf f0.type)) = some y0 ∧ DataW.trod enc P w base spare held n f1.type ((cs.drop f1.offset).take (P.cellsOf f1.type)) = some y1 ∧ DataW.trod enc P w base spare held n f2.type ((cs.drop f2.offset).take (P.cellsOf f2.type)) = some y2 ∧ DataW.trod enc P w base spare held n f3.type ((cs.drop f3.offset).take (P.cellsOf f3.type)) = some y3 ∧ DataW.trod enc P w base spare held n f4.type ((cs.drop f4.offset).take (P.cellsOf f4.type)) = some y4 ∧ DataW.trod enc P w base spare held n f5.type ((cs.drop f5.offset).take (P.cellsOf f5.type)) = some y5 ∧ DataW.trod enc P w base spare held n f6.type ((cs.drop f6.offset).take (P.cellsOf f6.type)) = some y6 := by
  obtain ⟨xs, n, _, rfl, hl, hlen, hf⟩ := DataW.trod_struct ht h
  match xs, hlen with
  | [y0, y1, y2, y3, y4, y5, y6], _ => exact ⟨y0, y1, y2, y3, y4, y5, y6, n, fun z hz => by simpa using hz, hl, by simpa using hf 0 f0 rfl, by simpa using hf 1 f1 rfl, by simpa using hf 2 f2 rfl, by simpa using hf 3 f3 rfl, by simpa using hf 4 f4 rfl, by simpa using hf 5 f5 rfl, by simpa using hf 6 f6 rfl⟩
theorem open_Pa {n : Nat} {cs : List Value} {y : DataW H × List MemPlace} (h : DataW.trod enc Tryz.prog w 0 spare held n 42 cs = some y) :
    ∃ q : Pa, cs = q.cells ∧ True := by
  obtain ⟨y0, y1, y2, m, _, hl, h0, h1, h2⟩ := ttrod_struct3 Tryz.underlying42 h
  rw [show Tryz.prog.cellsOf 42 = 3 by kernel_rfl] at hl
  obtain ⟨v0, v1, v2, rfl⟩ := tlen3 hl
  replace h0 : DataW.trod enc Tryz.prog w 0 spare held m 9 [v0] = some y0 := by
    have e : Tryz.prog.cellsOf 9 = 1 := by kernel_rfl
    simpa [e] using h0
  obtain ⟨x0, e0, _, _⟩ := DataW.trod_string Tryz.underlying9 h0
  injection e0 with e0 _
  subst e0
  replace h1 : DataW.trod enc Tryz.prog w 0 spare held m 9 [v1] = some y1 := by
    have e : Tryz.prog.cellsOf 9 = 1 := by kernel_rfl
    simpa [e] using h1
  obtain ⟨x1, e1, _, _⟩ := DataW.trod_string Tryz.underlying9 h1
  injection e1 with e1 _
  subst e1
  replace h2 : DataW.trod enc Tryz.prog w 0 spare held m 3 [v2] = some y2 := by
    have e : Tryz.prog.cellsOf 3 = 1 := by kernel_rfl
    simpa [e] using h2
  obtain ⟨x2, e2, _, _⟩ := DataW.trod_int Tryz.underlying3 h2
  injection e2 with e2 _
  subst e2
  exact ⟨⟨x0, x1, x2⟩, rfl, trivial⟩
theorem open_An {n : Nat} {cs : List Value} {y : DataW H × List MemPlace} (h : DataW.trod enc Tryz.prog w 0 spare held n 57 cs = some y) :
    ∃ q : An, cs = q.cells ∧ True := by
  obtain ⟨y0, y1, y2, y3, y4, y5, m, _, hl, h0, h1, h2, h3, h4, h5⟩ := ttrod_struct6 Tryz.underlying57 h
  rw [show Tryz.prog.cellsOf 57 = 6 by kernel_rfl] at hl
  obtain ⟨v0, v1, v2, v3, v4, v5, rfl⟩ := tlen6 hl
  replace h0 : DataW.trod enc Tryz.prog w 0 spare held m 3 [v0] = some y0 := by
    have e : Tryz.prog.cellsOf 3 = 1 := by kernel_rfl
    simpa [e] using h0
  obtain ⟨x0, e0, _, _⟩ := DataW.trod_int Tryz.underlying3 h0
  injection e0 with e0 _
  subst e0
  replace h1 : DataW.trod enc Tryz.prog w 0 spare held m 3 [v1] = some y1 := by
    have e : Tryz.prog.cellsOf 3 = 1 := by kernel_rfl
    simpa [e] using h1
  obtain ⟨x1, e1, _, _⟩ := DataW.trod_int Tryz.underlying3 h1
  injection e1 with e1 _
  subst e1
  replace h2 : DataW.trod enc Tryz.prog w 0 spare held m 30 [v2] = some y2 := by
    have e : Tryz.prog.cellsOf 30 = 1 := by kernel_rfl
    simpa [e] using h2
  obtain ⟨x2, e2, _, _⟩ := DataW.trod_int Tryz.underlying30 h2
  injection e2 with e2 _
  subst e2
  replace h3 : DataW.trod enc Tryz.prog w 0 spare held m 4 [v3] = some y3 := by
    have e : Tryz.prog.cellsOf 4 = 1 := by kernel_rfl
    simpa [e] using h3
  obtain ⟨x3, e3, _⟩ := DataW.trod_bool Tryz.underlying4 h3
  injection e3 with e3 _
  subst e3
  replace h4 : DataW.trod enc Tryz.prog w 0 spare held m 9 [v4] = some y4 := by
    have e : Tryz.prog.cellsOf 9 = 1 := by kernel_rfl
    simpa [e] using h4
  obtain ⟨x4, e4, _, _⟩ := DataW.trod_string Tryz.underlying9 h4
  injection e4 with e4 _
  subst e4
  replace h5 : DataW.trod enc Tryz.prog w 0 spare held m 3 [v5] = some y5 := by
    have e : Tryz.prog.cellsOf 3 = 1 := by kernel_rfl
    simpa [e] using h5
  obtain ⟨x5, e5, _, _⟩ := DataW.trod_int Tryz.underlying3 h5
  injection e5 with e5 _
  subst e5
  exact ⟨⟨x0, x1, x2, x3, x4, x5⟩, rfl, trivial⟩
theorem open_Cm {n : Nat} {cs : List Value} {y : DataW H × List MemPlace} (h : DataW.trod enc Tryz.prog w 0 spare held n 33 cs = some y) :
    ∃ q : Cm, cs = q.cells ∧ True := by
  obtain ⟨y0, y1, y2, y3, y4, y5, y6, m, _, hl, h0, h1, h2, h3, h4, h5, h6⟩ := ttrod_struct7 Tryz.underlying33 h
  rw [show Tryz.prog.cellsOf 33 = 7 by kernel_rfl] at hl
  obtain ⟨v0, v1, v2, v3, v4, v5, v6, rfl⟩ := tlen7 hl
  replace h0 : DataW.trod enc Tryz.prog w 0 spare held m 3 [v0] = some y0 := by
    have e : Tryz.prog.cellsOf 3 = 1 := by kernel_rfl
    simpa [e] using h0
  obtain ⟨x0, e0, _, _⟩ := DataW.trod_int Tryz.underlying3 h0
  injection e0 with e0 _
  subst e0
  replace h1 : DataW.trod enc Tryz.prog w 0 spare held m 3 [v1] = some y1 := by
    have e : Tryz.prog.cellsOf 3 = 1 := by kernel_rfl
    simpa [e] using h1
  obtain ⟨x1, e1, _, _⟩ := DataW.trod_int Tryz.underlying3 h1
  injection e1 with e1 _
  subst e1
  replace h2 : DataW.trod enc Tryz.prog w 0 spare held m 3 [v2] = some y2 := by
    have e : Tryz.prog.cellsOf 3 = 1 := by kernel_rfl
    simpa [e] using h2
  obtain ⟨x2, e2, _, _⟩ := DataW.trod_int Tryz.underlying3 h2
  injection e2 with e2 _
  subst e2
  replace h3 : DataW.trod enc Tryz.prog w 0 spare held m 9 [v3] = some y3 := by
    have e : Tryz.prog.cellsOf 9 = 1 := by kernel_rfl
    simpa [e] using h3
  obtain ⟨x3, e3, _, _⟩ := DataW.trod_string Tryz.underlying9 h3
  injection e3 with e3 _
  subst e3
  replace h4 : DataW.trod enc Tryz.prog w 0 spare held m 9 [v4] = some y4 := by
    have e : Tryz.prog.cellsOf 9 = 1 := by kernel_rfl
    simpa [e] using h4
  obtain ⟨x4, e4, _, _⟩ := DataW.trod_string Tryz.underlying9 h4
  injection e4 with e4 _
  subst e4
  replace h5 : DataW.trod enc Tryz.prog w 0 spare held m 9 [v5] = some y5 := by
    have e : Tryz.prog.cellsOf 9 = 1 := by kernel_rfl
    simpa [e] using h5
  obtain ⟨x5, e5, _, _⟩ := DataW.trod_string Tryz.underlying9 h5
  injection e5 with e5 _
  subst e5
  replace h6 : DataW.trod enc Tryz.prog w 0 spare held m 3 [v6] = some y6 := by
    have e : Tryz.prog.cellsOf 3 = 1 := by kernel_rfl
    simpa [e] using h6
  obtain ⟨x6, e6, _, _⟩ := DataW.trod_int Tryz.underlying3 h6
  injection e6 with e6 _
  subst e6
  exact ⟨⟨x0, x1, x2, x3, x4, x5, x6⟩, rfl, trivial⟩
theorem open_Se {n : Nat} {cs : List Value} {y : DataW H × List MemPlace} (h : DataW.trod enc Tryz.prog w 0 spare held n 68 cs = some y) :
    ∃ q : Se, cs = q.cells ∧ True := by
  obtain ⟨y0, y1, y2, m, _, hl, h0, h1, h2⟩ := ttrod_struct3 Tryz.underlying68 h
  rw [show Tryz.prog.cellsOf 68 = 8 by kernel_rfl] at hl
  obtain ⟨v0, v1, v2, v3, v4, v5, v6, v7, rfl⟩ := tlen8 hl
  replace h0 : DataW.trod enc Tryz.prog w 0 spare held m 3 [v0] = some y0 := by
    have e : Tryz.prog.cellsOf 3 = 1 := by kernel_rfl
    simpa [e] using h0
  obtain ⟨x0, e0, _, _⟩ := DataW.trod_int Tryz.underlying3 h0
  injection e0 with e0 _
  subst e0
  replace h1 : DataW.trod enc Tryz.prog w 0 spare held m 3 [v1] = some y1 := by
    have e : Tryz.prog.cellsOf 3 = 1 := by kernel_rfl
    simpa [e] using h1
  obtain ⟨x1, e1, _, _⟩ := DataW.trod_int Tryz.underlying3 h1
  injection e1 with e1 _
  subst e1
  replace h2 : DataW.trod enc Tryz.prog w 0 spare held m 57 [v2, v3, v4, v5, v6, v7] = some y2 := by
    have e : Tryz.prog.cellsOf 57 = 6 := by kernel_rfl
    simpa [e] using h2
  obtain ⟨q, hq, _⟩ := open_An h2
  refine ⟨⟨x0, x1, q⟩, ?_, trivial⟩
  rw [An.cells] at hq
  injection hq with q0 hq; injection hq with q1 hq; injection hq with q2 hq; injection hq with q3 hq; injection hq with q4 hq; injection hq with q5 _
  rw [q0, q1, q2, q3, q4, q5]; rfl

theorem open_cmds {a0 : Option Addr} {len cap : Nat} {d : DataW H} {p : List MemPlace} (h : DataW.Trod enc Tryz.prog w 0 spare held 26 (.slice a0 len cap) d p) (hlt : ∀ x ∈ p, x.block < w.heap.size) :
    ∃ l : List Cm, Reads w (fun _ => True) 7 a0 len (ccs l) := by
  obtain ⟨l, _, _, _, _, h5⟩ := open_rows Cm.cells (fun _ => True) Tryz.underlying26 (show Tryz.prog.cellsOf 33 = 7 by kernel_rfl) h hlt (by omega) (fun _ _ => rfl) (fun n cs y hy _ => open_Cm hy)
  exact ⟨l, h5⟩

set_option maxRecDepth 100000 in
theorem open_stateV {v : Value} {base : Nat} {d : DataW H} {p : List MemPlace} (hv : Value.okWide Tryz.prog w .any base 25 v) (h : DataW.Trod enc Tryz.prog w 0 spare held 25 v d p) (hlt : ∀ x ∈ p, x.block < w.heap.size) :
    ∃ (s : St) (A1 : Option Addr) (n1 c1 : Nat) (A2 : Option Addr) (n2 c2 : Nat), v = stv s.schema (.slice A1 n1 c1) (.slice A2 n2 c2) ∧ Reads w (fun _ => True) 3 A1 n1 (pcs s.pairs) ∧ Reads w (fun _ => True) 8 A2 n2 (ecs s.sess) := by
  obtain ⟨cs, rfl, _⟩ := okWide_struct Tryz.underlying25 hv
  obtain ⟨n, hn⟩ := h
  obtain ⟨y0, y1, y2, m, hsub, hl, h0, h1, h2⟩ := ttrod_struct3 Tryz.underlying25 hn
  rw [show Tryz.prog.cellsOf 25 = 3 by kernel_rfl] at hl
  obtain ⟨l⟩ := cs
  replace hl : l.length = 3 := hl
  obtain ⟨v0, v1, v2, rfl⟩ := tlen3 hl
  rw [show (Value.agg ⟨[v0, v1, v2]⟩).cells.toList = [v0, v1, v2] from rfl] at h0 h1 h2
  replace h0 : DataW.trod enc Tryz.prog w 0 spare held m 3 [v0] = some y0 := by
    have e : Tryz.prog.cellsOf 3 = 1 := by kernel_rfl
    simpa [e] using h0
  obtain ⟨x0, e0, _, _⟩ := DataW.trod_int Tryz.underlying3 h0
  injection e0 with e0 _
  subst e0
  replace h1 : DataW.trod enc Tryz.prog w 0 spare held m 22 [v1] = some y1 := by
    have e : Tryz.prog.cellsOf 22 = 1 := by kernel_rfl
    simpa [e, Value.cells] using h1
  have hs1 : ∃ A k c, v1 = .slice A k c := by
    rcases open_slice Tryz.underlying22 h1 with ⟨hcs, _⟩ | ⟨a, len, cap, m, n, D, Pl, hcs, _⟩
    · injection hcs with hcs _; exact ⟨_, _, _, hcs⟩
    · injection hcs with hcs _; exact ⟨_, _, _, hcs⟩
  obtain ⟨A1, k1, c1, rfl⟩ := hs1
  replace h2 : DataW.trod enc Tryz.prog w 0 spare held m 23 [v2] = some y2 := by
    have e : Tryz.prog.cellsOf 23 = 1 := by kernel_rfl
    simpa [e, Value.cells] using h2
  have hs2 : ∃ A k c, v2 = .slice A k c := by
    rcases open_slice Tryz.underlying23 h2 with ⟨hcs, _⟩ | ⟨a, len, cap, m, n, D, Pl, hcs, _⟩
    · injection hcs with hcs _; exact ⟨_, _, _, hcs⟩
    · injection hcs with hcs _; exact ⟨_, _, _, hcs⟩
  obtain ⟨A2, k2, c2, rfl⟩ := hs2
  obtain ⟨ps, _, _, _, _, r1⟩ := open_rows (a0 := A1) (len := k1) (cap := c1) (d := y1.1) (p := y1.2) Pa.cells (fun _ => True) Tryz.underlying22 (show Tryz.prog.cellsOf 42 = 3 by kernel_rfl) ⟨m, by simpa [Value.cells] using h1⟩ (fun x hx => hlt x (hsub x (.inr (.inl hx)))) (by omega) (fun _ _ => rfl) (fun n cs y hy _ => open_Pa hy)
  obtain ⟨ss, _, _, _, _, r2⟩ := open_rows (a0 := A2) (len := k2) (cap := c2) (d := y2.1) (p := y2.2) Se.cells (fun _ => True) Tryz.underlying23 (show Tryz.prog.cellsOf 68 = 8 by kernel_rfl) ⟨m, by simpa [Value.cells] using h2⟩ (fun x hx => hlt x (hsub x (.inr (.inr hx)))) (by omega) (fun _ _ => rfl) (fun n cs y hy _ => open_Se hy)
  exact ⟨⟨x0, ps, ss⟩, A1, k1, c1, A2, k2, c2, rfl, r1, r2⟩
end
end Go.Proofs.YtdclfdinhdaadaaGreatDoor
