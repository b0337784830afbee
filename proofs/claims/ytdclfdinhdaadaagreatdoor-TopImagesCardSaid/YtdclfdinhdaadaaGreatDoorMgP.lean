/- Arguments opened: a state, a row of commands. -/
import Derived.Test.YtdclfdinhdaadaaGreatDoorMgA
import Derived.Test.YtdclfdinhdaadaaGreatDoorMigrCheckG
import Derived.Deep.Strs
import Derived.Test.YtdclfdinhdaadaaGreatDoorCards
import Derived.Test.YtdclfdinhdaadaaGreatDoorTie
import Derived.Test.YtdclfdinhdaadaaGreatDoorTopIG
import Derived.Deep.DeepHandedRow
import Derived.Lib.LaidU8
namespace Go.Proofs.YtdclfdinhdaadaaGreatDoor
open Go.ChangeShapes Go.WideShapes Go.ChangeAt Go.RowKit Go.Deep

theorem tlen3 {α : Type} {cs : List α} (h : cs.length = 3) : ∃ a0 a1 a2, cs = [a0, a1, a2] := by
  match cs, h with
  | [a0, a1, a2], _ => exact ⟨a0, a1, a2, rfl⟩
theorem tlen6 {α : Type} {cs : List α} (h : cs.length = 6) : ∃ a0 a1 a2 a3 a4 a5, cs = [a0, a1, a2, a3, a4, a5] := by
  match cs, h with
  | [a0, a1, a2, a3, a4, a5], _ => exact ⟨a0, a1, a2, a3, a4, a5, rfl⟩
theorem tlen7 {α : Type} {cs : List α} (h : cs.length = 7) : ∃ a0 a1 a2 a3 a4 a5 a6, cs = [a0, a1, a2, a3, a4, a5, a6] := by
  match cs, h with
  | [a0, a1, a2, a3, a4, a5, a6], _ => exact ⟨a0, a1, a2, a3, a4, a5, a6, rfl⟩
theorem tlen8 {α : Type} {cs : List α} (h : cs.length = 8) : ∃ a0 a1 a2 a3 a4 a5 a6 a7, cs = [a0, a1, a2, a3, a4, a5, a6, a7] := by
  match cs, h with
  | [a0, a1, a2, a3, a4, a5, a6, a7], _ => exact ⟨a0, a1, a2, a3, a4, a5, a6, a7, rfl⟩
section
variable {H : Type} {enc : TypeId × Value → H} {w : World} {spare : Nat → Bool} {held : Bool}
theorem ttrod_struct3 {P : Program} {base : Nat} {t : TypeId} {f0 f1 f2 : Field} {fuel : Nat} {cs : List Value} {x : DataW H × List MemPlace} (ht : P.underlying t = some (.struct #[f0, f1, f2])) (h : DataW.trod enc P w base spare held fuel t cs = some x) :
    ∃ y0 y1 y2 n, (∀ z, z ∈ y0.2 ∨ z ∈ y1.2 ∨ z ∈ y2.2 → z ∈ x.2) ∧ cs.length = P.cellsOf t ∧ DataW.trod enc P w base spare held n f0.type ((cs.drop f0.offset).take (P.cellsOf f0.type)) = some y0 ∧ DataW.trod enc P w base spare held n f1.type ((cs.drop f1.offset).take (P.cellsOf f1.type)) = some y1 ∧ DataW.trod enc P w base spare held n f2.type ((cs.drop f2.offset).take (P.cellsOf f2.type)) = some y2 := by
  obtain ⟨xs, n, _, rfl, hl, hlen, hf⟩ := DataW.trod_struct ht h
  match xs, hlen with
  | [y0, y1, y2], _ => exact ⟨y0, y1, y2, n, fun z hz => by simpa using hz, hl, by simpa using hf 0 f0 rfl, by simpa using hf 1 f1 rfl, by simpa using hf 2 f2 rfl⟩
theorem ttrod_struct6 {P : Program} {base : Nat} {t : TypeId} {f0 f1 f2 f3 f4 f5 : Field} {fuel : Nat} {cs : List Value} {x : DataW H × List MemPlace} (ht : P.underlying t = some (.struct #[f0, f1, f2, f3, f4, f5])) (h : DataW.trod enc P w base spare held fuel t cs = some x) :
    ∃ y0 y1 y2 y3 y4 y5 n, (∀ z, z ∈ y0.2 ∨ z ∈ y1.2 ∨ z ∈ y2.2 ∨ z ∈ y3.2 ∨ z ∈ y4.2 ∨ z ∈ y5.2 → z ∈ x.2) ∧ cs.length = P.cellsOf t ∧ DataW.trod enc P w base spare held n f0.type ((cs.drop f0.offset).take (P.cellsOf f0.type)) = some y0 ∧ DataW.trod enc P w base spare held n f1.type ((cs.drop f1.offset).take (P.cellsOf f1.type)) = some y1 ∧ DataW.trod enc P w base spare held n f2.type ((cs.drop f2.offset).take (P.cellsOf f2.type)) = some y2 ∧ DataW.trod enc P w base spare held n f3.type ((cs.drop f3.offset).take (P.cellsOf f3.type)) = some y3 ∧ DataW.trod enc P w base spare held n f4.type ((cs.drop f4.offset).take (P.cellsOf f4.type)) = some y4 ∧ DataW.trod enc P w base spare held n f5.type ((cs.drop f5.offset).take (P.cellsOf f5.type)) = some y5 := by
  obtain ⟨xs, n, _, rfl, hl, hlen, hf⟩ := DataW.trod_struct ht h
  match xs, hlen with
  | [y0, y1, y2, y3, y4, y5], _ => exact ⟨y0, y1, y2, y3, y4, y5, n, fun z hz => by simpa using hz, hl, by simpa using hf 0 f0 rfl, by simpa using hf 1 f1 rfl, by simpa using hf 2 f2 rfl, by simpa using hf 3 f3 rfl, by simpa using hf 4 f4 rfl, by simpa using hf 5 f5 rfl⟩
theorem ttrod_struct7 {P : Program} {base : Nat} {t : TypeId} {f0 f1 f2 f3 f4 f5 f6 : Field} {fuel : Nat} {cs : List Value} {x : DataW H × List MemPlace} (ht : P.underlying t = some (.struct #[f0, f1, f2, f3, f4, f5, f6])) (h : DataW.trod enc P w base spare held fuel t cs = some x) :
    ∃ y0 y1 y2 y3 y4 y5 y6 n, (∀ z, z ∈ y0.2 ∨ z ∈ y1.2 ∨ z ∈ y2.2 ∨ z ∈ y3.2 ∨ z ∈ y4.2 ∨ z ∈ y5.2 ∨ z ∈ y6.2 → z ∈ x.2) ∧ cs.length = P.cellsOf t ∧ DataW.trod enc P w base spare held n f0.type ((cs.drop f0.offset).take (P.cellsOf f0.type)) = some y0 ∧ DataW.trod enc P w base spare held n f1.type ((cs.drop f1.offset).take (P.cellsOf f1.type)) = some y1 ∧ DataW.trod enc P w base spare held n f2.type ((cs.drop f2.offset).take (P.cellsOf f2.type)) = some y2 ∧ DataW.trod enc P w base spare held n f3.type ((cs.drop f3.offset).take (P.cellsOf f3.type)) = some y3 ∧ DataW.trod enc P w base spare held n f4.type ((cs.drop f4.offset).take (P.cellsOf f4.type)) = some y4 ∧ DataW.trod enc P w base spare held n f5.type ((cs.drop f5.offset).take (P.cellsOf f5.type)) = some y5 ∧ DataW.trod enc P w base spare held n f6.type ((cs.drop f6.offset).take (P.cellsOf f6.type)) = some y6 := by
  obtain ⟨xs, n, _, rfl, hl, hlen, hf⟩ := DataW.trod_struct ht h
  match xs, hlen with
  | [y0, y1, y2, y3, y4, y5, y6], _ => exact ⟨y0, y1, y2, y3, y4, y5, y6, n, fun z hz => by simpa using hz, hl, by simpa using hf 0 f0 rfl, by simpa using hf 1 f1 rfl, by simpa using hf 2 f2 rfl, by simpa using hf 3 f3 rfl, by simpa using hf 4 f4 rfl, by simpa using hf 5 f5 rfl, by simpa using hf 6 f6 rfl⟩
theorem open_Pa {n : Nat} {cs : List Value} {y : DataW H × List MemPlace} (h : DataW.trod enc Tryz.prog w 0 spare held n 42 cs = some y) :
    ∃ q : Pa, cs = q.cells ∧ True := by
  obtain ⟨y0, y1, y2, m, _, hl, h0, h1, h2⟩ := ttrod_struct3 Tryz.underlying42 h
  rw [show Tryz.prog.cellsOf 42 = 3 by kernel_rfl] at hl
  obtain ⟨v0, v1, v2, rfl⟩ := tlen3 hl
  replace h0 : DataW.trod enc Tryz.prog w 0 spare held m 9 [v0] = some y0 := by
    have e : Tryz.prog.cellsOf 9 = 1 := by kernel_rfl
    simpa [e] using h0
  obtain ⟨x0, e0, _, _⟩ := DataW.trod_string Tryz.underlying9 h0
  injection e0 with e0 _
  subst e0
  replace h1 : DataW.trod enc Tryz.prog w 0 spare held m 9 [v1] = some y1 := by
    have e : Tryz.prog.cellsOf 9 = 1 := by kernel_rfl
    simpa [e] using h1
  obtain ⟨x1, e1, _, _⟩ := DataW.trod_string Tryz.underlying9 h1
  injection e1 with e1 _
  subst e1
  replace h2 : DataW.trod enc Tryz.prog w 0 spare held m 3 [v2] = some y2 := by
    have e : Tryz.prog.cellsOf 3 = 1 := by kernel_rfl
    simpa [e] using h2
  obtain ⟨x2, e2, _, _⟩ := DataW.trod_int Tryz.underlying3 h2
  injection e2 with e2 _
  subst e2
  exact ⟨⟨x0, x1, x2⟩, rfl, trivial⟩
theorem open_An {n : Nat} {cs : List Value} {y : DataW H × List MemPlace} (h : DataW.trod enc Tryz.prog w 0 spare held n 57 cs = some y) :
    ∃ q : An, cs = q.cells ∧ True := by
  obtain ⟨y0, y1, y2, y3, y4, y5, m, _, hl, h0, h1, h2, h3, h4, h5⟩ := ttrod_struct6 Tryz.underlying57 h
  rw [show Tryz.prog.cellsOf 57 = 6 by kernel_rfl] at hl
  obtain ⟨v0, v1, v2, v3, v4, v5, rfl⟩ := tlen6 hl
  replace h0 : DataW.trod enc Tryz.prog w 0 spare held m 3 [v0] = some y0 := by
    have e : Tryz.prog.cellsOf 3 = 1 := by kernel_rfl
    simpa [e] using h0
  obtain ⟨x0, e0, _, _⟩ := DataW.trod_int Tryz.underlying3 h0
  injection e0 with e0 _
  subst e0
  replace h1 : DataW.trod enc Tryz.prog w 0 spare held m 3 [v1] = some y1 := by
    have e : Tryz.prog.cellsOf 3 = 1 := by kernel_rfl
    simpa [e] using h1
  obtain ⟨x1, e1, _, _⟩ := DataW.trod_int Tryz.underlying3 h1
  injection e1 with e1 _
  subst e1
  replace h2 : DataW.trod enc Tryz.prog w 0 spare held m 30 [v2] = some y2 := by
    have e : Tryz.prog.cellsOf 30 = 1 := by kernel_rfl
    simpa [e] using h2
  obtain ⟨x2, e2, _, _⟩ := DataW.trod_int Tryz.underlying30 h2
  injection e2 with e2 _
  subst e2
  replace h3 : DataW.trod enc Tryz.prog w 0 spare held m 4 [v3] = some y3 := by
    have e : Tryz.prog.cellsOf 4 = 1 := by kernel_rfl
    simpa [e] using h3
  obtain ⟨x3, e3, _⟩ := DataW.trod_bool Tryz.underlying4 h3
  injection e3 with e3 _
  subst e3
  replace h4 : DataW.trod enc Tryz.prog w 0 spare held m 9 [v4] = some y4 := by
    have e : Tryz.prog.cellsOf 9 = 1 := by kernel_rfl
    simpa [e] using h4
  obtain ⟨x4, e4, _, _⟩ := DataW.trod_string Tryz.underlying9 h4
  injection e4 with e4 _
  subst e4
  replace h5 : DataW.trod enc Tryz.prog w 0 spare held m 3 [v5] = some y5 := by
    have e : Tryz.prog.cellsOf 3 = 1 := by kernel_rfl
    simpa [e] using h5
  obtain ⟨x5, e5, _, _⟩ := DataW.trod_int Tryz.underlying3 h5
  injection e5 with e5 _
  subst e5
  exact ⟨⟨x0, x1, x2, x3, x4, x5⟩, rfl, trivial⟩
theorem open_Cm {n : Nat} {cs : List Value} {y : DataW H × List MemPlace} (h : DataW.trod enc Tryz.prog w 0 spare held n 33 cs = some y) :
    ∃ q : Cm, cs = q.cells ∧ True := by
  obtain ⟨y0, y1, y2, y3, y4, y5, y6, m, _, hl, h0, h1, h2, h3, h4, h5, h6⟩ := ttrod_struct7 Tryz.underlying33 h
  rw [show Tryz.prog.cellsOf 33 = 7 by kernel_rfl] at hl
  obtain ⟨v0, v1, v2, v3, v4, v5, v6, rfl⟩ := tlen7 hl
  replace h0 : DataW.trod enc Tryz.prog w 0 spare held m 3 [v0] = some y0 := by
    have e : Tryz.prog.cellsOf 3 = 1 := by kernel_rfl
    simpa [e] using h0
  obtain ⟨x0, e0, _, _⟩ := DataW.trod_int Tryz.underlying3 h0
  injection e0 with e0 _
  subst e0
  replace h1 : DataW.trod enc Tryz.prog w 0 spare held m 3 [v1] = some y1 := by
    have e : Tryz.prog.cellsOf 3 = 1 := by kernel_rfl
    simpa [e] using h1
  obtain ⟨x1, e1, _, _⟩ := DataW.trod_int Tryz.underlying3 h1
  injection e1 with e1 _
  subst e1
  replace h2 : DataW.trod enc Tryz.prog w 0 spare held m 3 [v2] = some y2 := by
    have e : Tryz.prog.cellsOf 3 = 1 := by kernel_rfl
    simpa [e] using h2
  obtain ⟨x2, e2, _, _⟩ := DataW.trod_int Tryz.underlying3 h2
  injection e2 with e2 _
  subst e2
  replace h3 : DataW.trod enc Tryz.prog w 0 spare held m 9 [v3] = some y3 := by
    have e : Tryz.prog.cellsOf 9 = 1 := by kernel_rfl
    simpa [e] using h3
  obtain ⟨x3, e3, _, _⟩ := DataW.trod_string Tryz.underlying9 h3
  injection e3 with e3 _
  subst e3
  replace h4 : DataW.trod enc Tryz.prog w 0 spare held m 9 [v4] = some y4 := by
    have e : Tryz.prog.cellsOf 9 = 1 := by kernel_rfl
    simpa [e] using h4
  obtain ⟨x4, e4, _, _⟩ := DataW.trod_string Tryz.underlying9 h4
  injection e4 with e4 _
  subst e4
  replace h5 : DataW.trod enc Tryz.prog w 0 spare held m 9 [v5] = some y5 := by
    have e : Tryz.prog.cellsOf 9 = 1 := by kernel_rfl
    simpa [e] using h5
  obtain ⟨x5, e5, _, _⟩ := DataW.trod_string Tryz.underlying9 h5
  injection e5 with e5 _
  subst e5
  replace h6 : DataW.trod enc Tryz.prog w 0 spare held m 3 [v6] = some y6 := by
    have e : Tryz.prog.cellsOf 3 = 1 := by kernel_rfl
    simpa [e] using h6
  obtain ⟨x6, e6, _, _⟩ := DataW.trod_int Tryz.underlying3 h6
  injection e6 with e6 _
  subst e6
  exact ⟨⟨x0, x1, x2, x3, x4, x5, x6⟩, rfl, trivial⟩
theorem open_Se {n : Nat} {cs : List Value} {y : DataW H × List MemPlace} (h : DataW.trod enc Tryz.prog w 0 spare held n 68 cs = some y) :
    ∃ q : Se, cs = q.cells ∧ True := by
  obtain ⟨y0, y1, y2, m, _, hl, h0, h1, h2⟩ := ttrod_struct3 Tryz.underlying68 h
  rw [show Tryz.prog.cellsOf 68 = 8 by kernel_rfl] at hl
  obtain ⟨v0, v1, v2, v3, v4, v5, v6, v7, rfl⟩ := tlen8 hl
  replace h0 : DataW.trod enc Tryz.prog w 0 spare held m 3 [v0] = some y0 := by
    have e : Tryz.prog.cellsOf 3 = 1 := by kernel_rfl
    simpa [e] using h0
  obtain ⟨x0, e0, _, _⟩ := DataW.trod_int Tryz.underlying3 h0
  injection e0 with e0 _
  subst e0
  replace h1 : DataW.trod enc Tryz.prog w 0 spare held m 3 [v1] = some y1 := by
    have e : Tryz.prog.cellsOf 3 = 1 := by kernel_rfl
    simpa [e] using h1
  obtain ⟨x1, e1, _, _⟩ := DataW.trod_int Tryz.underlying3 h1
  injection e1 with e1 _
  subst e1
  replace h2 : DataW.trod enc Tryz.prog w 0 spare held m 57 [v2, v3, v4, v5, v6, v7] = some y2 := by
    have e : Tryz.prog.cellsOf 57 = 6 := by kernel_rfl
    simpa [e] using h2
  obtain ⟨q, hq, _⟩ := open_An h2
  refine ⟨⟨x0, x1, q⟩, ?_, trivial⟩
  rw [An.cells] at hq
  injection hq with q0 hq; injection hq with q1 hq; injection hq with q2 hq; injection hq with q3 hq; injection hq with q4 hq; injection hq with q5 _
  rw [q0, q1, q2, q3, q4, q5]; rfl

theorem open_cmds {a0 : Option Addr} {len cap : Nat} {d : DataW H} {p : List MemPlace} (h : DataW.Trod enc Tryz.prog w 0 spare held 26 (.slice a0 len cap) d p) (hlt : ∀ x ∈ p, x.block < w.heap.size) :
    ∃ l : List Cm, Reads w (fun _ => True) 7 a0 len (ccs l) := by
  obtain ⟨l, _, _, _, _, h5⟩ := open_rows Cm.cells (fun _ => True) Tryz.underlying26 (show Tryz.prog.cellsOf 33 = 7 by kernel_rfl) h hlt (by omega) (fun _ _ => rfl) (fun n cs y hy _ => open_Cm hy)
  exact ⟨l, h5⟩

set_option maxRecDepth 100000 in
theorem open_stateV {v : Value} {base : Nat} {d : DataW H} {p : List MemPlace} (hv : Value.okWide Tryz.prog w .any base 25 v) (h : DataW.Trod enc Tryz.prog w 0 spare held 25 v d p) (hlt : ∀ x ∈ p, x.block < w.heap.size) :
    ∃ (s : St) (A1 : Option Addr) (n1 c1 : Nat) (A2 : Option Addr) (n2 c2 : Nat), v = stv s.schema (.slice A1 n1 c1) (.slice A2 n2 c2) ∧ Reads w (fun _ => True) 3 A1 n1 (pcs s.pairs) ∧ Reads w (fun _ => True) 8 A2 n2 (ecs s.sess) := by
  obtain ⟨cs, rfl, _⟩ := okWide_struct Tryz.underlying25 hv
  obtain ⟨n, hn⟩ := h
  obtain ⟨y0, y1, y2, m, hsub, hl, h0, h1, h2⟩ := ttrod_struct3 Tryz.underlying25 hn
  rw [show Tryz.prog.cellsOf 25 = 3 by kernel_rfl] at hl
  obtain ⟨l⟩ := cs
  replace hl : l.length = 3 := hl
  obtain ⟨v0, v1, v2, rfl⟩ := tlen3 hl
  rw [show (Value.agg ⟨[v0, v1, v2]⟩).cells.toList = [v0, v1, v2] from rfl] at h0 h1 h2
  replace h0 : DataW.trod enc Tryz.prog w 0 spare held m 3 [v0] = some y0 := by
    have e : Tryz.prog.cellsOf 3 = 1 := by kernel_rfl
    simpa [e] using h0
  obtain ⟨x0, e0, _, _⟩ := DataW.trod_int Tryz.underlying3 h0
  injection e0 with e0 _
  subst e0
  replace h1 : DataW.trod enc Tryz.prog w 0 spare held m 22 [v1] = some y1 := by
    have e : Tryz.prog.cellsOf 22 = 1 := by kernel_rfl
    simpa [e, Value.cells] using h1
  have hs1 : ∃ A k c, v1 = .slice A k c := by
    rcases open_slice Tryz.underlying22 h1 with ⟨hcs, _⟩ | ⟨a, len, cap, m, n, D, Pl, hcs, _⟩
    · injection hcs with hcs _; exact ⟨_, _, _, hcs⟩
    · injection hcs with hcs _; exact ⟨_, _, _, hcs⟩
  obtain ⟨A1, k1, c1, rfl⟩ := hs1
  replace h2 : DataW.trod enc Tryz.prog w 0 spare held m 23 [v2] = some y2 := by
    have e : Tryz.prog.cellsOf 23 = 1 := by kernel_rfl
    simpa [e, Value.cells] using h2
  have hs2 : ∃ A k c, v2 = .slice A k c := by
    rcases open_slice Tryz.underlying23 h2 with ⟨hcs, _⟩ | ⟨a, len, cap, m, n, D, Pl, hcs, _⟩
    · injection hcs with hcs _; exact ⟨_, _, _, hcs⟩
    · injection hcs with hcs _; exact ⟨_, _, _, hcs⟩
  obtain ⟨A2, k2, c2, rfl⟩ := hs2
  obtain ⟨ps, _, _, _, _, r1⟩ := open_rows (a0 := A1) (len := k1) (cap := c1) (d := y1.1) (p := y1.2) Pa.cells (fun _ => True) Tryz.underlying22 (show Tryz.prog.cellsOf 42 = 3 by kernel_rfl) ⟨m, by simpa [Value.cells] using h1⟩ (fun x hx => hlt x (hsub x (.inr (.inl hx)))) (by omega) (fun _ _ => rfl) (fun n cs y hy _ => open_Pa hy)
  obtain ⟨ss, _, _, _, _, r2⟩ := open_rows (a0 := A2) (len := k2) (cap := c2) (d := y2.1) (p := y2.2) Se.cells (fun _ => True) Tryz.underlying23 (show Tryz.prog.cellsOf 68 = 8 by kernel_rfl) ⟨m, by simpa [Value.cells] using h2⟩ (fun x hx => hlt x (hsub x (.inr (.inr hx)))) (by omega) (fun _ _ => rfl) (fun n cs y hy _ => open_Se hy)
  exact ⟨⟨x0, ps, ss⟩, A1, k1, c1, A2, k2, c2, rfl, r1, r2⟩
end
end Go.Proofs.YtdclfdinhdaadaaGreatDoor

/- TopImages: for every input the call returns true, and each argument reads as it read before, in every world that holds the two tables of the library; the tables are tied to the program's text. No other condition. -/
namespace Go.Proofs.YtdclfdinhdaadaaGreatDoor.topImagesDone
open Go.ChangeShapes Go.WideShapes Go.ChangeAt Go.RowKit
set_option linter.unusedVariables false

theorem own : ownKnob Tryz.prog.godebug = none := by kernel_rfl
theorem laidOut : laidOutB Tryz.prog = true := by kernel_rfl
theorem first_is : Rows.laid_unicode_utf8_first = Lib.firstData := by kernel_rfl
theorem accept_is : (Rows.laid_unicode_utf8_acceptRanges : DataW Unit) = Lib.acceptData := by kernel_rfl
theorem tab {W : World} (h : laidMetH Tryz.prog Rows.topImagesRow.laid W) : T8 W := by
  have h3 : Lib.VarReads Tryz.prog W "unicode/utf8.first" Lib.firstData := by rw [← first_is]; exact Lib.laidMet.reads h (.tail _ (.head _))
  have h4 : Lib.VarReads Tryz.prog W "unicode/utf8.acceptRanges" Lib.acceptData := by rw [← accept_is]; exact Lib.laidMet.reads h (.head _)
  have ht : Lib.Utf8Tabs 0 1 W := utf8Tabs_of_reads Tryz.lays260 ⟨by kernel_rfl, by kernel_rfl, by kernel_rfl, by kernel_rfl, by kernel_rfl, by kernel_rfl, by kernel_rfl⟩ h3 h4
  refine ⟨?_, ht⟩
  have h0 := (ht.2 0 (by omega)).1
  have := World.block_lt_of_cell? W _ h0
  simp only at this
  omega

set_option maxRecDepth 100000 in
theorem contract (H : Type) (enc : TypeId × Value → H) (W : World) (base : Nat) (args : Array Value) (ds gs : List (DataW H)) (before : List MemPlace)
    (hval : ∀ (j : Nat) t v, Tryz.f4.params[j]? = some t → args[j]? = some v → Value.okWide Tryz.prog W .any base t v)
    (hW : DataW.Whole enc Tryz.prog Tryz.f4.params.toList Rows.topImagesSpec.vars false W args.toList ds gs before) (hL : laidMetH Tryz.prog Rows.topImagesRow.laid W) :
    Calls Tryz.prog 4 args W fun e W' => ∃ v, e = .returned v ∧ Rows.topImagesSpec.post enc Tryz.prog Tryz.f4 false true false false W args v W' := by
  have hW' := hW
  obtain ⟨p, q, hA0, hV, rfl, hfz, hnd⟩ := hW
  have hA : DataW.TrodAll enc Tryz.prog W 0 (fun _ => true) true Tryz.f4.params.toList args.toList ds p := hA0
  rw [Tryz.params4] at hA hval
  obtain ⟨v0, vs0, d0, ds0, p0, q0, hargs, rfl, rfl, h0, r0⟩ := trodAll_cons hA
  obtain ⟨v1, vs1, d1, ds1, p1, q1, rfl, rfl, rfl, h1, r1⟩ := trodAll_cons r0
  obtain ⟨v2, vs2, d2, ds2, p2, q2, rfl, rfl, rfl, h2, r2⟩ := trodAll_cons r1
  obtain ⟨rfl, rfl, rfl⟩ := trodAll_nil r2
  obtain rfl : args = #[v0, v1, v2] := by cases args; simp_all
  obtain ⟨rfl, rfl⟩ := trodVars_none hV
  have k0 := h0
  have lt0 : ∀ x ∈ p0, x.block < W.heap.size := by obtain ⟨m, hm⟩ := k0; exact DataW.trod_lt m _ _ _ hm
  have k1 := h1
  have lt1 : ∀ x ∈ p1, x.block < W.heap.size := by obtain ⟨m, hm⟩ := k1; exact DataW.trod_lt m _ _ _ hm
  have k2 := h2
  have lt2 : ∀ x ∈ p2, x.block < W.heap.size := by obtain ⟨m, hm⟩ := k2; exact DataW.trod_lt m _ _ _ hm
  obtain ⟨a0, len0, cap0, rfl⟩ := okWide_slice Tryz.underlying50 (hval 0 50 v0 rfl rfl)
  obtain ⟨l0, _, _, _, _, rc0⟩ := open_nums Tryz.underlying50 Tryz.underlying3 (by kernel_rfl) h0 lt0
  obtain ⟨a1, len1, cap1, rfl⟩ := okWide_slice Tryz.underlying26 (hval 1 26 v1 rfl rfl)
  obtain ⟨l1, rc1⟩ := open_cmds h1 lt1
  obtain ⟨a2, len2, cap2, rfl⟩ := okWide_slice Tryz.underlying26 (hval 2 26 v2 rfl rfl)
  obtain ⟨l2, rc2⟩ := open_cmds h2 lt2
  clear hA0
  refine (top_TopImages l0 l1 l2 a0 a1 a2 len0 cap0 len1 cap1 len2 cap2 _ _ _ W rc0 rc1 rc2 (tab hL)).mono fun e W' ⟨he, hmd⟩ => ?_
  have bel := hmd.below'
  subst he
  exact ⟨_, rfl, _, _, _, [], _, [], hW', trodAll_mk1 (shut_bool Tryz.underlying4 _), (trodAll_cons_mk (Below.trod laidOut (by kernel_rfl) (of_decide_eq_true (by kernel_rfl)) k0 bel lt0) (trodAll_cons_mk (Below.trod laidOut (by kernel_rfl) (of_decide_eq_true (by kernel_rfl)) k1 bel lt1) (trodAll_cons_mk (Below.trod laidOut (by kernel_rfl) (of_decide_eq_true (by kernel_rfl)) k2 bel lt2) trodAll_mk0))), rfl, bel.frame _, fun h => by cases h⟩

noncomputable def laidWorld (os : Os) : World :=
  let w0 := World.holding Tryz.prog os ⟨#[], #[], []⟩
  let put (h : Array Obj) (g : Nat) (cs : Array Value) : Array Obj := h.modify g fun
    | .cells _ t frozen => .cells cs t frozen
    | o => o
  let h1 := put w0.heap 0 (Lib.firstTab.map fun z => Value.int .u8 z).toArray
  let h2 := put h1 1 ((List.range 16).flatMap fun i => [Value.int .u8 (Lib.accLo i), Value.int .u8 (Lib.accHi i)]).toArray
  { w0 with heap := h2 }
theorem laid_met (os : Os) : laidMet Tryz.prog Rows.topImagesRow.laid ((laidWorld os).forCall (fun _ _ => 0) ⟨#[], #[.slice none 0 0, .slice none 0 0, .slice none 0 0], []⟩).memory :=
  laidMet_of_run' 8 (by kernel_rfl) (by kernel_rfl)
theorem reads (os : Os) {H : Type} (enc : TypeId × Value → H) : ∃ places, DataW.whole enc Tryz.prog ((laidWorld os).forCall (fun _ _ => 0) ⟨#[], #[.slice none 0 0, .slice none 0 0, .slice none 0 0], []⟩).memory Tryz.f4.params.toList Rows.topImagesSpec.vars false (#[.slice none 0 0, .slice none 0 0, .slice none 0 0] : Array Value).toList 8 = some ([.nil, .nil, .nil], [], places) :=
  ⟨[], by kernel_rfl⟩

set_option maxRecDepth 100000 in
theorem lifted (os : Os) (started : os.Started) (H : Type) (enc : TypeId × Value → H) (F : Stop.Interp) :
    ReturnsInHanded {} Tryz.checked os 4 .any ((OpenSpec.ofChange Rows.topImagesSpec).preRow enc Tryz.prog Tryz.f4 Rows.topImagesRow.domain false Rows.topImagesRow.laid) (((OpenSpec.ofChange Rows.topImagesSpec).at F).post enc Tryz.prog Tryz.f4 false true false false) := by
  obtain ⟨places, hx⟩ := reads os enc
  refine returnsInHanded_of_row (C := Tryz.checked) (s := OpenSpec.ofChange Rows.topImagesSpec) own started (by kernel_rfl) Tryz.func4
    (witness_row_at (enc := enc) (C := Tryz.checked) false (laidWorld os) #[.slice none 0 0, .slice none 0 0, .slice none 0 0] rfl (by kernel_rfl) (by kernel_rfl) (by kernel_rfl)
      (OpenSpec.preRow_of_cond 8 hx (by kernel_rfl) (fun k hk => by cases hk) (by kernel_rfl) (laid_met os))) ?_
  intro W base args ds gs before hval hW _ _ _ hL _ _
  exact contract H enc W base args ds gs before hval hW hL

theorem said : Rows.TopImagesSaid :=
  OpenClaim.holds_of_cond 4 Tryz.f4 rfl rfl rfl rfl rfl rfl rfl ⟨rfl, rfl, rfl, rfl, rfl⟩ rfl rfl rfl rfl rfl (by kernel_rfl) Tryz.func4 (by kernel_rfl)
    (of_decide_eq_true (by kernel_rfl)) (by unfold Func.isWrapper; first | (rw [if_pos (by decide +kernel)]; kernel_rfl) | (rw [if_neg (by decide +kernel)]; exact ⟨rfl, rfl⟩))
    (fun os started H enc _ F => by rw [OpenClaim.pre_eq_preRow]; exact lifted os started H enc F)

theorem plain (f : FuncId) (fn : Func) (hf : Tryz.pinned.checked.prog.funcNamed "changeover/changeovertop.TopImages" = some f) (hfn : Tryz.pinned.checked.prog.funcs[f]? = some fn) :
    true = Tryz.pinned.checked.prog.looks [] ∧ ∀ (j : Nat) t, fn.params[j]? = some t → Tryz.pinned.checked.prog.wantsStandIn t = false := by
  obtain rfl : f = 4 := Option.some.inj ((show Tryz.prog.funcNamed "changeover/changeovertop.TopImages" = some 4 by kernel_rfl).symm.trans hf) |>.symm
  obtain rfl : fn = Tryz.f4 := (Option.some.inj (Tryz.func4.symm.trans hfn)).symm
  refine ⟨by kernel_rfl, fun j t ht => ?_⟩
  rw [Tryz.params4] at ht
  have hm : t ∈ [50, 26, 26] := by simpa using Array.mem_of_getElem? ht
  have hall : ([50, 26, 26].all fun u => !Tryz.prog.wantsStandIn u) = true := by kernel_rfl
  exact (show Tryz.prog.wantsStandIn t = false by simpa using List.all_eq_true.1 hall t hm)

theorem proved : Rows.TopImagesCardSaid :=
  Claim7.holds_tied_plain_at .later [] _ _ _ _ said (fun _ h => by cases h) (by kernel_rfl) (fun _ h => by cases h) topImages_row_tie rfl ⟨rfl, rfl⟩ (by kernel_rfl) rfl plain (by kernel_rfl)
end Go.Proofs.YtdclfdinhdaadaaGreatDoor.topImagesDone

