/- Four bytes as an array: whether they are all 0. -/
import Derived.Test.YtlkifobajdafpaaDoorFrameAdds
import Derived.DeepKeys
namespace Go.Proofs.YtlkifobajdafpaaDoor
open Go.RowKit

theorem lits4 (x0 x1 x2 x3 : Int) (h0 : (Lit.int .u8 x0).wf = true) (h1 : (Lit.int .u8 x1).wf = true) (h2 : (Lit.int .u8 x2).wf = true) (h3 : (Lit.int .u8 x3).wf = true) :
    Tryd.prog.keyLits 10 30 [.int .u8 x0, .int .u8 x1, .int .u8 x2, .int .u8 x3] = some [.int .u8 x0, .int .u8 x1, .int .u8 x2, .int .u8 x3] := by
  have one : ∀ x, (Lit.int .u8 x).wf = true → Tryd.prog.keyLits 9 5 [.int .u8 x] = some [.int .u8 x] := fun x hx => by
    simp [Program.keyLits, Tryd.underlying5, hx]
  have c4 : Tryd.prog.cellsOf 30 = 4 := by kernel_rfl
  have c1 : Tryd.prog.cellsOf 5 = 1 := by kernel_rfl
  have r4 : List.range 4 = [0, 1, 2, 3] := rfl
  have u4 : Tryd.prog.underlying 30 = some (.array 4 5) := Tryd.underlying30
  unfold Program.keyLits
  rw [u4]
  simp [c4, c1, r4, one, h0, h1, h2, h3]

theorem arr4_eq (x0 x1 x2 x3 : Int) (h0 : (Lit.int .u8 x0).wf = true) (h1 : (Lit.int .u8 x1).wf = true) (h2 : (Lit.int .u8 x2).wf = true) (h3 : (Lit.int .u8 x3).wf = true) :
    ∃ r : Bool, (∀ w : World, (Op.equalIn 10000 30 (.agg #[.int .u8 x0, .int .u8 x1, .int .u8 x2, .int .u8 x3]) (.agg #[.int .u8 0, .int .u8 0, .int .u8 0, .int .u8 0])).run Tryd.prog w = .ok r w) ∧
    (r = true ↔ x0 = 0 ∧ x1 = 0 ∧ x2 = 0 ∧ x3 = 0) := by
  have key : ∀ w : World, ∃ r : Bool, (Op.equalIn 10000 30 (.agg #[.int .u8 x0, .int .u8 x1, .int .u8 x2, .int .u8 x3]) (.agg #[.int .u8 0, .int .u8 0, .int .u8 0, .int .u8 0])).run Tryd.prog w = .ok r w ∧
      (r = true ↔ x0 = 0 ∧ x1 = 0 ∧ x2 = 0 ∧ x3 = 0) := fun w => by
    obtain ⟨r, g1, g2⟩ := run_equalIn_deep (P := Tryd.prog) 9990 10 30 (by kernel_rfl) w 10 10 (.agg #[.int .u8 x0, .int .u8 x1, .int .u8 x2, .int .u8 x3]) (.agg #[.int .u8 0, .int .u8 0, .int .u8 0, .int .u8 0])
      [.int .u8 x0, .int .u8 x1, .int .u8 x2, .int .u8 x3] [.int .u8 0, .int .u8 0, .int .u8 0, .int .u8 0] (by kernel_rfl) (by kernel_rfl) (lits4 _ _ _ _ h0 h1 h2 h3) (lits4 0 0 0 0 rfl rfl rfl rfl)
    exact ⟨r, g1, g2.trans (by simp)⟩
  by_cases h : x0 = 0 ∧ x1 = 0 ∧ x2 = 0 ∧ x3 = 0
  · exact ⟨true, fun w => by obtain ⟨r, g1, g2⟩ := key w; rw [g1, g2.2 h], by simp [h]⟩
  · refine ⟨false, fun w => ?_, by simp; exact fun a b c d => h ⟨a, b, c, d⟩⟩
    obtain ⟨r, g1, g2⟩ := key w
    have : r = false := by rw [Bool.eq_false_iff]; exact fun e => h (g2.1 e)
    rw [g1, this]
end Go.Proofs.YtlkifobajdafpaaDoor
