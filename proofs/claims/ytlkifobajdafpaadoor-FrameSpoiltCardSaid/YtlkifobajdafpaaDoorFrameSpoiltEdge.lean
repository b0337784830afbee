/- The walk of FrameSpoilt where there is nothing to spoil. -/
import Derived.Test.YtlkifobajdafpaaDoorFrameSpoilt
namespace Go.Proofs.YtlkifobajdafpaaDoor
open Go.RowKit

set_option maxRecDepth 100000 in
theorem spoilt_edge (A : Option Addr) (n c : Nat) (a : Int) (x0 x1 x2 x3 : Int) (w : World) (hT : Tab w) (ha : a ≤ 9223372036854775807) (h : n = 0 ∨ 300 < n ∨ a < 0 ∨ (n : Int) < a + 4) :
    Calls Tryd.prog 4 #[.slice A n c, .int .i64 a, .agg #[.int .u8 x0, .int .u8 x1, .int .u8 x2, .int .u8 x3]] w fun e w' => e = .returned (.bool true) ∧ Mod Non w w' := by
  have hc : n = 0 ∨ (((n : Int) == 0) = false ∧ (300 : Int) < n) ∨ (((n : Int) == 0) = false ∧ ¬ (300 : Int) < n ∧ a < 0) ∨ (((n : Int) == 0) = false ∧ ¬ (300 : Int) < n ∧ ¬ a < 0 ∧ (n : Int) ≤ a) ∨
      (((n : Int) == 0) = false ∧ ¬ (300 : Int) < n ∧ ¬ a < 0 ∧ ¬ (n : Int) ≤ a ∧ (n : Int) < a + 4) := by
    simp only [beq_eq_false_iff_ne]; omega
  clear h
  rcases hc with rfl | ⟨h0, h1⟩ | ⟨h0, h1, h2⟩ | ⟨h0, h1, h2, h3⟩ | ⟨h0, h1, h2, h3, h4⟩
  all_goals
    go_enter Tryd.func4, Tryd.ntmps4
    go_wp2_with fail
    refine (law03_awake _ (hT.non ((Mod.refl _ _).alloc _))).mono ?_
    rintro e w1 ⟨rfl, hm⟩
    go_wp2
    go_ret
    exact ⟨rfl, ((Mod.refl _ _).alloc _).trans' hm⟩

set_option maxRecDepth 100000 in
theorem spoilt_zero (A : Option Addr) (n c a : Nat) (w : World) (hT : Tab w) (hn : n ≤ 300) (ha : a + 4 ≤ n) :
    Calls Tryd.prog 4 #[.slice A n c, .int .i64 a, .agg #[.int .u8 0, .int .u8 0, .int .u8 0, .int .u8 0]] w fun e w' => e = .returned (.bool true) ∧ Mod Non w w' := by
  have q0 : ((n : Int) == 0) = false := by simp; omega
  have q1 : ¬ (300 : Int) < n := by omega
  have q2 : ¬ (a : Int) < 0 := by omega
  have q3 : ¬ (n : Int) ≤ a := by omega
  have q4 : ¬ (n : Int) < (a : Int) + 4 := by omega
  obtain ⟨r, qE, hrE⟩ := arr4_eq 0 0 0 0 rfl rfl rfl rfl
  have hr : r = true := hrE.2 ⟨rfl, rfl, rfl, rfl⟩
  subst hr
  clear hrE
  go_enter Tryd.func4, Tryd.ntmps4
  go_wp2_with fail
  refine (law03_awake _ (hT.non ((Mod.refl _ _).alloc _))).mono ?_
  rintro e w1 ⟨rfl, hm⟩
  go_wp2
  go_ret
  exact ⟨rfl, ((Mod.refl _ _).alloc _).trans' hm⟩
end Go.Proofs.YtlkifobajdafpaaDoor
