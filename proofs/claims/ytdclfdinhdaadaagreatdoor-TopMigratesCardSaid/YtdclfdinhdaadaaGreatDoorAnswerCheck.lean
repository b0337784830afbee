/- Package answer: the contract of Check where all is well. -/
import Derived.Test.YtdclfdinhdaadaaGreatDoorRunesBad
namespace Go.Proofs.YtdclfdinhdaadaaGreatDoor
open Go.RowKit

/-- an answer that may be -/
def An.May (a : An) : Prop := a.Ok ∧ valB a.val = true

theorem answer_within (n lo hi : Int) (w : World) (h1 : lo ≤ n) (h2 : n ≤ hi) :
    Calls Tryz.prog 132 #[.int .i64 n, .int .i64 lo, .int .i64 hi] w fun e w' => e = .returned (.bool true) ∧ w = w' := by
  go_enter Tryz.func132, Tryz.ntmps132
  go_wp2
  go_ret
  exact ⟨ret_bool (by simp), rfl⟩

set_option maxHeartbeats 1000000 in
theorem answer_Check (a : An) (w : World) (ha : a.May) (hT : T8 w) :
    Calls Tryz.prog 106 #[a.v] w fun e w' => e = .returned (.int .i64 0) ∧ Mod Non w w' := by
  obtain ⟨⟨h1, h2, h3, h4, h5⟩, h6⟩ := ha
  obtain ⟨cl, sq, er, fd, vl, rv⟩ := a
  simp only at h1 h2 h3 h4 h5 h6
  have hT1 : T8 (w.alloc (.cells #[.int .i64 cl, .int .i64 sq, .int .i64 er, .bool fd, .string vl, .int .i64 rv] 57)) := hT.non ((Mod.refl _ _).alloc _)
  have g1 := Lib.hid h1
  have g2 := Lib.hid h2
  have g3 := Lib.hid h3
  have g5 := Lib.hid h5
  clear h1 h2 h3 h4 h5
  go_enter Tryz.func106, Tryz.ntmps106
  go_wp2_with fail
  refine (answer_within cl 1 8 _ g1.out.1 g1.out.2).mono ?_
  rintro e w1 ⟨rfl, rfl⟩
  go_wp2_with fail
  refine (answer_within sq 1 4294967296 _ g2.out.1 g2.out.2).mono ?_
  rintro e w1 ⟨rfl, rfl⟩
  go_wp2_with fail
  refine (answer_within er 0 17 _ g3.out.1 g3.out.2).mono ?_
  rintro e w1 ⟨rfl, rfl⟩
  go_wp2_with fail
  refine (answer_within rv 0 4294967296 _ g5.out.1 g5.out.2).mono ?_
  rintro e w1 ⟨rfl, rfl⟩
  go_wp2_with fail
  refine (runes_Val vl _ hT1).mono ?_
  rintro e w1 ⟨rfl, hm1⟩
  rw [h6]
  go_wp2
  go_ret
  exact ⟨rfl, ((Mod.refl _ _).alloc _).trans' hm1⟩
end Go.Proofs.YtdclfdinhdaadaaGreatDoor
