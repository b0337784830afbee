/- Package frame: the contract of Next. -/
import Derived.Test.YtlkifobajdafpaaDoorEqual
namespace Go.Proofs.YtlkifobajdafpaaDoor
open Go.RowKit

/-- what a bad number makes of Next -/
theorem frame_Next_err (A : Option Addr) (len cap : Nat) (at_ e0 : Int) (w : World) (he : (e0 != 0) = true)
    (hg : Calls Tryd.prog 24 #[.slice A len cap, .int .i64 at_] w fun e w' => e = .returned (.tuple #[.int .i64 0, .int .i64 0, .int .i64 e0]) ∧ w = w') :
    Calls Tryd.prog 12 #[.slice A len cap, .int .i64 at_] w fun e w' => e = .returned (.tuple #[.slice none 0 0, .int .i64 0, .int .i64 e0]) ∧ w = w' := by
  have HG := Lib.hid hg
  clear hg
  go_enter Tryd.func12, Tryd.ntmps12
  go_wp2_with fail
  refine HG.out.mono ?_
  rintro e w1 ⟨rfl, rfl⟩
  go_wp2
  go_ret3
  exact ⟨rfl, rfl⟩

theorem frame_Next_may (A : Option Addr) (len cap : Nat) (at_ : Int) (v f : Nat) (w : World) (hv : v = 0 ∨ 65536 < v)
    (hg : Calls Tryd.prog 24 #[.slice A len cap, .int .i64 at_] w fun e w' => e = .returned (.tuple #[.int .i64 v, .int .i64 f, .int .i64 0]) ∧ w = w') :
    Calls Tryd.prog 12 #[.slice A len cap, .int .i64 at_] w fun e w' => e = .returned (.tuple #[.slice none 0 0, .int .i64 0, .int .i64 (mayK v)]) ∧ w = w' := by
  have HG := Lib.hid hg
  have e1 : (mayK v != 0) = true := by
    unfold mayK
    split
    · rfl
    · rw [if_pos (by omega)]; rfl
  obtain ⟨m, HM⟩ : ∃ m, Hid (mayK (v : Int) = m) := ⟨_, rfl⟩
  rw [HM.out] at e1
  clear hg
  go_enter Tryd.func12, Tryd.ntmps12
  go_wp2_with fail
  refine HG.out.mono ?_
  rintro e w1 ⟨rfl, rfl⟩
  go_wp2_with fail
  refine (frame_may v _).mono ?_
  rintro e w1 ⟨rfl, rfl⟩
  rw [HM.out]
  go_wp2
  go_ret3
  exact ⟨by rw [HM.out]; rfl, rfl⟩

theorem frame_Next_short (A : Option Addr) (len cap : Nat) (at_ : Int) (v f : Nat) (w : World) (hv1 : 1 ≤ v) (hv2 : v ≤ 65536) (hf : f ≤ len) (_ : (len : Int) ≤ 9223372036854775807) (hs : len < f + v + 4)
    (hg : Calls Tryd.prog 24 #[.slice A len cap, .int .i64 at_] w fun e w' => e = .returned (.tuple #[.int .i64 v, .int .i64 f, .int .i64 0]) ∧ w = w') :
    Calls Tryd.prog 12 #[.slice A len cap, .int .i64 at_] w fun e w' => e = .returned (.tuple #[.slice none 0 0, .int .i64 0, .int .i64 1]) ∧ w = w' := by
  have HG := Lib.hid hg
  have e1 : mayK v = 0 := by unfold mayK; rw [if_neg (by omega), if_neg (by omega)]
  have e2 : wrap64 ((len : Int) - (f : Int)) = (len : Int) - f := by unfold wrap64; omega
  have e3 : (len : Int) - (f : Int) < (v : Int) + 4 := by omega
  have hv3 : (v : Int) ≤ 65536 := by omega
  clear hg hs hv2
  go_enter Tryd.func12, Tryd.ntmps12
  go_wp2_with fail
  refine HG.out.mono ?_
  rintro e w1 ⟨rfl, rfl⟩
  go_wp2_with fail
  refine (frame_may v _).mono ?_
  rintro e w1 ⟨rfl, rfl⟩
  rw [e1]
  go_wp2
  go_ret3
  exact ⟨rfl, rfl⟩
end Go.Proofs.YtlkifobajdafpaaDoor
