/- The contracts of the reference's Next at any place. -/
import Derived.Test.YtlkifobajdafpaaDoorRefGet
import Derived.Test.YtlkifobajdafpaaDoorNext
namespace Go.Proofs.YtlkifobajdafpaaDoor
open Go.RowKit

theorem ref_same {l : List UInt8} {n v t : Nat} (hg : gscan 0 0 (l.drop n) = .ok (v, t)) (hs : n + t + v + 4 ≤ l.length) :
    sameB (fbytes ((l.drop (n + t)).take v)) ((l.drop n).take (t + v + 4)) = sameB ((l.drop (n + t + v)).take 4) (sum4 (crcK ((l.drop (n + t)).take v))) := by
  obtain ⟨v', r, e1, e2, e3, _⟩ := gscan_canon _ 0 0 v t (by omega) hg
  simp only [Nat.pow_zero, Nat.mul_one, Nat.zero_add] at e2 e3
  subst e2 e3
  have d1 : l.drop (n + (vbytes v).length) = r := by rw [← List.drop_drop, e1, List.drop_left' rfl]
  have d2 : l.drop (n + (vbytes v).length + v) = r.drop v := by rw [← List.drop_drop, d1]
  have hrl : v + 4 ≤ r.length := by
    have : (l.drop n).length = (vbytes v).length + r.length := by rw [e1, List.length_append]
    rw [List.length_drop] at this; omega
  have hb : (r.take v).length = v := by rw [List.length_take]; omega
  have d3 : (l.drop n).take ((vbytes v).length + v + 4) = vbytes v ++ (r.take v ++ (r.drop v).take 4) := by
    rw [e1, List.take_append, List.take_of_length_le (by omega), show (vbytes v).length + v + 4 - (vbytes v).length = v + 4 by omega, List.take_add]
  rw [d1, d2, d3]
  unfold fbytes
  rw [hb, List.append_assoc]
  rw [Bool.eq_iff_iff, sameB_iff, sameB_iff]
  constructor
  · intro h
    exact (List.append_cancel_left (List.append_cancel_left h)).symm
  · intro h; rw [h]

theorem ref_Next_err (A : Option Addr) (len cap : Nat) (at_ e0 : Int) (w : World) (he : (e0 != 0) = true)
    (hg : Calls Tryd.prog 27 #[.slice A len cap, .int .i64 at_] w fun e w' => e = .returned (.tuple #[.int .i64 0, .int .i64 0, .int .i64 e0]) ∧ w = w') :
    Calls Tryd.prog 13 #[.slice A len cap, .int .i64 at_] w fun e w' => e = .returned (.tuple #[.slice none 0 0, .int .i64 0, .int .i64 e0]) ∧ w = w' := by
  have HG := Lib.hid hg
  clear hg
  go_enter Tryd.func13, Tryd.ntmps13
  go_wp2_with fail
  refine HG.out.mono ?_
  rintro e w1 ⟨rfl, rfl⟩
  go_wp2
  go_ret3
  exact ⟨rfl, rfl⟩

theorem ref_Next_zero (A : Option Addr) (len cap : Nat) (at_ : Int) (f : Nat) (w : World)
    (hg : Calls Tryd.prog 27 #[.slice A len cap, .int .i64 at_] w fun e w' => e = .returned (.tuple #[.int .i64 0, .int .i64 f, .int .i64 0]) ∧ w = w') :
    Calls Tryd.prog 13 #[.slice A len cap, .int .i64 at_] w fun e w' => e = .returned (.tuple #[.slice none 0 0, .int .i64 0, .int .i64 3]) ∧ w = w' := by
  have HG := Lib.hid hg
  clear hg
  go_enter Tryd.func13, Tryd.ntmps13
  go_wp2_with fail
  refine HG.out.mono ?_
  rintro e w1 ⟨rfl, rfl⟩
  go_wp2
  go_ret3
  exact ⟨rfl, rfl⟩

theorem ref_Next_long (A : Option Addr) (len cap : Nat) (at_ : Int) (v f : Nat) (w : World) (hv : 65536 < v)
    (hg : Calls Tryd.prog 27 #[.slice A len cap, .int .i64 at_] w fun e w' => e = .returned (.tuple #[.int .i64 v, .int .i64 f, .int .i64 0]) ∧ w = w') :
    Calls Tryd.prog 13 #[.slice A len cap, .int .i64 at_] w fun e w' => e = .returned (.tuple #[.slice none 0 0, .int .i64 0, .int .i64 2]) ∧ w = w' := by
  have HG := Lib.hid hg
  have e1 : ((v : Int) == 0) = false := by simp; omega
  have e2 : (65536 : Int) < v := by omega
  clear hg hv
  go_enter Tryd.func13, Tryd.ntmps13
  go_wp2_with fail
  refine HG.out.mono ?_
  rintro e w1 ⟨rfl, rfl⟩
  go_wp2
  go_ret3
  exact ⟨rfl, rfl⟩

theorem ref_Next_short (A : Option Addr) (len cap : Nat) (at_ : Int) (v f : Nat) (w : World) (hv1 : 1 ≤ v) (hv2 : v ≤ 65536) (hf : f ≤ len) (hmax : len ≤ 4611686018427387904) (hs : len < f + v + 4)
    (hg : Calls Tryd.prog 27 #[.slice A len cap, .int .i64 at_] w fun e w' => e = .returned (.tuple #[.int .i64 v, .int .i64 f, .int .i64 0]) ∧ w = w') :
    Calls Tryd.prog 13 #[.slice A len cap, .int .i64 at_] w fun e w' => e = .returned (.tuple #[.slice none 0 0, .int .i64 0, .int .i64 1]) ∧ w = w' := by
  have HG := Lib.hid hg
  have e1 : ((v : Int) == 0) = false := by simp; omega
  have e2 : ¬ (65536 : Int) < v := by omega
  have e3 : (len : Int) < (f : Int) + v + 4 := by omega
  have e5 : (f : Int) ≤ 4611686018427387904 := by omega
  clear hg hv2 hs
  go_enter Tryd.func13, Tryd.ntmps13
  go_wp2_with fail
  refine HG.out.mono ?_
  rintro e w1 ⟨rfl, rfl⟩
  go_wp2
  go_ret3
  exact ⟨rfl, rfl⟩
end Go.Proofs.YtlkifobajdafpaaDoor
