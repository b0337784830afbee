/- The contracts of frame.Next at any place, in the plain words of NextPlain. -/
import Derived.Test.YtlkifobajdafpaaDoorFrameNextIn
import Derived.Test.YtlkifobajdafpaaDoorNextPlain
namespace Go.Proofs.YtlkifobajdafpaaDoor
open Go.RowKit

theorem i64_lt {a : Int} (h : (Lit.int .i64 a).wf = true) : -9223372036854775808 ≤ a ∧ a ≤ 9223372036854775807 := by
  have hmin : IntKind.i64.min = -9223372036854775808 := rfl
  have hmax : IntKind.i64.max = 9223372036854775807 := rfl
  simp only [Lit.wf, Bool.and_eq_true, decide_eq_true_eq] at h; omega

theorem errne {e : Nat} (h : 1 ≤ e) : ((e : Int) != 0) = true := by simp; omega

/-- what is wrong with the frame at a place -/
theorem frame_Next_err' (A : Option Addr) (len cap : Nat) (a : Int) (R : Nat → Prop) (l : List UInt8) (w : World) (hr : Reads w R 1 A len (vbs l)) (hc : len ≤ cap) (hcap : (cap : Int) ≤ 9223372036854775807) (hmax : len ≤ 4611686018427387904) (hT : Tab w)
    (e : Nat) (he : nextK l a = .error e) :
    Calls Tryd.prog 12 #[.slice A len cap, .int .i64 a] w fun x w' => x = .returned (.tuple #[.slice none 0 0, .int .i64 0, .int .i64 e]) ∧ Mod Non w w' := by
  have hll : l.length = len := by have := hr.1; rw [vbs_length, Nat.mul_one] at this; exact this
  have quiet : ∀ {x y : World}, x = y → Mod Non x y := fun h => h ▸ Mod.refl _ _
  have h1 := (nextK_err he).1
  rcases nextK_cases l a with ⟨ho, h⟩ | ⟨n, rfl, hn, ⟨e', h2, h⟩ | ⟨v, t, hg, hcs⟩⟩
  · rw [hll] at ho
    rw [h] at he; injection he with he; subst he
    exact (frame_Next_err A len cap a 6 w rfl (varint_Get_out A len cap a w ho)).mono fun _ _ ⟨x, y⟩ => ⟨x, quiet y⟩
  · rw [h] at he; injection he with he; subst he
    have hG := varint_Get_in A len cap R l n w hr hmax (by omega)
    rw [h2] at hG
    exact (frame_Next_err A len cap n e' w (errne h1) hG).mono fun _ _ ⟨x, y⟩ => ⟨x, quiet y⟩
  · have hG := varint_Get_in A len cap R l n w hr hmax (by omega)
    rw [hg] at hG
    rcases hcs with ⟨hv, h⟩ | ⟨hv, h⟩ | ⟨hv1, hv2, hs, h⟩ | ⟨hv1, hv2, hs, hq, h⟩ | ⟨hv1, hv2, hs, hq, h⟩
    all_goals rw [h] at he
    · injection he with he; subst he hv
      exact (frame_Next_may A len cap n 0 (n + t) w (.inl rfl) hG).mono fun _ _ ⟨x, y⟩ => ⟨x, quiet y⟩
    · injection he with he; subst he
      refine (frame_Next_may A len cap n v (n + t) w (.inr hv) hG).mono fun _ _ ⟨x, y⟩ => ⟨?_, quiet y⟩
      rw [x, show mayK (v : Int) = 2 by unfold mayK; rw [if_neg (by omega), if_pos (by omega)]]; rfl
    · injection he with he; subst he
      obtain ⟨n', r, e1, _, rfl, _⟩ := gscan_canon _ 0 0 v t (by omega) hg
      have hle : 0 + (vbytes n').length ≤ (l.drop n).length := by rw [e1, List.length_append]; omega
      rw [List.length_drop] at hle
      exact (frame_Next_short A len cap n v (n + (0 + (vbytes n').length)) w hv1 hv2 (by omega) (by omega) (by omega) hG).mono fun _ _ ⟨x, y⟩ => ⟨x, quiet y⟩
    · injection he with he; subst he
      exact frame_Next_bad A len cap n v (n + t) R l w hr hc hcap hv1 hv2 (by omega) hT hq hG
    · cases he

/-- the frame at a place -/
theorem frame_Next_ok' (A : Option Addr) (len cap : Nat) (a : Int) (R : Nat → Prop) (l : List UInt8) (w : World) (hr : Reads w R 1 A len (vbs l)) (hc : len ≤ cap) (hcap : (cap : Int) ≤ 9223372036854775807) (hmax : len ≤ 4611686018427387904) (hT : Tab w)
    (body : List UInt8) (k : Nat) (he : nextK l a = .ok (body, k)) :
    Calls Tryd.prog 12 #[.slice A len cap, .int .i64 a] w fun x w' => ∃ v, x = .returned (.tuple #[v, .int .i64 k, .int .i64 0]) ∧ OwnB w' w.heap.size v body ∧ Mod Non w w' := by
  have hll : l.length = len := by have := hr.1; rw [vbs_length, Nat.mul_one] at this; exact this
  rcases nextK_cases l a with ⟨_, h⟩ | ⟨n, rfl, hn, ⟨e', h2, h⟩ | ⟨v, t, hg, hcs⟩⟩
  · rw [h] at he; cases he
  · rw [h] at he; cases he
  · have hG := varint_Get_in A len cap R l n w hr hmax (by omega)
    rw [hg] at hG
    rcases hcs with ⟨hv, h⟩ | ⟨hv, h⟩ | ⟨hv1, hv2, hs, h⟩ | ⟨hv1, hv2, hs, hq, h⟩ | ⟨hv1, hv2, hs, hq, h⟩
    all_goals rw [h] at he
    any_goals cases he
    exact frame_Next_ok A len cap n v (n + t) R l w hr hc hcap hv1 hv2 (by omega) hT hq hG
end Go.Proofs.YtlkifobajdafpaaDoor
