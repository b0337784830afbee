/- Texts as runes, in plain Lean over the model's own decoding. No program in sight. -/
import Derived.Test.YtdclfdinhdaadaaGreatDoorData
import Derived.Lib.RuneCount
import Derived.Lib.TrimU
namespace Go.Proofs.YtdclfdinhdaadaaGreatDoor

/-- the runes of a text from a place on, each with how many bytes it has -/
def rlFrom (s : ByteArray) : Nat → Nat → List (Nat × Nat)
  | 0, _ => []
  | f + 1, pos => if pos < s.size then Utf8.decode s pos :: rlFrom s f (pos + (Utf8.decode s pos).2) else []
def rl (s : ByteArray) : List (Nat × Nat) := rlFrom s s.size 0

def badR (x : Nat × Nat) : Bool := x.1 == 65533 && x.2 == 1
def plainR (r : Nat) : Bool :=
  (decide (97 ≤ r) && decide (r ≤ 122)) || (decide (65 ≤ r) && decide (r ≤ 90)) || (decide (48 ≤ r) && decide (r ≤ 57)) || r == 45 || r == 95 || r == 46 || r == 58 || (decide (161 ≤ r) && r != 65533)
def valR (r : Nat) : Bool := decide (32 ≤ r) && r != 127
def wholeB (s : ByteArray) : Bool := (rl s).all fun x => !badR x
def keyB (s : ByteArray) : Bool := decide (1 ≤ s.size) && decide (s.size ≤ 24) && wholeB s && (rl s).all fun x => plainR x.1
def valB (s : ByteArray) : Bool := decide (s.size ≤ 48) && wholeB s && (rl s).all fun x => valR x.1

theorem rlFrom_end (s : ByteArray) (f pos : Nat) (h : ¬ pos < s.size) : rlFrom s f pos = [] := by cases f <;> simp [rlFrom, h]
theorem rlFrom_step (s : ByteArray) (f pos : Nat) (h : pos < s.size) : rlFrom s (f + 1) pos = Utf8.decode s pos :: rlFrom s f (pos + (Utf8.decode s pos).2) := by simp [rlFrom, h]
theorem width_pos (s : ByteArray) (pos : Nat) : 1 ≤ (Utf8.decode s pos).2 := Lib.width_pos s pos
theorem rune_le (s : ByteArray) (pos : Nat) : (Utf8.decode s pos).1 ≤ 1114111 := Lib.rune_le s pos

theorem mod_iter (w : World) (s : ByteArray) (pos : Nat) : Mod Non w (w.iter s pos) := by
  unfold World.iter
  exact (Mod.refl _ _).alloc _
end Go.Proofs.YtdclfdinhdaadaaGreatDoor
