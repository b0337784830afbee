/- Numbers in as few bytes as can be, in plain Lean: the bytes of a number, the number of bytes. No program in sight. -/
import Derived.Test.YtdclfdinhdaadaaGreatDoorBase
namespace Go.Proofs.YtdclfdinhdaadaaGreatDoor
open Go.RowKit

/-- a byte as a value -/
def vb (x : UInt8) : Value := .int .u8 (x.toNat : Int)
def vbs (l : List UInt8) : List Value := l.map vb
theorem vbs_length (l : List UInt8) : (vbs l).length = l.length := by simp [vbs]
theorem vbs_append (a b : List UInt8) : vbs (a ++ b) = vbs a ++ vbs b := by simp [vbs]
theorem vbs_one (l : List UInt8) : ∀ u ∈ vbs l, u.oneCell' = true := by
  intro u hu
  obtain ⟨x, _, rfl⟩ := List.mem_map.1 hu
  rfl
theorem vbs_get {l : List UInt8} {j : Nat} (h : j < l.length) : (vbs l)[j]? = some (.int .u8 ((l[j]).toNat : Int)) := by simp [vbs, vb, h]

theorem vb_of {k : Nat} (h : k < 256) : vb (UInt8.ofNat k) = .int .u8 (k : Int) := by
  unfold vb
  rw [UInt8.toNat_ofNat', Nat.mod_eq_of_lt h]

/-- The value v is a slice of bytes that the call itself made: just the bytes l. -/
def OwnB (w : World) (B : Nat) (v : Value) (l : List UInt8) : Prop := w.ownsRow B 5 1 v l.length (vbs l)
section
variable {w w' : World} {B : Nat} {v : Value} {l : List UInt8} {S : Nat → Prop}
theorem OwnB.nil (w : World) (B : Nat) : OwnB w B (.slice none 0 0) [] := World.ownsRow_nil _ _ _ _
theorem OwnB.form (h : OwnB w B v l) : ∃ A m c, v = .slice A m c ∧ Hid (m = l.length) ∧ m ≤ c := by
  rcases h.2 with ⟨rfl, h0⟩ | ⟨g, cap, cur, rfl, _, _, hc, _⟩
  · exact ⟨none, 0, 0, rfl, h0.symm, Nat.le_refl _⟩
  · exact ⟨_, _, cap, rfl, rfl, hc⟩
theorem OwnB.reads {A : Option Addr} {n c : Nat} (h : OwnB w B (.slice A n c) l) : Reads w (fun k => B ≤ k ∧ some k = (Value.slice A n c).ownBlock) 1 A n (vbs l) := by
  have hn : n = l.length := by
    rcases h.2 with ⟨h1, h0⟩ | ⟨g, cap, cur, h1, _⟩
    · injection h1 with _ h2 _; rw [h2, h0]
    · injection h1
  subst hn
  exact (Reads.of_own h).more fun k _ hk => ⟨(World.ownsRow.lt h k hk.symm).1, hk⟩
theorem OwnB.non (h : OwnB w B v l) (hm : Mod Non w w') : OwnB w' B v l := own_non h hm
theorem OwnB.mod (h : OwnB w B v l) (hm : Mod S w w') (hS : ∀ g, v.ownBlock = some g → ¬ S g) : OwnB w' B v l := own_mod h hm hS
theorem OwnB.below (h : OwnB w B v l) {B' : Nat} (hB : B' ≤ B) : OwnB w B' v l := by
  refine ⟨h.1, ?_⟩
  rcases h.2 with h1 | ⟨g, cap, cur, h1, h2, h3⟩
  · exact .inl h1
  · exact .inr ⟨g, cap, cur, h1, by omega, h3⟩
end

/-- The bytes of a number: seven bits each, the least first; all but the last have 128 besides. -/
def vbytes (n : Nat) : List UInt8 :=
  if n < 128 then [UInt8.ofNat n] else UInt8.ofNat (128 + n % 128) :: vbytes (n / 128)
termination_by n
decreasing_by omega

theorem vbytes_small {n : Nat} (h : n < 128) : vbytes n = [UInt8.ofNat n] := by rw [vbytes, if_pos h]
theorem vbytes_large {n : Nat} (h : ¬ n < 128) : vbytes n = UInt8.ofNat (128 + n % 128) :: vbytes (n / 128) := by rw [vbytes, if_neg h]

theorem vbytes_pos (n : Nat) : 1 ≤ (vbytes n).length := by
  rw [vbytes]; split <;> simp

theorem vbytes_le (k : Nat) : ∀ n, n < 128 ^ (k + 1) → (vbytes n).length ≤ k + 1 := by
  induction k with
  | zero => intro n h; rw [vbytes_small (by simpa using h)]; simp
  | succ k ih =>
    intro n h
    by_cases hn : n < 128
    · rw [vbytes_small hn]; simp
    · rw [vbytes_large hn, List.length_cons]
      have := ih (n / 128) (by rw [Nat.div_lt_iff_lt_mul (by omega)]; rw [Nat.pow_succ] at h; exact h)
      omega
theorem vbytes_nine {n : Nat} (h : n < 9223372036854775808) : (vbytes n).length ≤ 9 := vbytes_le 8 n (by simpa using h)

/-- A number and what stands behind its bytes: told apart from another number and what stands behind that. -/
theorem vbytes_apart (a : Nat) : ∀ b (x y : List UInt8), vbytes a ++ x = vbytes b ++ y → a = b ∧ x = y := by
  induction a using Nat.strongRecOn with
  | _ a ih =>
    intro b x y h
    by_cases ha : a < 128
    · rw [vbytes_small ha] at h
      by_cases hb : b < 128
      · rw [vbytes_small hb] at h
        simp at h
        obtain ⟨h1, h2⟩ := h
        have e := congrArg UInt8.toNat h1
        simp [UInt8.toNat_ofNat'] at e
        exact ⟨by omega, h2⟩
      · rw [vbytes_large hb] at h
        simp at h
        have e := congrArg UInt8.toNat h.1
        simp [UInt8.toNat_ofNat', UInt8.toNat_add] at e
        omega
    · rw [vbytes_large ha] at h
      by_cases hb : b < 128
      · rw [vbytes_small hb] at h
        simp at h
        have e := congrArg UInt8.toNat h.1
        simp [UInt8.toNat_ofNat', UInt8.toNat_add] at e
        omega
      · rw [vbytes_large hb] at h
        simp only [List.cons_append, List.cons.injEq] at h
        obtain ⟨h1, h2⟩ := h
        obtain ⟨h3, h4⟩ := ih (a / 128) (by omega) _ _ _ h2
        have e := congrArg UInt8.toNat h1
        simp only [UInt8.toNat_ofNat'] at e
        exact ⟨by omega, h4⟩

theorem or_128 (k : Nat) : bits BinOp.or IntKind.u8 ((k : Int) % 256) 128 = 128 + (k : Int) % 128 := by
  have h : ∀ x : Fin 256, bits BinOp.or IntKind.u8 (x.val : Int) 128 = 128 + (x.val : Int) % 128 := by decide +kernel
  have h1 := h ⟨k % 256, by omega⟩
  simp only at h1
  have e1 : ((k % 256 : Nat) : Int) = (k : Int) % 256 := by omega
  rw [e1] at h1
  rw [h1]
  omega

def sameB (a b : List UInt8) : Bool := a == b
theorem sameB_yes {a b : List UInt8} (h : a = b) : sameB a b = true := by simp [sameB, h]
theorem sameB_iff {a b : List UInt8} : sameB a b = true ↔ a = b := by simp [sameB]
end Go.Proofs.YtdclfdinhdaadaaGreatDoor
