/- What a number's bytes are read as, in plain Lean. No program in sight. -/
import Derived.Test.YtdclfdinhdaadaaGreatDoorVarintPlain
import Derived.Laws.BitsAllLaws
import Derived.IntWalk
namespace Go.Proofs.YtdclfdinhdaadaaGreatDoor

/-- k bytes were read, and come to acc. Done: the number, and how many bytes it has; or what is wrong: 1 too short, 3 no such form. -/
def gscan (k acc : Nat) : List UInt8 → Except Nat (Nat × Nat)
  | [] => .error 1
  | c :: r => if (c.toNat = 0 ∧ 0 < k) ∨ 9 ≤ k then .error 3 else if c.toNat < 128 then .ok (acc + c.toNat * 128 ^ k, k + 1) else gscan (k + 1) (acc + c.toNat % 128 * 128 ^ k) r

def gres (a : Nat) : Except Nat (Nat × Nat) → Value
  | .ok (v, k) => .tuple #[.int .i64 v, .int .i64 ((a + k : Nat) : Int), .int .i64 0]
  | .error e => .tuple #[.int .i64 0, .int .i64 0, .int .i64 e]

theorem gscan_nil (k acc : Nat) : gscan k acc [] = .error 1 := rfl
theorem gscan_bad {k acc : Nat} {c : UInt8} {r : List UInt8} (h : (c.toNat = 0 ∧ 0 < k) ∨ 9 ≤ k) : gscan k acc (c :: r) = .error 3 := by rw [gscan, if_pos h]
theorem gscan_last {k acc : Nat} {c : UInt8} {r : List UInt8} (h : ¬ ((c.toNat = 0 ∧ 0 < k) ∨ 9 ≤ k)) (h1 : c.toNat < 128) : gscan k acc (c :: r) = .ok (acc + c.toNat * 128 ^ k, k + 1) := by rw [gscan, if_neg h, if_pos h1]
theorem gscan_more {k acc : Nat} {c : UInt8} {r : List UInt8} (h : ¬ ((c.toNat = 0 ∧ 0 < k) ∨ 9 ≤ k)) (h1 : ¬ c.toNat < 128) : gscan k acc (c :: r) = gscan (k + 1) (acc + c.toNat % 128 * 128 ^ k) r := by rw [gscan, if_neg h, if_neg h1]

theorem mul_pow (n k : Nat) : n / 128 * 128 ^ (k + 1) = n / 128 * 128 * 128 ^ k := by rw [Nat.pow_succ, Nat.mul_comm (128 ^ k) 128, Nat.mul_assoc]

theorem gscan_vbytes (n : Nat) : ∀ (k acc : Nat) (r : List UInt8), k + (vbytes n).length ≤ 9 → (n ≠ 0 ∨ k = 0) → gscan k acc (vbytes n ++ r) = .ok (acc + n * 128 ^ k, k + (vbytes n).length) := by
  induction n using Nat.strongRecOn with
  | _ n ih =>
    intro k acc r hk h0
    have hp := vbytes_pos n
    by_cases h : n < 128
    · rw [vbytes_small h] at hk ⊢
      have e : (UInt8.ofNat n).toNat = n := by rw [UInt8.toNat_ofNat']; omega
      simp only [List.length_cons, List.length_nil] at hk
      rw [List.singleton_append, gscan_last (by rw [e]; omega) (by rw [e]; exact h), e]
      simp
    · rw [vbytes_large h] at hk ⊢
      have e : (UInt8.ofNat (128 + n % 128)).toNat = 128 + n % 128 := by rw [UInt8.toNat_ofNat']; omega
      have hp' := vbytes_pos (n / 128)
      simp only [List.length_cons] at hk
      rw [List.cons_append, gscan_more (by rw [e]; omega) (by rw [e]; omega), e, ih (n / 128) (by omega) (k + 1) _ r (by omega) (by left; omega), List.length_cons]
      have e2 : (128 + n % 128) % 128 = n % 128 := by omega
      rw [e2, mul_pow]
      have e3 : acc + n % 128 * 128 ^ k + n / 128 * 128 * 128 ^ k = acc + n * 128 ^ k := by
        rw [Nat.add_assoc, ← Nat.add_mul]
        congr 2
        omega
      rw [e3, Nat.add_assoc, Nat.add_comm 1]

/-- What was read as a number has that number's very bytes. -/
theorem gscan_canon (l : List UInt8) : ∀ (k acc v t : Nat), acc < 128 ^ k → gscan k acc l = .ok (v, t) → ∃ n r, l = vbytes n ++ r ∧ v = acc + n * 128 ^ k ∧ t = k + (vbytes n).length ∧ (0 < k → n ≠ 0) := by
  induction l with
  | nil => intro k acc v t _ h; cases h
  | cons c l ih =>
    intro k acc v t hacc h
    by_cases hb : (c.toNat = 0 ∧ 0 < k) ∨ 9 ≤ k
    · rw [gscan_bad hb] at h; cases h
    · by_cases hc : c.toNat < 128
      · rw [gscan_last hb hc] at h
        injection h with h; injection h with h1 h2
        refine ⟨c.toNat, l, ?_, h1.symm, ?_, fun hk h0 => hb (.inl ⟨h0, hk⟩)⟩
        · rw [vbytes_small hc]
          have : UInt8.ofNat c.toNat = c := by apply UInt8.toNat_inj.1; rw [UInt8.toNat_ofNat']; have := c.toNat_lt; omega
          rw [this]; rfl
        · rw [vbytes_small hc]; exact h2.symm
      · rw [gscan_more hb hc] at h
        have hlt := c.toNat_lt
        obtain ⟨n, r, h1, h2, h3, h4⟩ := ih (k + 1) _ v t (by
          rw [Nat.pow_succ]
          have : c.toNat % 128 * 128 ^ k ≤ 127 * 128 ^ k := Nat.mul_le_mul_right _ (by omega)
          omega) h
        have hn := h4 (by omega)
        have e1 : (128 * n + c.toNat % 128) / 128 = n := by omega
        have e2 : (128 * n + c.toNat % 128) % 128 = c.toNat % 128 := by omega
        refine ⟨128 * n + c.toNat % 128, r, ?_, ?_, ?_, fun _ => by omega⟩
        · rw [vbytes_large (by omega), e1, e2, h1]
          have : UInt8.ofNat (128 + c.toNat % 128) = c := by apply UInt8.toNat_inj.1; rw [UInt8.toNat_ofNat']; omega
          rw [this]; rfl
        · rw [h2, Nat.pow_succ, Nat.add_mul, ← Nat.mul_assoc n, Nat.mul_comm 128 n, Nat.mul_assoc n 128, Nat.mul_comm 128 (128 ^ k), ← Nat.mul_assoc]
          omega
        · rw [vbytes_large (by omega), e1, List.length_cons]
          omega

theorem and_127 (x : Nat) (h : x < 256) : bits BinOp.and IntKind.u8 (x : Int) 127 = ((x % 128 : Nat) : Int) := by
  have h1 : ∀ y : Fin 256, bits BinOp.and IntKind.u8 (y.val : Int) 127 = ((y.val % 128 : Nat) : Int) := by decide +kernel
  exact h1 ⟨x, h⟩

theorem pow_128 (k : Nat) : 128 ^ k = 2 ^ (7 * k) := by rw [Nat.pow_mul]

theorem step_lt {acc x k : Nat} (ha : acc < 128 ^ k) (hk : k ≤ 8) : acc + x % 128 * 128 ^ k < 128 ^ (k + 1) ∧ acc + x % 128 * 128 ^ k < 9223372036854775808 := by
  have h1 : x % 128 * 128 ^ k ≤ 127 * 128 ^ k := Nat.mul_le_mul_right _ (by omega)
  have h2 : 128 ^ (k + 1) = 128 ^ k * 128 := Nat.pow_succ _ _
  have h3 : 128 ^ (k + 1) ≤ 128 ^ 9 := Nat.pow_le_pow_right (by omega) (by omega)
  have h4 : (128 : Nat) ^ 9 = 9223372036854775808 := by decide
  omega

theorem step_eq {acc x k : Nat} (ha : acc < 128 ^ k) (hk : k ≤ 8) (hx : x < 256) :
    bits BinOp.or IntKind.u64 (acc : Int) (IntKind.u64.wrap (IntKind.u64.wrap (bits BinOp.and IntKind.u8 (x : Int) 127) * 2 ^ (7 * k))) = ((acc + x % 128 * 128 ^ k : Nat) : Int) := by
  obtain ⟨h1, h2⟩ := step_lt (x := x) ha hk
  rw [and_127 x hx, IntWalk.u64_in ((x % 128 : Nat) : Int) (by omega)]
  have e1 : ((x % 128 : Nat) : Int) * 2 ^ (7 * k) = ((x % 128 * 128 ^ k : Nat) : Int) := by
    rw [pow_128]; simp
  rw [e1, IntWalk.u64_in _ (by omega), u64_or_nat _ _ (by omega) (by omega)]
  congr 1
  rw [pow_128] at ha ⊢
  have := Nat.two_pow_add_eq_or_of_lt ha (x % 128)
  rw [Nat.mul_comm (x % 128), Nat.or_comm, ← this, Nat.add_comm]
end Go.Proofs.YtdclfdinhdaadaaGreatDoor
