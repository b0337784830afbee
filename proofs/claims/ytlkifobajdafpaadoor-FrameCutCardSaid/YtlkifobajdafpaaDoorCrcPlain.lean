/- The sum of bytes, bit by bit: plain laws: a step is linear and one to one; four steps by a table; up to four bytes that lie one behind the other and are others make another sum. -/
import Derived.Test.YtlkifobajdafpaaDoorVarintPlain
namespace Go.Proofs.YtlkifobajdafpaaDoor

def POLY : Nat := 3988292384
def st (r : Nat) : Nat := (r / 2) ^^^ (if r % 2 = 1 then POLY else 0)
def stN : Nat → Nat → Nat
  | 0, r => r
  | n + 1, r => stN n (st r)
def byteC (r : Nat) (c : UInt8) : Nat := stN 8 (r ^^^ c.toNat)
def crcR (r : Nat) (l : List UInt8) : Nat := l.foldl byteC r
def crcK (l : List UInt8) : Nat := 4294967295 - crcR 4294967295 l
def tabN (i : Nat) : Nat := [0, 498536548, 997073096, 651767980, 1994146192, 1802195444, 1303535960, 1342533948, 3988292384, 4027552580, 3604390888, 3412177804, 2607071920, 2262029012, 2685067896, 3183342108].getD i 0

theorem xor_lt {a b : Nat} (ha : a < 4294967296) (hb : b < 4294967296) : a ^^^ b < 4294967296 := Nat.xor_lt_two_pow (n := 32) ha hb
theorem st_lt {r : Nat} (h : r < 4294967296) : st r < 4294967296 := by
  unfold st
  refine xor_lt (by omega) ?_
  split <;> decide
theorem stN_lt (n : Nat) {r : Nat} (h : r < 4294967296) : stN n r < 4294967296 := by
  induction n generalizing r with
  | zero => exact h
  | succ n ih => exact ih (st_lt h)
theorem byteC_lt {r : Nat} (h : r < 4294967296) (c : UInt8) : byteC r c < 4294967296 := stN_lt 8 (xor_lt h (by have := c.toNat_lt; omega))
theorem crcR_lt {r : Nat} (h : r < 4294967296) (l : List UInt8) : crcR r l < 4294967296 := by
  induction l generalizing r with
  | nil => exact h
  | cons c l ih => exact ih (byteC_lt h c)
theorem crcR_snoc (r : Nat) (l : List UInt8) (c : UInt8) : crcR r (l ++ [c]) = byteC (crcR r l) c := by simp [crcR]
theorem crcR_append (r : Nat) (l m : List UInt8) : crcR r (l ++ m) = crcR (crcR r l) m := by simp [crcR]
theorem crcK_lt (l : List UInt8) : crcK l < 4294967296 := by unfold crcK; omega

theorem xor_div2 (a b : Nat) : (a ^^^ b) / 2 = a / 2 ^^^ b / 2 := by
  apply Nat.eq_of_testBit_eq
  intro i
  rw [Nat.testBit_xor, Nat.testBit_div_two, Nat.testBit_div_two, Nat.testBit_div_two, Nat.testBit_xor]
theorem xor4 (a b c d : Nat) : (a ^^^ b) ^^^ (c ^^^ d) = (a ^^^ c) ^^^ (b ^^^ d) := by
  rw [Nat.xor_assoc, Nat.xor_assoc, ← Nat.xor_assoc b c d, Nat.xor_comm b c, Nat.xor_assoc c b d]
theorem st_xor (a b : Nat) : st (a ^^^ b) = st a ^^^ st b := by
  unfold st
  rw [xor_div2, xor4]
  congr 1
  have h0 : (a ^^^ b).testBit 0 = (a.testBit 0 ^^ b.testBit 0) := Nat.testBit_xor ..
  rw [Nat.testBit_zero, Nat.testBit_zero, Nat.testBit_zero] at h0
  have h : (a ^^^ b) % 2 = (a + b) % 2 := by
    rcases Nat.mod_two_eq_zero_or_one a with ha | ha <;> rcases Nat.mod_two_eq_zero_or_one b with hb | hb <;> rcases Nat.mod_two_eq_zero_or_one (a ^^^ b) with hc | hc <;> rw [ha, hb, hc] at h0 <;> first | (exact absurd h0 (by decide)) | omega
  rcases Nat.mod_two_eq_zero_or_one a with ha | ha <;> rcases Nat.mod_two_eq_zero_or_one b with hb | hb
  · rw [if_neg (by omega), if_neg (by omega), if_neg (by omega)]; simp
  · rw [if_pos (by omega), if_neg (by omega), if_pos (by omega)]; simp
  · rw [if_pos (by omega), if_pos (by omega), if_neg (by omega)]; simp
  · rw [if_neg (by omega), if_pos (by omega), if_pos (by omega)]; simp
theorem stN_xor (n : Nat) (a b : Nat) : stN n (a ^^^ b) = stN n a ^^^ stN n b := by
  induction n generalizing a b with
  | zero => rfl
  | succ n ih => show stN n (st (a ^^^ b)) = _; rw [st_xor, ih]; rfl
theorem st_even (m : Nat) : st (2 * m) = m := by
  unfold st
  rw [if_neg (by omega), Nat.xor_zero]; omega
theorem stN_add (m n r : Nat) : stN (m + n) r = stN n (stN m r) := by
  induction m generalizing r with
  | zero => rw [Nat.zero_add]; rfl
  | succ m ih => rw [Nat.succ_add]; exact ih (st r)
theorem stN_pow (n m : Nat) : stN n (2 ^ n * m) = m := by
  induction n with
  | zero => show 2 ^ 0 * m = m; omega
  | succ n ih => show stN n (st (2 ^ (n + 1) * m)) = m; rw [Nat.pow_succ, Nat.mul_comm (2 ^ n) 2, Nat.mul_assoc, st_even, ih]
theorem xor_join (n q d : Nat) (hd : d < 2 ^ n) : 2 ^ n * q ^^^ d = 2 ^ n * q + d := by
  apply Nat.eq_of_testBit_eq
  intro j
  rw [Nat.testBit_xor, Nat.testBit_two_pow_mul_add q hd, Nat.testBit_two_pow_mul]
  by_cases h : j < n
  · rw [if_pos h]
    have : ¬ n ≤ j := by omega
    simp [this]
  · rw [if_neg h, Nat.testBit_lt_two_pow (Nat.lt_of_lt_of_le hd (Nat.pow_le_pow_right (by omega) (by omega)))]
    have : n ≤ j := by omega
    simp [this]
theorem stN4_small : ∀ d : Fin 16, stN 4 d.val = tabN d.val := by decide
theorem stN4 (r : Nat) : stN 4 r = (r / 16) ^^^ tabN (r % 16) := by
  have h : r = 2 ^ 4 * (r / 16) ^^^ (r % 16) := by rw [xor_join 4 _ _ (by omega)]; omega
  have h2 := stN4_small ⟨r % 16, by omega⟩
  rw [h, stN_xor, stN_pow]
  rw [← h, h2]
theorem stN8 (r : Nat) : stN 8 r = (stN 4 r / 16) ^^^ tabN (stN 4 r % 16) := by rw [← stN4, ← stN_add]
theorem tabN_lt (i : Nat) : tabN i < 4294967296 := by
  by_cases h : i < 16
  · exact (by decide : ∀ d : Fin 16, tabN d.val < 4294967296) ⟨i, h⟩
  · have : tabN i = 0 := by
      unfold tabN
      rw [List.getD_eq_getElem?_getD, List.getElem?_eq_none (by simp; omega)]
      rfl
    omega

theorem eq_of_xor {a b : Nat} (h : a ^^^ b = 0) : a = b := by
  have h1 : (a ^^^ b) ^^^ b = 0 ^^^ b := by rw [h]
  rwa [Nat.xor_assoc, Nat.xor_self, Nat.xor_zero, Nat.zero_xor] at h1
theorem st_zero {x : Nat} (hx : x < 4294967296) (h : st x = 0) : x = 0 := by
  unfold st at h
  split at h
  · have h1 : x / 2 = POLY := eq_of_xor h
    unfold POLY at h1; omega
  · rw [Nat.xor_zero] at h; omega
theorem stN_zero (n : Nat) {x : Nat} (hx : x < 4294967296) (h : stN n x = 0) : x = 0 := by
  induction n generalizing x with
  | zero => exact h
  | succ n ih => exact st_zero hx (ih (st_lt hx) h)
theorem stN_inj (n : Nat) {a b : Nat} (ha : a < 4294967296) (hb : b < 4294967296) (h : stN n a = stN n b) : a = b := by
  have h1 : stN n (a ^^^ b) = 0 := by rw [stN_xor, h, Nat.xor_self]
  exact eq_of_xor (stN_zero n (xor_lt ha hb) h1)
theorem byteC_inj {a b : Nat} (ha : a < 4294967296) (hb : b < 4294967296) (c : UInt8) (h : byteC a c = byteC b c) : a = b := by
  have hc : c.toNat < 4294967296 := by have := c.toNat_lt; omega
  have h1 := stN_inj 8 (xor_lt ha hc) (xor_lt hb hc) h
  have h2 : (a ^^^ c.toNat) ^^^ c.toNat = (b ^^^ c.toNat) ^^^ c.toNat := by rw [h1]
  rwa [Nat.xor_assoc, Nat.xor_assoc, Nat.xor_self, Nat.xor_zero, Nat.xor_zero] at h2
theorem crcR_inj {a b : Nat} (ha : a < 4294967296) (hb : b < 4294967296) (l : List UInt8) (h : crcR a l = crcR b l) : a = b := by
  induction l generalizing a b with
  | nil => exact h
  | cons c l ih => exact byteC_inj ha hb c (ih (byteC_lt ha c) (byteC_lt hb c) h)

/-- four bytes at once -/
theorem crcR_four (r : Nat) (a b c d : UInt8) : crcR r [a, b, c, d] = stN 32 (r ^^^ (a.toNat ^^^ (2 ^ 8 * b.toNat ^^^ (2 ^ 16 * c.toNat ^^^ 2 ^ 24 * d.toNat)))) := by
  show byteC (byteC (byteC (byteC r a) b) c) d = _
  have e8 : ∀ x : Nat, stN 8 (2 ^ 8 * x) = x := stN_pow 8
  have s : ∀ x y, stN 8 (x ^^^ y) = stN 8 x ^^^ stN 8 y := stN_xor 8
  have f : stN 32 (r ^^^ (a.toNat ^^^ (2 ^ 8 * b.toNat ^^^ (2 ^ 16 * c.toNat ^^^ 2 ^ 24 * d.toNat)))) = stN 8 (stN 8 (stN 8 (stN 8 (r ^^^ (a.toNat ^^^ (2 ^ 8 * b.toNat ^^^ (2 ^ 16 * c.toNat ^^^ 2 ^ 24 * d.toNat))))))) := by
    rw [← stN_add, ← stN_add, ← stN_add]
  have p2 : (2 : Nat) ^ 16 * c.toNat = 2 ^ 8 * (2 ^ 8 * c.toNat) := by rw [← Nat.mul_assoc, ← Nat.pow_add]
  have p3 : (2 : Nat) ^ 24 * d.toNat = 2 ^ 8 * (2 ^ 8 * (2 ^ 8 * d.toNat)) := by rw [← Nat.mul_assoc, ← Nat.mul_assoc, ← Nat.pow_add, ← Nat.pow_add]
  rw [f, p2, p3]
  unfold byteC
  simp only [s, e8, Nat.xor_assoc]

theorem four_zero {a b c d : Nat} (ha : a < 256) (hb : b < 256) (hc : c < 256) (h : a ^^^ (2 ^ 8 * b ^^^ (2 ^ 16 * c ^^^ 2 ^ 24 * d)) = 0) : a = 0 ∧ b = 0 ∧ c = 0 ∧ d = 0 := by
  have p1 : 2 ^ 16 * c ^^^ 2 ^ 24 * d = 2 ^ 24 * d + 2 ^ 16 * c := by rw [Nat.xor_comm, xor_join 24 d (2 ^ 16 * c) (by omega)]
  have p2 : 2 ^ 8 * b ^^^ (2 ^ 24 * d + 2 ^ 16 * c) = 2 ^ 16 * (2 ^ 8 * d + c) + 2 ^ 8 * b := by
    rw [Nat.xor_comm, show 2 ^ 24 * d + 2 ^ 16 * c = 2 ^ 16 * (2 ^ 8 * d + c) by omega, xor_join 16 _ (2 ^ 8 * b) (by omega)]
  have p3 : a ^^^ (2 ^ 16 * (2 ^ 8 * d + c) + 2 ^ 8 * b) = 2 ^ 8 * (2 ^ 8 * (2 ^ 8 * d + c) + b) + a := by
    rw [Nat.xor_comm, show 2 ^ 16 * (2 ^ 8 * d + c) + 2 ^ 8 * b = 2 ^ 8 * (2 ^ 8 * (2 ^ 8 * d + c) + b) by omega, xor_join 8 _ a (by omega)]
  rw [p1, p2, p3] at h
  omega

theorem u8_xor_toNat (a b : UInt8) : (a ^^^ b).toNat = a.toNat ^^^ b.toNat := UInt8.toNat_xor a b

/-- A burst of up to four bytes turns the sum. -/
theorem crcK_burst (p s : List UInt8) (a b c d x y z u : UInt8) (h : crcK (p ++ [a, b, c, d] ++ s) = crcK (p ++ [a ^^^ x, b ^^^ y, c ^^^ z, d ^^^ u] ++ s)) : x = 0 ∧ y = 0 ∧ z = 0 ∧ u = 0 := by
  have hr : (4294967295 : Nat) < 4294967296 := by omega
  unfold crcK at h
  have l1 := crcR_lt hr (p ++ [a, b, c, d] ++ s)
  have l2 := crcR_lt hr (p ++ [a ^^^ x, b ^^^ y, c ^^^ z, d ^^^ u] ++ s)
  have h1 : crcR 4294967295 (p ++ [a, b, c, d] ++ s) = crcR 4294967295 (p ++ [a ^^^ x, b ^^^ y, c ^^^ z, d ^^^ u] ++ s) := by omega
  rw [crcR_append, crcR_append, crcR_append, crcR_append] at h1
  have hq := crcR_lt hr p
  generalize crcR 4294967295 p = q at h1 hq
  have h2 := crcR_inj (crcR_lt hq _) (crcR_lt hq _) s h1
  rw [crcR_four, crcR_four] at h2
  have ba := a.toNat_lt; have bb := b.toNat_lt; have bc := c.toNat_lt; have bd := d.toNat_lt
  have bx := x.toNat_lt; have by' := y.toNat_lt; have bz := z.toNat_lt; have bu := u.toNat_lt
  have bnd : ∀ (k : Nat) (v : UInt8), k ≤ 24 → 2 ^ k * v.toNat < 4294967296 := fun k v hk => by
    have := v.toNat_lt
    have h3 : 2 ^ k ≤ 2 ^ 24 := Nat.pow_le_pow_right (by omega) hk
    have h4 : 2 ^ k * v.toNat ≤ 2 ^ 24 * v.toNat := Nat.mul_le_mul_right _ h3
    omega
  have big : ∀ a b c d : UInt8, q ^^^ (a.toNat ^^^ (2 ^ 8 * b.toNat ^^^ (2 ^ 16 * c.toNat ^^^ 2 ^ 24 * d.toNat))) < 4294967296 := fun a b c d =>
    xor_lt hq (xor_lt (by have := a.toNat_lt; omega) (xor_lt (bnd 8 b (by omega)) (xor_lt (bnd 16 c (by omega)) (bnd 24 d (by omega)))))
  have h3 := stN_inj 32 (big _ _ _ _) (big _ _ _ _) h2
  have hx : ∀ v w : UInt8, ∀ k, 2 ^ k * (v ^^^ w).toNat = 2 ^ k * v.toNat ^^^ 2 ^ k * w.toNat := fun v w k => by
    rw [u8_xor_toNat]
    apply Nat.eq_of_testBit_eq
    intro j
    rw [Nat.testBit_xor, Nat.testBit_two_pow_mul, Nat.testBit_two_pow_mul, Nat.testBit_two_pow_mul, Nat.testBit_xor]
    cases decide (j ≥ k) <;> simp
  rw [hx, hx, hx, u8_xor_toNat] at h3
  have h4 : x.toNat ^^^ (2 ^ 8 * y.toNat ^^^ (2 ^ 16 * z.toNat ^^^ 2 ^ 24 * u.toNat)) = 0 := by
    have e : q ^^^ ((a.toNat ^^^ x.toNat) ^^^ ((2 ^ 8 * b.toNat ^^^ 2 ^ 8 * y.toNat) ^^^ ((2 ^ 16 * c.toNat ^^^ 2 ^ 16 * z.toNat) ^^^ (2 ^ 24 * d.toNat ^^^ 2 ^ 24 * u.toNat)))) =
        (q ^^^ (a.toNat ^^^ (2 ^ 8 * b.toNat ^^^ (2 ^ 16 * c.toNat ^^^ 2 ^ 24 * d.toNat)))) ^^^ (x.toNat ^^^ (2 ^ 8 * y.toNat ^^^ (2 ^ 16 * z.toNat ^^^ 2 ^ 24 * u.toNat))) := by
      rw [xor4 (2 ^ 16 * c.toNat), xor4 (2 ^ 8 * b.toNat), xor4 a.toNat]; simp only [Nat.xor_assoc]
    rw [e] at h3
    generalize q ^^^ (a.toNat ^^^ (2 ^ 8 * b.toNat ^^^ (2 ^ 16 * c.toNat ^^^ 2 ^ 24 * d.toNat))) = m at h3
    have h5 : m ^^^ m = m ^^^ (m ^^^ (x.toNat ^^^ (2 ^ 8 * y.toNat ^^^ (2 ^ 16 * z.toNat ^^^ 2 ^ 24 * u.toNat)))) := by rw [← h3]
    rw [Nat.xor_self, ← Nat.xor_assoc, Nat.xor_self, Nat.zero_xor] at h5
    exact h5.symm
  obtain ⟨i1, i2, i3, i4⟩ := four_zero bx by' bz h4
  have fin : ∀ v : UInt8, v.toNat = 0 → v = 0 := fun v hv => UInt8.toNat_inj.1 (by rw [hv]; rfl)
  exact ⟨fin _ i1, fin _ i2, fin _ i3, fin _ i4⟩
end Go.Proofs.YtlkifobajdafpaaDoor
