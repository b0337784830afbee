/- The rune at a place, as the reference of package runes has it, and by the model's own decoding. Plain Lean. -/
import Derived.Test.YtdclfdinhdaadaaGreatDoorMgD
import Derived.Lib.DecodeN
namespace Go.Proofs.YtdclfdinhdaadaaGreatDoor
open Go.RowKit

/-- the rune at a place, and how many bytes it has; 0: there is none -/
def rsz (s : ByteArray) (i : Nat) : Nat × Nat := if badR (Utf8.decode s i) = true then (0, 0) else ((Utf8.decode s i).2, (Utf8.decode s i).1)

/-- the same, as the reference has it: the bytes behind the first, one by one -/
def more (b : Nat → Nat) : Nat → Nat → Nat → Option Nat
  | 0, _, v => some v
  | f + 1, k, v => if b k < 128 ∨ 191 < b k then none else more b f (k + 1) (64 * v + b k - 128)
def rszN (m : Nat) (b : Nat → Nat) (n low v : Nat) : Nat × Nat :=
  if m < n then (0, 0) else match more b (n - 1) 1 v with
    | none => (0, 0)
    | some x => if x < low ∨ 1114111 < x ∨ (55296 ≤ x ∧ x ≤ 57343) then (0, 0) else (n, x)
def rszB (m : Nat) (b : Nat → Nat) : Nat × Nat :=
  if b 0 < 128 then (1, b 0) else if 194 ≤ b 0 ∧ b 0 ≤ 223 then rszN m b 2 128 (b 0 - 192) else if 224 ≤ b 0 ∧ b 0 ≤ 239 then rszN m b 3 2048 (b 0 - 224)
  else if 240 ≤ b 0 ∧ b 0 ≤ 244 then rszN m b 4 65536 (b 0 - 240) else (0, 0)

def flipN (x : Nat × Nat) : Nat × Nat := if x.1 = 65533 ∧ x.2 = 1 then (0, 0) else (x.2, x.1)

set_option maxRecDepth 100000 in
set_option maxHeartbeats 8000000 in
theorem rszB_2 (n b0 b1 b2 b3 : Nat) (hn : 1 ≤ n) (h1 : b1 < 256) (hb : 194 ≤ b0 ∧ b0 ≤ 223) :
    (if n < 2 then (0, 0) else if b1 < 128 ∨ 191 < b1 then (0, 0) else if 64 * (b0 - 192) + b1 - 128 < 128 ∨ 1114111 < 64 * (b0 - 192) + b1 - 128 ∨ (55296 ≤ 64 * (b0 - 192) + b1 - 128 ∧ 64 * (b0 - 192) + b1 - 128 ≤ 57343) then (0, 0) else (2, 64 * (b0 - 192) + b1 - 128)) = flipN (Lib.decodeN n b0 b1 b2 b3) := by
  unfold Lib.decodeN flipN
  repeat' split
  all_goals first | (exfalso; omega) | (exfalso; simp_all; omega) | (apply Prod.ext <;> simp_all <;> omega)
set_option maxRecDepth 100000 in
set_option maxHeartbeats 8000000 in
theorem rszB_3 (n b0 b1 b2 b3 x : Nat) (hn : 1 ≤ n) (h1 : b1 < 256) (h2 : b2 < 256) (hb : 224 ≤ b0 ∧ b0 ≤ 239) (hx : 128 ≤ b1 → 128 ≤ b2 → x = 64 * (64 * (b0 - 224) + b1 - 128) + b2 - 128) :
    (if n < 3 then (0, 0) else if b1 < 128 ∨ 191 < b1 then (0, 0) else if b2 < 128 ∨ 191 < b2 then (0, 0) else if x < 2048 ∨ 1114111 < x ∨ (55296 ≤ x ∧ x ≤ 57343) then (0, 0) else (3, x)) = flipN (Lib.decodeN n b0 b1 b2 b3) := by
  unfold Lib.decodeN flipN
  repeat' split
  all_goals first | (exfalso; omega) | (exfalso; simp_all; omega) | (apply Prod.ext <;> simp_all <;> omega)
set_option maxRecDepth 100000 in
set_option maxHeartbeats 8000000 in
theorem rszB_4 (n b0 b1 b2 b3 x : Nat) (hn : 1 ≤ n) (h1 : b1 < 256) (h2 : b2 < 256) (h3 : b3 < 256) (hb : 240 ≤ b0 ∧ b0 ≤ 244) (hx : 128 ≤ b1 → 128 ≤ b2 → 128 ≤ b3 → x = 64 * (64 * (64 * (b0 - 240) + b1 - 128) + b2 - 128) + b3 - 128) :
    (if n < 4 then (0, 0) else if b1 < 128 ∨ 191 < b1 then (0, 0) else if b2 < 128 ∨ 191 < b2 then (0, 0) else if b3 < 128 ∨ 191 < b3 then (0, 0) else if x < 65536 ∨ 1114111 < x ∨ (55296 ≤ x ∧ x ≤ 57343) then (0, 0) else (4, x)) = flipN (Lib.decodeN n b0 b1 b2 b3) := by
  unfold Lib.decodeN flipN
  repeat' split
  all_goals first | (exfalso; omega) | (exfalso; simp_all; omega) | (apply Prod.ext <;> simp_all <;> omega)

theorem rszB_eq (m : Nat) (b : Nat → Nat) (hm : 1 ≤ m) (hb : ∀ k, b k < 256) : rszB m b = flipN (Lib.decodeN m (b 0) (b 1) (b 2) (b 3)) := by
  have h0 := hb 0
  have h1 := hb 1
  have h2 := hb 2
  have h3 := hb 3
  unfold rszB
  by_cases c0 : b 0 < 128
  · rw [if_pos c0]
    unfold Lib.decodeN flipN
    rw [if_pos c0, if_neg (by simp only; omega)]
  rw [if_neg c0]
  by_cases c2 : 194 ≤ b 0 ∧ b 0 ≤ 223
  · rw [if_pos c2, ← rszB_2 m (b 0) (b 1) (b 2) (b 3) hm h1 c2]
    unfold rszN
    simp only [more, Nat.reduceSub]
    by_cases q : m < 2
    · rw [if_pos q, if_pos q]
    · rw [if_neg q, if_neg q]
      by_cases q1 : b 1 < 128 ∨ 191 < b 1
      · rw [if_pos q1, if_pos q1]
      · rw [if_neg q1, if_neg q1]
  rw [if_neg c2]
  by_cases c3 : 224 ≤ b 0 ∧ b 0 ≤ 239
  · rw [if_pos c3, ← rszB_3 m (b 0) (b 1) (b 2) (b 3) (64 * (64 * (b 0 - 224) + b 1 - 128) + b 2 - 128) hm h1 h2 c3 (fun _ _ => rfl)]
    unfold rszN
    simp only [more, Nat.reduceSub]
    by_cases q : m < 3
    · rw [if_pos q, if_pos q]
    · rw [if_neg q, if_neg q]
      by_cases q1 : b 1 < 128 ∨ 191 < b 1
      · rw [if_pos q1, if_pos q1]
      · rw [if_neg q1, if_neg q1]
        by_cases q2 : b 2 < 128 ∨ 191 < b 2
        · rw [show 1 + 1 = 2 from rfl, if_pos q2, if_pos q2]
        · rw [show 1 + 1 = 2 from rfl, if_neg q2, if_neg q2]
  rw [if_neg c3]
  by_cases c4 : 240 ≤ b 0 ∧ b 0 ≤ 244
  · rw [if_pos c4, ← rszB_4 m (b 0) (b 1) (b 2) (b 3) (64 * (64 * (64 * (b 0 - 240) + b 1 - 128) + b 2 - 128) + b 3 - 128) hm h1 h2 h3 c4 (fun _ _ _ => rfl)]
    unfold rszN
    simp only [more, Nat.reduceSub]
    by_cases q : m < 4
    · rw [if_pos q, if_pos q]
    · rw [if_neg q, if_neg q]
      by_cases q1 : b 1 < 128 ∨ 191 < b 1
      · rw [if_pos q1, if_pos q1]
      · rw [if_neg q1, if_neg q1]
        by_cases q2 : b 2 < 128 ∨ 191 < b 2
        · rw [show 1 + 1 = 2 from rfl, if_pos q2, if_pos q2]
        · rw [show 1 + 1 = 2 from rfl, if_neg q2, if_neg q2]
          by_cases q3 : b 3 < 128 ∨ 191 < b 3
          · rw [show 2 + 1 = 3 from rfl, if_pos q3, if_pos q3]
          · rw [show 2 + 1 = 3 from rfl, if_neg q3, if_neg q3]
  rw [if_neg c4]
  unfold Lib.decodeN flipN
  repeat' split
  all_goals first | rfl | (exfalso; omega) | (exfalso; simp_all; omega)

theorem rsz_eq (s : ByteArray) (i : Nat) (hi : i < s.size) : rszB (s.size - i) (fun k => (s.get! (i + k)).toNat) = rsz s i := by
  rw [rszB_eq _ _ (by omega) (fun k => (s.get! (i + k)).toNat_lt)]
  unfold rsz flipN badR
  rw [Lib.decode_at]
  simp only [Nat.add_zero, Bool.and_eq_true, beq_iff_eq]

end Go.Proofs.YtdclfdinhdaadaaGreatDoor

/- The reference of package runes: the contract of Size. -/
namespace Go.Proofs.YtdclfdinhdaadaaGreatDoor
open Go.RowKit

/-- what the reference has of the byte at a place -/
def bAt (s : ByteArray) (i k : Nat) : Nat := (s.get! (i + k)).toNat
theorem bAt_lt (s : ByteArray) (i k : Nat) : bAt s i k < 256 := (s.get! (i + k)).toNat_lt
theorem bAt_get (s : ByteArray) (i k : Nat) (h : i + k < s.size) : (s[i + k]).toNat = bAt s i k := by
  unfold bAt
  show (s.data[i + k]).toNat = (s.data[i + k]!).toNat
  rw [getElem!_pos s.data (i + k) h]
theorem ret2i {a b : Nat × Nat} (h : a = b) : Ending.returned (.tuple #[.int .i64 a.1, .int .i64 a.2]) = Ending.returned (.tuple #[.int .i64 b.1, .int .i64 b.2]) := by rw [h]

set_option maxRecDepth 100000 in
set_option maxHeartbeats 4000000 in
theorem ref05_Size_ascii (s : ByteArray) (i c : Nat) (w : World) (hi : i < s.size) (hs : s.size ≤ 100000) (hc : bAt s i 0 = c) (h : c < 128) :
    Calls Tryz.prog 66 #[.string s, .int .i64 i] w fun e w' => e = .returned (.tuple #[.int .i64 (rszB (s.size - i) (bAt s i)).1, .int .i64 (rszB (s.size - i) (bAt s i)).2]) ∧ w = w' := by
  obtain ⟨q, HQ⟩ : ∃ q, Hid (rszB (s.size - i) (bAt s i) = q) := ⟨_, rfl⟩
  have hc0 : (s[i]'hi).toNat = c := by rw [← hc]; exact bAt_get s i 0 hi
  have HC := Lib.hid hc
  have hc255 : c < 256 := by rw [← hc]; exact bAt_lt s i 0
  have HH := Lib.hid h
  have hs0 : i ≤ 100000 := by omega
  rw [HQ.out]
  clear hc
  have h1 : (c : Int) < 128 := by omega
  clear h
  go_enter Tryz.func66, Tryz.ntmps66
  go_wp2
  go_ret2
  refine ⟨ret2i (a := (1, c)) ?_, rfl⟩
  rw [← HQ.out]
  unfold rszB
  rw [HC.out, if_pos (by omega)]
set_option maxRecDepth 100000 in
set_option maxHeartbeats 4000000 in
theorem ref05_Size_low (s : ByteArray) (i c : Nat) (w : World) (hi : i < s.size) (hs : s.size ≤ 100000) (hc : bAt s i 0 = c) (h : 128 ≤ c ∧ c < 194) :
    Calls Tryz.prog 66 #[.string s, .int .i64 i] w fun e w' => e = .returned (.tuple #[.int .i64 (rszB (s.size - i) (bAt s i)).1, .int .i64 (rszB (s.size - i) (bAt s i)).2]) ∧ w = w' := by
  obtain ⟨q, HQ⟩ : ∃ q, Hid (rszB (s.size - i) (bAt s i) = q) := ⟨_, rfl⟩
  have hc0 : (s[i]'hi).toNat = c := by rw [← hc]; exact bAt_get s i 0 hi
  have HC := Lib.hid hc
  have hc255 : c < 256 := by rw [← hc]; exact bAt_lt s i 0
  have HH := Lib.hid h
  have hs0 : i ≤ 100000 := by omega
  rw [HQ.out]
  clear hc
  have h1 : ¬ (c : Int) < 128 := by omega
  have h2 : ¬ 194 ≤ (c : Int) := by omega
  have h3 : ¬ 224 ≤ (c : Int) := by omega
  have h4 : ¬ 240 ≤ (c : Int) := by omega
  clear h
  go_enter Tryz.func66, Tryz.ntmps66
  go_wp2
  go_ret2
  refine ⟨ret2i (a := (0, 0)) ?_, rfl⟩
  rw [← HQ.out]
  unfold rszB
  rw [HC.out, if_neg (by have := HH.out; omega), if_neg (by have := HH.out; omega), if_neg (by have := HH.out; omega), if_neg (by have := HH.out; omega)]
set_option maxRecDepth 100000 in
set_option maxHeartbeats 4000000 in
theorem ref05_Size_high (s : ByteArray) (i c : Nat) (w : World) (hi : i < s.size) (hs : s.size ≤ 100000) (hc : bAt s i 0 = c) (h : 245 ≤ c) :
    Calls Tryz.prog 66 #[.string s, .int .i64 i] w fun e w' => e = .returned (.tuple #[.int .i64 (rszB (s.size - i) (bAt s i)).1, .int .i64 (rszB (s.size - i) (bAt s i)).2]) ∧ w = w' := by
  obtain ⟨q, HQ⟩ : ∃ q, Hid (rszB (s.size - i) (bAt s i) = q) := ⟨_, rfl⟩
  have hc0 : (s[i]'hi).toNat = c := by rw [← hc]; exact bAt_get s i 0 hi
  have HC := Lib.hid hc
  have hc255 : c < 256 := by rw [← hc]; exact bAt_lt s i 0
  have HH := Lib.hid h
  have hs0 : i ≤ 100000 := by omega
  rw [HQ.out]
  clear hc
  have h1 : ¬ (c : Int) < 128 := by omega
  have h2 : 194 ≤ (c : Int) := by omega
  have h3 : ¬ (c : Int) ≤ 223 := by omega
  have h4 : 224 ≤ (c : Int) := by omega
  have h5 : ¬ (c : Int) ≤ 239 := by omega
  have h6 : 240 ≤ (c : Int) := by omega
  have h7 : ¬ (c : Int) ≤ 244 := by omega
  clear h
  go_enter Tryz.func66, Tryz.ntmps66
  go_wp2
  go_ret2
  refine ⟨ret2i (a := (0, 0)) ?_, rfl⟩
  rw [← HQ.out]
  unfold rszB
  rw [HC.out, if_neg (by have := HH.out; omega), if_neg (by have := HH.out; omega), if_neg (by have := HH.out; omega), if_neg (by have := HH.out; omega)]
set_option maxRecDepth 100000 in
set_option maxHeartbeats 4000000 in
theorem ref05_Size_two (s : ByteArray) (i c : Nat) (w : World) (hi : i < s.size) (hs : s.size ≤ 100000) (hc : bAt s i 0 = c) (h : 194 ≤ c ∧ c ≤ 223) :
    Calls Tryz.prog 66 #[.string s, .int .i64 i] w fun e w' => e = .returned (.tuple #[.int .i64 (rszB (s.size - i) (bAt s i)).1, .int .i64 (rszB (s.size - i) (bAt s i)).2]) ∧ w = w' := by
  obtain ⟨q, HQ⟩ : ∃ q, Hid (rszB (s.size - i) (bAt s i) = q) := ⟨_, rfl⟩
  have hc0 : (s[i]'hi).toNat = c := by rw [← hc]; exact bAt_get s i 0 hi
  have HC := Lib.hid hc
  have hc255 : c < 256 := by rw [← hc]; exact bAt_lt s i 0
  have HH := Lib.hid h
  have hs0 : i ≤ 100000 := by omega
  rw [HQ.out]
  clear hc
  have h1 : ¬ (c : Int) < 128 := by omega
  have h2 : 194 ≤ (c : Int) := by omega
  have h3 : (c : Int) ≤ 223 := by omega
  clear h
  go_enter Tryz.func66, Tryz.ntmps66
  obtain ⟨v0, hv0⟩ : ∃ v0 : Nat, v0 = c - 192 := ⟨_, rfl⟩
  have hv1 : (c : Int) - 192 = (v0 : Int) := by have := HH.out; omega
  have hv2 : wrap64 (v0 : Int) = (v0 : Int) := by unfold wrap64; have := HH.out; omega
  have hv3 : v0 < 64 := by have := HH.out; omega
  have HV : Hid (rszN (s.size - i) (bAt s i) 2 128 v0 = q) := by
    show _ = _
    rw [← HQ.out]
    unfold rszB
    rw [HC.out, if_neg (by have := HH.out; omega), if_pos (by have := HH.out; omega), hv0]
  clear hv0
  by_cases hl : s.size < i + 2
  · have hl1 : (s.size : Int) < (i : Int) + 2 := by omega
    go_wp2
    go_ret2
    refine ⟨ret2i (a := (0, 0)) ?_, rfl⟩
    rw [← HV.out]
    unfold rszN
    rw [if_pos (by omega)]
  · have hl1 : ¬ (s.size : Int) < (i : Int) + 2 := by omega
    have HN : Hid (¬ s.size - i < 2) := by show ¬ _; omega
    go_wp2
    go_loopw [9, 10, 11] (fun v k _ wr => ∃ kk vv : Nat, 1 ≤ kk ∧ kk ≤ 2 ∧ k = .int .i64 kk ∧ v = .int .i64 vv ∧ (kk = 1 → vv < 64) ∧ (kk = 2 → vv < 4096) ∧ (kk = 3 → vv < 262144) ∧ (kk = 4 → vv < 16777216) ∧ more (bAt s i) (2 - kk) kk vv = more (bAt s i) (2 - 1) 1 v0 ∧ w = wr) (fun _ k _ _ => 2 - (intOf k).toNat)
    case atStart => exact ⟨1, v0, by omega, by omega, rfl, rfl, fun _ => hv3, fun h => absurd h (by omega), fun h => absurd h (by omega), fun h => absurd h (by omega), rfl, rfl⟩
    case round =>
      obtain ⟨k, v, hk1, hk2, rfl, rfl, b1, b2, b3, b4, hm, rfl⟩ := hrel
      have hvb : v < 16777216 := by
        have : k = 1 ∨ k = 2 ∨ k = 3 ∨ k = 4 := by omega
        rcases this with h | h | h | h
        · have := b1 h; omega
        · have := b2 h; omega
        · have := b3 h; omega
        · exact b4 h
      have HB := Lib.hid (show (k = 1 → v < 64) ∧ (k = 2 → v < 4096) ∧ (k = 3 → v < 262144) from ⟨b1, b2, b3⟩)
      have HM := Lib.hid hm
      clear hm b1 b2 b3 b4
      by_cases hk : k < 2
      · have hk3 : (k : Int) < 2 := by omega
        have hik : i + k < s.size := by omega
        obtain ⟨d, hd⟩ : ∃ d, bAt s i k = d := ⟨_, rfl⟩
        have hd0 : (s[i + k]'hik).toNat = d := by rw [← hd]; exact bAt_get s i k hik
        have hd255 : d < 256 := by rw [← hd]; exact bAt_lt s i k
        have q1 : ((i : Int) + (k : Int)).toNat = i + k := by omega
        have q2 : (i : Int) + (k : Int) < s.size := by omega
        have HD := Lib.hid hd
        obtain ⟨f, hf⟩ : ∃ f, 2 - k = f + 1 := ⟨2 - k - 1, by omega⟩
        have HF := Lib.hid hf
        have HST : Hid (more (bAt s i) (f + 1) k v = if d < 128 ∨ 191 < d then none else more (bAt s i) f (k + 1) (64 * v + d - 128)) := by
          show _ = _
          rw [more, HD.out]
        clear hd hf
        by_cases hdd : d < 128 ∨ 191 < d
        · have HR : Hid ((0, 0) = q) := by
            show _ = _
            rw [← HV.out]
            unfold rszN
            rw [if_neg HN.out, ← HM.out, HF.out, HST.out, if_pos hdd]
          by_cases hd1 : d < 128
          · have hd2 : (d : Int) < 128 := by omega
            clear hdd
            go_wp2
            go_ret2
            exact ⟨ret2i (a := (0, 0)) HR.out, rfl⟩
          · have hd2 : ¬ (d : Int) < 128 := by omega
            have hd3 : 191 < (d : Int) := by omega
            clear hdd
            go_wp2
            go_ret2
            exact ⟨ret2i (a := (0, 0)) HR.out, rfl⟩
        · have hd2 : ¬ (d : Int) < 128 := by omega
          have hd3 : ¬ 191 < (d : Int) := by omega
          have HS : Hid (more (bAt s i) (2 - (k + 1)) (k + 1) (64 * v + d - 128) = more (bAt s i) (2 - 1) 1 v0) := by
            show _ = _
            rw [← HM.out, HF.out, HST.out, if_neg hdd, show 2 - (k + 1) = f by have := HF.out; omega]
          clear hdd
          go_wp2
          go_roundw
          case rel => exact ⟨k + 1, 64 * v + d - 128, by omega, by omega, by go_num, by congr 1; omega, fun h => by omega, fun h => by have := HB.out.1 (by omega); omega, fun h => by have := HB.out.2.1 (by omega); omega, fun h => by have := HB.out.2.2 (by omega); omega, HS.out, trivial⟩
          case measure => simp [intOf]; omega
      · have hk3 : k = 2 := by omega
        subst hk3
        have HX : Hid ((if v < 128 ∨ 1114111 < v ∨ (55296 ≤ v ∧ v ≤ 57343) then (0, 0) else (2, v)) = q) := by
          show _ = _
          rw [← HV.out]
          unfold rszN
          rw [if_neg HN.out, ← HM.out]
          rfl
        have hv4 : wrap64 (v : Int) = (v : Int) := by unfold wrap64; omega
        clear hk hv1 hv2
        by_cases x1 : v < 128
        · have y1 : (v : Int) < 128 := by omega
          have HR : Hid ((0, 0) = q) := by show _ = _; rw [← HX.out, if_pos (.inl x1)]
          go_wp2
          go_ret2
          exact ⟨ret2i (a := (0, 0)) HR.out, rfl⟩
        have y1 : ¬ (v : Int) < 128 := by omega
        by_cases x2 : 1114111 < v
        · have y2 : 1114111 < (v : Int) := by omega
          have HR : Hid ((0, 0) = q) := by show _ = _; rw [← HX.out, if_pos (.inr (.inl x2))]
          go_wp2
          go_ret2
          exact ⟨ret2i (a := (0, 0)) HR.out, rfl⟩
        have y2 : ¬ 1114111 < (v : Int) := by omega
        by_cases x3 : 55296 ≤ v
        · have y3 : 55296 ≤ (v : Int) := by omega
          by_cases x4 : v ≤ 57343
          · have y4 : (v : Int) ≤ 57343 := by omega
            have HR : Hid ((0, 0) = q) := by show _ = _; rw [← HX.out, if_pos (.inr (.inr ⟨x3, x4⟩))]
            go_wp2
            go_ret2
            exact ⟨ret2i (a := (0, 0)) HR.out, rfl⟩
          · have y4 : ¬ (v : Int) ≤ 57343 := by omega
            have HR : Hid ((2, v) = q) := by show _ = _; rw [← HX.out, if_neg (by omega)]
            go_wp2
            go_ret2
            exact ⟨ret2i (a := (2, v)) HR.out, rfl⟩
        · have y3 : ¬ 55296 ≤ (v : Int) := by omega
          have HR : Hid ((2, v) = q) := by show _ = _; rw [← HX.out, if_neg (by omega)]
          go_wp2
          go_ret2
          exact ⟨ret2i (a := (2, v)) HR.out, rfl⟩
set_option maxRecDepth 100000 in
set_option maxHeartbeats 4000000 in
theorem ref05_Size_three (s : ByteArray) (i c : Nat) (w : World) (hi : i < s.size) (hs : s.size ≤ 100000) (hc : bAt s i 0 = c) (h : 224 ≤ c ∧ c ≤ 239) :
    Calls Tryz.prog 66 #[.string s, .int .i64 i] w fun e w' => e = .returned (.tuple #[.int .i64 (rszB (s.size - i) (bAt s i)).1, .int .i64 (rszB (s.size - i) (bAt s i)).2]) ∧ w = w' := by
  obtain ⟨q, HQ⟩ : ∃ q, Hid (rszB (s.size - i) (bAt s i) = q) := ⟨_, rfl⟩
  have hc0 : (s[i]'hi).toNat = c := by rw [← hc]; exact bAt_get s i 0 hi
  have HC := Lib.hid hc
  have hc255 : c < 256 := by rw [← hc]; exact bAt_lt s i 0
  have HH := Lib.hid h
  have hs0 : i ≤ 100000 := by omega
  rw [HQ.out]
  clear hc
  have h1 : ¬ (c : Int) < 128 := by omega
  have h2 : 194 ≤ (c : Int) := by omega
  have h3 : ¬ (c : Int) ≤ 223 := by omega
  have h4 : 224 ≤ (c : Int) := by omega
  have h5 : (c : Int) ≤ 239 := by omega
  clear h
  go_enter Tryz.func66, Tryz.ntmps66
  obtain ⟨v0, hv0⟩ : ∃ v0 : Nat, v0 = c - 224 := ⟨_, rfl⟩
  have hv1 : (c : Int) - 224 = (v0 : Int) := by have := HH.out; omega
  have hv2 : wrap64 (v0 : Int) = (v0 : Int) := by unfold wrap64; have := HH.out; omega
  have hv3 : v0 < 64 := by have := HH.out; omega
  have HV : Hid (rszN (s.size - i) (bAt s i) 3 2048 v0 = q) := by
    show _ = _
    rw [← HQ.out]
    unfold rszB
    rw [HC.out, if_neg (by have := HH.out; omega), if_neg (by have := HH.out; omega), if_pos (by have := HH.out; omega), hv0]
  clear hv0
  by_cases hl : s.size < i + 3
  · have hl1 : (s.size : Int) < (i : Int) + 3 := by omega
    go_wp2
    go_ret2
    refine ⟨ret2i (a := (0, 0)) ?_, rfl⟩
    rw [← HV.out]
    unfold rszN
    rw [if_pos (by omega)]
  · have hl1 : ¬ (s.size : Int) < (i : Int) + 3 := by omega
    have HN : Hid (¬ s.size - i < 3) := by show ¬ _; omega
    go_wp2
    go_loopw [9, 10, 11] (fun v k _ wr => ∃ kk vv : Nat, 1 ≤ kk ∧ kk ≤ 3 ∧ k = .int .i64 kk ∧ v = .int .i64 vv ∧ (kk = 1 → vv < 64) ∧ (kk = 2 → vv < 4096) ∧ (kk = 3 → vv < 262144) ∧ (kk = 4 → vv < 16777216) ∧ more (bAt s i) (3 - kk) kk vv = more (bAt s i) (3 - 1) 1 v0 ∧ w = wr) (fun _ k _ _ => 3 - (intOf k).toNat)
    case atStart => exact ⟨1, v0, by omega, by omega, rfl, rfl, fun _ => hv3, fun h => absurd h (by omega), fun h => absurd h (by omega), fun h => absurd h (by omega), rfl, rfl⟩
    case round =>
      obtain ⟨k, v, hk1, hk2, rfl, rfl, b1, b2, b3, b4, hm, rfl⟩ := hrel
      have hvb : v < 16777216 := by
        have : k = 1 ∨ k = 2 ∨ k = 3 ∨ k = 4 := by omega
        rcases this with h | h | h | h
        · have := b1 h; omega
        · have := b2 h; omega
        · have := b3 h; omega
        · exact b4 h
      have HB := Lib.hid (show (k = 1 → v < 64) ∧ (k = 2 → v < 4096) ∧ (k = 3 → v < 262144) from ⟨b1, b2, b3⟩)
      have HM := Lib.hid hm
      clear hm b1 b2 b3 b4
      by_cases hk : k < 3
      · have hk3 : (k : Int) < 3 := by omega
        have hik : i + k < s.size := by omega
        obtain ⟨d, hd⟩ : ∃ d, bAt s i k = d := ⟨_, rfl⟩
        have hd0 : (s[i + k]'hik).toNat = d := by rw [← hd]; exact bAt_get s i k hik
        have hd255 : d < 256 := by rw [← hd]; exact bAt_lt s i k
        have q1 : ((i : Int) + (k : Int)).toNat = i + k := by omega
        have q2 : (i : Int) + (k : Int) < s.size := by omega
        have HD := Lib.hid hd
        obtain ⟨f, hf⟩ : ∃ f, 3 - k = f + 1 := ⟨3 - k - 1, by omega⟩
        have HF := Lib.hid hf
        have HST : Hid (more (bAt s i) (f + 1) k v = if d < 128 ∨ 191 < d then none else more (bAt s i) f (k + 1) (64 * v + d - 128)) := by
          show _ = _
          rw [more, HD.out]
        clear hd hf
        by_cases hdd : d < 128 ∨ 191 < d
        · have HR : Hid ((0, 0) = q) := by
            show _ = _
            rw [← HV.out]
            unfold rszN
            rw [if_neg HN.out, ← HM.out, HF.out, HST.out, if_pos hdd]
          by_cases hd1 : d < 128
          · have hd2 : (d : Int) < 128 := by omega
            clear hdd
            go_wp2
            go_ret2
            exact ⟨ret2i (a := (0, 0)) HR.out, rfl⟩
          · have hd2 : ¬ (d : Int) < 128 := by omega
            have hd3 : 191 < (d : Int) := by omega
            clear hdd
            go_wp2
            go_ret2
            exact ⟨ret2i (a := (0, 0)) HR.out, rfl⟩
        · have hd2 : ¬ (d : Int) < 128 := by omega
          have hd3 : ¬ 191 < (d : Int) := by omega
          have HS : Hid (more (bAt s i) (3 - (k + 1)) (k + 1) (64 * v + d - 128) = more (bAt s i) (3 - 1) 1 v0) := by
            show _ = _
            rw [← HM.out, HF.out, HST.out, if_neg hdd, show 3 - (k + 1) = f by have := HF.out; omega]
          clear hdd
          go_wp2
          go_roundw
          case rel => exact ⟨k + 1, 64 * v + d - 128, by omega, by omega, by go_num, by congr 1; omega, fun h => by omega, fun h => by have := HB.out.1 (by omega); omega, fun h => by have := HB.out.2.1 (by omega); omega, fun h => by have := HB.out.2.2 (by omega); omega, HS.out, trivial⟩
          case measure => simp [intOf]; omega
      · have hk3 : k = 3 := by omega
        subst hk3
        have HX : Hid ((if v < 2048 ∨ 1114111 < v ∨ (55296 ≤ v ∧ v ≤ 57343) then (0, 0) else (3, v)) = q) := by
          show _ = _
          rw [← HV.out]
          unfold rszN
          rw [if_neg HN.out, ← HM.out]
          rfl
        have hv4 : wrap64 (v : Int) = (v : Int) := by unfold wrap64; omega
        clear hk hv1 hv2
        by_cases x1 : v < 2048
        · have y1 : (v : Int) < 2048 := by omega
          have HR : Hid ((0, 0) = q) := by show _ = _; rw [← HX.out, if_pos (.inl x1)]
          go_wp2
          go_ret2
          exact ⟨ret2i (a := (0, 0)) HR.out, rfl⟩
        have y1 : ¬ (v : Int) < 2048 := by omega
        by_cases x2 : 1114111 < v
        · have y2 : 1114111 < (v : Int) := by omega
          have HR : Hid ((0, 0) = q) := by show _ = _; rw [← HX.out, if_pos (.inr (.inl x2))]
          go_wp2
          go_ret2
          exact ⟨ret2i (a := (0, 0)) HR.out, rfl⟩
        have y2 : ¬ 1114111 < (v : Int) := by omega
        by_cases x3 : 55296 ≤ v
        · have y3 : 55296 ≤ (v : Int) := by omega
          by_cases x4 : v ≤ 57343
          · have y4 : (v : Int) ≤ 57343 := by omega
            have HR : Hid ((0, 0) = q) := by show _ = _; rw [← HX.out, if_pos (.inr (.inr ⟨x3, x4⟩))]
            go_wp2
            go_ret2
            exact ⟨ret2i (a := (0, 0)) HR.out, rfl⟩
          · have y4 : ¬ (v : Int) ≤ 57343 := by omega
            have HR : Hid ((3, v) = q) := by show _ = _; rw [← HX.out, if_neg (by omega)]
            go_wp2
            go_ret2
            exact ⟨ret2i (a := (3, v)) HR.out, rfl⟩
        · have y3 : ¬ 55296 ≤ (v : Int) := by omega
          have HR : Hid ((3, v) = q) := by show _ = _; rw [← HX.out, if_neg (by omega)]
          go_wp2
          go_ret2
          exact ⟨ret2i (a := (3, v)) HR.out, rfl⟩
set_option maxRecDepth 100000 in
set_option maxHeartbeats 4000000 in
theorem ref05_Size_four (s : ByteArray) (i c : Nat) (w : World) (hi : i < s.size) (hs : s.size ≤ 100000) (hc : bAt s i 0 = c) (h : 240 ≤ c ∧ c ≤ 244) :
    Calls Tryz.prog 66 #[.string s, .int .i64 i] w fun e w' => e = .returned (.tuple #[.int .i64 (rszB (s.size - i) (bAt s i)).1, .int .i64 (rszB (s.size - i) (bAt s i)).2]) ∧ w = w' := by
  obtain ⟨q, HQ⟩ : ∃ q, Hid (rszB (s.size - i) (bAt s i) = q) := ⟨_, rfl⟩
  have hc0 : (s[i]'hi).toNat = c := by rw [← hc]; exact bAt_get s i 0 hi
  have HC := Lib.hid hc
  have hc255 : c < 256 := by rw [← hc]; exact bAt_lt s i 0
  have HH := Lib.hid h
  have hs0 : i ≤ 100000 := by omega
  rw [HQ.out]
  clear hc
  have h1 : ¬ (c : Int) < 128 := by omega
  have h2 : 194 ≤ (c : Int) := by omega
  have h3 : ¬ (c : Int) ≤ 223 := by omega
  have h4 : 224 ≤ (c : Int) := by omega
  have h5 : ¬ (c : Int) ≤ 239 := by omega
  have h6 : 240 ≤ (c : Int) := by omega
  have h7 : (c : Int) ≤ 244 := by omega
  clear h
  go_enter Tryz.func66, Tryz.ntmps66
  obtain ⟨v0, hv0⟩ : ∃ v0 : Nat, v0 = c - 240 := ⟨_, rfl⟩
  have hv1 : (c : Int) - 240 = (v0 : Int) := by have := HH.out; omega
  have hv2 : wrap64 (v0 : Int) = (v0 : Int) := by unfold wrap64; have := HH.out; omega
  have hv3 : v0 < 64 := by have := HH.out; omega
  have HV : Hid (rszN (s.size - i) (bAt s i) 4 65536 v0 = q) := by
    show _ = _
    rw [← HQ.out]
    unfold rszB
    rw [HC.out, if_neg (by have := HH.out; omega), if_neg (by have := HH.out; omega), if_neg (by have := HH.out; omega), if_pos (by have := HH.out; omega), hv0]
  clear hv0
  by_cases hl : s.size < i + 4
  · have hl1 : (s.size : Int) < (i : Int) + 4 := by omega
    go_wp2
    go_ret2
    refine ⟨ret2i (a := (0, 0)) ?_, rfl⟩
    rw [← HV.out]
    unfold rszN
    rw [if_pos (by omega)]
  · have hl1 : ¬ (s.size : Int) < (i : Int) + 4 := by omega
    have HN : Hid (¬ s.size - i < 4) := by show ¬ _; omega
    go_wp2
    go_loopw [9, 10, 11] (fun v k _ wr => ∃ kk vv : Nat, 1 ≤ kk ∧ kk ≤ 4 ∧ k = .int .i64 kk ∧ v = .int .i64 vv ∧ (kk = 1 → vv < 64) ∧ (kk = 2 → vv < 4096) ∧ (kk = 3 → vv < 262144) ∧ (kk = 4 → vv < 16777216) ∧ more (bAt s i) (4 - kk) kk vv = more (bAt s i) (4 - 1) 1 v0 ∧ w = wr) (fun _ k _ _ => 4 - (intOf k).toNat)
    case atStart => exact ⟨1, v0, by omega, by omega, rfl, rfl, fun _ => hv3, fun h => absurd h (by omega), fun h => absurd h (by omega), fun h => absurd h (by omega), rfl, rfl⟩
    case round =>
      obtain ⟨k, v, hk1, hk2, rfl, rfl, b1, b2, b3, b4, hm, rfl⟩ := hrel
      have hvb : v < 16777216 := by
        have : k = 1 ∨ k = 2 ∨ k = 3 ∨ k = 4 := by omega
        rcases this with h | h | h | h
        · have := b1 h; omega
        · have := b2 h; omega
        · have := b3 h; omega
        · exact b4 h
      have HB := Lib.hid (show (k = 1 → v < 64) ∧ (k = 2 → v < 4096) ∧ (k = 3 → v < 262144) from ⟨b1, b2, b3⟩)
      have HM := Lib.hid hm
      clear hm b1 b2 b3 b4
      by_cases hk : k < 4
      · have hk3 : (k : Int) < 4 := by omega
        have hik : i + k < s.size := by omega
        obtain ⟨d, hd⟩ : ∃ d, bAt s i k = d := ⟨_, rfl⟩
        have hd0 : (s[i + k]'hik).toNat = d := by rw [← hd]; exact bAt_get s i k hik
        have hd255 : d < 256 := by rw [← hd]; exact bAt_lt s i k
        have q1 : ((i : Int) + (k : Int)).toNat = i + k := by omega
        have q2 : (i : Int) + (k : Int) < s.size := by omega
        have HD := Lib.hid hd
        obtain ⟨f, hf⟩ : ∃ f, 4 - k = f + 1 := ⟨4 - k - 1, by omega⟩
        have HF := Lib.hid hf
        have HST : Hid (more (bAt s i) (f + 1) k v = if d < 128 ∨ 191 < d then none else more (bAt s i) f (k + 1) (64 * v + d - 128)) := by
          show _ = _
          rw [more, HD.out]
        clear hd hf
        by_cases hdd : d < 128 ∨ 191 < d
        · have HR : Hid ((0, 0) = q) := by
            show _ = _
            rw [← HV.out]
            unfold rszN
            rw [if_neg HN.out, ← HM.out, HF.out, HST.out, if_pos hdd]
          by_cases hd1 : d < 128
          · have hd2 : (d : Int) < 128 := by omega
            clear hdd
            go_wp2
            go_ret2
            exact ⟨ret2i (a := (0, 0)) HR.out, rfl⟩
          · have hd2 : ¬ (d : Int) < 128 := by omega
            have hd3 : 191 < (d : Int) := by omega
            clear hdd
            go_wp2
            go_ret2
            exact ⟨ret2i (a := (0, 0)) HR.out, rfl⟩
        · have hd2 : ¬ (d : Int) < 128 := by omega
          have hd3 : ¬ 191 < (d : Int) := by omega
          have HS : Hid (more (bAt s i) (4 - (k + 1)) (k + 1) (64 * v + d - 128) = more (bAt s i) (4 - 1) 1 v0) := by
            show _ = _
            rw [← HM.out, HF.out, HST.out, if_neg hdd, show 4 - (k + 1) = f by have := HF.out; omega]
          clear hdd
          go_wp2
          go_roundw
          case rel => exact ⟨k + 1, 64 * v + d - 128, by omega, by omega, by go_num, by congr 1; omega, fun h => by omega, fun h => by have := HB.out.1 (by omega); omega, fun h => by have := HB.out.2.1 (by omega); omega, fun h => by have := HB.out.2.2 (by omega); omega, HS.out, trivial⟩
          case measure => simp [intOf]; omega
      · have hk3 : k = 4 := by omega
        subst hk3
        have HX : Hid ((if v < 65536 ∨ 1114111 < v ∨ (55296 ≤ v ∧ v ≤ 57343) then (0, 0) else (4, v)) = q) := by
          show _ = _
          rw [← HV.out]
          unfold rszN
          rw [if_neg HN.out, ← HM.out]
          rfl
        have hv4 : wrap64 (v : Int) = (v : Int) := by unfold wrap64; omega
        clear hk hv1 hv2
        by_cases x1 : v < 65536
        · have y1 : (v : Int) < 65536 := by omega
          have HR : Hid ((0, 0) = q) := by show _ = _; rw [← HX.out, if_pos (.inl x1)]
          go_wp2
          go_ret2
          exact ⟨ret2i (a := (0, 0)) HR.out, rfl⟩
        have y1 : ¬ (v : Int) < 65536 := by omega
        by_cases x2 : 1114111 < v
        · have y2 : 1114111 < (v : Int) := by omega
          have HR : Hid ((0, 0) = q) := by show _ = _; rw [← HX.out, if_pos (.inr (.inl x2))]
          go_wp2
          go_ret2
          exact ⟨ret2i (a := (0, 0)) HR.out, rfl⟩
        have y2 : ¬ 1114111 < (v : Int) := by omega
        by_cases x3 : 55296 ≤ v
        · have y3 : 55296 ≤ (v : Int) := by omega
          by_cases x4 : v ≤ 57343
          · have y4 : (v : Int) ≤ 57343 := by omega
            have HR : Hid ((0, 0) = q) := by show _ = _; rw [← HX.out, if_pos (.inr (.inr ⟨x3, x4⟩))]
            go_wp2
            go_ret2
            exact ⟨ret2i (a := (0, 0)) HR.out, rfl⟩
          · have y4 : ¬ (v : Int) ≤ 57343 := by omega
            have HR : Hid ((4, v) = q) := by show _ = _; rw [← HX.out, if_neg (by omega)]
            go_wp2
            go_ret2
            exact ⟨ret2i (a := (4, v)) HR.out, rfl⟩
        · have y3 : ¬ 55296 ≤ (v : Int) := by omega
          have HR : Hid ((4, v) = q) := by show _ = _; rw [← HX.out, if_neg (by omega)]
          go_wp2
          go_ret2
          exact ⟨ret2i (a := (4, v)) HR.out, rfl⟩
theorem ref05_Size (s : ByteArray) (i : Nat) (w : World) (hi : i < s.size) (hs : s.size ≤ 100000) :
    Calls Tryz.prog 66 #[.string s, .int .i64 i] w fun e w' => e = .returned (.tuple #[.int .i64 (rsz s i).1, .int .i64 (rsz s i).2]) ∧ w = w' := by
  rw [← rsz_eq s i hi]
  by_cases h1 : bAt s i 0 < 128
  · exact ref05_Size_ascii s i _ w hi hs rfl h1
  by_cases h2 : bAt s i 0 < 194
  · exact ref05_Size_low s i _ w hi hs rfl ⟨by omega, h2⟩
  by_cases h3 : bAt s i 0 ≤ 223
  · exact ref05_Size_two s i _ w hi hs rfl ⟨by omega, h3⟩
  by_cases h4 : bAt s i 0 ≤ 239
  · exact ref05_Size_three s i _ w hi hs rfl ⟨by omega, h4⟩
  by_cases h5 : bAt s i 0 ≤ 244
  · exact ref05_Size_four s i _ w hi hs rfl ⟨by omega, h5⟩
  exact ref05_Size_high s i _ w hi hs rfl (by omega)
end Go.Proofs.YtdclfdinhdaadaaGreatDoor

/- Keys and values as the reference of package runes has them, in plain Lean. No program in sight. -/
namespace Go.Proofs.YtdclfdinhdaadaaGreatDoor
open Go.RowKit

theorem rsz_bad {s : ByteArray} {i : Nat} (h : badR (Utf8.decode s i) = true) : rsz s i = (0, 0) := by unfold rsz; rw [if_pos h]
theorem rsz_good {s : ByteArray} {i : Nat} (h : badR (Utf8.decode s i) = false) : rsz s i = ((Utf8.decode s i).2, (Utf8.decode s i).1) := by unfold rsz; rw [if_neg (by rw [h]; decide)]

theorem width_le (s : ByteArray) (i : Nat) : (Utf8.decode s i).2 ≤ 4 := by
  rw [Lib.decode_at]
  unfold Lib.decodeN
  repeat' split
  all_goals simp

/-- the letters of a key below 161 -/
def PL : ByteArray := ⟨#[97, 98, 99, 100, 101, 102, 103, 104, 105, 106, 107, 108, 109, 110, 111, 112, 113, 114, 115, 116, 117, 118, 119, 120, 121, 122, 65, 66, 67, 68, 69, 70, 71, 72, 73, 74, 75, 76, 77, 78, 79, 80, 81, 82, 83, 84, 85, 86, 87, 88, 89, 90, 48, 49, 50, 51, 52, 53, 54, 55, 56, 57, 45, 95, 46, 58]⟩
def plB (k : Nat) : Nat := (PL.get! k).toNat
theorem plB_yes {k : Nat} (h : k < 66) : plainR (plB k) = true := by
  have : ∀ x : Fin 66, plainR (plB x.val) = true := by decide +kernel
  exact this ⟨k, h⟩
theorem plB_no {r : Nat} (h : ∀ j, j < 66 → plB j ≠ r) : plainR r = (decide (161 ≤ r) && r != 65533) := by
  by_cases hr : r < 161
  · have : ∀ x : Fin 161, (∀ j : Fin 66, plB j.val ≠ x.val) → plainR x.val = (decide (161 ≤ x.val) && x.val != 65533) := by decide +kernel
    exact this ⟨r, hr⟩ fun j => h j.val j.isLt
  · unfold plainR
    have h1 : decide (r ≤ 122) = false := by simp; omega
    have h2 : decide (r ≤ 90) = false := by simp; omega
    have h3 : decide (r ≤ 57) = false := by simp; omega
    have h4 : (r == 45) = false := by simp; omega
    have h5 : (r == 95) = false := by simp; omega
    have h6 : (r == 46) = false := by simp; omega
    have h7 : (r == 58) = false := by simp; omega
    rw [h1, h2, h3, h4, h5, h6, h7]
    simp

theorem all_both {α : Type} (p q : α → Bool) (l : List α) : (l.all p && l.all q) = l.all fun x => p x && q x := by
  induction l with
  | nil => rfl
  | cons a l ih =>
    rw [List.all_cons, List.all_cons, List.all_cons, ← ih]
    cases p a <;> cases q a <;> cases l.all p <;> simp

def kOk (x : Nat × Nat) : Bool := !badR x && plainR x.1
theorem keyB_all (s : ByteArray) : keyB s = (decide (1 ≤ s.size) && decide (s.size ≤ 24) && (rl s).all kOk) := by
  unfold keyB wholeB
  rw [Bool.and_assoc, all_both]
  rfl

/-- a byte of a value -/
def okByte (x : Nat) : Bool := decide (32 ≤ x) && x != 127
/-- the bytes of a text from a place on are such -/
def okFrom (s : ByteArray) : Nat → Nat → Bool
  | 0, _ => true
  | f + 1, p => okByte (s.get! p).toNat && okFrom s f (p + 1)
theorem okFrom_many (s : ByteArray) (k : Nat) : ∀ f p, (∀ j, j < k → okByte (s.get! (p + j)).toNat = true) → okFrom s (k + f) p = okFrom s f (p + k) := by
  induction k with
  | zero => intro f p _; simp
  | succ k ih =>
    intro f p h
    rw [show k + 1 + f = (k + f) + 1 by omega, okFrom, ih f (p + 1) (fun j hj => by have := h (j + 1) (by omega); rwa [show p + (j + 1) = p + 1 + j by omega] at this)]
    have h0 := h 0 (by omega)
    rw [Nat.add_zero] at h0
    rw [h0, Bool.true_and, show p + 1 + k = p + (k + 1) by omega]

theorem okByte_large {x : Nat} (h : 128 ≤ x) : okByte x = true := by
  unfold okByte
  have h1 : decide (32 ≤ x) = true := by simp; omega
  have h2 : (x != 127) = true := by simp; omega
  rw [h1, h2]; rfl

/-- what a rune that is one says of its bytes -/
theorem rune_bytes (s : ByteArray) (p : Nat) (hp : p < s.size) (hb : badR (Utf8.decode s p) = false) :
    ((Utf8.decode s p).2 = 1 ∧ (Utf8.decode s p).1 = (s.get! p).toNat) ∨
      (p + (Utf8.decode s p).2 ≤ s.size ∧ 128 ≤ (Utf8.decode s p).1 ∧ (∀ j, j < (Utf8.decode s p).2 → 128 ≤ (s.get! (p + j)).toNat)) := by
  unfold badR at hb
  rw [Lib.decode_at] at hb ⊢
  obtain ⟨b0, h0⟩ : ∃ b0, (s.get! p).toNat = b0 := ⟨_, rfl⟩
  obtain ⟨b1, h1⟩ : ∃ b1, (s.get! (p + 1)).toNat = b1 := ⟨_, rfl⟩
  obtain ⟨b2, h2⟩ : ∃ b2, (s.get! (p + 2)).toNat = b2 := ⟨_, rfl⟩
  obtain ⟨b3, h3⟩ : ∃ b3, (s.get! (p + 3)).toNat = b3 := ⟨_, rfl⟩
  have c0 : b0 < 256 := by rw [← h0]; exact (s.get! p).toNat_lt
  rw [h0, h1, h2, h3] at hb ⊢
  have key : ∀ m : Nat, m ≤ 4 → 128 ≤ b0 → (1 < m → 128 ≤ b1) → (2 < m → 128 ≤ b2) → (3 < m → 128 ≤ b3) → ∀ j, j < m → 128 ≤ (s.get! (p + j)).toNat := by
    intro m hm q0 q1 q2 q3 j hj
    have : j = 0 ∨ j = 1 ∨ j = 2 ∨ j = 3 := by omega
    rcases this with rfl | rfl | rfl | rfl
    · rw [Nat.add_zero, h0]; exact q0
    · rw [h1]; exact q1 hj
    · rw [h2]; exact q2 hj
    · rw [h3]; exact q3 hj
  unfold Lib.decodeN at hb ⊢
  by_cases a0 : b0 < 128
  · rw [if_pos a0]; exact .inl ⟨rfl, rfl⟩
  rw [if_neg a0] at hb ⊢
  refine .inr ?_
  by_cases a1 : b0 / 32 = 6 ∧ 1 < s.size - p ∧ b1 / 64 = 2
  · rw [if_pos a1] at hb ⊢
    by_cases a2 : b0 % 32 * 64 + b1 % 64 ≥ 128
    · rw [if_pos a2]
      exact ⟨by simp only; omega, by simp only; omega, key 2 (by omega) (by omega) (fun _ => by omega) (fun h => by omega) (fun h => by omega)⟩
    · rw [if_neg a2] at hb
      exact absurd hb (by decide)
  rw [if_neg a1] at hb ⊢
  by_cases a2 : b0 / 16 = 14 ∧ (1 < s.size - p ∧ b1 / 64 = 2) ∧ (2 < s.size - p ∧ b2 / 64 = 2)
  · rw [if_pos a2] at hb ⊢
    split
    · exact ⟨by simp only; omega, by simp only; omega, key 3 (by omega) (by omega) (fun _ => by omega) (fun _ => by omega) (fun h => by omega)⟩
    · rename_i a3
      rw [if_neg a3] at hb
      exact absurd hb (by decide)
  rw [if_neg a2] at hb ⊢
  by_cases a3 : b0 / 8 = 30 ∧ (1 < s.size - p ∧ b1 / 64 = 2) ∧ (2 < s.size - p ∧ b2 / 64 = 2) ∧ (3 < s.size - p ∧ b3 / 64 = 2)
  · rw [if_pos a3] at hb ⊢
    split
    · exact ⟨by simp only; omega, by simp only; omega, key 4 (by omega) (by omega) (fun _ => by omega) (fun _ => by omega) (fun _ => by omega)⟩
    · rename_i a4
      rw [if_neg a4] at hb
      exact absurd hb (by decide)
  rw [if_neg a3] at hb
  exact absurd hb (by decide)

theorem valR_byte {x : Nat} : valR x = okByte x := rfl
theorem val_runes (s : ByteArray) : ∀ b p f, s.size ≤ p + b → p + f = s.size ∨ (f = 0 ∧ s.size ≤ p) → ((rlFrom s b p).all fun x => !badR x) = true → ((rlFrom s b p).all fun x => valR x.1) = okFrom s f p := by
  intro b
  induction b with
  | zero =>
    intro p f h1 h2 _
    have : f = 0 := by omega
    subst this; rfl
  | succ b ih =>
    intro p f h1 h2 hw
    by_cases hp : p < s.size
    · rw [rlFrom_step s b p hp] at hw ⊢
      rw [List.all_cons, Bool.and_eq_true] at hw
      obtain ⟨g1, g2⟩ := hw
      have hb : badR (Utf8.decode s p) = false := by simpa using g1
      have hwd := width_pos s p
      rw [List.all_cons]
      rcases rune_bytes s p hp hb with ⟨w1, w2⟩ | ⟨w1, w2, w3⟩
      · obtain ⟨f', rfl⟩ : ∃ f', f = f' + 1 := ⟨f - 1, by omega⟩
        rw [w2, valR_byte, okFrom, w1, ih (p + 1) f' (by omega) (by omega) (by rw [w1] at g2; exact g2)]
      · have hv : valR (Utf8.decode s p).1 = true := by rw [valR_byte]; exact okByte_large w2
        rw [hv, Bool.true_and, ih _ (f - (Utf8.decode s p).2) (by omega) (by omega) g2]
        have := okFrom_many s (Utf8.decode s p).2 (f - (Utf8.decode s p).2) p (fun j hj => okByte_large (w3 j hj))
        rw [show (Utf8.decode s p).2 + (f - (Utf8.decode s p).2) = f by omega] at this
        exact this.symm
    · rw [rlFrom_end s _ _ hp]
      have : f = 0 := by omega
      subst this; rfl
theorem valB_bytes (s : ByteArray) : valB s = (decide (s.size ≤ 48) && wholeB s && okFrom s s.size 0) := by
  unfold valB
  cases hw : wholeB s with
  | false => simp
  | true =>
    congr 1
    exact val_runes s s.size 0 s.size (by omega) (.inl (by omega)) hw
end Go.Proofs.YtdclfdinhdaadaaGreatDoor

/- The reference of package runes: the contracts of Plain, Bad, Key, Val. -/
namespace Go.Proofs.YtdclfdinhdaadaaGreatDoor
open Go.RowKit

theorem ret_b {a b : Bool} (h : a = b) : Ending.returned (.bool a) = .returned (.bool b) := by rw [h]
theorem plB_get (k : Nat) (h : k < PL.size) : (PL[k]).toNat = plB k := by
  unfold plB
  show (PL.data[k]).toNat = (PL.data[k]!).toNat
  rw [getElem!_pos PL.data k h]

set_option maxRecDepth 100000 in
set_option maxHeartbeats 4000000 in
theorem ref05_Plain (r : Nat) (w : World) :
    Calls Tryz.prog 67 #[.int .i64 r] w fun e w' => e = .returned (.bool (plainR r)) ∧ w = w' := by
  obtain ⟨q, HQ⟩ : ∃ q, Hid (plainR r = q) := ⟨_, rfl⟩
  rw [HQ.out]
  go_enter Tryz.func67, Tryz.ntmps67
  go_wp2
  go_loopw [4] (fun i wr => ∃ k : Nat, k ≤ 66 ∧ i = .int .i64 k ∧ (∀ j, j < k → plB j ≠ r) ∧ w = wr) (fun i _ => 66 - (intOf i).toNat)
  case atStart => exact ⟨0, by omega, rfl, fun j hj => absurd hj (by omega), rfl⟩
  case round =>
    obtain ⟨k, hk, rfl, hn, rfl⟩ := hrel
    have HN := Lib.hid hn
    clear hn
    by_cases hlt : k < 66
    · have hlt' : (k : Int) < 66 := by omega
      obtain ⟨d, hd⟩ : ∃ d, plB k = d := ⟨_, rfl⟩
      have hd0 : ((ByteArray.mk #[97, 98, 99, 100, 101, 102, 103, 104, 105, 106, 107, 108, 109, 110, 111, 112, 113, 114, 115, 116, 117, 118, 119, 120, 121, 122, 65, 66, 67, 68, 69, 70, 71, 72, 73, 74, 75, 76, 77, 78, 79, 80, 81, 82, 83, 84, 85, 86, 87, 88, 89, 90, 48, 49, 50, 51, 52, 53, 54, 55, 56, 57, 45, 95, 46, 58])[k]'hlt).toNat = d := by rw [← hd]; exact plB_get k hlt
      have HD := Lib.hid hd
      have hd255 : d < 256 := by rw [← hd]; exact (PL.get! k).toNat_lt
      clear hd
      by_cases he : d = r
      · subst he
        go_wp2
        go_ret
        exact ⟨ret_b (by rw [← HQ.out, ← HD.out]; exact (plB_yes hlt).symm), rfl⟩
      · have he' : ((d : Int) == (r : Int)) = false := by simp; omega
        go_wp2
        go_roundw
        case rel => exact ⟨k + 1, by omega, by go_num, fun j hj => by
          by_cases hjk : j = k
          · subst hjk; rw [HD.out]; exact he
          · exact HN.out j (by omega), trivial⟩
        case measure => simp [intOf]; omega
    · have hlt' : ¬ (k : Int) < 66 := by omega
      have hk66 : k = 66 := by omega
      subst hk66
      have HP : Hid ((decide (161 ≤ r) && r != 65533) = q) := by show _ = _; rw [← HQ.out]; exact (plB_no HN.out).symm
      clear hlt hlt'
      by_cases h1 : 161 ≤ r
      · have h1' : 161 ≤ (r : Int) := by omega
        by_cases h2 : r = 65533
        · have h2' : ((r : Int) != 65533) = false := by simp; omega
          go_wp2
          go_ret
          exact ⟨ret_b (by rw [← HP.out, h2]; rfl), rfl⟩
        · have h2' : ((r : Int) != 65533) = true := by simp; omega
          have h3 : (r != 65533) = true := by simp; omega
          have H3 := Lib.hid h3
          clear h3 h2
          go_wp2
          go_ret
          exact ⟨ret_b (by rw [← HP.out, H3.out, decide_eq_true h1]; rfl), rfl⟩
      · have h1' : ¬ 161 ≤ (r : Int) := by omega
        go_wp2
        go_ret
        exact ⟨ret_b (by rw [← HP.out, decide_eq_false h1]; rfl), rfl⟩

def bres (s : ByteArray) (e : Ending) : Prop := ∃ k : Int, e = .returned (.int .i64 k) ∧ decide (k < 0) = wholeB s

set_option maxRecDepth 100000 in
set_option maxHeartbeats 4000000 in
theorem ref05_Bad (s : ByteArray) (w : World) (hs : s.size ≤ 100000) :
    Calls Tryz.prog 68 #[.string s] w fun e w' => bres s e ∧ w = w' := by
  obtain ⟨q, HQ⟩ : ∃ q, Hid (wholeB s = q) := ⟨_, rfl⟩
  go_enter Tryz.func68, Tryz.ntmps68
  go_wp2
  go_loopw [3] (fun i wr => ∃ pos b : Nat, i = .int .i64 pos ∧ pos ≤ s.size + 4 ∧ ((rlFrom s b pos).all fun x => !badR x) = q ∧ s.size ≤ pos + b ∧ w = wr) (fun i _ => s.size - (intOf i).toNat)
  case atStart => exact ⟨0, s.size, rfl, by omega, HQ.out, by omega, rfl⟩
  case round =>
    obtain ⟨pos, b, rfl, hpl, hc, hb, rfl⟩ := hrel
    have HC := Lib.hid hc
    clear hc
    by_cases hp : pos < s.size
    · have hp' : (pos : Int) < s.size := by omega
      have C := ref05_Size s pos w hp hs
      have hwd := width_pos s pos
      have hwl := width_le s pos
      have HST : Hid (∀ f, rlFrom s (f + 1) pos = Utf8.decode s pos :: rlFrom s f (pos + (Utf8.decode s pos).2)) := fun f => rlFrom_step s f pos hp
      obtain ⟨b, rfl⟩ : ∃ b', b = b' + 1 := ⟨b - 1, by omega⟩
      cases hbad : badR (Utf8.decode s pos) with
      | true =>
        rw [rsz_bad hbad] at C
        have HR : Hid (q = false) := by show _ = _; rw [← HC.out, HST.out, List.all_cons, hbad]; rfl
        have HCC := Lib.hid C
        clear C hbad
        go_wp2_with fail
        refine HCC.out.mono ?_
        rintro e w1 ⟨rfl, rfl⟩
        go_wp2
        go_ret
        refine ⟨⟨pos, rfl, ?_⟩, rfl⟩
        rw [HQ.out, HR.out]
        simp
      | false =>
        rw [rsz_good hbad] at C
        have HR : Hid (((rlFrom s b (pos + (Utf8.decode s pos).2)).all fun x => !badR x) = q) := by show _ = _; rw [← HC.out, HST.out, List.all_cons, hbad]; rfl
        obtain ⟨k, hk⟩ : ∃ k, (Utf8.decode s pos).2 = k := ⟨_, rfl⟩
        rw [hk] at hwd hwl
        obtain ⟨r, hr⟩ : ∃ r, (Utf8.decode s pos).1 = r := ⟨_, rfl⟩
        have HK := Lib.hid hk
        rw [hk, hr] at C
        have HCC := Lib.hid C
        have hk0 : ((k : Int) == 0) = false := by simp; omega
        clear C hbad hk hr
        go_wp2_with fail
        refine HCC.out.mono ?_
        rintro e w1 ⟨rfl, rfl⟩
        go_wp2
        go_roundw
        case rel => exact ⟨pos + k, b, by go_num, by omega, by rw [← HR.out, HK.out], by omega, trivial⟩
        case measure => simp [intOf]; omega
    · have hp' : ¬ (pos : Int) < s.size := by omega
      have HR : Hid (q = true) := by show _ = _; rw [← HC.out, rlFrom_end s _ _ hp]; rfl
      go_wp2
      go_ret
      refine ⟨⟨-1, rfl, ?_⟩, rfl⟩
      rw [HQ.out, HR.out]
      rfl

set_option maxRecDepth 100000 in
set_option maxHeartbeats 4000000 in
theorem ref05_Key (s : ByteArray) (w : World) (hs : s.size ≤ 100000) :
    Calls Tryz.prog 29 #[.string s] w fun e w' => e = .returned (.bool (keyB s)) ∧ w = w' := by
  obtain ⟨q, HQ⟩ : ∃ q, Hid (keyB s = q) := ⟨_, rfl⟩
  rw [HQ.out]
  by_cases h1 : s.size < 1
  · have h1' : (s.size : Int) < 1 := by omega
    have HR : Hid (false = q) := by show _ = _; rw [← HQ.out, keyB_all, decide_eq_false (by omega)]; rfl
    go_enter Tryz.func29, Tryz.ntmps29
    go_wp2
    go_ret
    exact ⟨ret_b HR.out, rfl⟩
  have h1' : ¬ (s.size : Int) < 1 := by omega
  by_cases h2 : 24 < s.size
  · have h2' : 24 < (s.size : Int) := by omega
    have HR : Hid (false = q) := by show _ = _; rw [← HQ.out, keyB_all, decide_eq_false (show ¬ s.size ≤ 24 by omega), Bool.and_false]; rfl
    go_enter Tryz.func29, Tryz.ntmps29
    go_wp2
    go_ret
    exact ⟨ret_b HR.out, rfl⟩
  have h2' : ¬ 24 < (s.size : Int) := by omega
  have HA : Hid ((rl s).all kOk = q) := by show _ = _; rw [← HQ.out, keyB_all, decide_eq_true (by omega), decide_eq_true (by omega)]; rfl
  go_enter Tryz.func29, Tryz.ntmps29
  go_wp2
  go_loopw [3] (fun i wr => ∃ pos b : Nat, i = .int .i64 pos ∧ pos ≤ s.size + 4 ∧ (rlFrom s b pos).all kOk = q ∧ s.size ≤ pos + b ∧ w = wr) (fun i _ => s.size - (intOf i).toNat)
  case atStart => exact ⟨0, s.size, rfl, by omega, HA.out, by omega, rfl⟩
  case round =>
    obtain ⟨pos, b, rfl, hpl, hc, hb, rfl⟩ := hrel
    have HC := Lib.hid hc
    clear hc
    by_cases hp : pos < s.size
    · have hp' : (pos : Int) < s.size := by omega
      have C := ref05_Size s pos w hp hs
      have hwd := width_pos s pos
      have hwl := width_le s pos
      have HST : Hid (∀ f, rlFrom s (f + 1) pos = Utf8.decode s pos :: rlFrom s f (pos + (Utf8.decode s pos).2)) := fun f => rlFrom_step s f pos hp
      obtain ⟨b, rfl⟩ : ∃ b', b = b' + 1 := ⟨b - 1, by omega⟩
      cases hbad : badR (Utf8.decode s pos) with
      | true =>
        rw [rsz_bad hbad] at C
        have HR : Hid (false = q) := by show _ = _; rw [← HC.out, HST.out, List.all_cons]; unfold kOk; rw [hbad]; rfl
        have HCC := Lib.hid C
        clear C hbad
        go_wp2_with fail
        refine HCC.out.mono ?_
        rintro e w1 ⟨rfl, rfl⟩
        go_wp2
        go_ret
        exact ⟨ret_b HR.out, rfl⟩
      | false =>
        rw [rsz_good hbad] at C
        obtain ⟨k, hk⟩ : ∃ k, (Utf8.decode s pos).2 = k := ⟨_, rfl⟩
        rw [hk] at hwd hwl
        obtain ⟨r, hr⟩ : ∃ r, (Utf8.decode s pos).1 = r := ⟨_, rfl⟩
        obtain ⟨y, hy⟩ : ∃ y, plainR r = y := ⟨_, rfl⟩
        have HR : Hid ((y && (rlFrom s b (pos + k)).all kOk) = q) := by
          show _ = _
          rw [← HC.out, HST.out, List.all_cons, ← hy, ← hr, ← hk]
          unfold kOk
          rw [hbad]; rfl
        rw [hk, hr] at C
        have HCC := Lib.hid C
        have CP := ref05_Plain r w
        rw [hy] at CP
        have HCP := Lib.hid CP
        have hk0 : ((k : Int) == 0) = false := by simp; omega
        clear C hbad hk hr hy CP
        go_wp2_with fail
        refine HCC.out.mono ?_
        rintro e w1 ⟨rfl, rfl⟩
        go_wp2_with fail
        refine HCP.out.mono ?_
        rintro e w1 ⟨rfl, rfl⟩
        cases y with
        | true =>
          go_wp2
          go_roundw
          case rel => exact ⟨pos + k, b, by go_num, by omega, HR.out, by omega, trivial⟩
          case measure => simp [intOf]; omega
        | false =>
          go_wp2
          go_ret
          exact ⟨ret_b HR.out, rfl⟩
    · have hp' : ¬ (pos : Int) < s.size := by omega
      have HR : Hid (true = q) := by show _ = _; rw [← HC.out, rlFrom_end s _ _ hp]; rfl
      go_wp2
      go_ret
      exact ⟨ret_b HR.out, rfl⟩

theorem okFrom_no {s : ByteArray} {f p : Nat} (h : okByte (s.get! p).toNat = false) (hf : 0 < f) : okFrom s f p = false := by
  obtain ⟨f', rfl⟩ : ∃ f', f = f' + 1 := ⟨f - 1, by omega⟩
  rw [okFrom, h]; rfl
theorem get_at_ (s : ByteArray) (k : Nat) (h : k < s.size) : (s[k]).toNat = (s.get! k).toNat := by
  show (s.data[k]).toNat = (s.data[k]!).toNat
  rw [getElem!_pos s.data k h]

set_option maxRecDepth 100000 in
set_option maxHeartbeats 4000000 in
theorem ref05_Val (s : ByteArray) (w : World) (hs : s.size ≤ 100000) :
    Calls Tryz.prog 30 #[.string s] w fun e w' => e = .returned (.bool (valB s)) ∧ w = w' := by
  obtain ⟨q, HQ⟩ : ∃ q, Hid (valB s = q) := ⟨_, rfl⟩
  rw [HQ.out]
  by_cases h2 : 48 < s.size
  · have h2' : 48 < (s.size : Int) := by omega
    have HR : Hid (false = q) := by show _ = _; rw [← HQ.out, valB_bytes, decide_eq_false (show ¬ s.size ≤ 48 by omega)]; rfl
    go_enter Tryz.func30, Tryz.ntmps30
    go_wp2
    go_ret
    exact ⟨ret_b HR.out, rfl⟩
  have h2' : ¬ 48 < (s.size : Int) := by omega
  have HA : Hid ((wholeB s && okFrom s s.size 0) = q) := by show _ = _; rw [← HQ.out, valB_bytes, decide_eq_true (show s.size ≤ 48 by omega), Bool.true_and]
  have HB := Lib.hid (ref05_Bad s w hs)
  go_enter Tryz.func30, Tryz.ntmps30
  go_wp2_with fail
  refine HB.out.mono ?_
  rintro e w1 ⟨⟨bk, rfl, hbk⟩, rfl⟩
  by_cases hw : 0 ≤ bk
  · have HR : Hid (false = q) := by show _ = _; rw [← HA.out, ← hbk, decide_eq_false (by omega)]; rfl
    clear hbk
    go_wp2
    go_ret
    exact ⟨ret_b HR.out, rfl⟩
  have HR : Hid (okFrom s s.size 0 = q) := by show _ = _; rw [← HA.out, ← hbk, decide_eq_true (by omega), Bool.true_and]
  have hw' : bk < 0 := by omega
  clear hbk hw
  go_wp2
  go_loopw [3] (fun i wr => ∃ k f : Nat, i = .int .i64 k ∧ k + f = s.size ∧ okFrom s f k = q ∧ w = wr) (fun i _ => s.size - (intOf i).toNat)
  case atStart => exact ⟨0, s.size, rfl, by omega, HR.out, rfl⟩
  case round =>
    obtain ⟨k, f, rfl, hkf, hc, rfl⟩ := hrel
    have HC := Lib.hid hc
    have HKF := Lib.hid hkf
    have hks : k ≤ s.size := by omega
    clear hc hkf
    by_cases hp : k < s.size
    · have hp' : (k : Int) < s.size := by omega
      obtain ⟨f, rfl⟩ : ∃ f', f = f' + 1 := ⟨f - 1, by have := HKF.out; omega⟩
      obtain ⟨d, hd⟩ : ∃ d, (s.get! k).toNat = d := ⟨_, rfl⟩
      have hd0 : (s[k]'hp).toNat = d := by rw [← hd]; exact get_at_ s k hp
      have HST : Hid ((okByte d && okFrom s f (k + 1)) = q) := by show _ = _; rw [← HC.out, okFrom, hd]
      clear hd
      by_cases c1 : d < 32
      · have c1' : (d : Int) < 32 := by omega
        have HR2 : Hid (false = q) := by show _ = _; rw [← HST.out]; unfold okByte; rw [decide_eq_false (by omega)]; rfl
        go_wp2
        go_ret
        exact ⟨ret_b HR2.out, rfl⟩
      have c1' : ¬ (d : Int) < 32 := by omega
      by_cases c2 : d = 127
      · have HR2 : Hid (false = q) := by show _ = _; rw [← HST.out, c2]; rfl
        have c2' : ((d : Int) == 127) = true := by simp; omega
        go_wp2
        go_ret
        exact ⟨ret_b HR2.out, rfl⟩
      · have HR2 : Hid (okFrom s f (k + 1) = q) := by
          show _ = _
          rw [← HST.out]
          unfold okByte
          rw [decide_eq_true (by omega), show (d != 127) = true by simp; omega]
          rfl
        have c2' : ((d : Int) == 127) = false := by simp; omega
        clear c2
        go_wp2
        go_roundw
        case rel => exact ⟨k + 1, f, by go_num, by have := HKF.out; omega, HR2.out, trivial⟩
        case measure => simp [intOf]; omega
    · have hp' : ¬ (k : Int) < s.size := by omega
      have HR2 : Hid (true = q) := by show _ = _; rw [← HC.out, show f = 0 by have := HKF.out; omega]; rfl
      go_wp2
      go_ret
      exact ⟨ret_b HR2.out, rfl⟩
end Go.Proofs.YtdclfdinhdaadaaGreatDoor
