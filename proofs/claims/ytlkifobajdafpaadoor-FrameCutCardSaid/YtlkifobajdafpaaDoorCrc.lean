/- Package crc: the contracts of turn, Add and Sum; the reference's Sum. -/
import Derived.Test.YtlkifobajdafpaaDoorVarintGet
import Derived.Test.YtlkifobajdafpaaDoorCrcPlain
namespace Go.Proofs.YtlkifobajdafpaaDoor
open Go.RowKit

/-- the table is laid -/
def Tab (w : World) : Prop := 0 < w.heap.size ∧ ∀ i, i < 16 → w.cell? ⟨0, i, none⟩ = some (.int .u32 (tabN i : Nat))
theorem Tab.mod {S : Nat → Prop} {w w' : World} (h : Tab w) (hm : Mod S w w') (hS : ¬ S 0) : Tab w' :=
  ⟨Nat.lt_of_lt_of_le h.1 hm.size, fun i hi => (hm.cell (p := ⟨0, i, none⟩) h.1 hS).trans (h.2 i hi)⟩
theorem Tab.non {w w' : World} (h : Tab w) (hm : Mod Non w w') : Tab w' := h.mod hm fun h => h

theorem and15 (x : Nat) : x &&& 15 = x % 16 := Nat.and_two_pow_sub_one_eq_mod x 4

theorem crc_turn (r : Nat) (c : UInt8) (w : World) (hr : r < 4294967296) (hT : Tab w) :
    Calls Tryd.prog 34 #[.int .u32 r, vb c] w fun e w' => e = .returned (.int .u32 (byteC r c : Nat)) ∧ w = w' := by
  have hc := c.toNat_lt
  obtain ⟨x, hx⟩ : ∃ x, x = r ^^^ c.toNat := ⟨_, rfl⟩
  have hxl : x < 4294967296 := by rw [hx]; exact xor_lt hr (by omega)
  obtain ⟨d, hd⟩ : ∃ d, d = x % 16 := ⟨_, rfl⟩
  obtain ⟨y, hy⟩ : ∃ y, y = stN 4 x := ⟨_, rfl⟩
  have hyl : y < 4294967296 := by rw [hy]; exact stN_lt 4 hxl
  obtain ⟨d2, hd2⟩ : ∃ d2, d2 = y % 16 := ⟨_, rfl⟩
  have hdl : d < 16 := by omega
  have hd2l : d2 < 16 := by omega
  have E1 : bits .xor .u32 (r : Int) (c.toNat : Int) = (x : Int) := by rw [u32_xor_nat _ _ hr (by omega), hx]
  have E2 : bits .and .u32 (x : Int) 15 = (d : Int) := by rw [show (15 : Int) = ((15 : Nat) : Int) from rfl, u32_and_nat _ _ hxl (by omega), and15, hd]
  have E3 : bits .xor .u32 ((x : Int) / 16) (tabN d : Nat) = (y : Int) := by
    rw [show (x : Int) / 16 = ((x / 16 : Nat) : Int) by omega, u32_xor_nat _ _ (by omega) (tabN_lt _), hy, stN4, hd]
  have E4 : bits .and .u32 (y : Int) 15 = (d2 : Int) := by rw [show (15 : Int) = ((15 : Nat) : Int) from rfl, u32_and_nat _ _ hyl (by omega), and15, hd2]
  have E5 : bits .xor .u32 ((y : Int) / 16) (tabN d2 : Nat) = (byteC r c : Nat) := by
    rw [show (y : Int) / 16 = ((y / 16 : Nat) : Int) by omega, u32_xor_nat _ _ (by omega) (tabN_lt _)]
    unfold byteC
    rw [stN8, ← hx, ← hy, hd2]
  have T1 := hT.2 d hdl
  have T2 := hT.2 d2 hd2l
  have h0 : (0 : Int) ≤ (d : Int) := by omega
  have h1 : (d : Int) < 16 := by omega
  have h2 : (0 : Int) ≤ (d2 : Int) := by omega
  have h3 : (d2 : Int) < 16 := by omega
  generalize byteC r c = z at *
  generalize tabN d = t1 at *
  generalize tabN d2 = t2 at *
  unfold vb
  clear hx hd hy hd2 hT
  go_enter Tryd.func34, Tryd.ntmps34
  go_wp2
  go_ret
  exact ⟨rfl, rfl⟩

theorem xor_ones {q : Nat} (h : q < 4294967296) : 4294967295 ^^^ q = 4294967295 - q := by
  apply Nat.eq_of_testBit_eq
  intro i
  rw [Nat.testBit_xor, show (4294967295 : Nat) - q = 2 ^ 32 - (q + 1) by omega, Nat.testBit_two_pow_sub_succ (by omega), show (4294967295 : Nat) = 2 ^ 32 - 1 by omega, Nat.testBit_two_pow_sub_one]
  by_cases hi : i < 32
  · simp [hi]
  · have : q.testBit i = false := Nat.testBit_lt_two_pow (Nat.lt_of_lt_of_le (show q < 2 ^ 32 by omega) (Nat.pow_le_pow_right (by omega) (by omega)))
    simp [hi, this]
theorem crc_Add (A : Option Addr) (len cap : Nat) (R : Nat → Prop) (l : List UInt8) (w : World) (hr : Reads w R 1 A len (vbs l)) (hmax : len ≤ 4611686018427387904) (hT : Tab w) :
    Calls Tryd.prog 33 #[.int .u32 0, .slice A len cap] w fun e w' => e = .returned (.int .u32 (crcK l : Nat)) ∧ w = w' := by
  have hl := hr.1
  rw [vbs_length, Nat.mul_one] at hl
  have HL := Lib.hid hl
  have HT := Lib.hid hT
  clear hl hT
  go_enter Tryd.func33, Tryd.ntmps33
  go_wp2
  go_loopw [5, 12] (fun r i wr => ∃ k : Nat, k ≤ len ∧ i = .int .i64 k ∧ r = .int .u32 (crcR 4294967295 (l.take k) : Nat) ∧ w = wr) (fun _ i _ => len - (intOf i).toNat)
  case atStart => exact ⟨0, by omega, rfl, rfl, rfl⟩
  case round =>
    obtain ⟨k, hk, rfl, rfl, rfl⟩ := hrel
    have hq : crcR 4294967295 (l.take k) < 4294967296 := crcR_lt (by omega) _
    by_cases hlt : k < len
    · obtain ⟨b, off, hA, hb, _, hc⟩ := hr.row (by omega) (by rw [vbs_length, HL.out]; omega)
      have hl1 : k < l.length := by rw [HL.out]; exact hlt
      obtain ⟨x, hx⟩ : ∃ x, x = l[k] := ⟨_, rfl⟩
      have c1 := hc k _ (vbs_get hl1)
      rw [← hx] at c1
      have HQ : Hid (crcR 4294967295 (l.take (k + 1)) = byteC (crcR 4294967295 (l.take k)) x) := by
        show _ = _
        rw [List.take_succ_eq_append_getElem hl1, crcR_snoc, hx]
      generalize crcR 4294967295 (l.take k) = q at hq HQ ⊢
      subst hA
      clear hx hc
      have hlk : (k : Int) < len := by omega
      go_wp2_with fail
      refine (crc_turn q x _ hq HT.out).mono ?_
      rintro e w1 ⟨rfl, rfl⟩
      rw [← HQ.out]
      go_wp2
      go_roundw
      case rel => exact ⟨k + 1, by omega, by go_num, rfl, trivial⟩
      case measure => simp [intOf]; omega
    · have htk : l.take k = l := List.take_of_length_le (by rw [HL.out]; omega)
      rw [htk] at hq ⊢
      have HK : Hid (crcK l = 4294967295 - crcR 4294967295 l) := rfl
      generalize crcR 4294967295 l = q at hq HK ⊢
      clear htk
      go_wp2
      go_ret
      exact ⟨congrArg (fun z => Ending.returned (.int .u32 z)) (by rw [show IntKind.u32.max = ((4294967295 : Nat) : Int) from rfl, u32_xor_nat _ _ (by omega) hq, xor_ones hq, HK.out]), rfl⟩

theorem crc_Sum (A : Option Addr) (len cap : Nat) (R : Nat → Prop) (l : List UInt8) (w : World) (hr : Reads w R 1 A len (vbs l)) (hmax : len ≤ 4611686018427387904) (hT : Tab w) :
    Calls Tryd.prog 30 #[.slice A len cap] w fun e w' => e = .returned (.int .u32 (crcK l : Nat)) ∧ w = w' := by
  go_enter Tryd.func30, Tryd.ntmps30
  go_wp2_with fail
  refine (crc_Add A len cap R l w hr hmax hT).mono ?_
  rintro e w1 ⟨rfl, rfl⟩
  go_wp2
  go_ret
  exact ⟨rfl, rfl⟩

theorem stN_succ (k r : Nat) : stN (k + 1) r = st (stN k r) := stN_add k 1 r

theorem ref02_Sum (A : Option Addr) (len cap : Nat) (R : Nat → Prop) (l : List UInt8) (w : World) (hr : Reads w R 1 A len (vbs l)) (hmax : len ≤ 4611686018427387904) :
    Calls Tryd.prog 23 #[.slice A len cap] w fun e w' => e = .returned (.int .u32 (crcK l : Nat)) ∧ w = w' := by
  have hl := hr.1
  rw [vbs_length, Nat.mul_one] at hl
  have HL := Lib.hid hl
  clear hl
  go_enter Tryd.func23, Tryd.ntmps23
  go_wp2
  go_loopw [3, 4] (fun r i wr => ∃ k : Nat, k ≤ len ∧ i = .int .i64 k ∧ r = .int .u32 (crcR 4294967295 (l.take k) : Nat) ∧ w = wr) (fun _ i _ => len - (intOf i).toNat)
  case atStart => exact ⟨0, by omega, rfl, rfl, rfl⟩
  case round =>
    obtain ⟨k, hk, rfl, rfl, rfl⟩ := hrel
    have hq : crcR 4294967295 (l.take k) < 4294967296 := crcR_lt (by omega) _
    by_cases hlt : k < len
    · obtain ⟨b, off, hA, hb, _, hc⟩ := hr.row (by omega) (by rw [vbs_length, HL.out]; omega)
      have hl1 : k < l.length := by rw [HL.out]; exact hlt
      obtain ⟨x, hx⟩ : ∃ x, x = l[k] := ⟨_, rfl⟩
      have c1 := hc k _ (vbs_get hl1)
      rw [← hx] at c1
      have hxl := x.toNat_lt
      have HQ : Hid (crcR 4294967295 (l.take (k + 1)) = stN 8 (crcR 4294967295 (l.take k) ^^^ x.toNat)) := by
        show _ = _
        rw [List.take_succ_eq_append_getElem hl1, crcR_snoc, hx]; rfl
      generalize crcR 4294967295 (l.take k) = q at hq HQ ⊢
      obtain ⟨y, hy⟩ : ∃ y, y = q ^^^ x.toNat := ⟨_, rfl⟩
      have hyl : y < 4294967296 := by rw [hy]; exact xor_lt hq (by omega)
      have E1 : bits .xor .u32 (q : Int) (x.toNat : Int) = (y : Int) := by rw [u32_xor_nat _ _ hq (by omega), hy]
      rw [← hy] at HQ
      subst hA
      clear hx hc hy
      have hlk : (k : Int) < len := by omega
      go_wp2
      go_loopw [3, 5] (fun r i wr => ∃ j : Nat, j ≤ 8 ∧ i = .int .i64 j ∧ r = .int .u32 (stN j y : Nat) ∧ w = wr) (fun _ i _ => 8 - (intOf i).toNat)
      case atStart => exact ⟨0, by omega, rfl, rfl, rfl⟩
      case round =>
        obtain ⟨j, hj, rfl, rfl, rfl⟩ := hrel
        by_cases hjl : j < 8
        · have hzl : stN j y < 4294967296 := stN_lt j hyl
          have HS : Hid (stN (j + 1) y = st (stN j y)) := stN_succ j y
          generalize stN j y = z at hzl HS ⊢
          have hj8 : (j : Int) < 8 := by omega
          by_cases ho : z % 2 = 1
          · have e1 : ((z : Int) % 2 == 1) = true := by simp; omega
            have HST : Hid (st z = (z / 2) ^^^ 3988292384) := by show _ = _; unfold st POLY; rw [if_pos ho]
            have E2 : bits .xor .u32 ((z : Int) / 2) 3988292384 = (st z : Nat) := by
              rw [show (z : Int) / 2 = ((z / 2 : Nat) : Int) by omega, show (3988292384 : Int) = ((3988292384 : Nat) : Int) from rfl, u32_xor_nat _ _ (by omega) (by omega), HST.out]
            clear ho
            go_wp2
            go_roundw
            case rel => exact ⟨j + 1, by omega, by go_num, by rw [HS.out], trivial⟩
            case measure => simp [intOf]; omega
          · have e1 : ((z : Int) % 2 == 1) = false := by simp; omega
            have HST : Hid (st z = z / 2) := by show _ = _; unfold st; rw [if_neg ho, Nat.xor_zero]
            have E2 : (z : Int) / 2 = (st z : Nat) := by rw [HST.out]; omega
            clear ho
            go_wp2
            go_roundw
            case rel => exact ⟨j + 1, by omega, by go_num, by rw [HS.out], trivial⟩
            case measure => simp [intOf]; omega
        · obtain rfl : j = 8 := by omega
          rw [← HQ.out]
          go_wp2
          go_roundw
          case rel => exact ⟨k + 1, by omega, by go_num, rfl, trivial⟩
          case measure => simp [intOf]; omega
    · have htk : l.take k = l := List.take_of_length_le (by rw [HL.out]; omega)
      rw [htk] at hq ⊢
      have HK : Hid (crcK l = 4294967295 - crcR 4294967295 l) := rfl
      generalize crcR 4294967295 l = q at hq HK ⊢
      clear htk
      go_wp2
      go_ret
      exact ⟨congrArg (fun z => Ending.returned (.int .u32 z)) (by rw [HK.out]; omega), rfl⟩
end Go.Proofs.YtlkifobajdafpaaDoor
