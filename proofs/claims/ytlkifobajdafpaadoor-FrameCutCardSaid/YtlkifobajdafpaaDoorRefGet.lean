/- The reference of package varint: the contract of Get. -/
import Derived.Test.YtlkifobajdafpaaDoorVarintGet
namespace Go.Proofs.YtlkifobajdafpaaDoor
open Go.RowKit

theorem pow_step {pw x k y : Nat} (hP : pw = 128 ^ k) (hy : y = x % 128 * 128 ^ k) : (pw : Int) * ((x : Int) % 128) = (y : Int) := by
  rw [show ((x : Int) % 128) = ((x % 128 : Nat) : Int) from (Int.natCast_emod x 128).symm, ← Int.natCast_mul, hy, ← hP, Nat.mul_comm]
theorem ref01_Get_out (A : Option Addr) (len cap : Nat) (at_ : Int) (w : World) (h : at_ < 0 ∨ (len : Int) < at_) :
    Calls Tryd.prog 27 #[.slice A len cap, .int .i64 at_] w fun e w' => e = .returned (.tuple #[.int .i64 0, .int .i64 0, .int .i64 6]) ∧ w = w' := by
  by_cases h0 : at_ < 0
  · go_enter Tryd.func27, Tryd.ntmps27
    go_wp2
    go_ret3
    exact ⟨rfl, rfl⟩
  · have h1 : (len : Int) < at_ := by omega
    clear h
    go_enter Tryd.func27, Tryd.ntmps27
    go_wp2
    go_ret3
    exact ⟨rfl, rfl⟩

set_option maxRecDepth 100000 in
set_option maxHeartbeats 1000000 in
theorem ref01_Get_in (A : Option Addr) (len cap : Nat) (R : Nat → Prop) (l : List UInt8) (a : Nat) (w : World) (hr : Reads w R 1 A len (vbs l)) (hmax : len ≤ 4611686018427387904) (ha : a ≤ len) :
    Calls Tryd.prog 27 #[.slice A len cap, .int .i64 a] w fun e w' => e = .returned (gres a (gscan 0 0 (l.drop a))) ∧ w = w' := by
  have hll := hr.1
  rw [vbs_length, Nat.mul_one] at hll
  have HL := Lib.hid hll
  have hd1 : decide ((a : Int) < 0) = false := by simp
  have hd2 : decide (len < a) = false := by simp; omega
  clear hll
  go_enter Tryd.func27, Tryd.ntmps27
  go_wp2
  go_loopw [7, 8, 9] (fun m p i wr => ∃ k acc pw : Nat, a + k ≤ len ∧ k ≤ 9 ∧ i = .int .i64 ((a + k : Nat) : Int) ∧ m = .int .i64 acc ∧ p = .int .i64 pw ∧ acc < 128 ^ k ∧ (k ≤ 8 → pw = 128 ^ k) ∧ gscan k acc (l.drop (a + k)) = gscan 0 0 (l.drop a) ∧ w = wr) (fun _ _ i _ => len - (intOf i).toNat)
  case atStart => exact ⟨0, 0, 1, by omega, by omega, rfl, rfl, rfl, by simp, fun _ => rfl, rfl, rfl⟩
  case round =>
    obtain ⟨k, acc, pw, hk, hk9, rfl, rfl, rfl, hacc, hpw, hg, rfl⟩ := hrel
    have HG := Lib.hid hg
    have HA := Lib.hid hacc
    have HP := Lib.hid hpw
    clear hg hacc hpw
    have p0 : (0 : Int) ≤ (a : Int) + k := by omega
    have p2 : wrap64 ((a : Int) + k - a) = (k : Int) := by unfold wrap64; omega
    have p3 : (a : Int) + k - a = (k : Int) := by omega
    simp only [Int.natCast_add]
    by_cases hlt : a + k < len
    · have p1 : (a : Int) + k < len := by omega
      obtain ⟨b, off, hA, _, _, hc1⟩ := hr.row (by omega) (by rw [vbs_length, HL.out]; omega)
      have hl1 : a + k < l.length := by rw [HL.out]; exact hlt
      obtain ⟨c, hc⟩ : ∃ c, c = l[a + k] := ⟨_, rfl⟩
      have c1 := hc1 (a + k) _ (vbs_get hl1)
      rw [← hc] at c1
      have hd : l.drop (a + k) = c :: l.drop (a + k + 1) := by rw [hc]; exact List.drop_eq_getElem_cons hl1
      have HD := Lib.hid hd
      subst hA
      have hc255 := c.toNat_lt
      obtain ⟨x, hx⟩ : ∃ x : Nat, x = c.toNat := ⟨_, rfl⟩
      rw [← hx] at c1 hc255
      have HX := Lib.hid hx
      clear hc1 hc hd hx
      have q1 : ((a : Int) + k).toNat = a + k := by omega
      by_cases hz : x = 0 ∧ 0 < k
      · obtain ⟨hz1, hz2⟩ := hz
        have e1 : ((x : Int) == 0) = true := by simp [hz1]
        have HR : Hid (gscan 0 0 (l.drop a) = .error 3) := by
          show _ = _
          rw [← HG.out, HD.out]
          exact gscan_bad (.inl ⟨HX.out.symm.trans hz1, hz2⟩)
        have hz2' : (a : Int) < (a : Int) + k := by omega
        clear hz1
        go_wp2
        go_ret3
        exact ⟨by rw [HR.out]; rfl, rfl⟩
      · by_cases hk8 : 9 ≤ k
        · have HR : Hid (gscan 0 0 (l.drop a) = .error 3) := by
            show _ = _
            rw [← HG.out, HD.out]
            exact gscan_bad (.inr hk8)
          by_cases hx0 : x = 0
          · exact absurd ⟨hx0, by omega⟩ hz
          · have e1 : ((x : Int) == 0) = false := by simp; omega
            have hz2' : (a : Int) < (a : Int) + k := by omega
            have hk9' : (9 : Int) ≤ (k : Int) := by omega
            clear hx0 hz
            go_wp2
            go_ret3
            exact ⟨by rw [HR.out]; rfl, rfl⟩
        · have hP : pw = 128 ^ k := HP.out (by omega)
          obtain ⟨y, hy⟩ : ∃ y : Nat, y = x % 128 * 128 ^ k := ⟨_, rfl⟩
          have Hlt := Lib.hid (step_lt (x := x) HA.out (by omega))
          have hb := Hlt.out.2
          rw [← hy] at hb
          have hb1 : (acc : Int) + (y : Int) ≤ 9223372036854775807 := by omega
          have hy1 : (y : Int) ≤ 9223372036854775807 := by omega
          have HM := Lib.hid (pow_step (pw := pw) (x := x) (k := k) hP hy)
          have HY := Lib.hid hy
          have HP2 := Lib.hid hP
          have hk9' : ¬ (9 : Int) ≤ (k : Int) := by omega
          clear hy hP hb
          by_cases hx8 : x < 128
          · have HR : Hid (gscan 0 0 (l.drop a) = .ok (acc + x % 128 * 128 ^ k, k + 1)) := by
              show _ = _
              have e := HX.out
              rw [← HG.out, HD.out, gscan_last (by rw [← e]; omega) (by rw [← e]; exact hx8), ← e, Nat.mod_eq_of_lt hx8]
            have hx8' : (x : Int) < 128 := by omega
            by_cases hx0 : x = 0
            · have e1 : ((x : Int) == 0) = true := by simp [hx0]
              have hk0 : ¬ (a : Int) < (a : Int) + k := by omega
              clear hx0 hz
              have m1 := HM.out
              go_wp2
              clear m1
              go_ret3
              refine ⟨?_, rfl⟩
              rw [HR.out]
              exact ret3 (by have := HY.out; omega) (by omega) rfl
            · have e1 : ((x : Int) == 0) = false := by simp; omega
              clear hx0 hz
              have m1 := HM.out
              go_wp2
              all_goals
                clear m1
                go_ret3
                refine ⟨?_, rfl⟩
                rw [HR.out]
                exact ret3 (by have := HY.out; omega) (by omega) rfl
          · have e1 : ((x : Int) == 0) = false := by simp; omega
            have hx8' : ¬ (x : Int) < 128 := by omega
            have e := HX.out
            have HR : Hid (gscan (k + 1) (acc + x % 128 * 128 ^ k) (l.drop (a + (k + 1))) = gscan 0 0 (l.drop a)) := by
              show _ = _
              rw [← HG.out, HD.out, gscan_more (by rw [← e]; omega) (by rw [← e]; exact hx8), ← e]
              rfl
            have hl := HA.out
            have hy2 : acc + y < 128 ^ (k + 1) := by rw [HY.out]; exact Hlt.out.1
            have HY2 := Lib.hid hy2
            clear hl hy2 e
            by_cases hk7 : k < 8
            · have hk8' : (k : Int) < 8 := by omega
              have hp : 128 ^ k ≤ 128 ^ 7 := Nat.pow_le_pow_right (by omega) (by omega)
              have hp2 : (128 : Nat) ^ 7 = 562949953421312 := by decide
              have hpw : (pw : Int) ≤ 562949953421312 := by have := HP2.out; omega
              clear hp hp2
              have m1 := HM.out
              go_wp2
              all_goals
                clear m1
                go_roundw
                case rel => exact ⟨k + 1, acc + y, pw * 128, by omega, by omega, by go_num, by go_num, by go_num, HY2.out, fun _ => by rw [HP2.out, Nat.pow_succ], by rw [← HR.out, HY.out], trivial⟩
                case measure => simp [intOf]; omega
            · have hk8' : ¬ (k : Int) < 8 := by omega
              have m1 := HM.out
              go_wp2
              all_goals
                clear m1
                go_roundw
                case rel => exact ⟨k + 1, acc + y, pw, by omega, by omega, by go_num, by go_num, rfl, HY2.out, fun h => absurd h (by omega), by rw [← HR.out, HY.out], trivial⟩
                case measure => simp [intOf]; omega
    · have HR : Hid (gscan 0 0 (l.drop a) = .error 1) := by
        show _ = _
        rw [← HG.out, List.drop_of_length_le (by rw [HL.out]; omega)]
        rfl
      have hlt' : ¬ ((a : Int) + k < len) := by omega
      go_wp2
      go_ret3
      exact ⟨by rw [HR.out]; rfl, rfl⟩
end Go.Proofs.YtlkifobajdafpaaDoor
