/- Package varint: the contract of Get. -/
import Derived.Test.YtdclfdinhdaadaaGreatDoorVarintGetPlain
import Derived.Test.YtdclfdinhdaadaaGreatDoorPut
namespace Go.Proofs.YtdclfdinhdaadaaGreatDoor
open Go.RowKit

theorem ret3 {a b c d e f : Int} (h1 : a = b) (h2 : c = d) (h3 : e = f) : Ending.returned (.tuple #[.int .i64 a, .int .i64 c, .int .i64 e]) = Ending.returned (.tuple #[.int .i64 b, .int .i64 d, .int .i64 f]) := by rw [h1, h2, h3]

theorem varint_Get_out (A : Option Addr) (len cap : Nat) (at_ : Int) (w : World) (h : at_ < 0 ∨ (len : Int) < at_) :
    Calls Tryz.prog 127 #[.slice A len cap, .int .i64 at_] w fun e w' => e = .returned (.tuple #[.int .i64 0, .int .i64 0, .int .i64 6]) ∧ w = w' := by
  by_cases h0 : at_ < 0
  · go_enter Tryz.func127, Tryz.ntmps127
    go_wp2
    go_step3
    go_wp2
    rw [Exit.noGoto_ret]
    go_ret3
    exact ⟨rfl, rfl⟩
  · have h1 : (len : Int) < at_ := by omega
    clear h
    go_enter Tryz.func127, Tryz.ntmps127
    go_wp2
    go_step3
    go_wp2
    rw [Exit.noGoto_ret]
    go_ret3
    exact ⟨rfl, rfl⟩

set_option maxRecDepth 100000 in
set_option maxHeartbeats 1000000 in
theorem varint_Get_in (A : Option Addr) (len cap : Nat) (R : Nat → Prop) (l : List UInt8) (a : Nat) (w : World) (hr : Reads w R 1 A len (vbs l)) (hmax : len ≤ 4611686018427387904) (ha : a ≤ len) :
    Calls Tryz.prog 127 #[.slice A len cap, .int .i64 a] w fun e w' => e = .returned (gres a (gscan 0 0 (l.drop a))) ∧ w = w' := by
  have hll := hr.1
  rw [vbs_length, Nat.mul_one] at hll
  have HL := Lib.hid hll
  clear hll
  go_enter Tryz.func127, Tryz.ntmps127
  go_wp2
  go_step3
  go_wp2
  go_step3
  go_wp2
  go_loop [7, 8] (fun m i => ∃ k acc : Nat, a + k ≤ len ∧ k ≤ 9 ∧ i = .int .i64 ((a + k : Nat) : Int) ∧ m = .int .u64 acc ∧ acc < 128 ^ k ∧ gscan k acc (l.drop (a + k)) = gscan 0 0 (l.drop a)) (fun _ i => len - (intOf i).toNat)
  case atStart => exact ⟨0, 0, by omega, by omega, rfl, rfl, by simp, rfl⟩
  case round =>
    obtain ⟨k, acc, hk, hk9, rfl, rfl, hacc, hg⟩ := hrel
    have HG := Lib.hid hg
    have HA := Lib.hid hacc
    clear hg hacc
    by_cases hlt : a + k < len
    · obtain ⟨b, off, hA, _, _, hc1⟩ := hr.row (by omega) (by rw [vbs_length, HL.out]; omega)
      have hl1 : a + k < l.length := by rw [HL.out]; exact hlt
      obtain ⟨c, hc⟩ : ∃ c, c = l[a + k] := ⟨_, rfl⟩
      have c1 := hc1 (a + k) _ (vbs_get hl1)
      rw [← hc] at c1
      have hd : l.drop (a + k) = c :: l.drop (a + k + 1) := by rw [hc]; exact List.drop_eq_getElem_cons hl1
      have HD := Lib.hid hd
      subst hA
      have hc255 := c.toNat_lt
      obtain ⟨x, hx⟩ : ∃ x : Nat, x = c.toNat := ⟨_, rfl⟩
      rw [← hx] at c1 hc255
      have HX := Lib.hid hx
      clear hc1 hc hd hx
      by_cases hz : x = 0 ∧ 0 < k
      · obtain ⟨hz1, hz2⟩ := hz
        have e1 : ((x : Int) == 0) = true := by simp [hz1]
        have HR : Hid (gscan 0 0 (l.drop a) = .error 3) := by
          show _ = _
          rw [← HG.out, HD.out]
          exact gscan_bad (.inl ⟨HX.out.symm.trans hz1, hz2⟩)
        have hz2' : (a : Int) < ((a + k : Nat) : Int) := by omega
        clear hz1
        go_wp2
        go_ret3
        exact ⟨by rw [HR.out]; rfl, rfl⟩
      · by_cases hk8 : 9 ≤ k
        · have HR : Hid (gscan 0 0 (l.drop a) = .error 3) := by
            show _ = _
            rw [← HG.out, HD.out]
            exact gscan_bad (.inr hk8)
          by_cases hx0 : x = 0
          · exact absurd ⟨hx0, by omega⟩ hz
          · have e1 : ((x : Int) == 0) = false := by simp; omega
            clear hx0 hz
            go_wp2
            go_ret3
            exact ⟨by rw [HR.out]; rfl, rfl⟩
        · have hacc : (acc : Int) ≤ 9223372036854775807 := by
            have h1 : 128 ^ k ≤ 128 ^ 8 := Nat.pow_le_pow_right (by omega) (by omega)
            have h2 : (128 : Nat) ^ 8 = 72057594037927936 := by decide
            have h3 := HA.out
            omega
          have Hstep := Lib.hid (step_eq (x := x) HA.out (by omega) hc255)
          have Hlt := Lib.hid (step_lt (x := x) HA.out (by omega))
          by_cases hx8 : x < 128
          · have HR : Hid (gscan 0 0 (l.drop a) = .ok (acc + x % 128 * 128 ^ k, k + 1)) := by
              show _ = _
              have e := HX.out
              rw [← HG.out, HD.out, gscan_last (by rw [← e]; omega) (by rw [← e]; exact hx8), ← e, Nat.mod_eq_of_lt hx8]
            have hne : (((a + k : Nat) : Int) == len) = false := by simp; omega
            by_cases hx0 : x = 0
            · have e1 : ((x : Int) == 0) = true := by simp [hx0]
              have hk0 : ¬ (a : Int) < ((a + k : Nat) : Int) := by omega
              clear hx0 hz
              go_wp2
              go_ret3
              refine ⟨?_, rfl⟩
              rw [HR.out]
              exact ret3 (by rw [Hstep.out, IntWalk.wrap64_in _ ⟨by omega, by have := Hlt.out.2; omega⟩]) (by omega) rfl
            · have e1 : ((x : Int) == 0) = false := by simp; omega
              clear hx0 hz
              go_wp2
              go_ret3
              refine ⟨?_, rfl⟩
              rw [HR.out]
              exact ret3 (by rw [Hstep.out, IntWalk.wrap64_in _ ⟨by omega, by have := Hlt.out.2; omega⟩]) (by omega) rfl
          · have e1 : ((x : Int) == 0) = false := by simp; omega
            go_wp2
            go_round
            case rel =>
              refine ⟨k + 1, acc + x % 128 * 128 ^ k, by omega, by omega, by go_num, by rw [Hstep.out], Hlt.out.1, ?_⟩
              have e := HX.out
              rw [← HG.out, HD.out, gscan_more (by rw [← e]; omega) (by rw [← e]; exact hx8), ← e]
              rfl
            case measure => simp [intOf]; omega
    · have HR : Hid (gscan 0 0 (l.drop a) = .error 1) := by
        show _ = _
        rw [← HG.out, List.drop_of_length_le (by rw [HL.out]; omega)]
        rfl
      have hake : Hid (a + k = len) := by show _ = _; omega
      have e1 : (((a + k : Nat) : Int) == len) = true := by rw [hake.out]; simp
      have hlt' : ¬ ((a + k : Nat) : Int) < len := by omega
      go_wp2
      go_ret3
      exact ⟨by rw [HR.out]; rfl, rfl⟩
end Go.Proofs.YtdclfdinhdaadaaGreatDoor
