/- Package varint: the contract of Len. -/
import Derived.Test.YtlkifobajdafpaaDoorVarint
import Derived.Test.YtlkifobajdafpaaDoorShelf
namespace Go.Proofs.YtlkifobajdafpaaDoor
open Go.RowKit

theorem bitLen_small : ∀ n : Fin 128, n.val ≠ 0 → (Lib.bitLen n.val + 6) / 7 = 1 := by decide +kernel
theorem bitLen_vbytes (n : Nat) : n ≠ 0 → n < 18446744073709551616 → (Lib.bitLen n + 6) / 7 = (vbytes n).length := by
  induction n using Nat.strongRecOn with
  | _ n ih =>
    intro h0 hx
    by_cases h : n < 128
    · rw [vbytes_small h]
      exact bitLen_small ⟨n, h⟩ h0
    · rw [vbytes_large h, List.length_cons, ← ih (n / 128) (by omega) (by omega) (by omega), Lib.bitLen_shift 7 n (by simpa using h) (by simpa using hx)]
      have e : n / 2 ^ 7 = n / 128 := by simp
      rw [e]
      omega

set_option maxRecDepth 100000 in
theorem varint_Len (n : Int) (hn : n ≤ 9223372036854775807) (w : World) :
    Calls Tryd.prog 21 #[.int .i64 n] w fun e w' => e = .returned (.int .i64 ((vbytes n.toNat).length : Int)) ∧ w = w' := by
  by_cases h0 : n ≤ 0
  · have e0 : n.toNat = 0 := by omega
    rw [e0, vbytes_small (by omega)]
    clear e0
    go_enter Tryd.func21, Tryd.ntmps21
    go_wp2
    go_ret
    exact ⟨rfl, rfl⟩
  · obtain ⟨k, rfl⟩ := Int.eq_ofNat_of_zero_le (show 0 ≤ n by omega)
    have hb := bitLen_vbytes k (by omega) (by omega)
    have h9 := vbytes_nine (n := k) (by omega)
    have HB := Lib.hid hb
    clear hb
    have hlen : Lib.bitLen k ≤ 63 := by
      have h7 := HB.out
      omega
    obtain ⟨y, hy⟩ : ∃ y, y = Lib.bitLen k := ⟨_, rfl⟩
    rw [← hy] at hlen
    have HY := Lib.hid hy
    clear hy h9
    have hk0 : 0 < (k : Int) := by omega
    have hk1 : (k : Int) ≤ 9223372036854775807 := by omega
    clear h0 hn
    go_enter Tryd.func21, Tryd.ntmps21
    go_wp2_with fail
    refine (Tryd.bits_Len64 _ _ (by omega) (by omega)).mono ?_
    rintro e w' ⟨rfl, rfl⟩
    rw [Int.toNat_natCast, ← HY.out]
    go_wp2
    go_ret
    refine ⟨?_, rfl⟩
    rw [Int.toNat_natCast, ← HB.out, ← HY.out]
    show Ending.returned (.int .i64 _) = _
    congr 2
    omega

theorem vbytes_300 : vbytes 300 = [172, 2] := by
  rw [vbytes_large (by omega), vbytes_small (by omega)]
  decide
end Go.Proofs.YtlkifobajdafpaaDoor
