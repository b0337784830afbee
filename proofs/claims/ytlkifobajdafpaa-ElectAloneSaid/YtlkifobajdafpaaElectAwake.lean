/- 'awake' of the statements on package elect returns true and turns nothing that was there. -/
import Derived.Test.YtlkifobajdafpaaElect
namespace Go.Proofs.Ytlkifobajdafpaa
open Go.RowKit

set_option maxHeartbeats 400000 in
theorem elect_awake (w : World) :
    Calls Try.prog 10 #[] w fun e w' => e = .returned (.bool true) ∧ Mod Non w w' := by
  go_enter Try.func10, Try.ntmps10
  go_wp2_with (go_at_call 11; refine (elect_New_in 1 _ (by omega) (by omega)).mono ?_; rintro e w1 ⟨rfl, hclk, hm⟩)
  obtain ⟨b, HB⟩ : ∃ b, Hid (b = w.heap.size) := ⟨_, rfl⟩
  rw [← HB.out]
  rw [← HB.out] at hclk
  go_loopw [2] (fun i wr => ∃ k : Nat, k ≤ 9 ∧ i = .int .i64 k ∧ Clk wr b 10 k ∧ Mod Non w wr) (fun i _ => 9 - (intOf i).toNat)
  case atStart => exact ⟨0, by omega, rfl, hclk, hm⟩
  case round =>
    obtain ⟨k, hk, rfl, hc, hmr⟩ := hrel
    by_cases hlt : k < 9
    · go_wp2_with (go_at_call 12; refine (elect_Tick_no b 10 k _ hc (by omega) (by omega) (by omega)).mono ?_; rintro e w2 ⟨rfl, hc2, hm2⟩)
      go_roundw
      case rel => exact ⟨k + 1, by omega, by go_num, hc2, hmr.trans hm2 fun i hi h => by have := HB.out; unfold One at h; omega⟩
      case measure => simp [intOf]; omega
    · have hk9 : Hid (k = 9) := by show k = 9; omega
      have h9 : ¬ ((k : Int) < 9) := by omega
      go_wp2_with fail
      refine (elect_Left b 10 k _ hc (by omega) (by omega) (by omega)).mono ?_
      rintro e w2 ⟨rfl, hc2, hm2⟩
      have e1 : ((10 : Int) - k == 1) = true := by rw [hk9.out]; rfl
      go_wp2_with fail
      refine (elect_Tick_yes b 10 k _ hc2 (by omega) (by omega) (by omega)).mono ?_
      rintro e w3 ⟨rfl, hc3, hm3⟩
      go_wp2_with fail
      refine (elect_Left b 10 0 _ hc3 (by omega) (by omega) (by omega)).mono ?_
      rintro e w4 ⟨rfl, hc4, hm4⟩
      go_wp2
      go_ret
      exact ⟨rfl, ((hmr.trans' hm2).trans hm3 fun i hi h => by have := HB.out; unfold One at h; omega).trans' hm4⟩
end Go.Proofs.Ytlkifobajdafpaa
