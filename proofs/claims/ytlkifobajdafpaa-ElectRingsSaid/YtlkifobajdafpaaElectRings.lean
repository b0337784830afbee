/- The walk of ElectRings: whatever node and whatever list of bools: it returns true, and turns nothing that was there. -/
import Derived.Test.YtlkifobajdafpaaElectAwake
namespace Go.Proofs.Ytlkifobajdafpaa
open Go.RowKit

theorem rings_long (node : Int) (a0 : Option Addr) (len cap : Nat) (w : World) (hlen : 200 < len) :
    Calls Try.prog 3 #[.int .i64 node, .slice a0 len cap] w fun e w' => e = .returned (.bool true) ∧ Mod Non w w' := by
  have hl : (200 : Int) < (len : Int) := by omega
  go_enter Try.func3, Try.ntmps3
  go_wp2_with (go_at_call 10; refine (elect_awake _).mono ?_; rintro e w1 ⟨rfl, hm⟩)
  go_ret
  exact ⟨rfl, hm⟩

theorem rings_out (node : Int) (a0 : Option Addr) (len cap : Nat) (w : World) (hlen : len ≤ 200) (hn : node < 1 ∨ 9 < node) :
    Calls Try.prog 3 #[.int .i64 node, .slice a0 len cap] w fun e w' => e = .returned (.bool true) ∧ Mod Non w w' := by
  have hl : ¬ (200 : Int) < (len : Int) := by omega
  rcases hn with h1 | h1
  · go_enter Try.func3, Try.ntmps3
    go_wp2_with fail
    refine (elect_New_out node _ (.inl h1)).mono ?_
    rintro e w1 ⟨rfl, rfl⟩
    go_wp2_with fail
    refine (elect_Tick_nil _).mono ?_
    rintro e w2 ⟨rfl, hm2⟩
    go_wp2_with fail
    refine (elect_Left_nil _).mono ?_
    rintro e w3 ⟨rfl, rfl⟩
    go_wp2_with fail
    refine (elect_awake _).mono ?_
    rintro e w4 ⟨rfl, hm4⟩
    go_wp2
    go_ret
    exact ⟨rfl, hm2.trans' hm4⟩
  · have h2 : ¬ node < 1 := by omega
    go_enter Try.func3, Try.ntmps3
    go_wp2_with fail
    refine (elect_New_out node _ (.inr h1)).mono ?_
    rintro e w1 ⟨rfl, rfl⟩
    go_wp2_with fail
    refine (elect_Tick_nil _).mono ?_
    rintro e w2 ⟨rfl, hm2⟩
    go_wp2_with fail
    refine (elect_Left_nil _).mono ?_
    rintro e w3 ⟨rfl, rfl⟩
    go_wp2_with fail
    refine (elect_awake _).mono ?_
    rintro e w4 ⟨rfl, hm4⟩
    go_wp2
    go_ret
    exact ⟨rfl, hm2.trans' hm4⟩

set_option maxHeartbeats 1000000 in
theorem rings_in (node : Int) (a0 : Option Addr) (len cap : Nat) (l : List Bool) (w : World) (hr : Reads w (fun _ => True) 1 a0 len (l.map Value.bool)) (hlen : len ≤ 200) (h1 : 1 ≤ node) (h9 : node ≤ 9) :
    Calls Try.prog 3 #[.int .i64 node, .slice a0 len cap] w fun e w' => e = .returned (.bool true) ∧ Mod Non w w' := by
  have hl : ¬ (200 : Int) < (len : Int) := by omega
  have h1' : ¬ node < 1 := by omega
  have h9' : ¬ 9 < node := by omega
  have hll := hr.1
  rw [List.length_map, Nat.mul_one] at hll
  have HLL := Lib.hid hll
  clear hll
  go_enter Try.func3, Try.ntmps3
  go_wp2_with (go_at_call 11; refine (elect_New_in node _ (by omega) (by omega)).mono ?_; rintro e w1 ⟨rfl, hclk, hm⟩)
  obtain ⟨b, HB⟩ : ∃ b, Hid (b = w.heap.size) := ⟨_, rfl⟩
  rw [← HB.out]
  rw [← HB.out] at hclk
  go_loopw [6, 7] (fun m i wr => ∃ (k : Nat) (q : Int), k ≤ len ∧ i = .int .i64 k ∧ m = .int .i64 q ∧ 0 ≤ q ∧ q < 8 + 2 * node ∧ Clk wr b (8 + 2 * node) q ∧ Mod Non w wr) (fun _ i _ => len - (intOf i).toNat)
  case atStart => exact ⟨0, 0, by omega, rfl, rfl, by omega, by omega, hclk, hm⟩
  case round =>
    obtain ⟨k, q, hk, rfl, rfl, hq0, hq1, hc, hmr⟩ := hrel
    by_cases hlt : k < len
    · have hrr := hr.mod hmr (fun _ _ _ h => h)
      obtain ⟨ab, off, ha0, _, _, hcell⟩ := hrr.row (by omega) (by rw [List.length_map, HLL.out]; omega)
      have hkl : k < l.length := by rw [HLL.out]; exact hlt
      have hck := hcell k (.bool l[k]) (by simp [hkl])
      clear hcell
      subst ha0
      cases hlk : l[k]
      · rw [hlk] at hck
        clear hlk
        by_cases hqp : q + 1 < 8 + 2 * node
        · have e1 : ((q + 1 : Int) == 8 + 2 * node) = false := by simp; omega
          go_wp2_with fail
          refine (elect_Tick_no b _ q _ hc (by omega) (by omega) (by omega)).mono ?_
          rintro e w2 ⟨rfl, hc2, hm2⟩
          go_wp2_with fail
          refine (elect_Left b _ (q + 1) _ hc2 (by omega) (by omega) (by omega)).mono ?_
          rintro e w3 ⟨rfl, hc3, hm3⟩
          go_wp2
          go_roundw
          case rel => exact ⟨k + 1, q + 1, by omega, by go_num, rfl, by omega, by omega, hc3, (hmr.trans hm2 fun i hi h => by have := HB.out; unfold One at h; omega).trans' hm3⟩
          case measure => simp [intOf]; omega
        · have hqe : Hid (q + 1 = 8 + 2 * node) := by show q + 1 = _; omega
          have e1 : ((q + 1 : Int) == 8 + 2 * node) = true := by rw [hqe.out]; simp
          go_wp2_with fail
          refine (elect_Tick_yes b _ q _ hc (by omega) (by omega) (by omega)).mono ?_
          rintro e w2 ⟨rfl, hc2, hm2⟩
          go_wp2_with fail
          refine (elect_Left b _ 0 _ hc2 (by omega) (by omega) (by omega)).mono ?_
          rintro e w3 ⟨rfl, hc3, hm3⟩
          go_wp2
          go_roundw
          case rel => exact ⟨k + 1, 0, by omega, by go_num, rfl, by omega, by omega, hc3, (hmr.trans hm2 fun i hi h => by have := HB.out; unfold One at h; omega).trans' hm3⟩
          case measure => simp [intOf]; omega
      · rw [hlk] at hck
        clear hlk
        go_wp2_with (go_at_call 14; refine (elect_Wind b _ q _ hc).mono ?_; rintro e w2 ⟨rfl, rfl⟩)
        go_roundw
        case rel => exact ⟨k + 1, 0, by omega, by go_num, rfl, by omega, by omega, hc.set1 0, hmr.trans (Mod.one _ _ _ _) fun i hi h => by have := HB.out; unfold One at h; omega⟩
        case measure => simp [intOf]; omega
    · go_wp2_with (go_at_call 10; refine (elect_awake _).mono ?_; rintro e w1 ⟨rfl, hm4⟩)
      go_ret
      exact ⟨rfl, hmr.trans' hm4⟩

theorem rings_walk (node : Int) (a0 : Option Addr) (len cap : Nat) (l : List Bool) (w : World) (hr : Reads w (fun _ => True) 1 a0 len (l.map Value.bool)) :
    Calls Try.prog 3 #[.int .i64 node, .slice a0 len cap] w fun e w' => e = .returned (.bool true) ∧ Below w.heap.size w w' := by
  by_cases h : 200 < len
  · exact (rings_long node a0 len cap w h).mono fun _ _ hh => ⟨hh.1, hh.2.below'⟩
  · by_cases hn : node < 1 ∨ 9 < node
    · exact (rings_out node a0 len cap w (by omega) hn).mono fun _ _ hh => ⟨hh.1, hh.2.below'⟩
    · exact (rings_in node a0 len cap l w hr (by omega) (by omega) (by omega)).mono fun _ _ hh => ⟨hh.1, hh.2.below'⟩

theorem rings_done (node : Int) (a0 : Option Addr) (len cap : Nat) (l : List Bool) (w : World) (_ : (Lit.int .i64 node).wf = true) (_ : l.length = len) (_ : len ≤ cap) (_ : cap ≤ maxLen) (hr : Reads w (fun _ => True) 1 a0 len (l.map Value.bool)) :
    Calls Try.prog 3 #[.int .i64 node, .slice a0 len cap] w fun e w' => e = .returned (.bool true) ∧ Below w.heap.size w w' := rings_walk node a0 len cap l w hr
end Go.Proofs.Ytlkifobajdafpaa
