/- The walk of VarintBack: whatever bytes and whatever number: it returns true, and turns nothing that was there. -/
import Derived.Test.YtlkifobajdafpaaVarintGet
namespace Go.Proofs.Ytlkifobajdafpaa
open Go.RowKit

theorem back_edge (A C : Option Addr) (len1 cap1 len3 cap3 : Nat) (n : Int) (w : World) (h : 500 < len1 ∨ 500 < len3 ∨ n < 0) :
    Calls Try.prog 7 #[.slice A len1 cap1, .int .i64 n, .slice C len3 cap3] w fun e w' => e = .returned (.bool true) ∧ Mod Non w w' := by
  by_cases h1 : (500 : Int) < (len1 : Int)
  · go_enter Try.func7, Try.ntmps7
    go_wp2_with (go_at_call 15; refine (law01_awake _).mono ?_; rintro e w1 ⟨rfl, hm⟩)
    go_ret
    exact ⟨rfl, hm⟩
  · by_cases h3 : (500 : Int) < (len3 : Int)
    · go_enter Try.func7, Try.ntmps7
      go_wp2_with (go_at_call 15; refine (law01_awake _).mono ?_; rintro e w1 ⟨rfl, hm⟩)
      go_ret
      exact ⟨rfl, hm⟩
    · have hn : n < 0 := by omega
      go_enter Try.func7, Try.ntmps7
      go_wp2_with (go_at_call 15; refine (law01_awake _).mono ?_; rintro e w1 ⟨rfl, hm⟩)
      go_ret
      exact ⟨rfl, hm⟩

set_option maxHeartbeats 1000000 in
theorem back_in (A C : Option Addr) (len1 cap1 len3 cap3 : Nat) (l1 l3 : List UInt8) (n : Nat) (w : World) (hr1 : Reads w (fun _ => True) 1 A len1 (vbs l1)) (hr3 : Reads w (fun _ => True) 1 C len3 (vbs l3))
    (h1 : len1 ≤ 500) (h3 : len3 ≤ 500) (hn : (n : Int) ≤ 9223372036854775807) :
    Calls Try.prog 7 #[.slice A len1 cap1, .int .i64 n, .slice C len3 cap3] w fun e w' => e = .returned (.bool true) ∧ Mod Non w w' := by
  have hl1 := hr1.1
  have hl3 := hr3.1
  rw [vbs_length, Nat.mul_one] at hl1 hl3
  have q9 : (vbytes n).length ≤ 9 := vbytes_nine (by omega)
  have Hl1 := Lib.hid hl1
  have Hl3 := Lib.hid hl3
  have Hn := Lib.hid hn
  have g1 : ¬ (500 : Int) < (len1 : Int) := by omega
  have g3 : ¬ (500 : Int) < (len3 : Int) := by omega
  have g0 : ¬ (n : Int) < 0 := by omega
  clear hl1 hl3 hn
  go_enter Try.func7, Try.ntmps7
  go_wp2_with fail
  refine (varint_Put A len1 cap1 _ l1 n Hn.out w hr1 (by rw [Hl1.out]; omega)).mono ?_
  rintro e w1 ⟨v1, rfl, hown1, hm1⟩
  rw [Int.toNat_natCast] at hown1
  have hlen1 : (l1 ++ vbytes n).length + l3.length ≤ 140737488355328 := by rw [List.length_append, Hl1.out, Hl3.out]; omega
  go_wp2_with (at_builtin; refine wpList_append_bytes rfl (.tmp 26) (.tmp 27) rfl w.heap.size _ _ rfl hown1 (fun _ => True) C len3 cap3 l3 rfl (hr3.mod hm1 fun _ _ _ h => h) hlen1 hm1.size ?_; intro v2 w2 hown2 hm2 _; (obtain ⟨A2, n2, c2, rfl, hl2, hc2⟩ := hown2.form))
  have hmod2 := hown1.modNon hm1 hm2
  have hn2 : Hid (n2 = len1 + (vbytes n).length + len3) := by
    show _ = _
    rw [hl2.out, List.length_append, List.length_append, Hl1.out, Hl3.out]
  have hscan : gscan 0 0 ((l1 ++ vbytes n ++ l3).drop len1) = .ok (n, (vbytes n).length) := by
    rw [List.append_assoc, ← Hl1.out, List.drop_left, gscan_vbytes n 0 0 l3 (by omega) (.inr rfl)]
    simp
  have HS := Lib.hid hscan
  clear hscan hlen1
  refine (varint_Get_in A2 n2 c2 _ _ len1 w2 hown2.reads (by rw [hn2.out]; omega) (by rw [hn2.out]; omega)).mono ?_
  rintro e w3 ⟨rfl, rfl⟩
  rw [HS.out]
  have e1 : ((n : Int) == n) = true := by simp
  have e2 : ((len1 : Int) + ((vbytes n).length : Int) == (n2 : Int) - len3) = true := by rw [hn2.out, beq_iff_eq]; omega
  have b2 : len3 ≤ n2 := by rw [hn2.out]; omega
  have b3 : n2 ≤ 1009 := by rw [hn2.out]; omega
  unfold gres
  go_wp2_with (go_at_call 15; refine (law01_awake _).mono ?_; rintro e w4 ⟨rfl, hm4⟩)
  go_ret
  exact ⟨rfl, hmod2.trans' hm4⟩

theorem back_done (A : Option Addr) (len1 cap1 : Nat) (l1 : List UInt8) (n : Int) (C : Option Addr) (len3 cap3 : Nat) (l3 : List UInt8) (w : World)
    (_ : l1.length = len1) (_ : len1 ≤ cap1) (_ : cap1 ≤ maxLen) (hr1 : Reads w (fun _ => True) 1 A len1 (vbs l1)) (hn : (Lit.int .i64 n).wf = true)
    (_ : l3.length = len3) (_ : len3 ≤ cap3) (_ : cap3 ≤ maxLen) (hr3 : Reads w (fun _ => True) 1 C len3 (vbs l3)) :
    Calls Try.prog 7 #[.slice A len1 cap1, .int .i64 n, .slice C len3 cap3] w fun e w' => e = .returned (.bool true) ∧ Below w.heap.size w w' := by
  by_cases h : 500 < len1 ∨ 500 < len3 ∨ n < 0
  · exact (back_edge A C len1 cap1 len3 cap3 n w h).mono fun _ _ hh => ⟨hh.1, hh.2.below'⟩
  · obtain ⟨k, rfl⟩ := Int.eq_ofNat_of_zero_le (show 0 ≤ n by omega)
    exact (back_in A C len1 cap1 len3 cap3 l1 l3 k w hr1 hr3 (by omega) (by omega) (le_of_wf hn)).mono fun _ _ hh => ⟨hh.1, hh.2.below'⟩
end Go.Proofs.Ytlkifobajdafpaa
