/- The walk of VarintApart: whatever two numbers: it returns true, and turns nothing that was there. -/
import Derived.Test.YtlkifobajdafpaaVarintBytes
namespace Go.Proofs.Ytlkifobajdafpaa
open Go.RowKit

theorem apart_neg (a b : Int) (w : World) (h : a < 0 ∨ b < 0) :
    Calls Try.prog 6 #[.int .i64 a, .int .i64 b] w fun e w' => e = .returned (.bool true) ∧ Mod Non w w' := by
  by_cases ha : a < 0
  · go_enter Try.func6, Try.ntmps6
    go_wp2_with (go_at_call 15; refine (law01_awake _).mono ?_; rintro e w1 ⟨rfl, hm⟩)
    go_ret
    exact ⟨rfl, hm⟩
  · have hb : b < 0 := by omega
    go_enter Try.func6, Try.ntmps6
    go_wp2_with (go_at_call 15; refine (law01_awake _).mono ?_; rintro e w1 ⟨rfl, hm⟩)
    go_ret
    exact ⟨rfl, hm⟩

theorem take_apart (a b : Nat) (h : (vbytes a) = (vbytes b).take (vbytes a).length) : a = b := by
  have h1 : vbytes a ++ (vbytes b).drop (vbytes a).length = vbytes b ++ [] := by
    rw [List.append_nil]
    conv => lhs; lhs; rw [h]
    exact List.take_append_drop _ _
  exact (vbytes_apart a b _ _ h1).1

set_option maxHeartbeats 1000000 in
theorem apart_in (a b : Nat) (w : World) (ha : (a : Int) ≤ 9223372036854775807) (hb : (b : Int) ≤ 9223372036854775807) :
    Calls Try.prog 6 #[.int .i64 a, .int .i64 b] w fun e w' => e = .returned (.bool true) ∧ Mod Non w w' := by
  have Ha := Lib.hid ha
  have Hb := Lib.hid hb
  have pa := vbytes_pos a
  have pb := vbytes_pos b
  have qa : (vbytes a).length ≤ 9 := vbytes_nine (by omega)
  clear ha hb
  go_enter Try.func6, Try.ntmps6
  go_wp2_with fail
  refine (varint_Put none 0 0 (fun _ => True) [] a Ha.out w Reads.none_ (by simp)).mono ?_
  rintro e w1 ⟨v1, rfl, hown1, hm1⟩
  obtain ⟨A1, n1, c1, rfl, hl1, hc1⟩ := hown1.form
  rw [List.nil_append, Int.toNat_natCast] at hown1 hl1
  go_wp2_with fail
  refine (varint_Put none 0 0 (fun _ => True) [] b Hb.out w1 Reads.none_ (by simp)).mono ?_
  rintro e w2 ⟨v2, rfl, hown2, hm2⟩
  obtain ⟨A2, n2, c2, rfl, hl2, hc2⟩ := hown2.form
  rw [List.nil_append, Int.toNat_natCast] at hown2 hl2
  have hr1 := (hown1.non hm2).reads
  have hr2 := hown2.reads
  have hmod2 := hm1.trans' hm2
  have hn1 : 1 ≤ n1 := by rw [hl1.out]; exact pa
  have hn2 : 1 ≤ n2 := by rw [hl2.out]; exact pb
  have hn9 : n1 ≤ 9 := by rw [hl1.out]; exact qa
  have z1 : ((n1 : Int) == 0) = false := by simp; omega
  have z2 : ((n2 : Int) == 0) = false := by simp; omega
  by_cases hle : n1 ≤ n2
  · have hle' : (n1 : Int) ≤ n2 := by omega
    have hcc : (n1 : Int) ≤ c2 := by omega
    have hr2' := hr2.take hle
    rw [Nat.mul_one] at hr2'
    have etk : (vbs (vbytes b)).take n1 = vbs ((vbytes b).take n1) := by simp [vbs, List.map_take]
    rw [etk] at hr2'
    clear etk
    by_cases hab : a = b
    · have e1 : ((a : Int) == b) = true := by simp [hab]
      have HAB := Lib.hid hab
      clear hab
      go_wp2_with fail
      refine (ref_Same A1 A2 n1 n1 c1 c2 _ _ _ _ w2 hr1 hr2' (by simp only [maxLen]; omega)).mono ?_
      rintro e w3 ⟨rfl, hm3⟩
      rw [sameB_yes (by rw [hl1.out, HAB.out, List.take_length])]
      go_wp2_with (go_at_call 15; refine (law01_awake _).mono ?_; rintro e w4 ⟨rfl, hm4⟩)
      go_ret
      exact ⟨rfl, (hmod2.trans' hm3).trans' hm4⟩
    · have e1 : ((a : Int) == b) = false := by simp; omega
      have HAB := Lib.hid hab
      clear hab
      go_wp2_with fail
      refine (ref_Same A1 A2 n1 n1 c1 c2 _ _ _ _ w2 hr1 hr2' (by simp only [maxLen]; omega)).mono ?_
      rintro e w3 ⟨rfl, hm3⟩
      have hf : sameB (vbytes a) ((vbytes b).take n1) = false := by
        rw [Bool.eq_false_iff]
        intro h
        have h1 := sameB_iff.1 h
        rw [hl1.out] at h1
        exact HAB.out (take_apart a b h1)
      rw [hf]
      clear hf
      go_wp2_with (go_at_call 15; refine (law01_awake _).mono ?_; rintro e w4 ⟨rfl, hm4⟩)
      go_ret
      exact ⟨rfl, (hmod2.trans' hm3).trans' hm4⟩
  · have hle' : ¬ (n1 : Int) ≤ n2 := by omega
    have hab : ¬ a = b := by
      intro h; subst h
      have h1 := hl1.out
      have h2 := hl2.out
      omega
    have e1 : ((a : Int) == b) = false := by simp; omega
    clear hab
    go_wp2_with (go_at_call 15; refine (law01_awake _).mono ?_; rintro e w3 ⟨rfl, hm3⟩)
    go_ret
    exact ⟨rfl, hmod2.trans' hm3⟩

theorem apart_done (a b : Int) (w : World) (ha : (Lit.int .i64 a).wf = true) (hb : (Lit.int .i64 b).wf = true) :
    Calls Try.prog 6 #[.int .i64 a, .int .i64 b] w fun e w' => e = .returned (.bool true) ∧ Below w.heap.size w w' := by
  by_cases h : a < 0 ∨ b < 0
  · exact (apart_neg a b w h).mono fun _ _ hh => ⟨hh.1, hh.2.below'⟩
  · obtain ⟨x, rfl⟩ := Int.eq_ofNat_of_zero_le (show 0 ≤ a by omega)
    obtain ⟨y, rfl⟩ := Int.eq_ofNat_of_zero_le (show 0 ≤ b by omega)
    exact (apart_in x y w (le_of_wf ha) (le_of_wf hb)).mono fun _ _ hh => ⟨hh.1, hh.2.below'⟩
end Go.Proofs.Ytlkifobajdafpaa
