/- The walk of VarintBytes: whatever bytes and whatever number: it returns true, and turns nothing that was there. -/
import Derived.Test.YtlkifobajdafpaaVarintLen
namespace Go.Proofs.Ytlkifobajdafpaa
open Go.RowKit

set_option maxHeartbeats 1000000 in
theorem bytes_in (A : Option Addr) (len cap : Nat) (l : List UInt8) (n : Int) (w : World) (hr : Reads w (fun _ => True) 1 A len (vbs l)) (hlen : len ≤ 500) (hn : n ≤ 9223372036854775807) :
    Calls Try.prog 5 #[.slice A len cap, .int .i64 n] w fun e w' => e = .returned (.bool true) ∧ Mod Non w w' := by
  have hl : ¬ (500 : Int) < (len : Int) := by omega
  have hll := hr.1
  rw [vbs_length, Nat.mul_one] at hll
  have HN := Lib.hid hn
  have hvl : (vbytes n.toNat).length ≤ 9 := vbytes_nine (by omega)
  have hl5 : l.length ≤ 500 := by omega
  clear hn hll
  go_enter Try.func5, Try.ntmps5
  go_wp2_with (at_builtin; refine wpList_append_bytes rfl (.tmp 10) (.tmp 11) rfl w.heap.size _ [] rfl (OwnB.made w) (fun _ => True) A len cap l rfl (hr.alloc _) (by simp; omega) (by simp) ?_; intro v1 w1 hown1 hm1 _)
  have hmod1 := (OwnB.made w).modNon ((Mod.refl _ _).alloc _) hm1
  clear hm1
  rw [List.nil_append] at hown1
  refine (ref_Bytes n HN.out w1).mono ?_
  rintro e w2 ⟨v2, rfl, hown2, hm2⟩
  obtain ⟨A2, n2, c2, rfl, hl2, _⟩ := hown2.form
  have hr2 := hown2.reads
  have hown1' := hown1.non hm2
  have hmod2 := hmod1.trans' hm2
  go_wp2_with (at_builtin; refine wpList_append_bytes rfl (.tmp 12) (.tmp 14) rfl w.heap.size _ l rfl hown1' _ A2 _ c2 (vbytes n.toNat) rfl hr2 (by omega) hmod2.size ?_; intro v3 w3 hown3 hm3 _)
  have hmod3 := hown1'.modNon hmod2 hm3
  obtain ⟨A3, n3, c3, rfl, hl3, _⟩ := hown3.form
  clear hm3 hown1' hown1 hown2 hr2
  refine (varint_Put A len cap _ l n HN.out w3 (hr.mod hmod3 fun _ _ _ h => h) (by omega)).mono ?_
  rintro e w4 ⟨v4, rfl, hown4, hm4⟩
  obtain ⟨A4, n4, c4, rfl, hl4, _⟩ := hown4.form
  have hown3' := hown3.non hm4
  have hmod4 := hmod3.trans' hm4
  go_wp2_with fail
  refine (ref_Same A4 A3 _ _ c4 c3 _ _ _ _ w4 hown4.reads hown3'.reads (by rw [hl4.out, List.length_append]; simp only [maxLen]; omega)).mono ?_
  rintro e w5 ⟨rfl, hm5⟩
  rw [sameB_yes rfl]
  have hmod5 := hmod4.trans' hm5
  go_wp2_with fail
  refine (varint_Len n HN.out w5).mono ?_
  rintro e w6 ⟨rfl, rfl⟩
  go_wp2_with fail
  refine (ref_Bytes n HN.out w5).mono ?_
  rintro e w7 ⟨v7, rfl, hown7, hm7⟩
  obtain ⟨A7, n7, c7, rfl, hl7, _⟩ := hown7.form
  have e7 : (((vbytes n.toNat).length : Int) == (n7 : Int)) = true := by rw [hl7.out]; simp
  have hmod7 := hmod5.trans' hm7
  go_wp2_with fail
  refine (law01_awake w7).mono ?_
  rintro e w8 ⟨rfl, hm8⟩
  go_wp2
  go_ret
  exact ⟨rfl, hmod7.trans' hm8⟩

theorem bytes_long (A : Option Addr) (len cap : Nat) (n : Int) (w : World) (hlen : 500 < len) :
    Calls Try.prog 5 #[.slice A len cap, .int .i64 n] w fun e w' => e = .returned (.bool true) ∧ Mod Non w w' := by
  have hl : (500 : Int) < (len : Int) := by omega
  go_enter Try.func5, Try.ntmps5
  go_wp2_with (go_at_call 15; refine (law01_awake _).mono ?_; rintro e w1 ⟨rfl, hm⟩)
  go_ret
  exact ⟨rfl, hm⟩

theorem le_of_wf {n : Int} (h : (Lit.int .i64 n).wf = true) : n ≤ 9223372036854775807 := by
  have hmax : IntKind.i64.max = 9223372036854775807 := rfl
  simp only [Lit.wf, Bool.and_eq_true, decide_eq_true_eq] at h; omega
theorem ge_of_wf {n : Int} (h : (Lit.int .i64 n).wf = true) : -9223372036854775808 ≤ n := by
  have hmin : IntKind.i64.min = -9223372036854775808 := rfl
  simp only [Lit.wf, Bool.and_eq_true, decide_eq_true_eq] at h; omega

theorem bytes_done (A : Option Addr) (len cap : Nat) (l : List UInt8) (n : Int) (w : World) (_ : l.length = len) (_ : len ≤ cap) (_ : cap ≤ maxLen) (hr : Reads w (fun _ => True) 1 A len (vbs l)) (hn : (Lit.int .i64 n).wf = true) :
    Calls Try.prog 5 #[.slice A len cap, .int .i64 n] w fun e w' => e = .returned (.bool true) ∧ Below w.heap.size w w' := by
  by_cases h : 500 < len
  · exact (bytes_long A len cap n w h).mono fun _ _ hh => ⟨hh.1, hh.2.below'⟩
  · exact (bytes_in A len cap l n w hr (by omega) (le_of_wf hn)).mono fun _ _ hh => ⟨hh.1, hh.2.below'⟩
end Go.Proofs.Ytlkifobajdafpaa
