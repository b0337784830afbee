/- slices.Clone of bytes, varint.Put: their contracts. -/
import Derived.Test.YtdclfdinhdaadaaGreatDoorBytes
namespace Go.Proofs.YtdclfdinhdaadaaGreatDoor
open Go.RowKit

theorem slices_Clone (A : Option Addr) (n c : Nat) (R : Nat → Prop) (l : List UInt8) (w : World) (hr : Reads w R 1 A n (vbs l)) (hl : l.length ≤ 140737488355328) :
    Calls Tryz.prog 76 #[.slice A n c] w fun e w' => ∃ v, e = .returned v ∧ OwnB w' w.heap.size v l ∧ Mod Non w w' := by
  have qT : ∀ (w : World) (a : Option Addr) (n c n' c' : Nat), (binOp .eql 35 (.slice a n c) (.slice none n' c')).run Tryz.prog w = .ok (.bool a.isNone) w := fun w a n c n' c' => Lib.run_eql_slice_nil w _ _ a n c n' c' Tryz.underlying35
  cases A with
  | none =>
    have hn : l = [] := by
      have h1 := hr.1
      rcases Nat.eq_zero_or_pos n with h0 | h0
      · subst h0
        rw [vbs_length] at h1
        exact List.eq_nil_of_length_eq_zero (by omega)
      · obtain ⟨ad, h, _⟩ := hr.2 h0
        cases h
    subst hn
    go_enter Tryz.func76, Tryz.ntmps76
    go_wp2
    go_ret
    exact ⟨_, rfl, OwnB.nil _ _, Mod.refl _ _⟩
  | some ad =>
    go_enter Tryz.func76, Tryz.ntmps76
    go_wp2_with (at_builtin; refine wpList_append_bytes rfl (.tmp 5) (.tmp 6) rfl w.heap.size _ [] rfl (OwnB.made _) R (some ad) n c l rfl (hr.alloc _) (by simpa using hl) (by simp) ?_; intro v' w' hown' hm' _)
    go_ret
    exact ⟨_, rfl, by simpa using hown', (OwnB.made w).modNon ((Mod.refl _ _).alloc _) hm'⟩

set_option maxHeartbeats 1000000 in
theorem varint_Put_nat (A : Option Addr) (m c : Nat) (R : Nat → Prop) (l : List UInt8) (n : Nat) (hn : n < 9223372036854775808) (w : World) (hr : Reads w R 1 A m (vbs l)) (hl : l.length ≤ 140737488355000) :
    Calls Tryz.prog 74 #[.slice A m c, .int .i64 n] w fun e w' => ∃ v, e = .returned v ∧ OwnB w' w.heap.size v (l ++ vbytes n) ∧ Mod Non w w' := by
  have h9 := vbytes_nine hn
  go_enter Tryz.func74, Tryz.ntmps74
  go_wp2_with (go_at_call 76; refine (slices_Clone A m c R l _ hr (by omega)).mono ?_; rintro e w1 ⟨v1, rfl, hown1, hm1⟩)
  go_loopw [1, 5] (fun m v wr => ∃ (k : Nat) (acc : List UInt8), m = .int .i64 k ∧ k ≤ n ∧ acc ++ vbytes k = l ++ vbytes n ∧ OwnB wr w.heap.size v acc ∧ Mod Non w wr) (fun m _ _ => (intOf m).toNat)
  case atStart => exact ⟨n, l, by go_num, Nat.le_refl _, rfl, hown1, hm1⟩
  case round =>
    obtain ⟨k, acc, rfl, hk, hacc, hown, hmr⟩ := hrel
    have HA := Lib.hid hacc
    clear hacc
    have hlen : acc.length + (vbytes k).length ≤ l.length + 9 := by rw [← List.length_append, HA.out, List.length_append]; omega
    have hpos := vbytes_pos k
    have hsz := hmr.size
    by_cases hlt : k < 128
    · have hlt' : ¬ (128 : Int) ≤ k := by omega
      go_wp2_with (at_builtin; refine wpList_append_byte rfl (.tmp 20) (.tmp 23) rfl w.heap.size _ acc rfl hown k (by omega) (by omega) rfl (by omega) hsz ?_; intro v' w' hown' hm' _)
      have hmod := hown.modNon hmr hm'
      go_ret
      refine ⟨_, rfl, ?_, hmod⟩
      rw [← HA.out, vbytes_small hlt]
      simpa using hown'
    · have hlt' : (128 : Int) ≤ k := by omega
      obtain ⟨y, hy⟩ : ∃ y, y = bits BinOp.or IntKind.u8 ((k : Int) % 256) 128 := ⟨_, rfl⟩
      have hyv : y = 128 + (k : Int) % 128 := hy.trans (or_128 k)
      have HY := Lib.hid hy
      have HYV := Lib.hid hyv
      have hy0 : 0 ≤ y := by omega
      have hy1 : y < 256 := by omega
      clear hy hyv
      go_wp2_with (at_builtin; rw [← HY.out]; refine wpList_append_byte rfl (.tmp 14) (.tmp 18) rfl w.heap.size _ acc rfl hown y hy0 hy1 rfl (by omega) hsz ?_; intro v' w' hown' hm' _)
      have hmod := hown.modNon hmr hm'
      clear hm' hown
      go_wp2
      go_roundw
      case rel =>
        refine ⟨k / 128, acc ++ [UInt8.ofNat (128 + k % 128)], by go_num, by omega, ?_, ?_, hmod⟩
        · rw [← HA.out, vbytes_large hlt]; simp
        · have e : y.toNat = 128 + k % 128 := by rw [HYV.out]; omega
          rw [e] at hown'
          exact hown'
      case measure => simp [intOf]; omega

theorem varint_Put (A : Option Addr) (m c : Nat) (R : Nat → Prop) (l : List UInt8) (n : Int) (hn : n ≤ 9223372036854775807) (w : World) (hr : Reads w R 1 A m (vbs l)) (hl : l.length ≤ 140737488355000) :
    Calls Tryz.prog 74 #[.slice A m c, .int .i64 n] w fun e w' => ∃ v, e = .returned v ∧ OwnB w' w.heap.size v (l ++ vbytes n.toNat) ∧ Mod Non w w' := by
  by_cases h0 : 0 ≤ n
  · obtain ⟨k, rfl⟩ := Int.eq_ofNat_of_zero_le h0
    exact varint_Put_nat A m c R l k (by omega) w hr hl
  · have hneg : n < 0 := by omega
    have e0 : n.toNat = 0 := by omega
    rw [e0, vbytes_small (by omega)]
    clear e0
    go_enter Tryz.func74, Tryz.ntmps74
    go_wp2_with (go_at_call 76; refine (slices_Clone A m c R l _ hr (by omega)).mono ?_; rintro e w1 ⟨v1, rfl, hown1, hm1⟩)
    refine wp_loop_rounds 1 ?_
    rw [rounds_succ]
    go_wp2_with (at_builtin; refine wpList_append_byte rfl (.tmp 20) (.tmp 23) rfl w.heap.size _ l rfl hown1 0 (by omega) (by omega) rfl (by omega) hm1.size ?_; intro v' w' hown' hm' _)
    go_ret
    exact ⟨_, rfl, hown', hown1.modNon hm1 hm'⟩

end Go.Proofs.YtdclfdinhdaadaaGreatDoor
