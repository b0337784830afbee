/- Package varint and its reference: the contracts of Bytes, Same, Clone, Put. -/
import Derived.Test.YtlkifobajdafpaaDoorBytes
namespace Go.Proofs.YtlkifobajdafpaaDoor
open Go.RowKit

set_option maxHeartbeats 1000000 in
theorem ref_Bytes_nat (n : Nat) (hn : n < 9223372036854775808) (w : World) :
    Calls Tryd.prog 22 #[.int .i64 n] w fun e w' => ∃ v, e = .returned v ∧ OwnB w' w.heap.size v (vbytes n) ∧ Mod Non w w' := by
  have h9 := vbytes_nine hn
  go_enter Tryd.func22, Tryd.ntmps22
  go_wp2
  go_loopw [0, 3] (fun m v wr => ∃ (k : Nat) (acc : List UInt8), m = .int .i64 k ∧ k ≤ n ∧ acc ++ vbytes k = vbytes n ∧ OwnB wr w.heap.size v acc ∧ Mod Non w wr) (fun m _ _ => (intOf m).toNat)
  case atStart => exact ⟨n, [], rfl, Nat.le_refl _, rfl, OwnB.nil _ _, Mod.refl _ _⟩
  case round =>
    obtain ⟨k, acc, rfl, hk, hacc, hown, hmr⟩ := hrel
    have HA := Lib.hid hacc
    clear hacc
    have hlen : acc.length + (vbytes k).length ≤ 9 := by rw [← List.length_append, HA.out]; exact h9
    have hpos := vbytes_pos k
    have hsz := hmr.size
    by_cases hlt : k < 128
    · go_wp2_with (at_builtin; refine wpList_append_byte rfl (.tmp 17) (.tmp 20) rfl w.heap.size _ acc rfl hown k (by omega) (by omega) rfl (by omega) hsz ?_; intro v' w' hown' hm' _)
      have hmod := hown.modNon hmr hm'
      go_ret
      refine ⟨_, rfl, ?_, hmod⟩
      rw [← HA.out, vbytes_small hlt]
      simpa using hown'
    · go_wp2_with (at_builtin; refine wpList_append_byte rfl (.tmp 8) (.tmp 13) rfl w.heap.size _ acc rfl hown (128 + (k : Int) % 128) (by omega) (by omega) rfl (by omega) hsz ?_; intro v' w' hown' hm' _)
      have hmod := hown.modNon hmr hm'
      clear hm' hown
      go_wp2
      go_roundw
      case rel =>
        refine ⟨k / 128, acc ++ [UInt8.ofNat (128 + k % 128)], by go_num, by omega, ?_, ?_, hmod⟩
        · rw [← HA.out, vbytes_large hlt]; simp
        · have e : (128 + (k : Int) % 128).toNat = 128 + k % 128 := by omega
          rw [e] at hown'
          exact hown'
      case measure => simp [intOf]; omega

theorem ref_Bytes (n : Int) (hn : n ≤ 9223372036854775807) (w : World) :
    Calls Tryd.prog 22 #[.int .i64 n] w fun e w' => ∃ v, e = .returned v ∧ OwnB w' w.heap.size v (vbytes n.toNat) ∧ Mod Non w w' := by
  by_cases h0 : 0 ≤ n
  · obtain ⟨k, rfl⟩ := Int.eq_ofNat_of_zero_le h0
    exact ref_Bytes_nat k (by omega) w
  · have hneg : n < 0 := by omega
    have e0 : n.toNat = 0 := by omega
    rw [e0, vbytes_small (by omega)]
    clear e0
    go_enter Tryd.func22, Tryd.ntmps22
    go_wp2
    refine wp_loop_rounds 1 ?_
    rw [rounds_succ]
    go_wp2_with (at_builtin; refine wpList_append_byte rfl (.tmp 17) (.tmp 20) rfl w.heap.size _ [] rfl (OwnB.nil _ _) 0 (by omega) (by omega) rfl (by simp) (Nat.le_refl _) ?_; intro v' w' hown' hm' _)
    go_ret
    exact ⟨_, rfl, hown', (OwnB.nil w w.heap.size).modNon (Mod.refl _ _) hm'⟩

theorem slices_Clone (A : Option Addr) (n c : Nat) (R : Nat → Prop) (l : List UInt8) (w : World) (hr : Reads w R 1 A n (vbs l)) (hl : l.length ≤ 140737488355328) :
    Calls Tryd.prog 26 #[.slice A n c] w fun e w' => ∃ v, e = .returned v ∧ OwnB w' w.heap.size v l ∧ Mod Non w w' := by
  have qT : ∀ (w : World) (a : Option Addr) (n c n' c' : Nat), (binOp .eql 22 (.slice a n c) (.slice none n' c')).run Tryd.prog w = .ok (.bool a.isNone) w := fun w a n c n' c' => Lib.run_eql_slice_nil w _ _ a n c n' c' Tryd.underlying22
  cases A with
  | none =>
    have hn : l = [] := by
      have h1 := hr.1
      rcases Nat.eq_zero_or_pos n with h0 | h0
      · subst h0
        rw [vbs_length] at h1
        exact List.eq_nil_of_length_eq_zero (by omega)
      · obtain ⟨ad, h, _⟩ := hr.2 h0
        cases h
    subst hn
    go_enter Tryd.func26, Tryd.ntmps26
    go_wp2
    go_ret
    exact ⟨_, rfl, OwnB.nil _ _, Mod.refl _ _⟩
  | some ad =>
    go_enter Tryd.func26, Tryd.ntmps26
    go_wp2_with (at_builtin; refine wpList_append_bytes rfl (.tmp 5) (.tmp 6) rfl w.heap.size _ [] rfl (OwnB.made _) R (some ad) n c l rfl (hr.alloc _) (by simpa using hl) (by simp) ?_; intro v' w' hown' hm' _)
    go_ret
    exact ⟨_, rfl, by simpa using hown', (OwnB.made w).modNon ((Mod.refl _ _).alloc _) hm'⟩

set_option maxHeartbeats 1000000 in
theorem varint_Put_nat (A : Option Addr) (m c : Nat) (R : Nat → Prop) (l : List UInt8) (n : Nat) (hn : n < 9223372036854775808) (w : World) (hr : Reads w R 1 A m (vbs l)) (hl : l.length ≤ 140737488355000) :
    Calls Tryd.prog 19 #[.slice A m c, .int .i64 n] w fun e w' => ∃ v, e = .returned v ∧ OwnB w' w.heap.size v (l ++ vbytes n) ∧ Mod Non w w' := by
  have h9 := vbytes_nine hn
  go_enter Tryd.func19, Tryd.ntmps19
  go_wp2_with (go_at_call 26; refine (slices_Clone A m c R l _ hr (by omega)).mono ?_; rintro e w1 ⟨v1, rfl, hown1, hm1⟩)
  go_loopw [1, 5] (fun m v wr => ∃ (k : Nat) (acc : List UInt8), m = .int .i64 k ∧ k ≤ n ∧ acc ++ vbytes k = l ++ vbytes n ∧ OwnB wr w.heap.size v acc ∧ Mod Non w wr) (fun m _ _ => (intOf m).toNat)
  case atStart => exact ⟨n, l, by go_num, Nat.le_refl _, rfl, hown1, hm1⟩
  case round =>
    obtain ⟨k, acc, rfl, hk, hacc, hown, hmr⟩ := hrel
    have HA := Lib.hid hacc
    clear hacc
    have hlen : acc.length + (vbytes k).length ≤ l.length + 9 := by rw [← List.length_append, HA.out, List.length_append]; omega
    have hpos := vbytes_pos k
    have hsz := hmr.size
    by_cases hlt : k < 128
    · have hlt' : ¬ (128 : Int) ≤ k := by omega
      go_wp2_with (at_builtin; refine wpList_append_byte rfl (.tmp 20) (.tmp 23) rfl w.heap.size _ acc rfl hown k (by omega) (by omega) rfl (by omega) hsz ?_; intro v' w' hown' hm' _)
      have hmod := hown.modNon hmr hm'
      go_ret
      refine ⟨_, rfl, ?_, hmod⟩
      rw [← HA.out, vbytes_small hlt]
      simpa using hown'
    · have hlt' : (128 : Int) ≤ k := by omega
      obtain ⟨y, hy⟩ : ∃ y, y = bits BinOp.or IntKind.u8 ((k : Int) % 256) 128 := ⟨_, rfl⟩
      have hyv : y = 128 + (k : Int) % 128 := hy.trans (or_128 k)
      have HY := Lib.hid hy
      have HYV := Lib.hid hyv
      have hy0 : 0 ≤ y := by omega
      have hy1 : y < 256 := by omega
      clear hy hyv
      go_wp2_with (at_builtin; rw [← HY.out]; refine wpList_append_byte rfl (.tmp 14) (.tmp 18) rfl w.heap.size _ acc rfl hown y hy0 hy1 rfl (by omega) hsz ?_; intro v' w' hown' hm' _)
      have hmod := hown.modNon hmr hm'
      clear hm' hown
      go_wp2
      go_roundw
      case rel =>
        refine ⟨k / 128, acc ++ [UInt8.ofNat (128 + k % 128)], by go_num, by omega, ?_, ?_, hmod⟩
        · rw [← HA.out, vbytes_large hlt]; simp
        · have e : y.toNat = 128 + k % 128 := by rw [HYV.out]; omega
          rw [e] at hown'
          exact hown'
      case measure => simp [intOf]; omega

theorem varint_Put (A : Option Addr) (m c : Nat) (R : Nat → Prop) (l : List UInt8) (n : Int) (hn : n ≤ 9223372036854775807) (w : World) (hr : Reads w R 1 A m (vbs l)) (hl : l.length ≤ 140737488355000) :
    Calls Tryd.prog 19 #[.slice A m c, .int .i64 n] w fun e w' => ∃ v, e = .returned v ∧ OwnB w' w.heap.size v (l ++ vbytes n.toNat) ∧ Mod Non w w' := by
  by_cases h0 : 0 ≤ n
  · obtain ⟨k, rfl⟩ := Int.eq_ofNat_of_zero_le h0
    exact varint_Put_nat A m c R l k (by omega) w hr hl
  · have hneg : n < 0 := by omega
    have e0 : n.toNat = 0 := by omega
    rw [e0, vbytes_small (by omega)]
    clear e0
    go_enter Tryd.func19, Tryd.ntmps19
    go_wp2_with (go_at_call 26; refine (slices_Clone A m c R l _ hr (by omega)).mono ?_; rintro e w1 ⟨v1, rfl, hown1, hm1⟩)
    refine wp_loop_rounds 1 ?_
    rw [rounds_succ]
    go_wp2_with (at_builtin; refine wpList_append_byte rfl (.tmp 20) (.tmp 23) rfl w.heap.size _ l rfl hown1 0 (by omega) (by omega) rfl (by omega) hm1.size ?_; intro v' w' hown' hm' _)
    go_ret
    exact ⟨_, rfl, hown', hown1.modNon hm1 hm'⟩

set_option maxHeartbeats 400000 in
theorem ref_Same (A A' : Option Addr) (n n' c c' : Nat) (R R' : Nat → Prop) (l l' : List UInt8) (w : World) (hr : Reads w R 1 A n (vbs l)) (hr' : Reads w R' 1 A' n' (vbs l')) (hmax : n ≤ maxLen) :
    Calls Tryd.prog 10 #[.slice A n c, .slice A' n' c'] w fun e w' => e = .returned (.bool (sameB l l')) ∧ Mod Non w w' := by
  unfold maxLen at hmax
  have hn := hr.1
  have hn' := hr'.1
  rw [vbs_length, Nat.mul_one] at hn hn'
  by_cases hne : n = n'
  · subst hne
    have HN := Lib.hid hn
    have HN' := Lib.hid hn'
    clear hn hn'
    have e1 : ((n : Int) != n) = false := by simp
    go_enter Tryd.func10, Tryd.ntmps10
    go_wp2
    go_loopw [5] (fun i wr => ∃ k : Nat, k ≤ n ∧ i = .int .i64 k ∧ l.take k = l'.take k ∧ Mod Non w wr) (fun i _ => n - (intOf i).toNat)
    case atStart => exact ⟨0, by omega, rfl, by simp, Mod.refl _ _⟩
    case round =>
      obtain ⟨k, hk, rfl, htk, hmr⟩ := hrel
      have HT := Lib.hid htk
      clear htk
      by_cases hlt : k < n
      · have h1 := hr.mod hmr (fun _ _ _ h => h)
        have h2 := hr'.mod hmr (fun _ _ _ h => h)
        obtain ⟨b, off, hA, _, _, hc1⟩ := h1.row (by omega) (by rw [vbs_length, HN.out]; omega)
        obtain ⟨b', off', hA', _, _, hc2⟩ := h2.row (by omega) (by rw [vbs_length, HN'.out]; omega)
        have hl1 : k < l.length := by rw [HN.out]; exact hlt
        have hl2 : k < l'.length := by rw [HN'.out]; exact hlt
        obtain ⟨x, hx⟩ : ∃ x, x = l[k] := ⟨_, rfl⟩
        obtain ⟨y, hy⟩ : ∃ y, y = l'[k] := ⟨_, rfl⟩
        have c1 := hc1 k _ (vbs_get hl1)
        have c2 := hc2 k _ (vbs_get hl2)
        rw [← hx] at c1
        rw [← hy] at c2
        have HX := Lib.hid hx
        have HY := Lib.hid hy
        clear hx hy hc1 hc2 h1 h2
        subst hA hA'
        have hlk : (k : Int) < n := by omega
        by_cases hxy : x = y
        · have e2 : ((x.toNat : Int) != y.toNat) = false := by simp [hxy]
          have HXY := Lib.hid hxy
          clear hxy
          go_wp2
          go_quiet (fail)
          go_wp2
          go_roundw
          case rel =>
            refine ⟨k + 1, by omega, by go_num, ?_, hmr.drewN _⟩
            rw [List.take_succ_eq_append_getElem hl1, List.take_succ_eq_append_getElem hl2, HT.out, ← HX.out, ← HY.out, HXY.out]
          case measure => simp [intOf]; omega
        · have e2 : ((x.toNat : Int) != y.toNat) = true := by
            simp only [bne_iff_ne, ne_eq, Int.natCast_inj]
            exact fun h => hxy (UInt8.toNat_inj.1 h)
          have HF : Hid (sameB l l' = false) := by
            show sameB l l' = false
            rw [Bool.eq_false_iff]
            intro h
            have := sameB_iff.1 h
            subst this
            exact hxy (HX.out.trans HY.out.symm)
          clear hxy
          go_wp2
          go_quiet (fail)
          go_wp2
          go_ret
          exact ⟨by rw [HF.out]; rfl, hmr.drewN _⟩
      · have HF : Hid (sameB l l' = true) := by
          show sameB l l' = true
          refine sameB_yes ?_
          have := HT.out
          rwa [List.take_of_length_le (by rw [HN.out]; omega), List.take_of_length_le (by rw [HN'.out]; omega)] at this
        go_wp2
        go_ret
        exact ⟨by rw [HF.out]; rfl, hmr⟩
  · have e1 : ((n : Int) != n') = true := by simp; omega
    have HF : Hid (sameB l l' = false) := by
      show sameB l l' = false
      rw [Bool.eq_false_iff]
      intro h
      have := sameB_iff.1 h
      subst this
      omega
    clear hn hn' hne
    go_enter Tryd.func10, Tryd.ntmps10
    go_wp2
    go_ret
    exact ⟨by rw [HF.out]; rfl, Mod.refl _ _⟩
end Go.Proofs.YtlkifobajdafpaaDoor
