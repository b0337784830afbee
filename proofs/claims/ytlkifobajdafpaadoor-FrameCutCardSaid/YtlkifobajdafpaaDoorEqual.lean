/- The contract of slices.Equal of bytes. -/
import Derived.Test.YtlkifobajdafpaaDoorFrameAdd
namespace Go.Proofs.YtlkifobajdafpaaDoor
open Go.RowKit

theorem slices_Equal (A A' : Option Addr) (n n' c c' : Nat) (R R' : Nat → Prop) (l l' : List UInt8) (w : World) (hr : Reads w R 1 A n (vbs l)) (hr' : Reads w R' 1 A' n' (vbs l')) (hmax : n ≤ maxLen) :
    Calls Tryd.prog 25 #[.slice A n c, .slice A' n' c'] w fun e w' => e = .returned (.bool (sameB l l')) ∧ Mod Non w w' := by
  unfold maxLen at hmax
  have hn := hr.1
  have hn' := hr'.1
  rw [vbs_length, Nat.mul_one] at hn hn'
  by_cases hne : n = n'
  · subst hne
    have HN := Lib.hid hn
    have HN' := Lib.hid hn'
    clear hn hn'
    have e1 : ((n : Int) != n) = false := by simp
    go_enter Tryd.func25, Tryd.ntmps25
    go_wp2
    go_loopw [13] (fun i wr => ∃ k : Nat, k ≤ n ∧ i = .int .i64 k ∧ l.take k = l'.take k ∧ Mod Non w wr) (fun i _ => n - (intOf i).toNat)
    case atStart => exact ⟨0, by omega, rfl, by simp, Mod.refl _ _⟩
    case round =>
      obtain ⟨k, hk, rfl, htk, hmr⟩ := hrel
      have HT := Lib.hid htk
      clear htk
      by_cases hlt : k < n
      · have h1 := hr.mod hmr (fun _ _ _ h => h)
        have h2 := hr'.mod hmr (fun _ _ _ h => h)
        obtain ⟨b, off, hA, _, _, hc1⟩ := h1.row (by omega) (by rw [vbs_length, HN.out]; omega)
        obtain ⟨b', off', hA', _, _, hc2⟩ := h2.row (by omega) (by rw [vbs_length, HN'.out]; omega)
        have hl1 : k < l.length := by rw [HN.out]; exact hlt
        have hl2 : k < l'.length := by rw [HN'.out]; exact hlt
        obtain ⟨x, hx⟩ : ∃ x, x = l[k] := ⟨_, rfl⟩
        obtain ⟨y, hy⟩ : ∃ y, y = l'[k] := ⟨_, rfl⟩
        have c1 := hc1 k _ (vbs_get hl1)
        have c2 := hc2 k _ (vbs_get hl2)
        rw [← hx] at c1
        rw [← hy] at c2
        have HX := Lib.hid hx
        have HY := Lib.hid hy
        clear hx hy hc1 hc2 h1 h2
        subst hA hA'
        have hlk : (k : Int) < n := by omega
        by_cases hxy : x = y
        · have e2 : ((x.toNat : Int) != y.toNat) = false := by simp [hxy]
          have HXY := Lib.hid hxy
          clear hxy
          go_wp2
          go_quiet (fail)
          go_wp2
          go_roundw
          case rel =>
            refine ⟨k + 1, by omega, by go_num, ?_, hmr.drewN _⟩
            rw [List.take_succ_eq_append_getElem hl1, List.take_succ_eq_append_getElem hl2, HT.out, ← HX.out, ← HY.out, HXY.out]
          case measure => simp [intOf]; omega
        · have e2 : ((x.toNat : Int) != y.toNat) = true := by
            simp only [bne_iff_ne, ne_eq, Int.natCast_inj]
            exact fun h => hxy (UInt8.toNat_inj.1 h)
          have HF : Hid (sameB l l' = false) := by
            show sameB l l' = false
            rw [Bool.eq_false_iff]
            intro h
            have := sameB_iff.1 h
            subst this
            exact hxy (HX.out.trans HY.out.symm)
          clear hxy
          go_wp2
          go_quiet (fail)
          go_wp2
          go_ret
          exact ⟨by rw [HF.out]; rfl, hmr.drewN _⟩
      · have HF : Hid (sameB l l' = true) := by
          show sameB l l' = true
          refine sameB_yes ?_
          have := HT.out
          rwa [List.take_of_length_le (by rw [HN.out]; omega), List.take_of_length_le (by rw [HN'.out]; omega)] at this
        go_wp2
        go_ret
        exact ⟨by rw [HF.out]; rfl, hmr⟩
  · have e1 : ((n : Int) != n') = true := by simp; omega
    have HF : Hid (sameB l l' = false) := by
      show sameB l l' = false
      rw [Bool.eq_false_iff]
      intro h
      have := sameB_iff.1 h
      subst this
      omega
    clear hn hn' hne
    go_enter Tryd.func25, Tryd.ntmps25
    go_wp2
    go_ret
    exact ⟨by rw [HF.out]; rfl, Mod.refl _ _⟩
end Go.Proofs.YtlkifobajdafpaaDoor
