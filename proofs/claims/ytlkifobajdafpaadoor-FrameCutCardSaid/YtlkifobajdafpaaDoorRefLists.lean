/- The contract of the reference's Lists. -/
import Derived.Test.YtlkifobajdafpaaDoorRefScan
namespace Go.Proofs.YtlkifobajdafpaaDoor
open Go.RowKit

/-- The world w', but for answers that were drawn, is w. -/
def Drawn (w w' : World) : Prop := ∃ m, w' = w.drewN m
theorem Drawn.drewN {w w' : World} (h : Drawn w w') (n : Nat) : Drawn w (w'.drewN n) := by
  obtain ⟨m, rfl⟩ := h
  exact ⟨m + n, World.drewN_drewN _ _ _⟩
theorem Drawn.reads {w w' : World} {R : Nat → Prop} {size n : Nat} {A : Option Addr} {xs : List Value} (h : Drawn w w') (hr : Reads w R size A n xs) : Reads w' R size A n xs := by
  obtain ⟨m, rfl⟩ := h
  exact hr.drewN m

set_option maxHeartbeats 400000 in
theorem ref_SameQ (A A' : Option Addr) (n n' c c' : Nat) (R R' : Nat → Prop) (l l' : List UInt8) (w : World) (hr : Reads w R 1 A n (vbs l)) (hr' : Reads w R' 1 A' n' (vbs l')) (hmax : n ≤ maxLen) :
    Calls Tryd.prog 10 #[.slice A n c, .slice A' n' c'] w fun e w' => e = .returned (.bool (sameB l l')) ∧ ∃ m, w' = w.drewN m := by
  unfold maxLen at hmax
  have hn := hr.1
  have hn' := hr'.1
  rw [vbs_length, Nat.mul_one] at hn hn'
  by_cases hne : n = n'
  · subst hne
    have HN := Lib.hid hn
    have HN' := Lib.hid hn'
    clear hn hn'
    have e1 : ((n : Int) != n) = false := by simp
    go_enter Tryd.func10, Tryd.ntmps10
    go_wp2
    go_loopw [5] (fun i wr => ∃ k : Nat, k ≤ n ∧ i = .int .i64 k ∧ l.take k = l'.take k ∧ Drawn w wr) (fun i _ => n - (intOf i).toNat)
    case atStart => exact ⟨0, by omega, rfl, by simp, 0, rfl⟩
    case round =>
      obtain ⟨k, hk, rfl, htk, hmr⟩ := hrel
      have HT := Lib.hid htk
      clear htk
      by_cases hlt : k < n
      · have h1 := hmr.reads hr
        have h2 := hmr.reads hr'
        obtain ⟨b, off, hA, _, _, hc1⟩ := h1.row (by omega) (by rw [vbs_length, HN.out]; omega)
        obtain ⟨b', off', hA', _, _, hc2⟩ := h2.row (by omega) (by rw [vbs_length, HN'.out]; omega)
        have hl1 : k < l.length := by rw [HN.out]; exact hlt
        have hl2 : k < l'.length := by rw [HN'.out]; exact hlt
        obtain ⟨x, hx⟩ : ∃ x, x = l[k] := ⟨_, rfl⟩
        obtain ⟨y, hy⟩ : ∃ y, y = l'[k] := ⟨_, rfl⟩
        have c1 := hc1 k _ (vbs_get hl1)
        have c2 := hc2 k _ (vbs_get hl2)
        rw [← hx] at c1
        rw [← hy] at c2
        have HX := Lib.hid hx
        have HY := Lib.hid hy
        clear hx hy hc1 hc2 h1 h2
        subst hA hA'
        have hlk : (k : Int) < n := by omega
        by_cases hxy : x = y
        · have e2 : ((x.toNat : Int) != y.toNat) = false := by simp [hxy]
          have HXY := Lib.hid hxy
          clear hxy
          go_wp2
          go_quiet (fail)
          go_wp2
          go_roundw
          case rel =>
            refine ⟨k + 1, by omega, by go_num, ?_, hmr.drewN _⟩
            rw [List.take_succ_eq_append_getElem hl1, List.take_succ_eq_append_getElem hl2, HT.out, ← HX.out, ← HY.out, HXY.out]
          case measure => simp [intOf]; omega
        · have e2 : ((x.toNat : Int) != y.toNat) = true := by
            simp only [bne_iff_ne, ne_eq, Int.natCast_inj]
            exact fun h => hxy (UInt8.toNat_inj.1 h)
          have HF : Hid (sameB l l' = false) := by
            show sameB l l' = false
            rw [Bool.eq_false_iff]
            intro h
            have := sameB_iff.1 h
            subst this
            exact hxy (HX.out.trans HY.out.symm)
          clear hxy
          go_wp2
          go_quiet (fail)
          go_wp2
          go_ret
          exact ⟨by rw [HF.out]; rfl, hmr.drewN _⟩
      · have HF : Hid (sameB l l' = true) := by
          show sameB l l' = true
          refine sameB_yes ?_
          have := HT.out
          rwa [List.take_of_length_le (by rw [HN.out]; omega), List.take_of_length_le (by rw [HN'.out]; omega)] at this
        go_wp2
        go_ret
        exact ⟨by rw [HF.out]; rfl, hmr⟩
  · have e1 : ((n : Int) != n') = true := by simp; omega
    have HF : Hid (sameB l l' = false) := by
      show sameB l l' = false
      rw [Bool.eq_false_iff]
      intro h
      have := sameB_iff.1 h
      subst this
      omega
    clear hn hn' hne
    go_enter Tryd.func10, Tryd.ntmps10
    go_wp2
    go_ret
    exact ⟨by rw [HF.out]; rfl, 0, rfl⟩

set_option maxHeartbeats 1000000 in
theorem ref_Lists (A A' : Option Addr) (n n' c c' : Nat) (R R' T T' : Nat → Prop) (vs vs' : List Value) (ls ls' : List (List UInt8)) (w : World) (hr : Reads w R 1 A n vs) (hr' : Reads w R' 1 A' n' vs') (hb : RowsB w T vs ls) (hb' : RowsB w T' vs' ls')
    (hmax : n ≤ 1000000) (hlen : ∀ x ∈ ls, x.length ≤ 1000000) :
    Calls Tryd.prog 16 #[.slice A n c, .slice A' n' c'] w fun e w' => e = .returned (.bool (sameL ls ls')) ∧ Mod Non w w' := by
  have hn := hr.1
  have hn' := hr'.1
  rw [Nat.mul_one] at hn hn'
  have hm : vs.length = ls.length := hb.1
  have hm' : vs'.length = ls'.length := hb'.1
  by_cases hne : n = n'
  · subst hne
    have HN := Lib.hid hn
    have HN' := Lib.hid hn'
    have HM := Lib.hid hm
    have HM' := Lib.hid hm'
    have HLN := Lib.hid hlen
    clear hn hn' hm hm' hlen
    have e1 : ((n : Int) != n) = false := by simp
    go_enter Tryd.func16, Tryd.ntmps16
    go_wp2
    go_loopw [5] (fun i wr => ∃ k : Nat, k ≤ n ∧ i = .int .i64 k ∧ ls.take k = ls'.take k ∧ Mod Non w wr) (fun i _ => n - (intOf i).toNat)
    case atStart => exact ⟨0, by omega, rfl, by simp, Mod.refl _ _⟩
    case round =>
      obtain ⟨k, hk, rfl, htk, hmr⟩ := hrel
      have HT := Lib.hid htk
      clear htk
      by_cases hlt : k < n
      · have h1 := hr.mod hmr (fun _ _ _ h => h)
        have h2 := hr'.mod hmr (fun _ _ _ h => h)
        obtain ⟨b, off, hA, _, _, hc1⟩ := h1.row (by omega) (by rw [HN.out]; omega)
        obtain ⟨b', off', hA', _, _, hc2⟩ := h2.row (by omega) (by rw [HN'.out]; omega)
        have hl1 : k < ls.length := by rw [← HM.out, HN.out]; exact hlt
        have hl2 : k < ls'.length := by rw [← HM'.out, HN'.out]; exact hlt
        have hv1 : k < vs.length := by rw [HN.out]; exact hlt
        have hv2 : k < vs'.length := by rw [HN'.out]; exact hlt
        obtain ⟨x, hx⟩ : ∃ x, x = ls[k] := ⟨_, rfl⟩
        obtain ⟨y, hy⟩ : ∃ y, y = ls'[k] := ⟨_, rfl⟩
        obtain ⟨X, nx, cx, ex, _, rx⟩ := (hb.mod hmr fun _ _ _ h => h).2 k _ _ (List.getElem?_eq_getElem hv1) (List.getElem?_eq_getElem hl1)
        obtain ⟨Y, ny, cy, ey, _, ry⟩ := (hb'.mod hmr fun _ _ _ h => h).2 k _ _ (List.getElem?_eq_getElem hv2) (List.getElem?_eq_getElem hl2)
        have c1 := hc1 k _ (List.getElem?_eq_getElem hv1)
        have c2 := hc2 k _ (List.getElem?_eq_getElem hv2)
        rw [ex] at c1
        rw [ey] at c2
        rw [← hx] at rx
        rw [← hy] at ry
        have hnx : nx ≤ maxLen := by
          have h3 := rx.1
          have h4 := HLN.out x (hx ▸ List.getElem_mem hl1)
          rw [vbs_length] at h3; unfold maxLen; omega
        have HX := Lib.hid hx
        have HY := Lib.hid hy
        clear hx hy hc1 hc2 h1 h2 ex ey
        subst hA hA'
        have hlk : (k : Int) < n := by omega
        have hrr : Hid (∀ j, Calls Tryd.prog 10 #[.slice X nx cx, .slice Y ny cy] (wr.drewN j) fun e w' => e = .returned (.bool (sameB x y)) ∧ ∃ m, w' = (wr.drewN j).drewN m) := fun j => ref_SameQ X Y nx ny cx cy T T' x y (wr.drewN j) (rx.drewN j) (ry.drewN j) hnx
        obtain ⟨q, hq⟩ : ∃ q, q = sameB x y := ⟨_, rfl⟩
        rw [← hq] at hrr
        have HQ := Lib.hid hq
        clear hq hnx rx ry
        cases q
        · go_wp2
          go_quiet ((go_at_call 10; exact Calls.quiet_of (hrr.out _)))
          go_wp2
          go_ret
          have hf : sameL ls ls' = false := by
            refine sameL_no fun h => ?_
            subst h
            have := HQ.out
            rw [HX.out, HY.out, sameB_yes rfl] at this
            cases this
          exact ⟨by rw [hf]; rfl, hmr.drewN _⟩
        · go_wp2
          go_quiet ((go_at_call 10; exact Calls.quiet_of (hrr.out _)))
          go_wp2
          go_roundw
          case rel =>
            refine ⟨k + 1, by omega, by go_num, ?_, hmr.drewN _⟩
            rw [List.take_succ_eq_append_getElem hl1, List.take_succ_eq_append_getElem hl2, HT.out, ← HX.out, ← HY.out, sameB_iff.1 HQ.out.symm]
          case measure => simp [intOf]; omega
      · have HF : Hid (sameL ls ls' = true) := by
          show sameL ls ls' = true
          refine sameL_yes ?_
          have := HT.out
          rwa [List.take_of_length_le (by rw [← HM.out, HN.out]; omega), List.take_of_length_le (by rw [← HM'.out, HN'.out]; omega)] at this
        go_wp2
        go_ret
        exact ⟨by rw [HF.out]; rfl, hmr⟩
  · have e1 : ((n : Int) != n') = true := by simp; omega
    have HF : Hid (sameL ls ls' = false) := by
      show sameL ls ls' = false
      refine sameL_no fun h => ?_
      subst h
      omega
    clear hn hn' hne hm hm' hlen
    go_enter Tryd.func16, Tryd.ntmps16
    go_wp2
    go_ret
    exact ⟨by rw [HF.out]; rfl, Mod.refl _ _⟩
end Go.Proofs.YtlkifobajdafpaaDoor
