/- The walk of FrameNexts. -/
import Derived.Test.YtlkifobajdafpaaDoorScan
import Derived.Test.YtlkifobajdafpaaDoorFrameAdds
namespace Go.Proofs.YtlkifobajdafpaaDoor
open Go.RowKit

theorem nexts_edge (A : Option Addr) (n c : Nat) (a : Int) (w : World) (hT : Tab w) (h : 1000 < n) :
    Calls Tryd.prog 5 #[.slice A n c, .int .i64 a] w fun e w' => e = .returned (.bool true) ∧ Mod Non w w' := by
  have h1 : (1000 : Int) < n := by omega
  clear h
  go_enter Tryd.func5, Tryd.ntmps5
  go_wp2_with fail
  refine (law03_awake _ hT).mono ?_
  rintro e w1 ⟨rfl, hm⟩
  go_wp2
  go_ret
  exact ⟨rfl, hm⟩

theorem scan_small (l : List UInt8) : ∀ x ∈ (scanK l 0).1, x.length ≤ 1000000 := by
  have h : ∀ n a, l.length - a ≤ n → ∀ x ∈ (scanK l a).1, x.length ≤ 1000000 := by
    intro n
    induction n with
    | zero =>
      intro a ha x hx
      rcases hn : nextK l a with e | ⟨body, k⟩
      · rw [scanK_err hn] at hx; cases hx
      · have := nextK_ok hn; omega
    | succ n ih =>
      intro a ha x hx
      rcases hn : nextK l a with e | ⟨body, k⟩
      · rw [scanK_err hn] at hx; cases hx
      · have h1 := nextK_ok hn
        rw [scanK_ok hn] at hx
        rcases List.mem_cons.1 hx with rfl | hx
        · omega
        · exact ih k (by omega) x hx
  exact h _ 0 (Nat.le_refl _)

theorem scan_len (l : List UInt8) : (scanK l 0).1.length ≤ l.length := by
  have h : ∀ n a, l.length - a ≤ n → (scanK l a).1.length ≤ n := by
    intro n
    induction n with
    | zero =>
      intro a ha
      rcases hn : nextK l a with e | ⟨body, k⟩
      · rw [scanK_err hn]; simp
      · have := nextK_ok hn; omega
    | succ n ih =>
      intro a ha
      rcases hn : nextK l a with e | ⟨body, k⟩
      · rw [scanK_err hn]; simp
      · have h1 := nextK_ok hn
        rw [scanK_ok hn]
        have := ih k (by omega)
        simp only [List.length_cons]; omega
  exact h _ 0 (by omega)

theorem OwnS.len {w : World} {B B' : Nat} {A : Option Addr} {n c : Nat} {vs : List Value} {l : List UInt8} (h : OwnS w B (.slice A n c) vs) (hr : RowsO w B' vs (scanK l 0).1) (hl : l.length ≤ 1000000) : n ≤ 1000000 := by
  have h1 := h.reads.1
  have h2 := hr.1
  have h3 := scan_len l
  omega

set_option maxRecDepth 100000 in
set_option maxHeartbeats 1000000 in
theorem nexts_in (A : Option Addr) (n c : Nat) (a : Int) (R : Nat → Prop) (l : List UInt8) (w : World) (hr : Reads w R 1 A n (vbs l)) (hc : n ≤ c) (hcap : (c : Int) ≤ 9223372036854775807) (hT : Tab w) (hn : n ≤ 1000) :
    Calls Tryd.prog 5 #[.slice A n c, .int .i64 a] w fun e w' => e = .returned (.bool true) ∧ Mod Non w w' := by
  have h1 : ¬ (1000 : Int) < n := by omega
  have hn1 : n ≤ 4611686018427387904 := by omega
  have hn2 : n ≤ 1000000 := by omega
  have hll : Hid (l.length = n) := by have := hr.1; rw [vbs_length, Nat.mul_one] at this; exact this
  obtain ⟨k0, HK⟩ : ∃ k0, Hid ((scanK l 0).2 = k0) := ⟨_, rfl⟩
  rcases hx : nextK l a with er | ⟨body, k⟩
  · have HX := Lib.hid hx
    clear hx hn
    go_enter Tryd.func5, Tryd.ntmps5
    go_wp2_with fail
    refine (frame_Next_err' A n c a R l w hr hc hcap hn1 hT er HX.out).mono ?_
    rintro e w1 ⟨rfl, hm1⟩
    go_wp2_with fail
    refine (ref_Next_err' A n c a R l w1 (hr.mod hm1 fun _ _ _ h => h) hc hcap hn1 er HX.out).mono ?_
    rintro e w2 ⟨rfl, hm2⟩
    have hN2 := hm1.trans' hm2
    go_wp2_with fail
    refine (frame_Scan A n c R l w2 (hr.mod hN2 fun _ _ _ h => h) hc hcap hn2 (hT.non hN2)).mono ?_
    rintro e w3 ⟨A3, n3, c3, vs3, rfl, hown3, hrow3, hm3⟩
    have hN3 := hN2.trans' hm3
    rw [HK.out]
    go_wp2_with fail
    refine (ref_Scan A n c R l w3 (hr.mod hN3 fun _ _ _ h => h) hc hcap hn2).mono ?_
    rintro e w4 ⟨A4, n4, c4, vs4, rfl, hown4, hrow4, hm4⟩
    have hN4 := hN3.trans' hm4
    rw [HK.out]
    go_wp2_with fail
    refine (ref_Same none none 0 0 0 0 (fun _ => True) (fun _ => True) [] [] w4 Reads.none_ Reads.none_ (by simp)).mono ?_
    rintro e w5 ⟨rfl, hm5⟩
    rw [sameB_yes rfl]
    have hN5 := hN4.trans' hm5
    have hm35 := hm4.trans' hm5
    go_wp2_with fail
    refine (ref_Lists A3 A4 n3 n4 c3 c4 _ _ _ _ vs3 vs4 _ _ w5 (hown3.non hm35).reads (hown4.non hm5).reads (hrow3.non hm35).rows (hrow4.mod hm5 fun _ _ _ h => h) (hown3.len hrow3 (by rw [hll.out]; exact hn2)) (scan_small l)).mono ?_
    rintro e w6 ⟨rfl, hm6⟩
    rw [sameL_yes rfl]
    have hN6 := hN5.trans' hm6
    go_wp2_with fail
    refine (law03_awake _ (hT.non hN6)).mono ?_
    rintro e w7 ⟨rfl, hm7⟩
    go_wp2
    go_ret
    exact ⟨rfl, hN6.trans' hm7⟩
  · have HX := Lib.hid hx
    clear hx hn
    go_enter Tryd.func5, Tryd.ntmps5
    go_wp2_with fail
    refine (frame_Next_ok' A n c a R l w hr hc hcap hn1 hT body k HX.out).mono ?_
    rintro e w1 ⟨v1, rfl, hown1, hm1⟩
    obtain ⟨A1, n1, c1, rfl, hl1, _⟩ := hown1.form
    go_wp2_with fail
    refine (ref_Next_ok' A n c a R l w1 (hr.mod hm1 fun _ _ _ h => h) hc hcap hn1 body k HX.out).mono ?_
    rintro e w2 ⟨A2, n2, c2, rfl, _, hr2, hm2⟩
    have hN2 := hm1.trans' hm2
    go_wp2_with fail
    refine (frame_Scan A n c R l w2 (hr.mod hN2 fun _ _ _ h => h) hc hcap hn2 (hT.non hN2)).mono ?_
    rintro e w3 ⟨A3, n3, c3, vs3, rfl, hown3, hrow3, hm3⟩
    have hN3 := hN2.trans' hm3
    rw [HK.out]
    go_wp2_with fail
    refine (ref_Scan A n c R l w3 (hr.mod hN3 fun _ _ _ h => h) hc hcap hn2).mono ?_
    rintro e w4 ⟨A4, n4, c4, vs4, rfl, hown4, hrow4, hm4⟩
    have hN4 := hN3.trans' hm4
    have hm24 := hm3.trans' hm4
    have hm14 := hm2.trans' hm24
    rw [HK.out]
    go_wp2_with fail
    refine (ref_Same A1 A2 n1 n2 c1 c2 _ _ body body w4 (hown1.non hm14).reads (hr2.mod hm24 fun _ _ _ h => h) (by rw [hl1.out]; have := (nextK_ok HX.out).2.2.2.2; unfold maxLen; omega)).mono ?_
    rintro e w5 ⟨rfl, hm5⟩
    rw [sameB_yes rfl]
    have hN5 := hN4.trans' hm5
    have hm35 := hm4.trans' hm5
    go_wp2_with fail
    refine (ref_Lists A3 A4 n3 n4 c3 c4 _ _ _ _ vs3 vs4 _ _ w5 (hown3.non hm35).reads (hown4.non hm5).reads (hrow3.non hm35).rows (hrow4.mod hm5 fun _ _ _ h => h) (hown3.len hrow3 (by rw [hll.out]; exact hn2)) (scan_small l)).mono ?_
    rintro e w6 ⟨rfl, hm6⟩
    rw [sameL_yes rfl]
    have hN6 := hN5.trans' hm6
    go_wp2_with fail
    refine (law03_awake _ (hT.non hN6)).mono ?_
    rintro e w7 ⟨rfl, hm7⟩
    go_wp2
    go_ret
    exact ⟨rfl, hN6.trans' hm7⟩

theorem nexts_done (A : Option Addr) (n c : Nat) (l : List UInt8) (a : Int) (W : World) (_ : l.length = n) (hnc : n ≤ c) (hc : c ≤ maxLen) (hr : Reads W (fun _ => True) 1 A n (vbs l)) (_ : (Lit.int .i64 a).wf = true) (hT : Tab W) :
    Calls Tryd.prog 5 #[.slice A n c, .int .i64 a] W fun e W' => e = .returned (.bool true) ∧ Below W.heap.size W W' := by
  suffices h : Calls Tryd.prog 5 #[.slice A n c, .int .i64 a] W fun e W' => e = .returned (.bool true) ∧ Mod Non W W' from h.mono fun e W' ⟨h1, h2⟩ => ⟨h1, h2.below'⟩
  by_cases h : 1000 < n
  · exact nexts_edge A n c a W hT h
  · exact nexts_in A n c a _ l W hr hnc (by unfold maxLen at hc; omega) hT (by omega)
end Go.Proofs.YtlkifobajdafpaaDoor
