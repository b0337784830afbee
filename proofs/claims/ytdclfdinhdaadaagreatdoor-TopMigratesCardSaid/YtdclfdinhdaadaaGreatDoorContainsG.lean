/- slices.ContainsFunc at sessions and pairs, of which none is odd. -/
import Derived.Test.YtdclfdinhdaadaaGreatDoorSessCheckG
namespace Go.Proofs.YtdclfdinhdaadaaGreatDoor
open Go.RowKit

theorem migr_odd (s : Se) (w : World) (h : s.last.rev = 0) : Calls Tryz.prog 71 #[s.v] w fun e w' => e = .returned (.bool false) ∧ Mod Non w w' := by
  obtain ⟨cl, sq, ⟨lc, ls, le, lf, lv, lr⟩⟩ := s
  simp only at h
  subst h
  go_enter Tryz.func71, Tryz.ntmps71
  go_wp2
  go_ret
  exact ⟨rfl, (Mod.refl _ _).alloc _⟩

theorem kvtwo_odd (p : Pa) (w : World) (h1 : 1 ≤ p.rev) (h2 : p.rev ≤ 4294967296) : Calls Tryz.prog 110 #[p.v] w fun e w' => e = .returned (.bool false) ∧ Mod Non w w' := by
  obtain ⟨k, v, r⟩ := p
  simp only at h1 h2
  have g1 : ¬ r < 1 := by omega
  have g2 : ¬ (4294967296 : Int) < r := by omega
  go_enter Tryz.func110, Tryz.ntmps110
  go_wp2
  go_ret
  exact ⟨rfl, (Mod.refl _ _).alloc _⟩

set_option maxHeartbeats 1000000 in
theorem sess_IndexFunc (A : Option Addr) (n c : Nat) (R : Nat → Prop) (ss : List Se) (w : World) (hr : Reads w R 8 A n (ecs ss)) (hn : n ≤ 100000) (h : ∀ s ∈ ss, s.last.rev = 0) :
    Calls Tryz.prog 107 #[.slice A n c, .func (.func 71) #[] #[]] w fun e w' => e = .returned (.int .i64 (-1)) ∧ Mod Non w w' := by
  go_enter Tryz.func107, Tryz.ntmps107
  go_wp2
  go_loopw [8] (fun i wr => ∃ k : Nat, k ≤ n ∧ i = .int .i64 k ∧ Mod Non w wr) (fun i _ => n - (intOf i).toNat)
  case atStart => exact ⟨0, by omega, rfl, Mod.refl _ _⟩
  case round =>
    obtain ⟨k, hk, rfl, hm⟩ := hrel
    by_cases hlt : k < n
    · have hrr := hr.mod hm fun _ _ _ h => h
      obtain ⟨b, off, s, hA, hbk, _, hpk, d0, d1, d2, d3, d4, d5, d6, d7⟩ := hrr.se hlt
      have o1 := h _ (List.mem_of_getElem? hpk)
      obtain ⟨cl, sq, ⟨lc, ls, le, lf, lv, lr⟩⟩ := s
      simp only at o1 d0 d1 d2 d3 d4 d5 d6 d7
      subst o1
      have hkn : (k : Int) < n := by omega
      subst hA
      have HM := Lib.hid hm
      clear hpk hrr hm h
      go_wp2_with fail
      refine (migr_odd ⟨cl, sq, ⟨lc, ls, le, lf, lv, 0⟩⟩ _ rfl).mono ?_
      rintro e w1 ⟨rfl, hm1⟩
      have HM1 := Lib.hid (HM.out.trans' hm1)
      clear hm1
      go_wp2
      go_roundw
      case rel => exact ⟨k + 1, by omega, by go_num, HM1.out⟩
      case measure => simp [intOf]; omega
    · have hkn : ¬ (k : Int) < n := by omega
      go_wp2
      go_ret
      exact ⟨rfl, hm⟩

theorem sess_ContainsFunc (A : Option Addr) (n c : Nat) (R : Nat → Prop) (ss : List Se) (w : World) (hr : Reads w R 8 A n (ecs ss)) (hn : n ≤ 100000) (h : ∀ s ∈ ss, s.last.rev = 0) :
    Calls Tryz.prog 70 #[.slice A n c, .func (.func 71) #[] #[]] w fun e w' => e = .returned (.bool false) ∧ Mod Non w w' := by
  go_enter Tryz.func70, Tryz.ntmps70
  go_wp2_with fail
  refine (sess_IndexFunc A n c R ss _ hr hn h).mono ?_
  rintro e w1 ⟨rfl, hm1⟩
  go_wp2
  go_ret
  exact ⟨rfl, hm1⟩

set_option maxHeartbeats 1000000 in
theorem pair_IndexFunc (A : Option Addr) (n c : Nat) (R : Nat → Prop) (ps : List Pa) (w : World) (hr : Reads w R 3 A n (pcs ps)) (hn : n ≤ 100000) (h : ∀ p ∈ ps, 1 ≤ p.rev ∧ p.rev ≤ 4294967296) :
    Calls Tryz.prog 137 #[.slice A n c, .func (.func 110) #[] #[]] w fun e w' => e = .returned (.int .i64 (-1)) ∧ Mod Non w w' := by
  go_enter Tryz.func137, Tryz.ntmps137
  go_wp2
  go_loopw [8] (fun i wr => ∃ k : Nat, k ≤ n ∧ i = .int .i64 k ∧ Mod Non w wr) (fun i _ => n - (intOf i).toNat)
  case atStart => exact ⟨0, by omega, rfl, Mod.refl _ _⟩
  case round =>
    obtain ⟨k, hk, rfl, hm⟩ := hrel
    by_cases hlt : k < n
    · have hrr := hr.mod hm fun _ _ _ h => h
      obtain ⟨b, off, s, hA, hbk, _, hpk, d0, d1, d2⟩ := hrr.pa hlt
      have o1 := Lib.hid (h _ (List.mem_of_getElem? hpk))
      have hkn : (k : Int) < n := by omega
      subst hA
      have HM := Lib.hid hm
      clear hpk hrr hm h
      go_wp2_with fail
      refine (kvtwo_odd s _ o1.out.1 o1.out.2).mono ?_
      rintro e w1 ⟨rfl, hm1⟩
      have HM1 := Lib.hid (HM.out.trans' hm1)
      clear hm1 o1
      go_wp2
      go_roundw
      case rel => exact ⟨k + 1, by omega, by go_num, HM1.out⟩
      case measure => simp [intOf]; omega
    · have hkn : ¬ (k : Int) < n := by omega
      go_wp2
      go_ret
      exact ⟨rfl, hm⟩

theorem pair_ContainsFunc (A : Option Addr) (n c : Nat) (R : Nat → Prop) (ps : List Pa) (w : World) (hr : Reads w R 3 A n (pcs ps)) (hn : n ≤ 100000) (h : ∀ p ∈ ps, 1 ≤ p.rev ∧ p.rev ≤ 4294967296) :
    Calls Tryz.prog 111 #[.slice A n c, .func (.func 110) #[] #[]] w fun e w' => e = .returned (.bool false) ∧ Mod Non w w' := by
  go_enter Tryz.func111, Tryz.ntmps111
  go_wp2_with fail
  refine (pair_IndexFunc A n c R ps _ hr hn h).mono ?_
  rintro e w1 ⟨rfl, hm1⟩
  go_wp2
  go_ret
  exact ⟨rfl, hm1⟩
end Go.Proofs.YtdclfdinhdaadaaGreatDoor
