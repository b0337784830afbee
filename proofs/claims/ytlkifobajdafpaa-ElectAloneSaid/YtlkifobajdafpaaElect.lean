/- The clock of package elect: the contracts of New, Tick, Wind, Left. A clock is a block of two numbers: its patience, and how many ticks went by. -/
import Derived.Test.YtlkifobajdafpaaProg
import Derived.Test.YtlkifobajdafpaaBase
namespace Go.Proofs.Ytlkifobajdafpaa
open Go.RowKit

def Clk (w : World) (b : Nat) (p n : Int) : Prop := Blk w b 67 #[.int .i64 p, .int .i64 n]
theorem Clk.c0 {w : World} {b : Nat} {p n : Int} (h : Clk w b p n) : w.cell? ⟨b, 0, none⟩ = some (.int .i64 p) := Blk.cell h 0
theorem Clk.c1 {w : World} {b : Nat} {p n : Int} (h : Clk w b p n) : w.cell? ⟨b, 1, none⟩ = some (.int .i64 n) := Blk.cell h 1
theorem Clk.f1 {w : World} {b : Nat} {p n : Int} (h : Clk w b p n) : w.frozen? ⟨b, 1, none⟩ = false := Blk.frozen h 1
theorem Clk.drewN {w : World} {b : Nat} {p n : Int} (h : Clk w b p n) (k : Nat) : Clk (w.drewN k) b p n := h
theorem Clk.set1 {w : World} {b : Nat} {p n : Int} (h : Clk w b p n) (m : Int) : Clk (w.setCell ⟨b, 1, none⟩ (.int .i64 m)) b p m := Blk.set_ h 1 _

theorem elect_New_in (n : Int) (w : World) (h0 : 1 ≤ n) (h1 : n ≤ 9) :
    Calls Try.prog 11 #[.int .i64 n] w fun e w' => e = .returned (.pointer (some ⟨w.heap.size, 0, none⟩)) ∧ Clk w' w.heap.size (8 + 2 * n) 0 ∧ Mod Non w w' := by
  have h2 : ¬ n < 1 := by omega
  have h3 : ¬ 9 < n := by omega
  go_enter Try.func11, Try.ntmps11
  go_wp2
  go_ret
  exact ⟨rfl, Blk.new _ _ _, (Mod.refl _ _).alloc _⟩
theorem elect_New_out (n : Int) (w : World) (h0 : n < 1 ∨ 9 < n) :
    Calls Try.prog 11 #[.int .i64 n] w fun e w' => e = .returned (.pointer none) ∧ w = w' := by
  rcases h0 with h0 | h0
  · go_enter Try.func11, Try.ntmps11
    go_wp2
    go_ret
    exact ⟨rfl, rfl⟩
  · have h1 : ¬ n < 1 := by omega
    go_enter Try.func11, Try.ntmps11
    go_wp2
    go_ret
    exact ⟨rfl, rfl⟩

theorem elect_change (b : Nat) (p n m : Int) (g : Nat) (w : World) (h : Clk w b p n)
    (hg : ∀ w : World, Calls Try.prog g #[.int .i64 n] w fun e w' => e = .returned (.int .i64 m) ∧ w = w') (hf : g = 37 ∨ g = 38) :
    Calls Try.prog 36 #[.pointer (some ⟨b, 0, none⟩), .func (.func g) #[] #[]] w fun e w' => e = .returned (.tuple #[]) ∧ w.setCell ⟨b, 1, none⟩ (.int .i64 m) = w' := by
  have c1 := h.c1
  have f1 := h.f1
  have HG := Lib.hid hg
  clear hg
  rcases hf with rfl | rfl
  all_goals
    go_enter Try.func36, Try.ntmps36
    go_wp2_with ((first | go_at_call 37 | go_at_call 38); refine (HG.out _).mono ?_; rintro e w' ⟨rfl, rfl⟩)
    go_returns
    exact ⟨rfl, rfl⟩

theorem elect_change_nil (g : Nat) (w : World) :
    Calls Try.prog 36 #[.pointer none, .func (.func g) #[] #[]] w fun e w' => e = .returned (.tuple #[]) ∧ w = w' := by
  go_enter Try.func36, Try.ntmps36
  go_wp2
  go_returns
  exact ⟨rfl, rfl⟩

theorem elect_more (n : Int) (h0 : 0 ≤ n) (h1 : n ≤ 1000) (w : World) :
    Calls Try.prog 37 #[.int .i64 n] w fun e w' => e = .returned (.int .i64 (n + 1)) ∧ w = w' := by
  go_enter Try.func37, Try.ntmps37
  go_wp2
  go_ret
  exact ⟨rfl, rfl⟩
theorem elect_none (n : Int) (w : World) :
    Calls Try.prog 38 #[.int .i64 n] w fun e w' => e = .returned (.int .i64 0) ∧ w = w' := by
  go_enter Try.func38, Try.ntmps38
  go_wp2
  go_ret
  exact ⟨rfl, rfl⟩

theorem elect_Wind (b : Nat) (p n : Int) (w : World) (h : Clk w b p n) :
    Calls Try.prog 14 #[.pointer (some ⟨b, 0, none⟩)] w fun e w' => e = .returned (.tuple #[]) ∧ w.setCell ⟨b, 1, none⟩ (.int .i64 0) = w' := by
  go_enter Try.func14, Try.ntmps14
  go_wp2_with (go_at_call 36; refine (elect_change b p n 0 _ _ h (elect_none n) (.inr rfl)).mono ?_; rintro e w' ⟨rfl, rfl⟩)
  go_returns
  exact ⟨rfl, rfl⟩
theorem elect_Wind_nil (w : World) :
    Calls Try.prog 14 #[.pointer none] w fun e w' => e = .returned (.tuple #[]) ∧ w = w' := by
  go_enter Try.func14, Try.ntmps14
  go_wp2_with (go_at_call 36; refine (elect_change_nil _ _).mono ?_; rintro e w' ⟨rfl, rfl⟩)
  go_returns
  exact ⟨rfl, rfl⟩

/-- A tick that does not ring. -/
theorem elect_Tick_no (b : Nat) (p n : Int) (w : World) (h : Clk w b p n) (h0 : 0 ≤ n) (h1 : n ≤ 1000) (hp : n + 1 < p) :
    Calls Try.prog 12 #[.pointer (some ⟨b, 0, none⟩)] w fun e w' => e = .returned (.bool false) ∧ Clk w' b p (n + 1) ∧ Mod (One b) w w' := by
  have h' := h.set1 (n + 1)
  have c0 := h'.c0
  have c1 := h'.c1
  have hm : Mod (One b) w (w.setCell ⟨b, 1, none⟩ (.int .i64 (n + 1))) := Mod.one _ _ _ _
  obtain ⟨w1, hw1⟩ : ∃ w1, w1 = w.setCell ⟨b, 1, none⟩ (.int .i64 (n + 1)) := ⟨_, rfl⟩
  rw [← hw1] at h' c0 c1 hm
  have HW := Lib.hid hw1
  clear hw1
  go_enter Try.func12, Try.ntmps12
  go_wp2_with (go_at_call 36; refine (elect_change b p n (n + 1) _ _ h (elect_more n h0 h1) (.inl rfl)).mono ?_; rintro e w' ⟨rfl, rfl⟩; rw [← HW.out])
  go_quiet (fail)
  go_wp2
  go_ret
  exact ⟨rfl, h'.drewN _, hm.drewN _⟩

/-- A tick that rings. -/
theorem elect_Tick_yes (b : Nat) (p n : Int) (w : World) (h : Clk w b p n) (h0 : 0 ≤ n) (h1 : n ≤ 1000) (hp : p ≤ n + 1) :
    Calls Try.prog 12 #[.pointer (some ⟨b, 0, none⟩)] w fun e w' => e = .returned (.bool true) ∧ Clk w' b p 0 ∧ Mod (One b) w w' := by
  have h' := h.set1 (n + 1)
  have c0 := h'.c0
  have c1 := h'.c1
  have hm : Mod (One b) w (w.setCell ⟨b, 1, none⟩ (.int .i64 (n + 1))) := Mod.one _ _ _ _
  obtain ⟨w1, hw1⟩ : ∃ w1, w1 = w.setCell ⟨b, 1, none⟩ (.int .i64 (n + 1)) := ⟨_, rfl⟩
  rw [← hw1] at h' c0 c1 hm
  have HW := Lib.hid hw1
  clear hw1
  have hp' : ¬ (n + 1 < p) := by omega
  go_enter Try.func12, Try.ntmps12
  go_wp2_with (go_at_call 36; refine (elect_change b p n (n + 1) _ _ h (elect_more n h0 h1) (.inl rfl)).mono ?_; rintro e w' ⟨rfl, rfl⟩; rw [← HW.out])
  go_quiet (fail)
  go_wp2_with (go_at_call 14; refine (elect_Wind b p (n + 1) _ (h'.drewN _)).mono ?_; rintro e w' ⟨rfl, rfl⟩)
  go_ret
  exact ⟨rfl, (h'.drewN _).set1 0, (hm.drewN _).setOne _⟩

theorem elect_Tick_nil (w : World) :
    Calls Try.prog 12 #[.pointer none] w fun e w' => e = .returned (.bool false) ∧ Mod Non w w' := by
  go_enter Try.func12, Try.ntmps12
  go_wp2_with (go_at_call 36; refine (elect_change_nil _ _).mono ?_; rintro e w' ⟨rfl, rfl⟩)
  go_quiet (fail)
  go_wp2
  go_ret
  exact ⟨rfl, (Mod.refl _ _).drewN _⟩

theorem elect_Left (b : Nat) (p n : Int) (w : World) (h : Clk w b p n) (h0 : 0 ≤ n) (h1 : n ≤ p) (h2 : p ≤ 1000) :
    Calls Try.prog 13 #[.pointer (some ⟨b, 0, none⟩)] w fun e w' => e = .returned (.int .i64 (p - n)) ∧ Clk w' b p n ∧ Mod Non w w' := by
  have c0 := h.c0
  have c1 := h.c1
  go_enter Try.func13, Try.ntmps13
  go_wp2
  go_quiet (fail)
  go_wp2
  go_ret
  exact ⟨rfl, h.drewN _, (Mod.refl _ _).drewN _⟩
theorem elect_Left_nil (w : World) :
    Calls Try.prog 13 #[.pointer none] w fun e w' => e = .returned (.int .i64 0) ∧ w = w' := by
  go_enter Try.func13, Try.ntmps13
  go_wp2
  go_ret
  exact ⟨rfl, rfl⟩
end Go.Proofs.Ytlkifobajdafpaa
