/- The statements on package bag: the contract of 'do', each kind. -/
import Derived.Test.YtlkifobajdafpaaBagSteps
import Derived.Test.YtlkifobajdafpaaBagTake
namespace Go.Proofs.Ytlkifobajdafpaa
open Go.RowKit

/-- what the world is behind a result that lies in one block of its own -/
theorem new_lt {w w1 : World} {S : Nat → Prop} {o1 o2 : Obj} (h : Mod S ((w.alloc o1).alloc o2) w1) : w.heap.size + 1 < w1.heap.size := by have := h.size; simp at this; omega


set_option maxRecDepth 100000 in
set_option maxHeartbeats 1000000 in
theorem law38_do1 (b : Nat) (n f t : Int) (A2 : Option Addr) (n2 c2 : Nat) (S : Nat → Prop) (R : Bool → World → Prop) (w : World) (hS : ¬ S (w.heap.size + 1))
    (hc : ∀ o1 o2 : Obj, Calls Try.prog 33 #[.pointer (some ⟨b, 0, none⟩), .agg #[.int .i64 f, .int .i64 t, .slice A2 n2 c2]] ((w.alloc o1).alloc o2) fun e w' => ∃ r, e = .returned (.bool r) ∧ R r w' ∧ Mod S ((w.alloc o1).alloc o2) w') :
    Calls Try.prog 24 #[.pointer (some ⟨b, 0, none⟩), .agg #[.int .i64 1, .int .i64 n, .int .i64 f, .int .i64 t, .slice A2 n2 c2]] w fun e w' => ∃ r w1, e = .returned (.tuple #[.agg #[.int .i64 0, .int .i64 0, .slice none 0 0], .bool r]) ∧ R r w1 ∧ NB w1 (w.heap.size + 1) ∧ Mod (One (w.heap.size + 1)) w1 w' := by
  have HC := Lib.hid hc
  clear hc
  go_enter Try.func24, Try.ntmps24
  go_wp2_with fail
  refine (HC.out _ _).mono ?_
  rintro e w1 ⟨r, rfl, hR, hm⟩
  have hb1 : Blk w1 (w.heap.size + 1) 48 #[.int .i64 0, .int .i64 0, .slice none 0 0] := (Blk.new1 w _ _ _).mod hm hS
  have x0 := hb1.cell 0
  have x1 := hb1.cell 1
  have x2 := hb1.cell 2
  have f0 := hb1.frozen 0
  have f1 := hb1.frozen 1
  have f2 := hb1.frozen 2
  simp at x0 x1 x2
  go_wp2
  have hZ := hb1.set3 (.int .i64 0) (.int .i64 0) (.slice none 0 0)
  refine bodyPost_ret (results_row_tmp rfl _ _ (w.heap.size + 1) 48 #[.int .i64 0, .int .i64 0, .slice none 0 0] (0, 0) _ rfl hZ Try.underlying48 rfl (by kernel_rfl)) rfl ?_
  exact ⟨r, w1, rfl, hR, NB.of_blk hb1 (by decide), (((Mod.refl _ _).setOne _).setOne _).setOne _⟩

set_option maxRecDepth 100000 in
set_option maxHeartbeats 1000000 in
theorem law38_do3 (b : Nat) (n f t : Int) (A2 : Option Addr) (n2 c2 : Nat) (S : Nat → Prop) (R : Bool → World → Prop) (w : World) (hS : ¬ S (w.heap.size + 1))
    (hc : ∀ o1 o2 : Obj, Calls Try.prog 34 #[.pointer (some ⟨b, 0, none⟩), .int .i64 n] ((w.alloc o1).alloc o2) fun e w' => ∃ r, e = .returned (.bool r) ∧ R r w' ∧ Mod S ((w.alloc o1).alloc o2) w') :
    Calls Try.prog 24 #[.pointer (some ⟨b, 0, none⟩), .agg #[.int .i64 3, .int .i64 n, .int .i64 f, .int .i64 t, .slice A2 n2 c2]] w fun e w' => ∃ r w1, e = .returned (.tuple #[.agg #[.int .i64 0, .int .i64 0, .slice none 0 0], .bool r]) ∧ R r w1 ∧ NB w1 (w.heap.size + 1) ∧ Mod (One (w.heap.size + 1)) w1 w' := by
  have HC := Lib.hid hc
  clear hc
  go_enter Try.func24, Try.ntmps24
  go_wp2_with fail
  refine (HC.out _ _).mono ?_
  rintro e w1 ⟨r, rfl, hR, hm⟩
  have hb1 : Blk w1 (w.heap.size + 1) 48 #[.int .i64 0, .int .i64 0, .slice none 0 0] := (Blk.new1 w _ _ _).mod hm hS
  have x0 := hb1.cell 0
  have x1 := hb1.cell 1
  have x2 := hb1.cell 2
  have f0 := hb1.frozen 0
  have f1 := hb1.frozen 1
  have f2 := hb1.frozen 2
  simp at x0 x1 x2
  go_wp2
  have hZ := hb1.set3 (.int .i64 0) (.int .i64 0) (.slice none 0 0)
  refine bodyPost_ret (results_row_tmp rfl _ _ (w.heap.size + 1) 48 #[.int .i64 0, .int .i64 0, .slice none 0 0] (0, 0) _ rfl hZ Try.underlying48 rfl (by kernel_rfl)) rfl ?_
  exact ⟨r, w1, rfl, hR, NB.of_blk hb1 (by decide), (((Mod.refl _ _).setOne _).setOne _).setOne _⟩

set_option maxRecDepth 100000 in
set_option maxHeartbeats 1000000 in
theorem law38_do4 (b : Nat) (n f t : Int) (A2 : Option Addr) (n2 c2 : Nat) (S : Nat → Prop) (R : Bool → World → Prop) (w : World) (hS : ¬ S (w.heap.size + 1))
    (hc : ∀ o1 o2 : Obj, Calls Try.prog 35 #[.pointer (some ⟨b, 0, none⟩), .int .i64 n] ((w.alloc o1).alloc o2) fun e w' => ∃ r, e = .returned (.bool r) ∧ R r w' ∧ Mod S ((w.alloc o1).alloc o2) w') :
    Calls Try.prog 24 #[.pointer (some ⟨b, 0, none⟩), .agg #[.int .i64 4, .int .i64 n, .int .i64 f, .int .i64 t, .slice A2 n2 c2]] w fun e w' => ∃ r w1, e = .returned (.tuple #[.agg #[.int .i64 0, .int .i64 0, .slice none 0 0], .bool r]) ∧ R r w1 ∧ NB w1 (w.heap.size + 1) ∧ Mod (One (w.heap.size + 1)) w1 w' := by
  have HC := Lib.hid hc
  clear hc
  go_enter Try.func24, Try.ntmps24
  go_wp2_with fail
  refine (HC.out _ _).mono ?_
  rintro e w1 ⟨r, rfl, hR, hm⟩
  have hb1 : Blk w1 (w.heap.size + 1) 48 #[.int .i64 0, .int .i64 0, .slice none 0 0] := (Blk.new1 w _ _ _).mod hm hS
  have x0 := hb1.cell 0
  have x1 := hb1.cell 1
  have x2 := hb1.cell 2
  have f0 := hb1.frozen 0
  have f1 := hb1.frozen 1
  have f2 := hb1.frozen 2
  simp at x0 x1 x2
  go_wp2
  have hZ := hb1.set3 (.int .i64 0) (.int .i64 0) (.slice none 0 0)
  refine bodyPost_ret (results_row_tmp rfl _ _ (w.heap.size + 1) 48 #[.int .i64 0, .int .i64 0, .slice none 0 0] (0, 0) _ rfl hZ Try.underlying48 rfl (by kernel_rfl)) rfl ?_
  exact ⟨r, w1, rfl, hR, NB.of_blk hb1 (by decide), (((Mod.refl _ _).setOne _).setOne _).setOne _⟩

set_option maxRecDepth 100000 in
set_option maxHeartbeats 1000000 in
theorem law38_do2 (b : Nat) (n f t : Int) (A2 : Option Addr) (n2 c2 : Nat) (S : Nat → Prop) (f' t' : Int) (A' : Option Addr) (n' c' : Nat) (r : Bool) (R : World → Prop) (w : World) (hS : ¬ S (w.heap.size + 1))
    (hc : ∀ o1 o2 : Obj, Calls Try.prog 32 #[.pointer (some ⟨b, 0, none⟩), .int .i64 n] ((w.alloc o1).alloc o2) fun e w' => e = .returned (.tuple #[.agg #[.int .i64 f', .int .i64 t', .slice A' n' c'], .bool r]) ∧ R w' ∧ Mod S ((w.alloc o1).alloc o2) w') :
    Calls Try.prog 24 #[.pointer (some ⟨b, 0, none⟩), .agg #[.int .i64 2, .int .i64 n, .int .i64 f, .int .i64 t, .slice A2 n2 c2]] w fun e w' => ∃ w1, e = .returned (.tuple #[.agg #[.int .i64 f', .int .i64 t', .slice A' n' c'], .bool r]) ∧ R w1 ∧ NB w1 (w.heap.size + 1) ∧ Mod (One (w.heap.size + 1)) w1 w' := by
  have HC := Lib.hid hc
  clear hc
  go_enter Try.func24, Try.ntmps24
  go_wp2_with fail
  refine (HC.out _ _).mono ?_
  rintro e w1 ⟨rfl, hR, hm⟩
  have hb1 : Blk w1 (w.heap.size + 1) 48 #[.int .i64 0, .int .i64 0, .slice none 0 0] := (Blk.new1 w _ _ _).mod hm hS
  have x0 := hb1.cell 0
  have x1 := hb1.cell 1
  have x2 := hb1.cell 2
  have f0 := hb1.frozen 0
  have f1 := hb1.frozen 1
  have f2 := hb1.frozen 2
  simp at x0 x1 x2
  go_wp2
  have hZ := hb1.set3 (.int .i64 f') (.int .i64 t') (.slice A' n' c')
  refine bodyPost_ret (results_row_tmp rfl _ _ (w.heap.size + 1) 48 #[.int .i64 f', .int .i64 t', .slice A' n' c'] (0, 0) _ rfl hZ Try.underlying48 rfl (by kernel_rfl)) rfl ?_
  exact ⟨w1, rfl, hR, NB.of_blk hb1 (by decide), (((Mod.refl _ _).setOne _).setOne _).setOne _⟩

set_option maxRecDepth 100000 in
set_option maxHeartbeats 1000000 in
theorem law38_do0 (b : Nat) (k n f t : Int) (A2 : Option Addr) (n2 c2 : Nat) (w : World) (hk : k < 1 ∨ 4 < k) :
    Calls Try.prog 24 #[.pointer (some ⟨b, 0, none⟩), .agg #[.int .i64 k, .int .i64 n, .int .i64 f, .int .i64 t, .slice A2 n2 c2]] w fun e w' => e = .returned (.tuple #[.agg #[.int .i64 0, .int .i64 0, .slice none 0 0], .bool false]) ∧ Mod Non w w' := by
  have e1 : (k == 1) = false := by simp; omega
  have e2 : (k == 2) = false := by simp; omega
  have e3 : (k == 3) = false := by simp; omega
  have e4 : (k == 4) = false := by simp; omega
  clear hk
  go_enter Try.func24, Try.ntmps24
  go_wp2
  refine bodyPost_ret (results_row_tmp rfl _ _ (w.heap.size + 1) 48 #[.int .i64 0, .int .i64 0, .slice none 0 0] (0, 0) _ rfl (Blk.new1 _ _ _ _) Try.underlying48 rfl (by kernel_rfl)) rfl ?_
  exact ⟨rfl, ((Mod.refl _ _).alloc _).alloc _⟩
end Go.Proofs.Ytlkifobajdafpaa
