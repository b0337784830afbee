/- The reference of package bag: the contract of Do where nothing is done. -/
import Derived.Test.YtlkifobajdafpaaBagDo
namespace Go.Proofs.Ytlkifobajdafpaa
open Go.RowKit

def okP (f t : Int) (len : Nat) : Prop := 1 ≤ f ∧ f ≤ 9 ∧ 1 ≤ t ∧ t ≤ 9 ∧ f ≠ t ∧ len < 512

set_option maxRecDepth 100000 in
set_option maxHeartbeats 2000000 in
theorem ref38_Do_no1 (A : Option Addr) (len c : Nat) (n f t : Int) (A2 : Option Addr) (n2 c2 : Nat) (w : World) (h : ¬ okP f t len) :
    Calls Try.prog 25 #[.slice A len c, .agg #[.int .i64 1, .int .i64 n, .int .i64 f, .int .i64 t, .slice A2 n2 c2]] w fun e w' => e = .returned (.tuple #[.slice A len c, .agg #[.int .i64 0, .int .i64 0, .slice none 0 0], .bool false]) ∧ Mod Non w w' := by
  have hc : f < 1 ∨ (1 ≤ f ∧ 9 < f) ∨ (1 ≤ f ∧ f ≤ 9 ∧ t < 1) ∨ (1 ≤ f ∧ f ≤ 9 ∧ 1 ≤ t ∧ 9 < t) ∨ (1 ≤ f ∧ f ≤ 9 ∧ 1 ≤ t ∧ t ≤ 9 ∧ f = t) ∨ (1 ≤ f ∧ f ≤ 9 ∧ 1 ≤ t ∧ t ≤ 9 ∧ f ≠ t ∧ 512 ≤ len) := by
    unfold okP at h; omega
  clear h
  go_enter Try.func25, Try.ntmps25
  rcases hc with h | ⟨h1, h⟩ | ⟨h1, h2, h⟩ | ⟨h1, h2, h3, h⟩ | ⟨h1, h2, h3, h4, h⟩ | ⟨h1, h2, h3, h4, h5, h⟩
  · skip
    go_wp2
    go_region
    go_wp2
    refine bodyPost_ret (results_tmp_row_tmp rfl _ _ (w.heap.size + 1) 48 #[.int .i64 0, .int .i64 0, .slice none 0 0] (0, 0) _ rfl (((Blk.new1 _ _ _ _).alloc _).alloc _) Try.underlying48 rfl (by kernel_rfl)) rfl ?_
    exact ⟨rfl, Mod.drew ((((((Mod.refl _ _).alloc _).alloc _).alloc _).alloc _))⟩
  · skip
    go_wp2
    go_region
    go_wp2
    refine bodyPost_ret (results_tmp_row_tmp rfl _ _ (w.heap.size + 1) 48 #[.int .i64 0, .int .i64 0, .slice none 0 0] (0, 0) _ rfl (((Blk.new1 _ _ _ _).alloc _).alloc _) Try.underlying48 rfl (by kernel_rfl)) rfl ?_
    exact ⟨rfl, Mod.drew ((((((Mod.refl _ _).alloc _).alloc _).alloc _).alloc _))⟩
  · skip
    go_wp2
    go_region
    go_wp2
    refine bodyPost_ret (results_tmp_row_tmp rfl _ _ (w.heap.size + 1) 48 #[.int .i64 0, .int .i64 0, .slice none 0 0] (0, 0) _ rfl (((Blk.new1 _ _ _ _).alloc _).alloc _) Try.underlying48 rfl (by kernel_rfl)) rfl ?_
    exact ⟨rfl, Mod.drew ((((((Mod.refl _ _).alloc _).alloc _).alloc _).alloc _))⟩
  · skip
    go_wp2
    go_region
    go_wp2
    refine bodyPost_ret (results_tmp_row_tmp rfl _ _ (w.heap.size + 1) 48 #[.int .i64 0, .int .i64 0, .slice none 0 0] (0, 0) _ rfl (((Blk.new1 _ _ _ _).alloc _).alloc _) Try.underlying48 rfl (by kernel_rfl)) rfl ?_
    exact ⟨rfl, Mod.drew ((((((Mod.refl _ _).alloc _).alloc _).alloc _).alloc _))⟩
  · skip
    subst h
    have e1 : (f == f) = true := by simp
    go_wp2
    go_region
    go_wp2
    refine bodyPost_ret (results_tmp_row_tmp rfl _ _ (w.heap.size + 1) 48 #[.int .i64 0, .int .i64 0, .slice none 0 0] (0, 0) _ rfl (((Blk.new1 _ _ _ _).alloc _).alloc _) Try.underlying48 rfl (by kernel_rfl)) rfl ?_
    exact ⟨rfl, Mod.drew ((((((Mod.refl _ _).alloc _).alloc _).alloc _).alloc _))⟩
  · skip
    have e1 : (f == t) = false := by simp [h5]
    have e2 : (512 : Int) ≤ (len : Int) := by omega
    clear h5
    go_wp2
    go_region
    go_wp2
    refine bodyPost_ret (results_tmp_row_tmp rfl _ _ (w.heap.size + 1) 48 #[.int .i64 0, .int .i64 0, .slice none 0 0] (0, 0) _ rfl (((Blk.new1 _ _ _ _).alloc _).alloc _) Try.underlying48 rfl (by kernel_rfl)) rfl ?_
    exact ⟨rfl, Mod.drew ((((((Mod.refl _ _).alloc _).alloc _).alloc _).alloc _))⟩

set_option maxRecDepth 100000 in
set_option maxHeartbeats 2000000 in
theorem ref38_Do_noN (A : Option Addr) (len c : Nat) (k n f t : Int) (A2 : Option Addr) (n2 c2 : Nat) (w : World) (hk : k ≠ 1) (h : n < 0 ∨ (len : Int) ≤ n ∨ k < 1 ∨ 4 < k) :
    Calls Try.prog 25 #[.slice A len c, .agg #[.int .i64 k, .int .i64 n, .int .i64 f, .int .i64 t, .slice A2 n2 c2]] w fun e w' => e = .returned (.tuple #[.slice A len c, .agg #[.int .i64 0, .int .i64 0, .slice none 0 0], .bool false]) ∧ Mod Non w w' := by
  have hc : n < 0 ∨ (0 ≤ n ∧ (len : Int) ≤ n) ∨ (0 ≤ n ∧ n < (len : Int) ∧ k < 1) ∨ (0 ≤ n ∧ n < (len : Int) ∧ 1 ≤ k ∧ 4 < k) := by omega
  have e0 : (k == 1) = false := by simp [hk]
  clear h hk
  go_enter Try.func25, Try.ntmps25
  rcases hc with h | ⟨h1, h⟩ | ⟨h1, h2, h⟩ | ⟨h1, h2, h3, h⟩
  · go_wp2
    go_region
    go_wp2
    refine bodyPost_ret (results_tmp_row_tmp rfl _ _ (w.heap.size + 1) 48 #[.int .i64 0, .int .i64 0, .slice none 0 0] (0, 0) _ rfl (((Blk.new1 _ _ _ _).alloc _).alloc _) Try.underlying48 rfl (by kernel_rfl)) rfl ?_
    exact ⟨rfl, Mod.drew ((((((Mod.refl _ _).alloc _).alloc _).alloc _).alloc _))⟩
  · go_wp2
    go_region
    go_wp2
    refine bodyPost_ret (results_tmp_row_tmp rfl _ _ (w.heap.size + 1) 48 #[.int .i64 0, .int .i64 0, .slice none 0 0] (0, 0) _ rfl (((Blk.new1 _ _ _ _).alloc _).alloc _) Try.underlying48 rfl (by kernel_rfl)) rfl ?_
    exact ⟨rfl, Mod.drew ((((((Mod.refl _ _).alloc _).alloc _).alloc _).alloc _))⟩
  · go_wp2
    go_region
    go_wp2
    refine bodyPost_ret (results_tmp_row_tmp rfl _ _ (w.heap.size + 1) 48 #[.int .i64 0, .int .i64 0, .slice none 0 0] (0, 0) _ rfl (((Blk.new1 _ _ _ _).alloc _).alloc _) Try.underlying48 rfl (by kernel_rfl)) rfl ?_
    exact ⟨rfl, Mod.drew ((((((Mod.refl _ _).alloc _).alloc _).alloc _).alloc _))⟩
  · go_wp2
    go_region
    go_wp2
    refine bodyPost_ret (results_tmp_row_tmp rfl _ _ (w.heap.size + 1) 48 #[.int .i64 0, .int .i64 0, .slice none 0 0] (0, 0) _ rfl (((Blk.new1 _ _ _ _).alloc _).alloc _) Try.underlying48 rfl (by kernel_rfl)) rfl ?_
    exact ⟨rfl, Mod.drew ((((((Mod.refl _ _).alloc _).alloc _).alloc _).alloc _))⟩
end Go.Proofs.Ytlkifobajdafpaa
