/- Package bag: the contracts of New, Len, is, copied, and of the closure of Put. -/
import Derived.Test.YtlkifobajdafpaaPacket
import Derived.Test.YtlkifobajdafpaaVarint
namespace Go.Proofs.Ytlkifobajdafpaa
open Go.RowKit

theorem bag_New (w : World) :
    Calls Try.prog 23 #[] w fun e w' => e = .returned (.pointer (some ⟨w.heap.size, 0, none⟩)) ∧ Blk w' w.heap.size 76 #[.slice none 0 0] ∧ Mod Non w w' := by
  go_enter Try.func23, Try.ntmps23
  go_wp2
  go_ret
  exact ⟨rfl, Blk.new _ _ _, (Mod.refl _ _).alloc _⟩

theorem bag_node_yes (n : Int) (w : World) (h1 : 1 ≤ n) (h9 : n ≤ 9) :
    Calls Try.prog 44 #[.int .i64 n] w fun e w' => e = .returned (.bool true) ∧ w = w' := by
  go_enter Try.func44, Try.ntmps44
  go_wp2
  go_ret
  exact ⟨rfl, rfl⟩
theorem bag_node_no (n : Int) (w : World) (h : n < 1 ∨ 9 < n) :
    Calls Try.prog 44 #[.int .i64 n] w fun e w' => e = .returned (.bool false) ∧ w = w' := by
  rcases h with h | h
  · have h1 : ¬ 1 ≤ n := by omega
    go_enter Try.func44, Try.ntmps44
    go_wp2
    go_ret
    exact ⟨rfl, rfl⟩
  · have h1 : 1 ≤ n := by omega
    have h2 : ¬ n ≤ 9 := by omega
    go_enter Try.func44, Try.ntmps44
    go_wp2
    go_ret
    exact ⟨rfl, rfl⟩

theorem bag_Len (b : Nat) (A : Option Addr) (n c : Nat) (w : World) (hb : Blk w b 76 #[.slice A n c]) :
    Calls Try.prog 27 #[.pointer (some ⟨b, 0, none⟩)] w fun e w' => e = .returned (.int .i64 n) ∧ w = w' := by
  have c0 := hb.cell 0
  simp at c0
  go_enter Try.func27, Try.ntmps27
  go_wp2
  go_ret
  exact ⟨rfl, rfl⟩

theorem bag_is_yes (b : Nat) (A : Option Addr) (n c : Nat) (i : Int) (w : World) (hb : Blk w b 76 #[.slice A n c]) (h0 : 0 ≤ i) (h1 : i < n) :
    Calls Try.prog 42 #[.pointer (some ⟨b, 0, none⟩), .int .i64 i] w fun e w' => e = .returned (.bool true) ∧ w = w' := by
  have c0 := hb.cell 0
  simp at c0
  go_enter Try.func42, Try.ntmps42
  go_wp2
  go_ret
  exact ⟨rfl, rfl⟩
theorem bag_is_no (b : Nat) (A : Option Addr) (n c : Nat) (i : Int) (w : World) (hb : Blk w b 76 #[.slice A n c]) (h : i < 0 ∨ (n : Int) ≤ i) :
    Calls Try.prog 42 #[.pointer (some ⟨b, 0, none⟩), .int .i64 i] w fun e w' => e = .returned (.bool false) ∧ w = w' := by
  have c0 := hb.cell 0
  simp at c0
  by_cases h0 : i < 0
  · have h0' : ¬ 0 ≤ i := by omega
    go_enter Try.func42, Try.ntmps42
    go_wp2
    go_ret
    exact ⟨rfl, rfl⟩
  · have h1 : 0 ≤ i := by omega
    have h2 : ¬ i < n := by omega
    go_enter Try.func42, Try.ntmps42
    go_wp2
    go_ret
    exact ⟨rfl, rfl⟩

theorem bag_copied (f t : Int) (A : Option Addr) (n c : Nat) (d : List UInt8) (B : Nat) (w : World) (hd : RdB w B A n d) (hl : d.length ≤ 140737488355328) (hB : B ≤ w.heap.size) :
    Calls Try.prog 41 #[.agg #[.int .i64 f, .int .i64 t, .slice A n c]] w fun e w' => ∃ (A' : Option Addr) (n' c' : Nat), e = .returned (.agg #[.int .i64 f, .int .i64 t, .slice A' n' c']) ∧ RdB w' B A' n' d ∧ Mod Non w w' := by
  go_enter Try.func41, Try.ntmps41
  go_wp2_with fail
  refine (slices_Clone A n c _ d _ ((hd.alloc _).alloc _) hl).mono ?_
  rintro e w1 ⟨v1, rfl, hown, hm⟩
  obtain ⟨A1, n1, c1, rfl, _, _⟩ := hown.form
  have hb0 : Blk w1 w.heap.size 48 #[.int .i64 f, .int .i64 t, .slice A n c] := ((Blk.new w _ _).alloc _).mod hm fun h => h
  have hb1 : Blk w1 (w.heap.size + 1) 48 #[.int .i64 0, .int .i64 0, .slice none 0 0] := by
    have := Blk.new (w.alloc (.cells #[.int .i64 f, .int .i64 t, .slice A n c] 48)) 48 #[.int .i64 0, .int .i64 0, .slice none 0 0]
    rw [World.size_alloc] at this
    exact this.mod hm fun h => h
  have c00 := hb0.cell 0
  have c01 := hb0.cell 1
  have c02 := hb0.cell 2
  have f02 := hb0.frozen 2
  have c10 := hb1.cell 0
  have c11 := hb1.cell 1
  have c12 := hb1.cell 2
  have f10 := hb1.frozen 0
  have f11 := hb1.frozen 1
  have f12 := hb1.frozen 2
  simp at c00 c01 c02 c10 c11 c12
  go_wp2
  refine bodyPost_ret (results_cell_row rfl _ _ (w.heap.size + 1) 48 #[.int .i64 f, .int .i64 t, .slice A1 n1 c1] (0, 0) _ rfl ?hfin Try.underlying48 rfl (by kernel_rfl)) rfl ?_
  case hfin => exact (((hb1.far (p := ⟨w.heap.size, 2, none⟩) (by simp) _).set_ 0 _).set_ 1 _).set_ 2 _
  refine ⟨A1, n1, c1, rfl, ?_, ?_⟩
  · have hd1 : RdB w1 B A1 n1 d := RdB.of_own hown rfl
    have b1 := hb1.far (p := ⟨w.heap.size, 2, none⟩) (by simp) (.slice A1 n1 c1)
    have k1 : Kp B w1 (w1.setCell ⟨w.heap.size, 2, none⟩ (.slice A1 n1 c1)) := Kp.set1 hb0 (by decide) hB _
    have k2 := k1.setCell (i := 0) b1 (by decide) (by omega) (.int .i64 f)
    have b2 := b1.set_ 0 (.int .i64 f)
    have k3 := k2.setCell (i := 1) b2 (by decide) (by omega) (.int .i64 t)
    have b3 := b2.set_ 1 (.int .i64 t)
    exact hd1.kp (k3.setCell (i := 2) b3 (by decide) (by omega) (.slice A1 n1 c1))
  · have hm0 : Mod Non w w1 := (((Mod.refl Non w).alloc _).alloc _).trans' hm
    exact (((hm0.setCell (p := ⟨w.heap.size, 2, none⟩) (fun h => by simp at h) _).setCell (p := ⟨w.heap.size + 1, 0, none⟩) (fun h => by simp at h; omega) _).setCell (p := ⟨w.heap.size + 1, 1, none⟩) (fun h => by simp at h; omega) _).setCell (p := ⟨w.heap.size + 1, 2, none⟩) (fun h => by simp at h; omega) _
end Go.Proofs.Ytlkifobajdafpaa
