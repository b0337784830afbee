/- Package bag: the contracts of Take, Lose, Twice. -/
import Derived.Test.YtlkifobajdafpaaBagDel
import Derived.Test.YtlkifobajdafpaaBagPut
namespace Go.Proofs.Ytlkifobajdafpaa
open Go.RowKit

theorem bag_Take_no (b : Nat) (A : Option Addr) (n c : Nat) (i : Int) (w : World) (hb : Blk w b 76 #[.slice A n c]) (h : i < 0 ∨ (n : Int) ≤ i) :
    Calls Try.prog 32 #[.pointer (some ⟨b, 0, none⟩), .int .i64 i] w fun e w' => e = .returned (.tuple #[.agg #[.int .i64 0, .int .i64 0, .slice none 0 0], .bool false]) ∧ Mod Non w w' := by
  go_enter Try.func32, Try.ntmps32
  go_wp2_with (go_at_call 42; refine (bag_is_no b A n c i _ (hb.alloc _) h).mono ?_; rintro e w1 ⟨rfl, rfl⟩)
  refine bodyPost_ret (results_row_tmp rfl _ _ w.heap.size 48 #[.int .i64 0, .int .i64 0, .slice none 0 0] (0, 0) _ rfl (Blk.new _ _ _) Try.underlying48 rfl (by kernel_rfl)) rfl ?_
  exact ⟨rfl, (Mod.refl _ _).alloc _⟩

theorem bag_is_nil (i : Int) (w : World) :
    Calls Try.prog 42 #[.pointer none, .int .i64 i] w fun e w' => e = .returned (.bool false) ∧ w = w' := by
  go_enter Try.func42, Try.ntmps42
  go_wp2
  go_ret
  exact ⟨rfl, rfl⟩

theorem bag_Take_nil (i : Int) (w : World) :
    Calls Try.prog 32 #[.pointer none, .int .i64 i] w fun e w' => e = .returned (.tuple #[.agg #[.int .i64 0, .int .i64 0, .slice none 0 0], .bool false]) ∧ Mod Non w w' := by
  go_enter Try.func32, Try.ntmps32
  go_wp2_with (go_at_call 42; refine (bag_is_nil i _).mono ?_; rintro e w1 ⟨rfl, rfl⟩)
  refine bodyPost_ret (results_row_tmp rfl _ _ w.heap.size 48 #[.int .i64 0, .int .i64 0, .slice none 0 0] (0, 0) _ rfl (Blk.new _ _ _) Try.underlying48 rfl (by kernel_rfl)) rfl ?_
  exact ⟨rfl, (Mod.refl _ _).alloc _⟩

set_option maxRecDepth 100000 in
set_option maxHeartbeats 2000000 in
theorem bag_Take_yes (b B g n c i : Nat) (qs : List Pv) (q : Pv) (w : World) (hb : Blk w b 76 #[.slice (some ⟨g, 0, none⟩) n c]) (hown : OwnP w B (.slice (some ⟨g, 0, none⟩) n c) qs)
    (hi : i < n) (hq : qs[i]? = some q) (hc : n ≤ c) (hmax : c ≤ 9223372036854775807) :
    Calls Try.prog 32 #[.pointer (some ⟨b, 0, none⟩), .int .i64 i] w fun e w' => e = .returned (.tuple #[.agg #[.int .i64 q.f, .int .i64 q.t, .slice q.A q.n q.c], .bool true]) ∧
      Blk w' b 76 #[.slice (some ⟨g, 0, none⟩) (n - 1) c] ∧ OwnP w' B (.slice (some ⟨g, 0, none⟩) (n - 1) c) (qs.eraseIdx i) ∧ Mod (fun k => k = b ∨ k = g) w w' := by
  obtain ⟨f, t, A2, n2, c2⟩ := q
  simp only
  have hrow := hown.row
  obtain ⟨p0, p1, p2⟩ := pcs_at hq
  have hin : i * 3 + 2 < n * 3 := by omega
  have d0 := (World.ownsRow.cellAt hrow (i * 3) (by omega)).trans p0
  have d1 := (World.ownsRow.cellAt hrow (i * 3 + 1) (by omega)).trans p1
  have d2 := (World.ownsRow.cellAt hrow (i * 3 + 2) (by omega)).trans p2
  simp only at d0 d1 d2
  have c0 := hb.cell 0
  have hlt := hb.lt
  have hgl := (World.ownsRow.lt hown g rfl).2
  have hbg : ¬ b = g := fun h => own_ne_blk hown hb (by decide) (by rw [h]; rfl)
  simp at c0
  clear hrow p0 p1 p2 hq
  go_enter Try.func32, Try.ntmps32
  go_wp2_with fail
  refine (bag_is_yes b _ n c i _ (hb.alloc _) (by omega) (by omega)).mono ?_
  rintro e w1 ⟨rfl, rfl⟩
  go_wp2_with fail
  refine (packets_Delete g n c i B qs _ ((hown.alloc _).alloc _) hi hc hmax).mono ?_
  rintro e w2 ⟨rfl, hown2, hm2⟩
  have hP0 : Blk w2 w.heap.size 48 #[.int .i64 0, .int .i64 0, .slice none 0 0] := ((Blk.new w _ _).alloc _).mod hm2 (by unfold One; omega)
  have hP1 : Blk w2 (w.heap.size + 1) 48 #[.int .i64 f, .int .i64 t, .slice A2 n2 c2] := by
    have := Blk.new (w.alloc (.cells #[.int .i64 0, .int .i64 0, .slice none 0 0] 48)) 48 #[.int .i64 f, .int .i64 t, .slice A2 n2 c2]
    rw [World.size_alloc] at this
    exact this.mod hm2 (by unfold One; omega)
  have hb2 : Blk w2 b 76 #[.slice (some ⟨g, 0, none⟩) n c] := ((hb.alloc _).alloc _).mod hm2 (by unfold One; omega)
  have c02 := hb2.cell 0
  have f02 := hb2.frozen 0
  have p00 := hP0.cell 0
  have p01 := hP0.cell 1
  have p02 := hP0.cell 2
  have g00 := hP0.frozen 0
  have g01 := hP0.frozen 1
  have g02 := hP0.frozen 2
  have p10 := hP1.cell 0
  have p11 := hP1.cell 1
  have p12 := hP1.cell 2
  simp at c02 p00 p01 p02 p10 p11 p12
  have hbP : b ≠ w.heap.size := by omega
  have hbP1 : b ≠ w.heap.size + 1 := by omega
  clear d0 d1 d2 c0
  go_wp2
  refine bodyPost_ret (results_row_tmp rfl _ _ w.heap.size 48 #[.int .i64 f, .int .i64 t, .slice A2 n2 c2] (0, 0) _ rfl ?hfin Try.underlying48 rfl (by kernel_rfl)) rfl ?_
  case hfin => exact (((hP0.far (p := ⟨b, 0, none⟩) (Ne.symm hbP) _).set_ 0 _).set_ 1 _).set_ 2 _
  refine ⟨rfl, ?_, ?_, ?_⟩
  · exact (((hb2.set_ 0 _).far (p := ⟨w.heap.size, 0, none⟩) hbP _).far (p := ⟨w.heap.size, 1, none⟩) hbP _).far (p := ⟨w.heap.size, 2, none⟩) hbP _
  · have hne : ∀ k : Nat, k ≠ g → ¬ (Value.slice (some ⟨g, 0, none⟩) (n - 1) c).ownBlock = some k := fun k hk h => hk (by injection h with h; exact h.symm)
    exact (((hown2.far (p := ⟨b, 0, none⟩) (hne b hbg) _).far (p := ⟨w.heap.size, 0, none⟩) (hne w.heap.size (by omega)) _).far (p := ⟨w.heap.size, 1, none⟩) (hne w.heap.size (by omega)) _).far (p := ⟨w.heap.size, 2, none⟩) (hne w.heap.size (by omega)) _
  · have h2 : Mod (fun k => k = b ∨ k = g) w w2 := (((Mod.refl _ _).alloc _).alloc _).trans hm2 fun _ _ h => .inr h
    exact (((h2.setCell (p := ⟨b, 0, none⟩) (fun _ => .inl rfl) _).setCell (p := ⟨w.heap.size, 0, none⟩) (fun h => by simp at h) _).setCell (p := ⟨w.heap.size, 1, none⟩) (fun h => by simp at h) _).setCell (p := ⟨w.heap.size, 2, none⟩) (fun h => by simp at h) _

theorem bag_Lose_no (b : Nat) (A : Option Addr) (n c : Nat) (i : Int) (w : World) (hb : Blk w b 76 #[.slice A n c]) (h : i < 0 ∨ (n : Int) ≤ i) :
    Calls Try.prog 34 #[.pointer (some ⟨b, 0, none⟩), .int .i64 i] w fun e w' => e = .returned (.bool false) ∧ Mod Non w w' := by
  go_enter Try.func34, Try.ntmps34
  go_wp2_with (go_at_call 32; refine (bag_Take_no b A n c i _ hb h).mono ?_; rintro e w1 ⟨rfl, hm⟩)
  go_ret
  exact ⟨rfl, hm.alloc _⟩

theorem bag_Lose_nil (i : Int) (w : World) :
    Calls Try.prog 34 #[.pointer none, .int .i64 i] w fun e w' => e = .returned (.bool false) ∧ Mod Non w w' := by
  go_enter Try.func34, Try.ntmps34
  go_wp2_with (go_at_call 32; refine (bag_Take_nil i _).mono ?_; rintro e w1 ⟨rfl, hm⟩)
  go_ret
  exact ⟨rfl, hm.alloc _⟩

theorem bag_Lose_yes (b B g n c i : Nat) (qs : List Pv) (q : Pv) (w : World) (hb : Blk w b 76 #[.slice (some ⟨g, 0, none⟩) n c]) (hown : OwnP w B (.slice (some ⟨g, 0, none⟩) n c) qs)
    (hi : i < n) (hq : qs[i]? = some q) (hc : n ≤ c) (hmax : c ≤ 9223372036854775807) :
    Calls Try.prog 34 #[.pointer (some ⟨b, 0, none⟩), .int .i64 i] w fun e w' => e = .returned (.bool true) ∧
      Blk w' b 76 #[.slice (some ⟨g, 0, none⟩) (n - 1) c] ∧ OwnP w' B (.slice (some ⟨g, 0, none⟩) (n - 1) c) (qs.eraseIdx i) ∧ Mod (fun k => k = b ∨ k = g) w w' := by
  have HQ := Lib.hid hq
  clear hq
  go_enter Try.func34, Try.ntmps34
  go_wp2_with (go_at_call 32; refine (bag_Take_yes b B g n c i qs q _ hb hown hi HQ.out hc hmax).mono ?_; rintro e w1 ⟨rfl, hb1, hown1, hm⟩)
  go_ret
  exact ⟨rfl, hb1.alloc _, hown1.alloc _, hm.alloc _⟩

theorem bag_Twice_no (b : Nat) (A : Option Addr) (n c : Nat) (i : Int) (w : World) (hb : Blk w b 76 #[.slice A n c]) (h : i < 0 ∨ (n : Int) ≤ i) :
    Calls Try.prog 35 #[.pointer (some ⟨b, 0, none⟩), .int .i64 i] w fun e w' => e = .returned (.bool false) ∧ Mod Non w w' := by
  go_enter Try.func35, Try.ntmps35
  go_wp2_with (go_at_call 42; refine (bag_is_no b A n c i _ hb h).mono ?_; rintro e w1 ⟨rfl, rfl⟩)
  go_ret
  exact ⟨rfl, Mod.refl _ _⟩
theorem bag_Twice_nil (i : Int) (w : World) :
    Calls Try.prog 35 #[.pointer none, .int .i64 i] w fun e w' => e = .returned (.bool false) ∧ Mod Non w w' := by
  go_enter Try.func35, Try.ntmps35
  go_wp2_with (go_at_call 42; refine (bag_is_nil i _).mono ?_; rintro e w1 ⟨rfl, rfl⟩)
  go_ret
  exact ⟨rfl, Mod.refl _ _⟩

/-- Twice at a place that there is: what Put gives. -/
theorem bag_Twice_yes (b B g n c i : Nat) (qs : List Pv) (q : Pv) (w : World) (R : Bool → World → Prop) (hb : Blk w b 76 #[.slice (some ⟨g, 0, none⟩) n c]) (hown : OwnP w B (.slice (some ⟨g, 0, none⟩) n c) qs)
    (hi : i < n) (hq : qs[i]? = some q)
    (hput : Calls Try.prog 33 #[.pointer (some ⟨b, 0, none⟩), .agg #[.int .i64 q.f, .int .i64 q.t, .slice q.A q.n q.c]] w fun e w' => ∃ r, e = .returned (.bool r) ∧ R r w') :
    Calls Try.prog 35 #[.pointer (some ⟨b, 0, none⟩), .int .i64 i] w fun e w' => ∃ r, e = .returned (.bool r) ∧ R r w' := by
  obtain ⟨f, t, A2, n2, c2⟩ := q
  simp only at hput
  have HP := Lib.hid hput
  clear hput
  have hrow := hown.row
  obtain ⟨p0, p1, p2⟩ := pcs_at hq
  have hin : i * 3 + 2 < n * 3 := by omega
  have d0 := (World.ownsRow.cellAt hrow (i * 3) (by omega)).trans p0
  have d1 := (World.ownsRow.cellAt hrow (i * 3 + 1) (by omega)).trans p1
  have d2 := (World.ownsRow.cellAt hrow (i * 3 + 2) (by omega)).trans p2
  simp only at d0 d1 d2
  have c0 := hb.cell 0
  simp at c0
  clear hrow p0 p1 p2 hq
  go_enter Try.func35, Try.ntmps35
  go_wp2_with fail
  refine (bag_is_yes b _ n c i _ hb (by omega) (by omega)).mono ?_
  rintro e w1 ⟨rfl, rfl⟩
  go_wp2_with fail
  refine HP.out.mono ?_
  rintro e w2 ⟨r, rfl, hR⟩
  go_wp2
  go_ret
  exact ⟨r, rfl, hR⟩
end Go.Proofs.Ytlkifobajdafpaa
