/- 'awake' of the statements on package frame; the walk of FrameAdds. -/
import Derived.Test.YtlkifobajdafpaaDoorFrameAdd
import Derived.Lib.SlBytesConst
namespace Go.Proofs.YtlkifobajdafpaaDoor
open Go.RowKit

theorem fbytes_a : fbytes [97] = [1, 97, 67, 190, 183, 232] := by
  unfold fbytes
  rw [show ([97] : List UInt8).length = 1 from rfl, vbytes_small (by omega)]
  decide +kernel

theorem reads_marked (w : World) (x : Value) (t : TypeId) (fr : Nat × Nat) (R : Nat → Prop) (hR : R w.heap.size) : Reads (w.alloc (.cells #[x] t fr)) R 1 (some ⟨w.heap.size, 0, none⟩) 1 [x] :=
  ⟨rfl, fun _ => ⟨_, rfl, by simp, hR, fun j u hj => by
    rcases j with _ | j
    · simp at hj; subst hj; exact cell_of_row _ _ _ _ _ _ (heap_alloc_new w _)
    · simp at hj⟩⟩

theorem law03_awake (w : World) (hT : Tab w) :
    Calls Tryd.prog 7 #[] w fun e w' => e = .returned (.bool true) ∧ Mod Non w w' := by
  have kc := fun (w : World) (C : Array Value) (n c : Nat) => Lib.run_convert_bytes_const (P := Tryd.prog) w 22 5 C n c Tryd.underlying22 Tryd.underlying5
  go_enter Tryd.func7, Tryd.ntmps7
  go_wp2_with fail
  refine (frame_Add_yes none _ 0 0 1 1 (fun _ => True) (fun _ => True) [] [97] _ Reads.none_ (reads_marked w (.int .u8 97) _ _ _ trivial) (by omega) (by omega) (by omega) (hT.non ((Mod.refl _ _).alloc _))).mono ?_
  rintro e w1 ⟨v1, rfl, hown, hm⟩
  rw [fbytes_a, List.nil_append] at hown
  have hm1 : Mod Non w w1 := ((Mod.refl Non w).alloc _).trans' hm
  obtain ⟨g, c, hv, hg1, hg2⟩ := World.ownsRow.form hown (by simp)
  subst hv
  have c0 : _ = some (Value.int .u8 1) := World.ownsRow.cellAt hown 0 (by simp)
  have c5 : _ = some (Value.int .u8 232) := World.ownsRow.cellAt hown 5 (by simp)
  clear hown hm
  go_wp2_with fail
  refine (frame_Len_yes 1 w1 (by omega) (by omega)).mono ?_
  rintro e w2 ⟨rfl, rfl⟩
  rw [vbytes_small (by omega)]
  go_wp2
  go_ret
  exact ⟨rfl, hm1⟩

theorem adds_edge (A A2 : Option Addr) (n c n2 c2 : Nat) (w : World) (hT : Tab w) (h : 500 < n ∨ (500 < n2 ∧ n2 < 65536) ∨ 65540 < n2) :
    Calls Tryd.prog 3 #[.slice A n c, .slice A2 n2 c2] w fun e w' => e = .returned (.bool true) ∧ Mod Non w w' := by
  have hc : (500 : Int) < n ∨ (¬ (500 : Int) < n ∧ (500 : Int) < n2 ∧ (n2 : Int) < 65536) ∨ (¬ (500 : Int) < n ∧ (500 : Int) < n2 ∧ ¬ (n2 : Int) < 65536 ∧ (65540 : Int) < n2) := by omega
  clear h
  rcases hc with h1 | ⟨h1, h2, h3⟩ | ⟨h1, h2, h3, h4⟩
  all_goals
    go_enter Tryd.func3, Tryd.ntmps3
    go_wp2_with fail
    refine (law03_awake _ hT).mono ?_
    rintro e w1 ⟨rfl, hm⟩
    go_wp2
    go_ret
    exact ⟨rfl, hm⟩

theorem adds_zero (A A2 : Option Addr) (n c c2 : Nat) (w : World) (hT : Tab w) (h : n ≤ 500) :
    Calls Tryd.prog 3 #[.slice A n c, .slice A2 0 c2] w fun e w' => e = .returned (.bool true) ∧ Mod Non w w' := by
  have h1 : ¬ (500 : Int) < n := by omega
  go_enter Tryd.func3, Tryd.ntmps3
  go_wp2_with fail
  refine (frame_Add_no A A2 n c 0 c2 w (.inl rfl)).mono ?_
  rintro e w1 ⟨rfl, rfl⟩
  rw [show mayK ((0 : Nat) : Int) = 3 from rfl]
  go_wp2_with fail
  refine (frame_Len_no 0 w (.inl (by omega))).mono ?_
  rintro e w1 ⟨rfl, rfl⟩
  go_wp2_with fail
  refine (law03_awake _ hT).mono ?_
  rintro e w1 ⟨rfl, hm⟩
  go_wp2
  go_ret
  exact ⟨rfl, hm⟩

set_option maxRecDepth 100000 in
theorem adds_long (A A2 : Option Addr) (n c n2 c2 : Nat) (w : World) (hT : Tab w) (h : n ≤ 500) (h2 : 65536 < n2) (h3 : n2 ≤ 65540) :
    Calls Tryd.prog 3 #[.slice A n c, .slice A2 n2 c2] w fun e w' => e = .returned (.bool true) ∧ Mod Non w w' := by
  have h1 : ¬ (500 : Int) < n := by omega
  have h4 : ¬ (n2 : Int) < 65536 := by omega
  have h5 : ¬ (65540 : Int) < n2 := by omega
  have h6 : (65536 : Int) < n2 := by omega
  have h7 : ((n2 : Int) == 0) = false := by simp; omega
  have e1 : mayK (n2 : Int) = 2 := by unfold mayK; rw [if_neg (by omega), if_pos (by omega)]
  have H65 : Hid (65536 < n2) := h2
  have h8 : (500 : Int) < n2 := by omega
  clear h2 h3 h
  go_enter Tryd.func3, Tryd.ntmps3
  go_wp2_with fail
  refine (frame_Add_no A A2 n c n2 c2 w (.inr H65.out)).mono ?_
  rintro e w1 ⟨rfl, rfl⟩
  rw [e1]
  go_wp2_with fail
  refine (frame_Len_no n2 w (.inr (by have := H65.out; omega))).mono ?_
  rintro e w1 ⟨rfl, rfl⟩
  go_wp2_with fail
  refine (law03_awake _ hT).mono ?_
  rintro e w1 ⟨rfl, hm⟩
  go_wp2
  go_ret
  exact ⟨rfl, hm⟩

theorem OwnB.alloc {w : World} {B : Nat} {v : Value} {l : List UInt8} (h : OwnB w B v l) (o : Obj) : OwnB (w.alloc o) B v l := World.ownsRow.alloc h o
theorem OwnB.empty {w : World} {B x : Nat} (h : Blk w x 5 #[]) (hB : B ≤ x) : OwnB w B (.slice (some ⟨x, 0, none⟩) 0 0) [] :=
  ⟨rfl, .inr ⟨x, 0, #[], rfl, hB, h, Nat.le_refl _, by simp [maxLen], rfl, rfl⟩⟩

set_option maxRecDepth 100000 in
set_option maxHeartbeats 1000000 in
theorem adds_in (A A2 : Option Addr) (n c n2 c2 : Nat) (R R2 : Nat → Prop) (b l : List UInt8) (w : World) (hr : Reads w R 1 A n (vbs b)) (hr2 : Reads w R2 1 A2 n2 (vbs l)) (hT : Tab w) (h : n ≤ 500) (h2 : n2 ≤ 500 ∨ n2 = 65536) (h3 : 1 ≤ n2) :
    Calls Tryd.prog 3 #[.slice A n c, .slice A2 n2 c2] w fun e w' => e = .returned (.bool true) ∧ Mod Non w w' := by
  have hl := hr.1
  have hl2 := hr2.1
  rw [vbs_length, Nat.mul_one] at hl hl2
  have h9 := vbytes_nine (n := n2) (by omega)
  have HFL : Hid ((fbytes l).length = (vbytes n2).length + n2 + 4) := by show _ = _; rw [fbytes_length, hl2]
  have HBL := Lib.hid hl
  obtain ⟨q, HQ⟩ : ∃ q, Hid ((vbytes n2).length = q) := ⟨_, rfl⟩
  rw [HQ.out] at h9
  clear hl hl2
  have hlo : n2 ≤ 500 → ¬ (500 : Int) < n2 := by omega
  have h1 : ¬ (500 : Int) < n := by omega
  have h5 : ¬ (65540 : Int) < n2 := by omega
  have h6 : ¬ (65536 : Int) < n2 := by omega
  have h7 : ((n2 : Int) == 0) = false := by simp; omega
  have hcs : (¬ (500 : Int) < n2) ∨ ((500 : Int) < n2 ∧ ¬ (n2 : Int) < 65536) := by omega
  clear hlo h2
  have hb65 : n2 ≤ 65536 := by omega
  rcases hcs with hx | ⟨hx, hy⟩
  all_goals
    go_enter Tryd.func3, Tryd.ntmps3
    go_wp2_with fail
    refine (frame_Add_yes A A2 n c n2 c2 R R2 b l w hr hr2 h3 hb65 (by omega) hT).mono ?_
    rintro e w1 ⟨v1, rfl, hown1, hm1⟩
    obtain ⟨A1, m1, c1, rfl, hml, _⟩ := hown1.form
    have hm1q : m1 = n + (q + n2 + 4) := by rw [hml.out, List.length_append, HBL.out, HFL.out, HQ.out]
    have hm1m : m1 ≤ maxLen := by unfold maxLen; omega
    have HM := Lib.hid hm1q
    have hA1 : Hid (∀ g, (Value.slice A1 m1 c1).ownBlock = some g → g < w1.heap.size) := fun g hg => (World.ownsRow.lt hown1 g hg).2
    have hmn : (n : Int) ≤ m1 := by omega
    have hs01 := hm1.size
    clear hml hm1q
    go_wp2_with (at_builtin; refine wpList_append_bytes rfl (.tmp 71) (.tmp 72) rfl w1.heap.size (.slice (some ⟨w1.heap.size, 0, none⟩) 0 0) [] rfl (OwnB.empty (Blk.new w1 _ #[]) (Nat.le_refl _)) R A n c b rfl ((hr.mod hm1 (fun _ _ _ h => h)).alloc _) (by rw [HBL.out]; simp; omega) (by simp) ?_; intro v2 w2 hown2 hm2 _)
    have hN2 : Mod Non w w2 := hm1.trans' (((Mod.refl Non w1).alloc _).trans hm2 fun i hi h => by simp only [Value.ownBlock, Option.some.injEq] at h; omega)
    have hown1' : OwnB w2 w.heap.size (.slice A1 m1 c1) (b ++ fbytes l) := (hown1.alloc _).mod hm2 fun g hg h => by
      have := (World.ownsRow.lt hown1 g hg).2
      simp only [Value.ownBlock, Option.some.injEq] at h; omega
    have hs2 := hm2.size
    simp only [World.size_alloc] at hs2
    clear hown1 hm1 hm2
    go_wp2_with fail
    refine (ref03_Frame A2 n2 c2 R2 l w2 (hr2.mod hN2 fun _ _ _ h => h) (by omega)).mono ?_
    rintro e w3 ⟨v3, rfl, hown3, hm3⟩
    obtain ⟨A3, m3, c3, rfl, hm3l, _⟩ := hown3.form
    have hN3 := hN2.trans' hm3
    have hown1'' := hown1'.non hm3
    have hown2' := hown2.non hm3
    have hs3 := hm3.size
    clear hown1' hown2 hm3
    go_wp2_with (at_builtin; refine wpList_append_bytes rfl (.tmp 73) (.tmp 75) rfl w1.heap.size v2 _ rfl hown2' _ A3 m3 c3 (fbytes l) rfl hown3.reads (by rw [HFL.out, HQ.out, List.nil_append, HBL.out]; omega) (by omega) ?_; intro v4 w4 hown4 hm4 hfr)
    have hB2 : Hid (∀ g, v2.ownBlock = some g → w1.heap.size ≤ g) := fun g hg => (World.ownsRow.lt hown2' g hg).1
    have hx4 : OwnB w4 w.heap.size (.slice A1 m1 c1) (b ++ fbytes l) := hown1''.mod hm4 fun g hg h => by have := hA1.out g hg; have := hB2.out g h; omega
    have hN4 : Mod Non w w4 := hN3.trans hm4 fun i hi h => by have := hB2.out i h; omega
    obtain ⟨A4, m4, c4, rfl, _, _⟩ := hown4.form
    clear hown1'' hown2' hm4 hfr hown3
    go_wp2_with fail
    refine (ref_Same A1 A4 m1 m4 c1 c4 _ _ (b ++ fbytes l) ([] ++ b ++ fbytes l) w4 hx4.reads hown4.reads hm1m).mono ?_
    rintro e w5 ⟨rfl, hm5⟩
    rw [sameB_yes (by simp)]
    have hN5 := hN4.trans' hm5
    have hT5 := hT.non hN5
    clear hx4 hown4 hm5
    go_wp2_with fail
    refine (frame_Len_yes n2 w5 h3 hb65).mono ?_
    rintro e w6 ⟨rfl, rfl⟩
    rw [HQ.out]
    have e7 : wrap64 ((m1 : Int) - (n : Int)) = (q : Int) + (n2 : Int) + 4 := by have := HM.out; unfold wrap64; omega
    go_wp2_with fail
    refine (law03_awake _ hT5).mono ?_
    rintro e w7 ⟨rfl, hm7⟩
    go_wp2
    go_ret
    exact ⟨rfl, hN5.trans' hm7⟩
end Go.Proofs.YtlkifobajdafpaaDoor
