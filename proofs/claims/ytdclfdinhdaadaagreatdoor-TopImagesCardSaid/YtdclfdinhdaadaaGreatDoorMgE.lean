/- slices.Insert at numbers: the contract. -/
import Derived.Test.YtdclfdinhdaadaaGreatDoorRowOpsG
import Derived.Test.YtdclfdinhdaadaaGreatDoorMgW
import Derived.Test.YtdclfdinhdaadaaGreatDoorMgR
import Derived.Test.YtdclfdinhdaadaaGreatDoorPairSetG
namespace Go.Proofs.YtdclfdinhdaadaaGreatDoor
open Go.RowKit

/-- a number's cell -/
abbrev icell (x : Int) : List Value := [.int .i64 x]
theorem icell_one (x : Int) : ∀ u ∈ icell x, u.oneCell' = true := by
  intro u hu
  simp only [icell, List.mem_cons, List.not_mem_nil, or_false] at hu
  rw [hu]; rfl

set_option maxRecDepth 100000 in
set_option maxHeartbeats 2000000 in
theorem insert_I_end (v : Value) (l : List Int) (x : Int) (vb B : Nat) (w : World) (hown : OwnI w B v l) (hvb : Blk w vb 3 (icell x).toArray) (hl : l.length ≤ 1000) (hB : B ≤ w.heap.size) :
    Calls Tryz.prog 162 #[v, .int .i64 l.length, .slice (some ⟨vb, 0, none⟩) 1 1] w fun e w' => ∃ v', e = .returned v' ∧ OwnI w' B v' (l ++ [x]) ∧ Mod (fun k => v.ownBlock = some k) w w' := by
  have hrd : Reads w (fun _ => True) 1 (some ⟨vb, 0, none⟩) 1 (vis [x]) := hvb.reads rfl
  have hl1 : l.length + [x].length ≤ 1000000 := by simp; omega
  have hf := hown.2
  obtain ⟨k, hk⟩ : ∃ k, k = l.length := ⟨_, rfl⟩
  rw [← hk] at hf ⊢
  rcases hf with ⟨h3, h4⟩ | ⟨g, c, cur, hv, h5, _, hkc, h6, _⟩
  · subst h3 h4
    clear hk
    go_enter Tryz.func162, Tryz.ntmps162
    go_wp2_with (at_builtin; refine wpList_append_vis rfl (.tmp 23) (.tmp 24) rfl B _ l rfl hown (fun _ => True) _ 1 1 [x] rfl hrd hl1 hB ?_; intro v' w' h1 h2)
    go_ret
    exact ⟨_, rfl, h1, h2⟩
  · subst hv
    clear hk
    by_cases hck : c = k
    · subst hck
      go_enter Tryz.func162, Tryz.ntmps162
      go_wp2_with (at_builtin; refine wpList_append_vis rfl (.tmp 23) (.tmp 24) rfl B _ l rfl hown (fun _ => True) _ 1 1 [x] rfl hrd hl1 hB ?_; intro v' w' h1 h2)
      go_ret
      exact ⟨_, rfl, h1, h2⟩
    · have hck2 : k < c := by omega
      go_enter Tryz.func162, Tryz.ntmps162
      go_wp2_with (at_builtin; refine wpList_append_vis rfl (.tmp 23) (.tmp 24) rfl B _ l rfl hown (fun _ => True) _ 1 1 [x] rfl hrd hl1 hB ?_; intro v' w' h1 h2)
      go_ret
      exact ⟨_, rfl, h1, h2⟩

theorem int_sz : (Tryz.prog.info? 3).map (·.size) = some 1 := by
  obtain ⟨i0, hi, _, hz1, _⟩ := info_parts int_info
  rw [hi]; simp [hz1]
theorem vis_take (l : List Int) (i : Nat) : (vis l).take i = vis (l.take i) := by simp [vis]
theorem vis_drop (l : List Int) (i : Nat) : (vis l).drop i = vis (l.drop i) := by simp [vis]
theorem vis_append (a b : List Int) : vis (a ++ b) = vis a ++ vis b := by simp [vis]

theorem run_Insert_I_apart (w : World) (vb g o lb cb : Nat) (x : Int) (cur : List Value) (hne : vb ≠ g) (hvb : Blk w vb 3 (icell x).toArray) (hb : Blk w g 3 cur.toArray) (hc : cur.length ≠ 0) :
    (callFunc 174 #[.slice (some ⟨vb, 0, none⟩) 1 1, .slice (some ⟨g, o, none⟩) lb cb]).run Tryz.prog w = .ok (.value (.bool false)) w := by
  rw [run_callFunc_extern Tryz.func174 (by kernel_rfl) (by kernel_rfl) (by kernel_rfl) (e := Extern.SlicesOverlaps.overlaps #[50, 50] #[4]) (by kernel_rfl),
    Lib.run_overlaps_apart w 50 4 3 Tryz.underlying50 1 (fun w => by obtain ⟨i0, hi, _, hz1, _⟩ := info_parts int_info; simp [sizeOf, typeInfo, hi, hz1]) ⟨vb, 0, none⟩ ⟨g, o, none⟩ 1 1 lb cb hne _ _ _ _ (shape_blk hvb) (shape_blk hb) (by simpa using hc) (hvb.frozen _) (hvb.frozen _)]
  rfl

set_option maxRecDepth 100000 in
set_option maxHeartbeats 2000000 in
theorem insert_I_room (l : List Int) (x : Int) (i k c g vb B : Nat) (w : World) (hown : OwnI w B (.slice (some ⟨g, 0, none⟩) k c) l) (hk : k = l.length) (hvb : Blk w vb 3 (icell x).toArray) (hne : vb ≠ g) (hl : l.length ≤ 1000) (hi : i < k) (hkc : k + 1 ≤ c) :
    Calls Tryz.prog 162 #[.slice (some ⟨g, 0, none⟩) k c, .int .i64 i, .slice (some ⟨vb, 0, none⟩) 1 1] w fun e w' => ∃ v', e = .returned v' ∧ OwnI w' B v' (l.take i ++ x :: l.drop i) ∧ Mod (One g) w w' := by
  obtain ⟨g', c', cur, hv, hB, hb, hkc', hcm, hcl, ht⟩ := own_blk hown (by omega)
  simp only [Nat.mul_one] at hcl ht
  injection hv with e1 e2 e3
  injection e1 with e1
  injection e1 with e1 _ _
  subst e1 e3
  have hov := fun lb cb => run_Insert_I_apart w vb g ((i + 1)) lb cb x cur hne hvb hb (by omega)
  have hc63 : c ≤ 9223372036854775807 := by unfold maxLen at hcm; omega
  have hz2 : ¬ ((i : Int) = (k : Int)) := by omega
  have hin : i ≤ k := by omega
  have hb2 : ¬ (c = i + 1) := by omega
  have hb4 : ¬ (c = i) := by omega
  have hmin : Hid (Nat.min (k + 1 - i) (k + 1 - (i + 1)) = k - i) := by
    show Nat.min (k + 1 - i) (k + 1 - (i + 1)) = k - i
    simp only [Nat.min_def]; split <;> omega
  obtain ⟨D, hD⟩ : ∃ D, D = vis (l.drop i) := ⟨_, rfl⟩
  have hDl : D.length = (k - i) := by rw [hD, vis_length, List.length_drop, hk]
  have hrd : Hid (Reads w (fun b => b = g) 1 (some ⟨g, i, none⟩) (k - i) D) := hb.readsAt (by omega) (fun j u hu => by
    rw [hD, ← vis_drop, List.getElem?_drop] at hu
    have hlt := (List.getElem?_eq_some_iff.1 hu).1
    rw [← ht, List.getElem?_take] at hu
    split at hu
    · exact hu
    · cases hu)
  have h1D : Hid (∀ u ∈ D, u.oneCell' = true) := by rw [hD]; exact vis_one _
  have hfit : Hid ((i + 1) + D.length ≤ cur.length) := by
    show (i + 1) + D.length ≤ cur.length
    omega
  have hfit1' : Hid (i + (icell x).length ≤ cur.length) := by
    show i + 1 ≤ cur.length
    omega
  have hfit1 : Hid (i + (icell x).toArray.toList.length ≤ (splice cur ((i + 1)) D).length) := by
    show i + 1 ≤ (splice cur ((i + 1)) D).length
    rw [length_splice _ _ _ hfit.out]
    omega
  have hmin1 : Hid (Nat.min 1 (k + 1 - i) = 1) := by
    show Nat.min 1 (k + 1 - i) = 1
    simp only [Nat.min_def]; split <;> omega
  have HD : Hid (D = vis (l.drop i) ∧ D.length = (k - i)) := ⟨hD, hDl⟩
  have hw1 : IntKind.i64.wrap ((i : Int) + 1) = (i : Int) + 1 := by rw [IntKind.wrap_i64]; omega
  have hb1 : (0 : Int) ≤ (i : Int) + 1 := by omega
  have htn : ((i : Int) + 1).toNat = i + 1 := by omega
  have hb3 : (i : Int) ≤ (k : Int) + 1 := by omega
  have HK := Lib.hid hk
  have HT := Lib.hid ht
  clear hk e2 hkc' ht hown hl hD hDl
  go_enter Tryz.func162, Tryz.ntmps162
  go_wp2_with fail
  go_region_law (refine step_copy_at rfl (.tmp 73) (.tmp 76) 50 50 rfl 1 (k + 1 - (i + 1)) (c - (i + 1)) (k + 1 - i) (c - i) (k - i) Tryz.underlying50 int_sz hmin.out (by omega) (some ⟨g, i, none⟩) (fun b => b = g) (by simp [Act.eval, Act.put]) (by simp [Act.eval, Act.put]) hb hrd.out h1D.out hfit.out ?_; intro w1 hb1 hm1)
  all_goals
    have hm1' := hm1.undrew
    have hvb1 := hvb.mod hm1' (fun h => hne h)
    have hrv := hvb1.reads (size := 1) rfl
    go_wp2_with (with_reducible (show wpList _ _ _ (⟨some 82, _, _, _, _, _⟩ :: _) _ _); refine wpList_copy_at rfl (.tmp 80) (.tmp 81) 50 50 rfl 1 (k + 1 - i) (c - i) 1 1 1 Tryz.underlying50 int_sz hmin1.out (by omega) (some ⟨vb, 0, none⟩) (fun _ => True) (by simp [Act.eval]) (by simp [Act.eval]) hb1.out hrv (icell_one x) hfit1.out ?_; intro w2 hb2 hm2)
    go_ret
    refine ⟨_, rfl, ?_, hm1'.trans' hm2⟩
    have e1 := splice_ins1 cur (icell x) D i 1 rfl (by have := hfit.out; omega)
    have e2 : i + 1 = (i + 1) := by omega
    have e3 : i + 1 + D.length = (k + 1) := by rw [HD.out.2]; omega
    rw [e3, e2] at e1
    have e4 : (l.take i ++ x :: l.drop i).length = k + 1 := by have := HK.out; simp; omega
    unfold OwnI
    rw [e4]
    refine own_of_blk hb2.out hB hkc hcm ?_ (by rw [vis_length, e4, Nat.mul_one]) ?_
    · rw [length_splice, length_splice, hcl, Nat.mul_one]
      · exact hfit.out
      · rw [length_splice _ _ _ hfit.out]; exact hfit1'.out
    · rw [Nat.mul_one, e1, HD.out.1, vis_append]
      have e5 : cur.take i = vis (l.take i) := by
        rw [← vis_take, ← HT.out, List.take_take, Nat.min_eq_left]
        have := HK.out
        omega
      rw [e5]
      rfl

set_option maxRecDepth 100000 in
set_option maxHeartbeats 4000000 in
theorem insert_I_grow (l : List Int) (x : Int) (i k c g vb B : Nat) (w : World) (hown : OwnI w B (.slice (some ⟨g, 0, none⟩) k c) l) (hk : k = l.length) (hvb : Blk w vb 3 (icell x).toArray) (hl : l.length ≤ 1000) (hi : i < k) (hkc : c < k + 1) (hBw : B ≤ w.heap.size) :
    Calls Tryz.prog 162 #[.slice (some ⟨g, 0, none⟩) k c, .int .i64 i, .slice (some ⟨vb, 0, none⟩) 1 1] w fun e w' => ∃ v', e = .returned v' ∧ OwnI w' B v' (l.take i ++ x :: l.drop i) ∧ Mod Non w w' := by
  obtain ⟨g', c', cur, hv, hB, hb, hkc', hcm, hcl, ht⟩ := own_blk hown (by omega)
  simp only [Nat.mul_one] at hcl ht
  injection hv with e1 e2 e3
  injection e1 with e1
  injection e1 with e1 _ _
  subst e1 e3
  obtain ⟨i0, hi0, hz0, hzs, hzb⟩ := info_parts int_info
  have hck : c = k := by omega
  subst hck
  obtain ⟨D, hD⟩ : ∃ D, D = vis (l.drop i) := ⟨_, rfl⟩
  have hDl : D.length = (c - i) := by rw [hD, vis_length, List.length_drop, hk]
  have hkk : (c : Int) + 1 - (i : Int) = ((c + 1 - i : Nat) : Int) := by omega
  have hik : i + (c + 1 - i) = c + 1 := by omega
  have hcut : cur.take i = vis (l.take i) := by
    rw [← vis_take, ← ht, List.take_take, Nat.min_eq_left]
    omega
  have hold : (Builtin.firstCells i0.size i (.slice (some ⟨g, 0, none⟩) i c)).run Tryz.prog w.drew = .ok (vis (l.take i)).toArray w.drew := by
    rw [hzs]
    exact run_firstCells_some w.drew 1 i ⟨g, 0, none⟩ i c (vis (l.take i)) (by rw [vis_length, List.length_take]; omega) (fun j v hj => by
      rw [Addr.add_lit, ← hcut, List.getElem?_take] at *
      split at hj
      · show w.cell? _ = _
        rw [hb.cell]
        simpa using hj
      · cases hj)
  obtain ⟨G, hG⟩ : ∃ G, G = grownCap w (c + 1) c 3 := ⟨_, rfl⟩
  have hGn : c + 1 ≤ G := by rw [hG]; exact grownCap_ge w _ _ _
  have hGm : G ≤ maxLen := by rw [hG]; exact grownCap_le_maxLen w (c + 1) c _ (by unfold maxLen; omega)
  obtain ⟨ROW, hROW⟩ : ∃ ROW : List Value, ROW = ((vis (l.take i)).toArray ++ Builtin.zeroCells (Value.int .i64 0).cells (c + 1 - i) ++ Builtin.zeroCells (Value.int .i64 0).cells (G - (c + 1))).toList := ⟨_, rfl⟩
  have hrz : ∀ ty, (Builtin.append_ #[50, 3] ty #[.slice (some ⟨g, 0, none⟩) i c, .int .i64 ((c : Int) + 1 - (i : Int))]).run Tryz.prog w =
      .ok (.slice (some ⟨w.heap.size, 0, none⟩) (c + 1) G) (w.drew.alloc (.cells ROW.toArray 3)) := fun ty => by
    have h := Lib.run_append_grow_zeros w 50 3 ty 3 i0 _ .i64 .i64 Tryz.underlying50 Tryz.underlying3 hi0 hz0 (some ⟨g, 0, none⟩) i c (vis (l.take i)) hold (c + 1 - i) (by omega) (by omega) (by omega) (by omega) (by rw [hzb]; omega) (by rw [hzb, hik]; exact growslice_fits hkc (by omega))
    rw [hik, ← hG] at h
    rw [hkk, hROW, Array.toArray_toList]
    exact h
  have hRl : ROW.length = G := by
    rw [hROW]
    simp [Builtin.zeroCells, Value.cells, vis_length, List.length_take]
    omega
  have hRt : ROW.take i = vis (l.take i) := by
    rw [hROW]
    have : (vis (l.take i)).length = i := by rw [vis_length, List.length_take]; omega
    obtain ⟨V, hV⟩ : ∃ V, V = vis (l.take i) := ⟨_, rfl⟩
    rw [← hV] at this ⊢
    simp [← this]
  obtain ⟨W1, hW1⟩ : ∃ W1, W1 = w.drew.alloc (.cells ROW.toArray 3) := ⟨_, rfl⟩
  obtain ⟨g2, hg2⟩ : ∃ g2, g2 = w.heap.size := ⟨_, rfl⟩
  have hb2 : Blk W1 g2 3 ROW.toArray := by rw [hW1, hg2]; exact Blk.new w.drew _ _
  have hm1 : Mod Non w W1 := by rw [hW1]; exact ((Mod.refl Non w).drew).alloc _
  rw [← hW1, ← hg2] at hrz
  have hvb1 := hvb.mod hm1 (fun h => h)
  have hb1 := hb.mod hm1 (fun h => h)
  have hne : g ≠ g2 := by have := hb.lt; omega
  have hg2' : w.heap.size ≤ g2 := by omega
  have hnv : vb ≠ g2 := by have := hvb.lt; omega
  have hrv := hvb1.reads (size := 1) rfl
  have hc63 : c ≤ 9223372036854775807 := by unfold maxLen at hcm; omega
  have hc6 : c ≤ 100000 := by omega
  have hG63 : G ≤ 9223372036854775807 := by unfold maxLen at hGm; omega
  have hz2 : ¬ ((i : Int) = (c : Int)) := by omega
  have hin : i ≤ c := by omega
  have hb4 : ¬ (c = i) := by omega
  have hGi : ¬ (G = i) := by omega
  have hGi1 : ¬ (G = i + 1) := by omega
  have hfit0 : Hid (i + (icell x).toArray.toList.length ≤ ROW.length) := by
    show i + 1 ≤ ROW.length
    omega
  have hfit1 : Hid ((i + 1) + D.length ≤ (splice ROW i (icell x)).length) := by
    show (i + 1) + D.length ≤ (splice ROW i (icell x)).length
    rw [length_splice _ _ _ hfit0.out]
    omega
  have hmin0 : Hid (Nat.min 1 (c + 1 - i) = 1) := by
    show Nat.min 1 (c + 1 - i) = 1
    simp only [Nat.min_def]; split <;> omega
  have hmin1 : Hid (Nat.min (c - i) (c + 1 - (i + 1)) = c - i) := by
    show Nat.min (c - i) (c + 1 - (i + 1)) = c - i
    simp only [Nat.min_def]; split <;> omega
  have hrd : Hid (Reads W1 (fun b => b = g) 1 (some ⟨g, i, none⟩) (c - i) D) := hb1.readsAt (by omega) (fun j u hu => by
    rw [hD, ← vis_drop, List.getElem?_drop] at hu
    rw [← ht, List.getElem?_take] at hu
    split at hu
    · exact hu
    · cases hu)
  have h1D : Hid (∀ u ∈ D, u.oneCell' = true) := by rw [hD]; exact vis_one _
  have HD : Hid (D = vis (l.drop i) ∧ D.length = (c - i)) := ⟨hD, hDl⟩
  have HG : Hid (c + 1 ≤ G ∧ G ≤ maxLen ∧ ROW.length = G ∧ ROW.take i = vis (l.take i) ∧ B ≤ g2) := ⟨hGn, hGm, hRl, hRt, by omega⟩
  have HK := Lib.hid hk
  have hw1 : IntKind.i64.wrap ((i : Int) + 1) = (i : Int) + 1 := by rw [IntKind.wrap_i64]; omega
  have hw0 : (0 : Int) ≤ (i : Int) + 1 := by omega
  have htn : ((i : Int) + 1).toNat = i + 1 := by omega
  have hin1 : (i : Int) ≤ (c : Int) := by omega
  clear hW1 hg2 hROW hG hGn hGm hRl hRt hold hcut hD hDl hk e2 hkc' ht hown hl hkk hik hBw
  go_enter Tryz.func162, Tryz.ntmps162
  go_wp2_with (first
    | (at_builtin; refine Lib.wpList_append_run _ rfl (.tmp 34) (.tmp 39) _ _ rfl _ _ (by simp [Act.eval]; try rfl) (by simp [Act.eval]; try rfl) _ _ (hrz _) ?_)
    | (with_reducible (show wpList _ _ _ (⟨some 45, _, _, _, _, _⟩ :: _) _ _); refine wpList_copy_at rfl (.tmp 43) (.tmp 44) 50 50 rfl 1 (c + 1 - i) (G - i) 1 1 1 Tryz.underlying50 int_sz hmin0.out (by omega) (some ⟨vb, 0, none⟩) (fun _ => True) (by simp [Act.eval]) (by simp [Act.eval]) hb2 hrv (icell_one x) hfit0.out ?_; intro w2 hb3 hm2))
  have hb3' := hb3.out
  have hrd2 := hrd.out.mod hm2 (fun _ _ h h' => hne (h.symm.trans h'))
  go_region_law (refine step_copy_at rfl (.tmp 50) (.tmp 53) 50 50 rfl 1 (c + 1 - (i + 1)) (G - (i + 1)) (c - i) (c - i) (c - i) Tryz.underlying50 int_sz hmin1.out (by omega) (some ⟨g, i, none⟩) (fun b => b = g) (by simp [Act.eval, Act.put]) (by simp [Act.eval, Act.put]) hb3' hrd2 h1D.out hfit1.out ?_; intro w3 hb4 hm3)
  all_goals
    go_wp2
    go_ret
    have hm12 := hm1.trans hm2 (T := One g2) (fun j hj h' => (Nat.ne_of_lt (Nat.lt_of_lt_of_le hj hg2') h').elim)
    refine ⟨_, rfl, ?_, hm12.trans hm3.undrew (fun j hj h' => (Nat.ne_of_lt (Nat.lt_of_lt_of_le hj hg2') h').elim)⟩
    obtain ⟨k1, k2, k3, k4, k5⟩ := HG.out
    have e1 := splice_ins2 ROW (icell x) D i 1 rfl (by have := HD.out.2; omega)
    have e2 : i + 1 = (i + 1) := by omega
    have e3 : i + 1 + D.length = (c + 1) := by rw [HD.out.2]; omega
    rw [e3, e2] at e1
    have e4 : (l.take i ++ x :: l.drop i).length = c + 1 := by have := HK.out; simp; omega
    unfold OwnI
    rw [e4]
    refine own_of_blk hb4.out k5 k1 k2 ?_ (by rw [vis_length, e4, Nat.mul_one]) ?_
    · rw [length_splice, length_splice, k3, Nat.mul_one]
      · exact hfit0.out
      · exact hfit1.out
    · rw [Nat.mul_one, e1, HD.out.1, vis_append, k4]
      rfl

/-- slices.Insert of one pair that lies in a block of its own. -/
theorem insert_I (v : Value) (l : List Int) (x : Int) (i vb B : Nat) (w : World) (hown : OwnI w B v l) (hvb : Blk w vb 3 (icell x).toArray) (hne : v.ownBlock ≠ some vb) (hi : i ≤ l.length) (hl : l.length ≤ 1000) (hB : B ≤ w.heap.size) :
    Calls Tryz.prog 162 #[v, .int .i64 i, .slice (some ⟨vb, 0, none⟩) 1 1] w fun e w' => ∃ v', e = .returned v' ∧ OwnI w' B v' (l.take i ++ x :: l.drop i) ∧ Mod (fun k => v.ownBlock = some k) w w' := by
  by_cases hin : i = l.length
  · subst hin
    have := insert_I_end v l x vb B w hown hvb hl hB
    simpa using this
  · obtain ⟨g, c, cur, rfl, _, hb, hnc, _⟩ := own_blk hown (by omega)
    have hg : vb ≠ g := fun h => hne (by rw [h]; rfl)
    by_cases hroom : l.length + 1 ≤ c
    · refine (insert_I_room l x i l.length c g vb B w hown rfl hvb hg hl (by omega) hroom).mono ?_
      rintro e w' ⟨v', h1, h2, h3⟩
      exact ⟨v', h1, h2, h3.mono fun k _ hk => by rw [show k = g from hk]; rfl⟩
    · refine (insert_I_grow l x i l.length c g vb B w hown rfl hvb hl (by omega) (by omega) hB).mono ?_
      rintro e w' ⟨v', h1, h2, h3⟩
      exact ⟨v', h1, h2, h3.non⟩
end Go.Proofs.YtdclfdinhdaadaaGreatDoor

/- slices.Delete of one number. -/
namespace Go.Proofs.YtdclfdinhdaadaaGreatDoor
open Go.RowKit

set_option maxRecDepth 100000 in
set_option maxHeartbeats 4000000 in
theorem delete_I (l : List Int) (i k c g B : Nat) (w : World) (hown : OwnI w B (.slice (some ⟨g, 0, none⟩) k c) l) (hk : k = l.length) (hl : l.length ≤ 1000) (hi : i < k) :
    Calls Tryz.prog 163 #[.slice (some ⟨g, 0, none⟩) k c, .int .i64 i, .int .i64 (i + 1)] w fun e w' => ∃ v', e = .returned v' ∧ OwnI w' B v' (l.take i ++ l.drop (i + 1)) ∧ Mod (One g) w w' := by
  obtain ⟨g', c', cur, hv, hB, hb, hkc', hcm, hcl, ht⟩ := own_blk hown (by omega)
  simp only [Nat.mul_one] at hcl ht
  injection hv with e1 e2 e3
  injection e1 with e1
  injection e1 with e1 _ _
  subst e1 e3
  obtain ⟨i0, hi0, hz0, hzs, hzb⟩ := info_parts int_info
  have hkc : k ≤ c := by omega
  obtain ⟨D, hD⟩ : ∃ D, D = vis (l.drop (i + 1)) := ⟨_, rfl⟩
  have hDl : D.length = (k - (i + 1)) := by rw [hD, vis_length, List.length_drop, hk]
  have h1D : Hid (∀ u ∈ D, u.oneCell' = true) := by rw [hD]; exact vis_one _
  have hfit : Hid (i + D.length ≤ cur.length) := by
    show i + D.length ≤ cur.length
    omega
  obtain ⟨A, hA, hrd⟩ : ∃ A : Option Addr, A = (if c = i + 1 then some ⟨g, 0, none⟩ else some ⟨g, (i + 1), none⟩) ∧ Hid (Reads w (fun b => b = g) 1 A (k - (i + 1)) D) := by
    refine ⟨_, rfl, ?_⟩
    by_cases h : c = i + 1
    · have h0 : k - (i + 1) = 0 := by omega
      have h1 : D = [] := List.eq_nil_of_length_eq_zero (by rw [hDl]; omega)
      rw [h0, h1]
      exact ⟨by simp, fun h => absurd h (by omega)⟩
    · rw [if_neg h]
      exact hb.readsAt (by omega) (fun j u hu => by
        rw [hD, ← vis_drop, List.getElem?_drop, ← ht, List.getElem?_take] at hu
        split at hu
        · exact hu
        · cases hu)
  have hAn : A ≠ none := by rw [hA]; split <;> simp
  obtain ⟨Z, hZ⟩ : ∃ Z, Z = (Builtin.zeroCells (Value.int .i64 0).cells 1).toList := ⟨_, rfl⟩
  have hZe : Z = [.int .i64 0] := by rw [hZ]; kernel_rfl
  have hZl : Z.length = 1 := by rw [hZe]; rfl
  have hZ1 : Hid (∀ u ∈ Z, u.oneCell' = true) := by
    rw [hZe]
    intro u hu
    simp only [List.mem_cons, List.not_mem_nil, or_false] at hu
    rw [hu]; rfl
  have hZ2 := Lib.hid hZ
  have hfit2 : Hid ((i + D.length) + Z.length ≤ (splice cur i D).length) := by
    show (i + D.length) + Z.length ≤ (splice cur i D).length
    rw [length_splice _ _ _ hfit.out]
    omega
  obtain ⟨k1, hk1⟩ : ∃ k1, k1 = k - 1 := ⟨_, rfl⟩
  have hoffe : i + (k - (i + 1)) = k1 := by omega
  have hoff : Hid (k1 = i + D.length) := by
    show k1 = i + D.length
    rw [hDl]; omega
  have hkk : k - k1 = 1 := by omega
  have hr2 : (k1 : Int) ≤ (k : Int) := by omega
  have hr3 : k1 ≤ k := by omega
  have hr4 : ¬ (c = k1) := by omega
  have hr5 : k1 ≤ c := by omega
  have HK1 := Lib.hid hk1
  clear hk1
  have HD : Hid (D = vis (l.drop (i + 1)) ∧ D.length = (k - (i + 1))) := ⟨hD, hDl⟩
  have HK := Lib.hid hk
  have HT := Lib.hid ht
  have hik : i ≤ c := by omega
  have hik1 : i + 1 ≤ c := by omega
  have hik2 : i + 1 ≤ k := by omega
  have hr0 : (0 : Int) ≤ (i : Int) + 1 := by omega
  have hr1 : (i : Int) + 1 ≤ (k : Int) := by omega
  clear hk e2 hkc' ht hown hl hD hDl hZ hZe
  clear hZl
  go_enter Tryz.func163, Tryz.ntmps163
  go_wp2_with fail
  go_region_law (refine step_append_at (off := i) rfl (.tmp 22) (.tmp 25) 50 rfl i0 1 i c (k - (i + 1)) (c - (i + 1)) Tryz.underlying50 hi0 hzs A (fun b => b = g) hAn (by simp [Act.eval, Act.put]) (by simp [Act.eval, Act.put, hA]) hb hrd.out h1D.out (by omega) (by omega) hfit.out ?_; intro w1 hb1 hm1)
  all_goals
    rw [hoff.out.symm] at hfit2
    go_wp2_with (with_reducible (show wpList _ _ _ (⟨none, _, _, _, _, _⟩ :: _) _ _); refine wpList_clear_at rfl (.tmp 31) 50 rfl _ 1 (c - k1) Tryz.underlying50 Tryz.zeroValue3 (by omega) hZ2.out (by simp [Act.eval]) hb1.out hZ1.out hfit2.out ?_; intro w2 hb2 hm2)
  all_goals
    go_ret
    refine ⟨_, rfl, ?_, hm1.undrew.trans' hm2⟩
    have hb2' := hb2.out
    rw [hoff.out] at hb2' hfit2
    have e1 := splice_del cur D i Z (by have := hfit2.out; rw [length_splice _ _ _ hfit.out] at this; omega)
    rw [← hoff.out] at e1
    have e4 : (l.take i ++ l.drop (i + 1)).length = k1 := by have := HK.out; have := HK1.out; simp; omega
    unfold OwnI
    rw [e4]
    refine own_of_blk (cur := splice (splice cur i D) (i + D.length) Z) hb2' hB (by omega) (by first | exact hcm | omega) ?_ (by rw [vis_length, e4, Nat.mul_one]) ?_
    · rw [length_splice _ _ _ hfit2.out, length_splice _ _ _ hfit.out]; omega
    · rw [Nat.mul_one, ← hoff.out, e1, HD.out.1, vis_append]
      have e5 : cur.take i = vis (l.take i) := by
        rw [← vis_take, ← HT.out, List.take_take, Nat.min_eq_left]
        have := HK.out
        omega
      rw [e5]
end Go.Proofs.YtdclfdinhdaadaaGreatDoor

/- Package conf: the contract of place. -/
namespace Go.Proofs.YtdclfdinhdaadaaGreatDoor
open Go.RowKit

/-- the place of the conf at an index, among the first k; -1: there is none -/
def lastLe (cs : List Cf) (ix : Int) : Nat → Int
  | 0 => -1
  | k + 1 => if (match cs[k]? with | some c => c.from_ | none => 0) ≤ ix then (k : Int) else lastLe cs ix k
theorem lastLe_step {cs : List Cf} {k : Nat} {c : Cf} (ix : Int) (h : cs[k]? = some c) : lastLe cs ix (k + 1) = if c.from_ ≤ ix then (k : Int) else lastLe cs ix k := by
  rw [lastLe, h]
theorem lastLe_lt (cs : List Cf) (ix : Int) (k : Nat) : lastLe cs ix k < (k : Int) := by
  induction k with
  | zero => simp [lastLe]
  | succ k ih => rw [lastLe]; split <;> omega

set_option maxRecDepth 100000 in
set_option maxHeartbeats 4000000 in
theorem conf_place (A : Option Addr) (n c : Nat) (R : Nat → Prop) (cs : List Cf) (ix : Int) (w : World) (hr : Confs w R A n cs) (hn : n ≤ 100000) :
    Calls Tryz.prog 99 #[.slice A n c, .int .i64 ix] w fun e w' => e = .returned (.int .i64 (lastLe cs ix n)) ∧ Mod Non w w' := by
  go_enter Tryz.func99, Tryz.ntmps99
  go_wp2
  go_loopw [5, 10] (fun a i wr => ∃ (k : Nat), k ≤ n ∧ i = .int .i64 k ∧ a = .int .i64 (lastLe cs ix k) ∧ Mod Non w wr) (fun _ i _ => n - (intOf i).toNat)
  case atStart => exact ⟨0, by omega, rfl, rfl, Mod.refl _ _⟩
  case round =>
    obtain ⟨k, hk, rfl, rfl, hm⟩ := hrel
    by_cases hlt : k < n
    · obtain ⟨b, off, x, A', n', c', hA, hbk, _, hxk, d0, d1, _⟩ := (hr.non hm).at_ hlt
      subst hA
      have hkn : (k : Int) < n := by omega
      obtain ⟨cf, hcf⟩ : ∃ cf, cf = x.from_ := ⟨_, rfl⟩
      have HST : Hid (lastLe cs ix (k + 1) = if cf ≤ ix then (k : Int) else lastLe cs ix k) := by rw [hcf]; exact lastLe_step ix hxk
      rw [← hcf] at d0
      obtain ⟨q, hq⟩ : ∃ q, q = lastLe cs ix k := ⟨_, rfl⟩
      rw [← hq] at HST ⊢
      have HM := Lib.hid hm
      clear hxk hcf hm hq
      by_cases hle : cf ≤ ix
      · have HS2 : Hid (lastLe cs ix (k + 1) = (k : Int)) := by show _ = _; rw [HST.out, if_pos hle]
        go_wp2
        go_roundw
        case rel => exact ⟨k + 1, by omega, by go_num, by rw [HS2.out], HM.out.alloc _⟩
        case measure => simp [intOf]; omega
      · have HS2 : Hid (lastLe cs ix (k + 1) = q) := by show _ = _; rw [HST.out, if_neg hle]
        go_wp2
        go_roundw
        case rel => exact ⟨k + 1, by omega, by go_num, by rw [HS2.out], HM.out.alloc _⟩
        case measure => simp [intOf]; omega
    · have hkn : ¬ (k : Int) < n := by omega
      have hkk : k = n := by omega
      subst hkk
      obtain ⟨q, hq⟩ : ∃ q, q = lastLe cs ix k := ⟨_, rfl⟩
      rw [← hq]
      have HQ := Lib.hid hq
      clear hq
      go_wp2
      go_ret
      exact ⟨by rw [← HQ.out]; rfl, hm⟩
end Go.Proofs.YtdclfdinhdaadaaGreatDoor

/- Rows of confs that the call itself made; what an append leaves; package conf: clone. -/
namespace Go.Proofs.YtdclfdinhdaadaaGreatDoor
open Go.RowKit

/-- the value v is a slice of confs that the call itself made; the members lie in other blocks of its own -/
def OwnC (w : World) (B : Nat) (v : Value) (cs : List Cf) : Prop :=
  ∃ vs, w.ownsRow B 90 2 v vs.length (vcs vs) ∧ CfsR w (fun k => B ≤ k ∧ v.ownBlock ≠ some k) vs cs
theorem Cv.info : (Tryz.prog.info? 90).map (fun i => (i.zero, i.size, i.bytes)) = some (some (Value.agg #[.int .i64 0, .slice none 0 0]), 2, 32) := by kernel_rfl
theorem vcs_one (l : List Cv) : ∀ u ∈ vcs l, u.oneCell' = true := by
  intro u hu
  obtain ⟨x, _, hx⟩ := List.mem_flatMap.1 hu
  simp only [Cv.cells, List.mem_cons, List.not_mem_nil, or_false] at hx
  rcases hx with rfl | rfl <;> rfl
section
variable {w w' : World} {B : Nat} {v : Value} {cs : List Cf} {S : Nat → Prop}
theorem OwnC.nil (w : World) (B : Nat) : OwnC w B (.slice none 0 0) [] := ⟨[], World.ownsRow_nil _ _ _ _, rfl, fun i v c h => by simp at h⟩
theorem OwnC.len (h : OwnC w B v cs) : ∃ A c, v = .slice A cs.length c ∧ cs.length ≤ c := by
  obtain ⟨vs, h1, h2⟩ := h
  have := h2.1
  rcases h1.2 with ⟨rfl, h0⟩ | ⟨g, cap, cur, rfl, _, _, hc, _⟩
  · exact ⟨none, 0, by rw [← this, h0], by omega⟩
  · exact ⟨_, cap, by rw [this], by omega⟩
theorem OwnC.confs {A : Option Addr} {n c : Nat} (h : OwnC w B (.slice A n c) cs) : Confs w (fun k => B ≤ k) A n cs := by
  obtain ⟨vs, h1, h2⟩ := h
  have hn : n = vs.length := by
    rcases h1.2 with ⟨e1, h0⟩ | ⟨g, cap, cur, e1, _⟩
    · injection e1 with _ e2 _; rw [e2, h0]
    · injection e1
  refine ⟨vs, ?_, h2.more fun k _ h => h.1⟩
  subst hn
  exact (Reads.of_own h1).more fun k _ hk => (World.ownsRow.lt h1 k hk.symm).1
theorem OwnC.non (h : OwnC w B v cs) (hm : Mod Non w w') : OwnC w' B v cs := by
  obtain ⟨vs, h1, h2⟩ := h
  exact ⟨vs, own_non h1 hm, h2.mod hm fun _ _ _ h => h⟩
theorem OwnC.lower (h : OwnC w B v cs) {B' : Nat} (hB : B' ≤ B) : OwnC w B' v cs := by
  obtain ⟨vs, h1, h2⟩ := h
  refine ⟨vs, ⟨h1.1, ?_⟩, h2.more fun k _ h => ⟨by have := h.1; omega, h.2⟩⟩
  rcases h1.2 with h3 | ⟨g, cap, cur, e, h4, h5⟩
  · exact .inl h3
  · exact .inr ⟨g, cap, cur, e, by omega, h5⟩
end

/-- 'append(s, c)' of one conf: it lies in a block of its own first. -/
theorem wpList_append_Cf {w : World} {ops : Array Oper} {rest : List Oper} {o : Oper} {a : Act} {Q : Exit → Act → World → Prop} (hgd : o.guard = none) (s x : Operand)
    (ho : o.op = .call { callee := .builtin .append, args := #[s, x], argTypes := #[51, 51] })
    (B : Nat) (v : Value) (cs : List Cf) (hs : a.eval s = v) (hown : OwnC w B v cs) (c : Cf) (A' : Option Addr) (n' c' : Nat) (hmem : Reads w (fun k => B ≤ k ∧ v.ownBlock ≠ some k) 1 A' n' (vis c.mem)) (H : Nat) (hH : w.heap.size = H) (hx : a.eval x = .slice (some ⟨H, 0, none⟩) 1 1)
    (hlen : cs.length ≤ 100000) (hB : B ≤ w.heap.size)
    (h : ∀ v' w', OwnC w' B v' (cs ++ [c]) → Mod (fun g => v.ownBlock = some g) w w' → wpList Tryz.prog ops Q rest (a.put o.dst v') w') :
    wpList Tryz.prog ops Q (o :: rest) a (w.alloc (.cells #[.int .i64 c.from_, .slice A' n' c'] 90)) := by
  subst hH
  obtain ⟨vs, h1, h2⟩ := hown
  obtain ⟨i0, hi, hz0, hz1, hz2⟩ := info_parts Cv.info
  have hl := h2.1
  have hr : Reads (w.alloc (.cells #[.int .i64 c.from_, .slice A' n' c'] 90)) (fun _ => True) 2 (some ⟨w.heap.size, 0, none⟩) 1 (vcs [⟨c.from_, A', n', c'⟩]) := by
    have := reads_new w #[.int .i64 c.from_, .slice A' n' c'] 90 (fun _ => True) trivial 2 rfl
    simpa [vcs, Cv.cells] using this
  refine wpList_append_any _ hgd s x 51 ho B 90 i0 _ 2 32 Tryz.underlying51 hi hz0 hz1 hz2 rfl (by omega) v vs.length (vcs vs) hs (World.ownsRow.alloc h1 _) (fun _ => True) _ 1 1
    (vcs [⟨c.from_, A', n', c'⟩]) hx hr (vcs_one _) (by unfold maxLen; omega) (by omega) (by simp; omega) ?_
  intro v' w' k1 k2 k3
  have hm : Mod (fun g => v.ownBlock = some g) w w' := ((Mod.refl Non w).alloc _).non.trans (mod_of_grown k2) fun _ _ h => h
  have hfar : ∀ k, k < w.heap.size → v.ownBlock ≠ some k → v'.ownBlock ≠ some k := by
    intro k hk hv he
    rcases k3 with k3 | k3
    · exact hv (k3 ▸ he)
    · rw [he] at k3
      injection k3 with k3
      simp at k3
      omega
  refine h v' w' ⟨vs ++ [⟨c.from_, A', n', c'⟩], ?_, ?_, ?_⟩ hm
  · rw [vcs_append, List.length_append]; exact k1
  · simp [hl]
  · intro i v1 c1 hv1 hc1
    rw [List.getElem?_append] at hv1 hc1
    by_cases hi' : i < vs.length
    · rw [if_pos hi'] at hv1
      rw [if_pos (by omega)] at hc1
      obtain ⟨g1, g2⟩ := h2.2 i v1 c1 hv1 hc1
      exact ⟨g1, ((g2.more (R' := fun k => B ≤ k ∧ v.ownBlock ≠ some k ∧ v'.ownBlock ≠ some k) fun k hk hr => ⟨hr.1, hr.2, hfar k hk hr.2⟩).mod hm fun k _ hr h => hr.2.1 h).more fun k _ hr => ⟨hr.1, hr.2.2⟩⟩
    · rw [if_neg hi'] at hv1
      rw [if_neg (by omega)] at hc1
      rw [List.getElem?_singleton] at hv1 hc1
      split at hv1
      · rw [if_pos (by omega)] at hc1
        injection hv1 with hv1
        injection hc1 with hc1
        subst hv1 hc1
        exact ⟨rfl, ((hmem.more (R' := fun k => B ≤ k ∧ v.ownBlock ≠ some k ∧ v'.ownBlock ≠ some k) fun k hk hr => ⟨hr.1, hr.2, hfar k hk hr.2⟩).mod hm fun k _ hr h => hr.2.1 h).more fun k _ hr => ⟨hr.1, hr.2.2⟩⟩
      · cases hv1

/-- the same, in a region that draws -/
theorem step_append_Cf {w : World} {ops : Array Oper} {o : Oper} {a : Act} {K : Act → World → Prop} {Q : Exit → Act → World → Prop} {E : Prop} (hgd : o.guard = none) (s x : Operand)
    (ho : o.op = .call { callee := .builtin .append, args := #[s, x], argTypes := #[51, 51] })
    (B : Nat) (v : Value) (cs : List Cf) (hs : a.eval s = v) (hown : OwnC w B v cs) (c : Cf) (A' : Option Addr) (n' c' : Nat) (hmem : Reads w (fun k => B ≤ k ∧ v.ownBlock ≠ some k) 1 A' n' (vis c.mem)) (H : Nat) (hH : w.heap.size = H) (hx : a.eval x = .slice (some ⟨H, 0, none⟩) 1 1)
    (hlen : cs.length ≤ 100000) (hB : B ≤ w.heap.size)
    (h : ∀ v' w', OwnC w' B v' (cs ++ [c]) → Mod (fun g => v.ownBlock = some g) w w' → K (a.put o.dst v') w') :
    if Region.wanted o (yielded ops a.tmps) = true then Oper.wp Tryz.prog o a (w.alloc (.cells #[.int .i64 c.from_, .slice A' n' c'] 90)) K Q else E := by
  subst hH
  obtain ⟨vs, h1, h2⟩ := hown
  obtain ⟨i0, hi, hz0, hz1, hz2⟩ := info_parts Cv.info
  have hl := h2.1
  have hr : Reads (w.alloc (.cells #[.int .i64 c.from_, .slice A' n' c'] 90)) (fun _ => True) 2 (some ⟨w.heap.size, 0, none⟩) 1 (vcs [⟨c.from_, A', n', c'⟩]) := by
    have := reads_new w #[.int .i64 c.from_, .slice A' n' c'] 90 (fun _ => True) trivial 2 rfl
    simpa [vcs, Cv.cells] using this
  refine step_append_any _ hgd s x 51 ho B 90 i0 _ 2 32 Tryz.underlying51 hi hz0 hz1 hz2 rfl (by omega) v vs.length (vcs vs) hs (World.ownsRow.alloc h1 _) (fun _ => True) _ 1 1
    (vcs [⟨c.from_, A', n', c'⟩]) hx hr (vcs_one _) (by unfold maxLen; omega) (by omega) (by simp; omega) ?_
  intro v' w' k1 k2 k3
  have hm : Mod (fun g => v.ownBlock = some g) w w' := ((Mod.refl Non w).alloc _).non.trans (mod_of_grown k2) fun _ _ h => h
  have hfar : ∀ k, k < w.heap.size → v.ownBlock ≠ some k → v'.ownBlock ≠ some k := by
    intro k hk hv he
    rcases k3 with k3 | k3
    · exact hv (k3 ▸ he)
    · rw [he] at k3
      injection k3 with k3
      simp at k3
      omega
  refine h v' w' ⟨vs ++ [⟨c.from_, A', n', c'⟩], ?_, ?_, ?_⟩ hm
  · rw [vcs_append, List.length_append]; exact k1
  · simp [hl]
  · intro i v1 c1 hv1 hc1
    rw [List.getElem?_append] at hv1 hc1
    by_cases hi' : i < vs.length
    · rw [if_pos hi'] at hv1
      rw [if_pos (by omega)] at hc1
      obtain ⟨g1, g2⟩ := h2.2 i v1 c1 hv1 hc1
      exact ⟨g1, ((g2.more (R' := fun k => B ≤ k ∧ v.ownBlock ≠ some k ∧ v'.ownBlock ≠ some k) fun k hk hr => ⟨hr.1, hr.2, hfar k hk hr.2⟩).mod hm fun k _ hr h => hr.2.1 h).more fun k _ hr => ⟨hr.1, hr.2.2⟩⟩
    · rw [if_neg hi'] at hv1
      rw [if_neg (by omega)] at hc1
      rw [List.getElem?_singleton] at hv1 hc1
      split at hv1
      · rw [if_pos (by omega)] at hc1
        injection hv1 with hv1
        injection hc1 with hc1
        subst hv1 hc1
        exact ⟨rfl, ((hmem.more (R' := fun k => B ≤ k ∧ v.ownBlock ≠ some k ∧ v'.ownBlock ≠ some k) fun k hk hr => ⟨hr.1, hr.2, hfar k hk hr.2⟩).mod hm fun k _ hr h => hr.2.1 h).more fun k _ hr => ⟨hr.1, hr.2.2⟩⟩
      · cases hv1

set_option maxRecDepth 100000 in
set_option maxHeartbeats 4000000 in
theorem conf_clone (A : Option Addr) (n c : Nat) (R : Nat → Prop) (cs : List Cf) (w : World) (hr : Confs w R A n cs) (hn : n ≤ 10000) (hm_ : ∀ x ∈ cs, x.mem.length ≤ 1000) :
    Calls Tryz.prog 98 #[.slice A n c] w fun e w' => ∃ v, e = .returned v ∧ OwnC w' w.heap.size v cs ∧ Mod Non w w' := by
  have hl := hr.len
  have HL := Lib.hid hl
  have HMM := Lib.hid hm_
  clear hl hm_
  go_enter Tryz.func98, Tryz.ntmps98
  go_wp2
  go_loopw [3, 8] (fun o i wr => ∃ k : Nat, k ≤ n ∧ i = .int .i64 k ∧ OwnC wr w.heap.size o (cs.take k) ∧ Mod Non w wr) (fun _ i _ => n - (intOf i).toNat)
  case atStart => exact ⟨0, by omega, rfl, OwnC.nil _ _, Mod.refl _ _⟩
  case round =>
    obtain ⟨k, hk, rfl, ho, hm⟩ := hrel
    by_cases hlt : k < n
    · obtain ⟨b, off, x, A', n', c', hA, hbk, _, hxk, d0, d1, dm⟩ := (hr.non hm).at_ hlt
      subst hA
      have hkn : (k : Int) < n := by omega
      have HX := Lib.hid hxk
      have hmx := HMM.out x (List.mem_of_getElem? hxk)
      obtain ⟨cf, hcf⟩ : ∃ cf, cf = x.from_ := ⟨_, rfl⟩
      rw [← hcf] at d0
      have HCF := Lib.hid hcf
      have HM := Lib.hid hm
      have HO := Lib.hid ho
      have HCL := Lib.hid (fun w' (h : Mod Non wr w') => slices_Clone_I A' n' c' _ x.mem w' (dm.mod h fun _ _ _ h => h) (by omega))
      clear hcf dm hxk hm ho hmx
      have hsz := HM.out.size
      go_wp2
      obtain ⟨A8, c8, he8, hc8⟩ := HO.out.len
      obtain ⟨n8, hn8⟩ : ∃ n8, n8 = (cs.take k).length := ⟨_, rfl⟩
      rw [← hn8] at he8 hc8
      have HN8 := Lib.hid hn8
      have hlk : (cs.take k).length ≤ 100000 := by rw [List.length_take]; omega
      have HLK := Lib.hid hlk
      clear hn8 hlk
      subst he8
      have HFR : Hid (∀ j, wr.heap.size ≤ j → (Value.slice A8 n8 c8).ownBlock ≠ some j) := by
        intro j hj he
        obtain ⟨vs, q1, _⟩ := HO.out
        have := (World.ownsRow.lt q1 j he).2
        omega
      go_region_law (first | (refine step_append_Cf rfl (.tmp 12) (.tmp 19) rfl w.heap.size (.slice A8 n8 c8) (cs.take k) (by simp [Act.eval]) hown2 ⟨cf, x.mem⟩ A2 m2 k2 hmem2 _ rfl (by simp [Act.eval]) HLK.out (by omega) ?_; intro v6 w6 hown6 hm6) | (go_simp; go_at_call 45; refine (HCL.out _ (((Mod.refl _ _).alloc _).drew)).mono ?_; rintro e w2 ⟨v2, rfl, hi2, hm2⟩; obtain ⟨A2, m2, k2, rfl, hm2', hk2⟩ := hi2.form; have mm2 := (((Mod.refl Non wr).alloc (.cells #[.int .i64 cf, .slice A' n' c'] 90)).drew).trans' hm2; have bx := (Blk.new wr 90 #[.int .i64 cf, .slice A' n' c']).drew.mod hm2 (fun h => h); have bx0 := bx.cell 0; have bx1 := bx.cell 1; simp at bx0 bx1; have hown2 := HO.out.non mm2; have hsz2 := mm2.size; have hmem2 := hi2.reads.more (R' := fun j => w.heap.size ≤ j ∧ (Value.slice A8 n8 c8).ownBlock ≠ some j) (fun j _ h => by have h1 := h.1; have h2 : wr.heap.size ≤ j := Nat.le_trans (by simp) h1; exact ⟨by omega, HFR.out j h2⟩)))
      all_goals
        go_wp2
        go_roundw
        case rel =>
          have e1 : cs.take (k + 1) = cs.take k ++ [⟨cf, x.mem⟩] := by
            obtain ⟨z1, z2⟩ := List.getElem?_eq_some_iff.1 HX.out
            rw [List.take_succ_eq_append_getElem z1, z2, HCF.out]
          refine ⟨k + 1, by omega, by go_num, ?_, ?_⟩
          · rw [e1]; exact hown6
          · refine (HM.out.trans' mm2).trans hm6 fun j hj h => ?_
            obtain ⟨vs, q1, _⟩ := HO.out
            have := (World.ownsRow.lt q1 j h).1
            omega
        case measure => simp [intOf]; omega
    · have hkn : ¬ (k : Int) < n := by omega
      have hkk : cs.take k = cs := List.take_of_length_le (by rw [HL.out]; omega)
      rw [hkk] at ho
      go_wp2
      go_ret
      exact ⟨_, rfl, ho, hm⟩
end Go.Proofs.YtdclfdinhdaadaaGreatDoor

/- Rows of confs: one cut off at the front, the first one's number set. -/
namespace Go.Proofs.YtdclfdinhdaadaaGreatDoor
open Go.RowKit

theorem vcs_drop (l : List Cv) (k : Nat) : (vcs l).drop (k * 2) = vcs (l.drop k) := by
  induction l generalizing k with
  | nil => simp [vcs]
  | cons a l ih =>
    cases k with
    | zero => simp
    | succ k =>
      rw [List.drop_succ_cons, ← ih k, show (k + 1) * 2 = k * 2 + 1 + 1 by omega]
      rfl
theorem Confs.cut {w : World} {R : Nat → Prop} {A : Option Addr} {n : Nat} {cs : List Cf} (h : Confs w R A n cs) {k cap : Nat} (hk : k ≤ n) (hc : n ≤ cap) :
    Confs w R (if cap = k then A else A.map (·.add (k * 2))) (n - k) (cs.drop k) := by
  obtain ⟨vs, h1, h2⟩ := h
  refine ⟨vs.drop k, ?_, ?_, ?_⟩
  · have := h1.cut hk hc
    rwa [vcs_drop] at this
  · rw [List.length_drop, List.length_drop, h2.1]
  · intro i v c hv hc'
    rw [List.getElem?_drop] at hv hc'
    exact h2.2 (k + i) v c hv hc'
theorem OwnC.set0 {w : World} {B g m c : Nat} {c0 : Cf} {r : List Cf} (h : OwnC w B (.slice (some ⟨g, 0, none⟩) m c) (c0 :: r)) (f : Int) :
    OwnC (w.setCell ⟨g, 0, none⟩ (.int .i64 f)) B (.slice (some ⟨g, 0, none⟩) m c) (⟨f, c0.mem⟩ :: r) := by
  obtain ⟨vs, h1, h2⟩ := h
  cases vs with
  | nil => exact absurd h2.1 (by simp)
  | cons v0 vs =>
    have hs := own_set h1 (i := 0) (.int .i64 f) (by simp)
    have hm := Mod.one w g 0 (.int .i64 f)
    refine ⟨⟨f, v0.A, v0.n, v0.c⟩ :: vs, ?_, ?_, ?_⟩
    · exact hs
    · have := h2.1
      simpa using this
    · intro i v1 c1 hv hc
      have hfr : ∀ k, k < w.heap.size → (B ≤ k ∧ (Value.slice (some ⟨g, 0, none⟩) m c).ownBlock ≠ some k) → ¬ One g k := by
        intro k _ hk he
        apply hk.2
        unfold One at he
        subst he
        rfl
      cases i with
      | zero =>
        simp at hv hc
        subst hv hc
        exact ⟨rfl, (h2.2 0 v0 c0 rfl rfl).2.mod hm hfr⟩
      | succ i =>
        simp at hv hc
        obtain ⟨g1, g2⟩ := h2.2 (i + 1) v1 c1 (by simpa using hv) (by simpa using hc)
        exact ⟨g1, g2.mod hm hfr⟩

/-- confs without those that are no more at an index -/
def trim (cs : List Cf) (ix : Int) : List Cf :=
  match cs.drop (lastLe cs ix cs.length).toNat with
  | c :: r => ⟨1, c.mem⟩ :: r
  | [] => []
theorem lastLe_ge {cs : List Cf} {ix : Int} {c : Cf} (h : cs[0]? = some c) (hc : c.from_ ≤ ix) : ∀ k, 0 < k → 0 ≤ lastLe cs ix k := by
  intro k
  induction k with
  | zero => intro h; omega
  | succ k ih =>
    intro _
    cases k with
    | zero => rw [lastLe_step ix h, if_pos hc]; simp
    | succ k =>
      have := ih (by omega)
      rw [lastLe]
      split <;> omega
theorem from_pos {cs : List Cf} (h : CfsOk cs) : ∀ c ∈ cs, 1 ≤ c.from_ := by
  intro c hc
  obtain ⟨c0, h0, h1⟩ := h.first
  obtain ⟨i, hi, rfl⟩ := List.getElem_of_mem hc
  rcases Nat.eq_zero_or_pos i with rfl | hp
  · have : cs[0] = c0 := (List.getElem?_eq_some_iff.1 h0).2
    rw [this]; omega
  · have h2 := List.pairwise_iff_getElem.1 h.rise 0 i (by omega) hi hp
    have : cs[0]'(by omega) = c0 := (List.getElem?_eq_some_iff.1 h0).2
    rw [this] at h2
    omega
theorem trim_ok {cs : List Cf} (h : CfsOk cs) (ix : Int) : CfsOk (trim cs ix) := by
  have hlt := lastLe_lt cs ix cs.length
  obtain ⟨c0, h0, _⟩ := h.first
  have hl := (List.getElem?_eq_some_iff.1 h0).1
  obtain ⟨p, hp⟩ : ∃ p, p = (lastLe cs ix cs.length).toNat := ⟨_, rfl⟩
  have hpl : p < cs.length := by omega
  unfold trim
  rw [← hp, List.drop_eq_getElem_cons hpl]
  have hr : (cs.drop p).Pairwise fun a b => a.from_ < b.from_ := h.rise.sublist (List.drop_sublist _ _)
  rw [List.drop_eq_getElem_cons hpl, List.pairwise_cons] at hr
  have hm : ∀ c ∈ cs.drop (p + 1), c ∈ cs := fun c hc => List.mem_of_mem_drop hc
  refine ⟨⟨_, rfl, rfl⟩, ?_, ?_⟩
  · intro c hc
    rcases List.mem_cons.1 hc with rfl | hc
    · exact ⟨(h.each _ (List.getElem_mem hpl)).1, show (1 : Int) ≤ 4294967296 by decide⟩
    · exact h.each c (hm c hc)
  · rw [List.pairwise_cons]
    refine ⟨fun c hc => ?_, hr.2⟩
    have h1 := hr.1 c hc
    have h2 := from_pos h _ (List.getElem_mem hpl)
    show (1 : Int) < c.from_
    omega
end Go.Proofs.YtdclfdinhdaadaaGreatDoor

/- Package conf: the contract of Trim. -/
namespace Go.Proofs.YtdclfdinhdaadaaGreatDoor
open Go.RowKit

/-- 'l[lo:]' of confs, the address under one name -/
theorem run_confs_slice (A Z : Option Addr) (n c lo : Nat) (h1 : lo ≤ n) (hZ : (if c = lo then A else A.map (·.add (lo * 2))) = Z) (W : World) :
    (Instr.slice 51 (.slice A n c) (some (.int .i64 lo)) none none).run Tryz.prog W = .ok (.slice Z (n - lo) (c - lo)) W := by
  have e0 : Tryz.prog.elem 51 = 90 := by kernel_rfl
  have e1 : (sizeOf 90).run Tryz.prog W = .ok 2 W := Tryz.sizeOf90 W
  rw [run_slice_l W 51 A n c (by rw [e0]; exact Tryz.underlying51) .i64 _ (by omega) (by omega), e0, e1]
  simp only [Result.andThen, sliced, Int.toNat_natCast, hZ]

set_option maxRecDepth 100000 in
set_option maxHeartbeats 4000000 in
theorem conf_Trim (A : Option Addr) (n c : Nat) (R : Nat → Prop) (cs : List Cf) (ix : Int) (w : World) (hr : Confs w R A n cs) (hc : n ≤ c) (hn : n ≤ 1000) (hok : CfsOk cs) (hix : 1 ≤ ix) :
    Calls Tryz.prog 53 #[.slice A n c, .int .i64 ix] w fun e w' => ∃ v, e = .returned v ∧ OwnC w' w.heap.size v (trim cs ix) ∧ Mod Non w w' := by
  have hl := hr.len
  have hmm : ∀ x ∈ cs, x.mem.length ≤ 1000 := fun x hx => by have := mem_few (hok.each x hx).1; omega
  obtain ⟨p, hp⟩ : ∃ p, p = (lastLe cs ix n).toNat := ⟨_, rfl⟩
  obtain ⟨c0, h0, h1⟩ := hok.first
  have hge := lastLe_ge (ix := ix) h0 (by omega) n (by have := (List.getElem?_eq_some_iff.1 h0).1; omega)
  have hlt := lastLe_lt cs ix n
  have hpn : p < n := by omega
  have hpe : lastLe cs ix n = (p : Int) := by omega
  have htr : Hid (∃ d r, cs.drop p = d :: r ∧ trim cs ix = ⟨1, d.mem⟩ :: r) := by
    have hpc : p < cs.length := by omega
    refine ⟨_, _, List.drop_eq_getElem_cons hpc, ?_⟩
    have hp2 : p = (lastLe cs ix cs.length).toNat := by rw [hl]; exact hp
    unfold trim
    rw [← hp2, List.drop_eq_getElem_cons hpc]
  have HCK := Lib.hid (conf_Check A n c R cs w hr (by omega) fun x hx => by have := hmm x hx; omega)
  have HPL := Lib.hid (fun w' (h : Mod Non w w') => by have := conf_place A n c R cs ix w' (hr.non h) (by omega); rw [hpe] at this; exact this)
  obtain ⟨Z, hZ⟩ : ∃ Z, (if c = p then A else A.map (·.add (p * 2))) = Z := ⟨_, rfl⟩
  have HCN := Lib.hid (fun w' (h : Mod Non w w') => by have := conf_clone Z (n - p) (c - p) R (cs.drop p) w' (by rw [← hZ]; exact (hr.non h).cut (by omega) hc) (by omega) (fun x hx => hmm x (List.mem_of_mem_drop hx)); exact this)
  have hsl := fun W => run_confs_slice A Z n c p (by omega) hZ W
  have HOK := Lib.hid hok
  clear hp hpe h0 h1 hge hlt hmm hr hok hl hZ
  go_enter Tryz.func53, Tryz.ntmps53
  go_wp2_with fail
  refine HCK.out.mono ?_
  rintro e w1 ⟨⟨k, rfl, hk⟩, hm1⟩
  have hk0 : k = 0 := hk.2 HOK.out
  subst hk0
  have M1 := Lib.hid hm1
  clear hk hm1 HCK
  go_wp2_with fail
  refine (HPL.out _ M1.out).mono ?_
  rintro e w2 ⟨rfl, hm2⟩
  have M2 := Lib.hid (M1.out.trans' hm2)
  clear hm2 M1
  go_wp2_with fail
  refine (HCN.out _ M2.out).mono ?_
  rintro e w3 ⟨v3, rfl, ho3, hm3⟩
  have M3 := Lib.hid (M2.out.trans' hm3)
  obtain ⟨d, r, hd, ht⟩ := htr.out
  rw [hd] at ho3
  obtain ⟨A3, c3, rfl, hc3⟩ := ho3.len
  have hx : ∃ g, A3 = some ⟨g, 0, none⟩ ∧ w2.heap.size ≤ g ∧ w3.cell? ⟨g, 0, none⟩ = some (.int .i64 d.from_) ∧ w3.frozen? ⟨g, 0, none⟩ = false := by
    obtain ⟨vs, q1, q2⟩ := ho3
    have hvl := q2.1
    cases vs with
    | nil => simp at hvl
    | cons v0 vs =>
      have hf0 := (q2.2 0 v0 d rfl rfl).1
      have q1' := q1
      rcases q1.2 with ⟨_, h0⟩ | ⟨g, cap, cur, e1, hb, hh, _⟩
      · simp at h0
      · injection e1 with e1 _ _
        subst e1
        have hbk : Blk w3 g 90 cur := hh
        refine ⟨g, rfl, hb, ?_, hbk.frozen 0⟩
        rw [← hf0]
        have := World.ownsRow.cells q1' (g := g) rfl 0 (.int .i64 v0.f) rfl
        simpa [Addr.add] using this
  obtain ⟨g, rfl, hgg, hg0, hgf⟩ := hx
  have HO := Lib.hid ((ho3.lower M2.out.size).set0 1)
  have HM := Lib.hid (M3.out.setNew (Nat.le_trans M2.out.size hgg) 0 (.int .i64 1))
  obtain ⟨n3, hn3⟩ : ∃ n3, n3 = (d :: r).length := ⟨_, rfl⟩
  rw [← hn3] at HO ⊢
  have hn3' : 0 < n3 := by rw [hn3]; simp
  have hn3i : (0 : Int) < (n3 : Int) := by omega
  have HT := Lib.hid ht
  clear hd ht ho3 hc3 hm3 htr HCN HPL hsl hn3
  go_wp2
  go_ret
  rw [HT.out]
  exact ⟨_, rfl, HO.out, HM.out⟩
end Go.Proofs.YtdclfdinhdaadaaGreatDoor
