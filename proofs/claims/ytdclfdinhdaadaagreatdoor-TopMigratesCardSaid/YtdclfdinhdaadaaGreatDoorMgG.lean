/- slices.Insert at sessions: the contract. -/
import Derived.Test.YtdclfdinhdaadaaGreatDoorRowOpsG
import Derived.Test.YtdclfdinhdaadaaGreatDoorMgF
import Derived.Test.YtdclfdinhdaadaaGreatDoorMgX
namespace Go.Proofs.YtdclfdinhdaadaaGreatDoor
open Go.RowKit

set_option maxRecDepth 100000 in
set_option maxHeartbeats 2000000 in
theorem insert_Se_end (v : Value) (l : List Se) (x : Se) (vb B : Nat) (w : World) (hown : OwnE w B v l) (hvb : Blk w vb 68 x.cells.toArray) (hl : l.length ≤ 1000) (hB : B ≤ w.heap.size) :
    Calls Tryz.prog 147 #[v, .int .i64 l.length, .slice (some ⟨vb, 0, none⟩) 1 1] w fun e w' => ∃ v', e = .returned v' ∧ OwnE w' B v' (l ++ [x]) ∧ Mod (fun k => v.ownBlock = some k) w w' := by
  have hrd : Reads w (fun _ => True) 8 (some ⟨vb, 0, none⟩) 1 (ecs [x]) := hvb.reads rfl
  have hl1 : l.length + [x].length ≤ 1000000 := by simp; omega
  have hf := hown.2
  obtain ⟨k, hk⟩ : ∃ k, k = l.length := ⟨_, rfl⟩
  rw [← hk] at hf ⊢
  rcases hf with ⟨h3, h4⟩ | ⟨g, c, cur, hv, h5, _, hkc, h6, _⟩
  · subst h3 h4
    clear hk
    go_enter Tryz.func147, Tryz.ntmps147
    go_wp2_with (at_builtin; refine wpList_append_ecs rfl (.tmp 23) (.tmp 24) rfl B _ l rfl hown (fun _ => True) _ 1 1 [x] rfl hrd hl1 hB ?_; intro v' w' h1 h2 _)
    go_ret
    exact ⟨_, rfl, h1, h2⟩
  · subst hv
    clear hk
    by_cases hck : c = k
    · subst hck
      go_enter Tryz.func147, Tryz.ntmps147
      go_wp2_with (at_builtin; refine wpList_append_ecs rfl (.tmp 23) (.tmp 24) rfl B _ l rfl hown (fun _ => True) _ 1 1 [x] rfl hrd hl1 hB ?_; intro v' w' h1 h2 _)
      go_ret
      exact ⟨_, rfl, h1, h2⟩
    · have hck2 : k < c := by omega
      go_enter Tryz.func147, Tryz.ntmps147
      go_wp2_with (at_builtin; refine wpList_append_ecs rfl (.tmp 23) (.tmp 24) rfl B _ l rfl hown (fun _ => True) _ 1 1 [x] rfl hrd hl1 hB ?_; intro v' w' h1 h2 _)
      go_ret
      exact ⟨_, rfl, h1, h2⟩

theorem Se.one (x : Se) : ∀ u ∈ x.cells, u.oneCell' = true := by
  intro u hu
  simp only [Se.cells, List.mem_cons, List.not_mem_nil, or_false] at hu
  rcases hu with rfl | rfl | rfl | rfl | rfl | rfl | rfl | rfl <;> rfl
theorem Se.sz : (Tryz.prog.info? 68).map (·.size) = some 8 := by
  obtain ⟨i0, hi, _, hz1, _⟩ := info_parts Se.info
  rw [hi]; simp [hz1]
theorem ecs_take (l : List Se) (i : Nat) : (ecs l).take (i * 8) = ecs (l.take i) := by
  induction l generalizing i with
  | nil => simp [ecs]
  | cons a l ih =>
    cases i with
    | zero => simp [ecs]
    | succ i =>
      rw [show (i + 1) * 8 = i * 8 + 8 by omega]
      show (a.cells ++ ecs l).take _ = a.cells ++ ecs (l.take i)
      rw [← ih i]
      rfl
theorem ecs_drop (l : List Se) (i : Nat) : (ecs l).drop (i * 8) = ecs (l.drop i) := by
  induction l generalizing i with
  | nil => simp [ecs]
  | cons a l ih =>
    cases i with
    | zero => simp [ecs]
    | succ i =>
      rw [show (i + 1) * 8 = i * 8 + 8 by omega]
      show (a.cells ++ ecs l).drop _ = ecs (l.drop i)
      rw [← ih i]
      rfl

theorem run_Insert_Se_apart (w : World) (vb g o lb cb : Nat) (x : Se) (cur : List Value) (hne : vb ≠ g) (hvb : Blk w vb 68 x.cells.toArray) (hb : Blk w g 68 cur.toArray) (hc : cur.length ≠ 0) :
    (callFunc 159 #[.slice (some ⟨vb, 0, none⟩) 1 1, .slice (some ⟨g, o, none⟩) lb cb]).run Tryz.prog w = .ok (.value (.bool false)) w := by
  rw [run_callFunc_extern Tryz.func159 (by kernel_rfl) (by kernel_rfl) (by kernel_rfl) (e := Extern.SlicesOverlaps.overlaps #[23, 23] #[4]) (by kernel_rfl),
    Lib.run_overlaps_apart w 23 4 68 Tryz.underlying23 8 (fun w => by obtain ⟨i0, hi, _, hz1, _⟩ := info_parts Se.info; simp [sizeOf, typeInfo, hi, hz1]) ⟨vb, 0, none⟩ ⟨g, o, none⟩ 1 1 lb cb hne _ _ _ _ (shape_blk hvb) (shape_blk hb) (by simpa using hc) (hvb.frozen _) (hvb.frozen _)]
  rfl

set_option maxRecDepth 100000 in
set_option maxHeartbeats 2000000 in
theorem insert_Se_room (l : List Se) (x : Se) (i k c g vb B : Nat) (w : World) (hown : OwnE w B (.slice (some ⟨g, 0, none⟩) k c) l) (hk : k = l.length) (hvb : Blk w vb 68 x.cells.toArray) (hne : vb ≠ g) (hl : l.length ≤ 1000) (hi : i < k) (hkc : k + 1 ≤ c) :
    Calls Tryz.prog 147 #[.slice (some ⟨g, 0, none⟩) k c, .int .i64 i, .slice (some ⟨vb, 0, none⟩) 1 1] w fun e w' => ∃ v', e = .returned v' ∧ OwnE w' B v' (l.take i ++ x :: l.drop i) ∧ Mod (One g) w w' := by
  obtain ⟨g', c', cur, hv, hB, hb, hkc', hcm, hcl, ht⟩ := own_blk hown (by omega)
  injection hv with e1 e2 e3
  injection e1 with e1
  injection e1 with e1 _ _
  subst e1 e3
  have hov := fun lb cb => run_Insert_Se_apart w vb g ((i + 1) * 8) lb cb x cur hne hvb hb (by omega)
  have hc63 : c ≤ 9223372036854775807 := by unfold maxLen at hcm; omega
  have hz2 : ¬ ((i : Int) = (k : Int)) := by omega
  have hin : i ≤ k := by omega
  have hb2 : ¬ (c = i + 1) := by omega
  have hb4 : ¬ (c = i) := by omega
  have hmin : Hid (Nat.min (k + 1 - i) (k + 1 - (i + 1)) = k - i) := by
    show Nat.min (k + 1 - i) (k + 1 - (i + 1)) = k - i
    simp only [Nat.min_def]; split <;> omega
  obtain ⟨D, hD⟩ : ∃ D, D = ecs (l.drop i) := ⟨_, rfl⟩
  have hDl : D.length = (k - i) * 8 := by rw [hD, ecs_length, List.length_drop, hk]
  have hrd : Hid (Reads w (fun b => b = g) 8 (some ⟨g, i * 8, none⟩) (k - i) D) := hb.readsAt hDl (fun j u hu => by
    rw [hD, ← ecs_drop, List.getElem?_drop] at hu
    have hlt := (List.getElem?_eq_some_iff.1 hu).1
    rw [← ht, List.getElem?_take] at hu
    split at hu
    · exact hu
    · cases hu)
  have h1D : Hid (∀ u ∈ D, u.oneCell' = true) := by rw [hD]; exact ecs_one _
  have hfit : Hid ((i + 1) * 8 + D.length ≤ cur.length) := by
    show (i + 1) * 8 + D.length ≤ cur.length
    omega
  have hfit1' : Hid (i * 8 + x.cells.length ≤ cur.length) := by
    show i * 8 + 8 ≤ cur.length
    omega
  have hfit1 : Hid (i * 8 + x.cells.toArray.toList.length ≤ (splice cur ((i + 1) * 8) D).length) := by
    show i * 8 + 8 ≤ (splice cur ((i + 1) * 8) D).length
    rw [length_splice _ _ _ hfit.out]
    omega
  have hmin1 : Hid (Nat.min 1 (k + 1 - i) = 1) := by
    show Nat.min 1 (k + 1 - i) = 1
    simp only [Nat.min_def]; split <;> omega
  have HD : Hid (D = ecs (l.drop i) ∧ D.length = (k - i) * 8) := ⟨hD, hDl⟩
  have hw1 : IntKind.i64.wrap ((i : Int) + 1) = (i : Int) + 1 := by rw [IntKind.wrap_i64]; omega
  have hb1 : (0 : Int) ≤ (i : Int) + 1 := by omega
  have htn : ((i : Int) + 1).toNat = i + 1 := by omega
  have hb3 : (i : Int) ≤ (k : Int) + 1 := by omega
  have HK := Lib.hid hk
  have HT := Lib.hid ht
  clear hk e2 hkc' ht hown hl hD hDl
  go_enter Tryz.func147, Tryz.ntmps147
  go_wp2_with fail
  go_region_law (refine step_copy_at rfl (.tmp 73) (.tmp 76) 23 23 rfl 8 (k + 1 - (i + 1)) (c - (i + 1)) (k + 1 - i) (c - i) (k - i) Tryz.underlying23 Se.sz hmin.out (by omega) (some ⟨g, i * 8, none⟩) (fun b => b = g) (by simp [Act.eval, Act.put]) (by simp [Act.eval, Act.put]) hb hrd.out h1D.out hfit.out ?_; intro w1 hb1 hm1)
  all_goals
    have hm1' := hm1.undrew
    have hvb1 := hvb.mod hm1' (fun h => hne h)
    have hrv := hvb1.reads (size := 8) rfl
    go_wp2_with (with_reducible (show wpList _ _ _ (⟨some 82, _, _, _, _, _⟩ :: _) _ _); refine wpList_copy_at rfl (.tmp 80) (.tmp 81) 23 23 rfl 8 (k + 1 - i) (c - i) 1 1 1 Tryz.underlying23 Se.sz hmin1.out (by omega) (some ⟨vb, 0, none⟩) (fun _ => True) (by simp [Act.eval]) (by simp [Act.eval]) hb1.out hrv (Se.one x) hfit1.out ?_; intro w2 hb2 hm2)
    go_ret
    refine ⟨_, rfl, ?_, hm1'.trans' hm2⟩
    have e1 := splice_ins1 cur x.cells D (i * 8) 8 rfl (by have := hfit.out; omega)
    have e2 : i * 8 + 8 = (i + 1) * 8 := by omega
    have e3 : i * 8 + 8 + D.length = (k + 1) * 8 := by rw [HD.out.2]; omega
    rw [e3, e2] at e1
    have e4 : (l.take i ++ x :: l.drop i).length = k + 1 := by have := HK.out; simp; omega
    unfold OwnE
    rw [e4]
    refine own_of_blk hb2.out hB hkc hcm ?_ (by rw [ecs_length, e4]) ?_
    · rw [length_splice, length_splice, hcl]
      · exact hfit.out
      · rw [length_splice _ _ _ hfit.out]; exact hfit1'.out
    · rw [e1, HD.out.1, ecs_append]
      have e5 : cur.take (i * 8) = ecs (l.take i) := by
        rw [← ecs_take, ← HT.out, List.take_take, Nat.min_eq_left]
        have := HK.out
        omega
      rw [e5]
      rfl

set_option maxRecDepth 100000 in
set_option maxHeartbeats 4000000 in
theorem insert_Se_grow (l : List Se) (x : Se) (i k c g vb B : Nat) (w : World) (hown : OwnE w B (.slice (some ⟨g, 0, none⟩) k c) l) (hk : k = l.length) (hvb : Blk w vb 68 x.cells.toArray) (hl : l.length ≤ 1000) (hi : i < k) (hkc : c < k + 1) (hBw : B ≤ w.heap.size) :
    Calls Tryz.prog 147 #[.slice (some ⟨g, 0, none⟩) k c, .int .i64 i, .slice (some ⟨vb, 0, none⟩) 1 1] w fun e w' => ∃ v', e = .returned v' ∧ OwnE w' B v' (l.take i ++ x :: l.drop i) ∧ Mod Non w w' := by
  obtain ⟨g', c', cur, hv, hB, hb, hkc', hcm, hcl, ht⟩ := own_blk hown (by omega)
  injection hv with e1 e2 e3
  injection e1 with e1
  injection e1 with e1 _ _
  subst e1 e3
  obtain ⟨i0, hi0, hz0, hzs, hzb⟩ := info_parts Se.info
  have hck : c = k := by omega
  subst hck
  obtain ⟨D, hD⟩ : ∃ D, D = ecs (l.drop i) := ⟨_, rfl⟩
  have hDl : D.length = (c - i) * 8 := by rw [hD, ecs_length, List.length_drop, hk]
  have hkk : (c : Int) + 1 - (i : Int) = ((c + 1 - i : Nat) : Int) := by omega
  have hik : i + (c + 1 - i) = c + 1 := by omega
  have hcut : cur.take (i * 8) = ecs (l.take i) := by
    rw [← ecs_take, ← ht, List.take_take, Nat.min_eq_left]
    omega
  have hold : (Builtin.firstCells i0.size i (.slice (some ⟨g, 0, none⟩) i c)).run Tryz.prog w.drew = .ok (ecs (l.take i)).toArray w.drew := by
    rw [hzs]
    exact run_firstCells_some w.drew 8 i ⟨g, 0, none⟩ i c (ecs (l.take i)) (by rw [ecs_length, List.length_take]; omega) (fun j v hj => by
      rw [Addr.add_lit, ← hcut, List.getElem?_take] at *
      split at hj
      · show w.cell? _ = _
        rw [hb.cell]
        simpa using hj
      · cases hj)
  obtain ⟨G, hG⟩ : ∃ G, G = grownCap w (c + 1) c 68 := ⟨_, rfl⟩
  have hGn : c + 1 ≤ G := by rw [hG]; exact grownCap_ge w _ _ _
  have hGm : G ≤ maxLen := by rw [hG]; exact grownCap_le_maxLen w (c + 1) c _ (by unfold maxLen; omega)
  obtain ⟨ROW, hROW⟩ : ∃ ROW : List Value, ROW = ((ecs (l.take i)).toArray ++ Builtin.zeroCells (Value.agg #[.int .i64 0, .int .i64 0, .int .i64 0, .int .i64 0, .int .i64 0, .bool false, .string ⟨#[]⟩, .int .i64 0]).cells (c + 1 - i) ++ Builtin.zeroCells (Value.agg #[.int .i64 0, .int .i64 0, .int .i64 0, .int .i64 0, .int .i64 0, .bool false, .string ⟨#[]⟩, .int .i64 0]).cells (G - (c + 1))).toList := ⟨_, rfl⟩
  have hrz : ∀ ty, (Builtin.append_ #[23, 3] ty #[.slice (some ⟨g, 0, none⟩) i c, .int .i64 ((c : Int) + 1 - (i : Int))]).run Tryz.prog w =
      .ok (.slice (some ⟨w.heap.size, 0, none⟩) (c + 1) G) (w.drew.alloc (.cells ROW.toArray 68)) := fun ty => by
    have h := Lib.run_append_grow_zeros w 23 3 ty 68 i0 _ .i64 .i64 Tryz.underlying23 Tryz.underlying3 hi0 hz0 (some ⟨g, 0, none⟩) i c (ecs (l.take i)) hold (c + 1 - i) (by omega) (by omega) (by omega) (by omega) (by rw [hzb]; omega) (by rw [hzb, hik]; exact growslice_fits hkc (by omega))
    rw [hik, ← hG] at h
    rw [hkk, hROW, Array.toArray_toList]
    exact h
  have hRl : ROW.length = G * 8 := by
    rw [hROW]
    simp [Builtin.zeroCells, Value.cells, ecs_length, List.length_take]
    omega
  have hRt : ROW.take (i * 8) = ecs (l.take i) := by
    rw [hROW]
    have : (ecs (l.take i)).length = i * 8 := by rw [ecs_length, List.length_take]; omega
    simp [← this]
  obtain ⟨W1, hW1⟩ : ∃ W1, W1 = w.drew.alloc (.cells ROW.toArray 68) := ⟨_, rfl⟩
  obtain ⟨g2, hg2⟩ : ∃ g2, g2 = w.heap.size := ⟨_, rfl⟩
  have hb2 : Blk W1 g2 68 ROW.toArray := by rw [hW1, hg2]; exact Blk.new w.drew _ _
  have hm1 : Mod Non w W1 := by rw [hW1]; exact ((Mod.refl Non w).drew).alloc _
  rw [← hW1, ← hg2] at hrz
  have hvb1 := hvb.mod hm1 (fun h => h)
  have hb1 := hb.mod hm1 (fun h => h)
  have hne : g ≠ g2 := by have := hb.lt; omega
  have hg2' : w.heap.size ≤ g2 := by omega
  have hnv : vb ≠ g2 := by have := hvb.lt; omega
  have hrv := hvb1.reads (size := 8) rfl
  have hc63 : c ≤ 9223372036854775807 := by unfold maxLen at hcm; omega
  have hc6 : c ≤ 100000 := by omega
  have hG63 : G ≤ 9223372036854775807 := by unfold maxLen at hGm; omega
  have hz2 : ¬ ((i : Int) = (c : Int)) := by omega
  have hin : i ≤ c := by omega
  have hb4 : ¬ (c = i) := by omega
  have hGi : ¬ (G = i) := by omega
  have hGi1 : ¬ (G = i + 1) := by omega
  have hfit0 : Hid (i * 8 + x.cells.toArray.toList.length ≤ ROW.length) := by
    show i * 8 + 8 ≤ ROW.length
    omega
  have hfit1 : Hid ((i + 1) * 8 + D.length ≤ (splice ROW (i * 8) x.cells).length) := by
    show (i + 1) * 8 + D.length ≤ (splice ROW (i * 8) x.cells).length
    rw [length_splice _ _ _ hfit0.out]
    omega
  have hmin0 : Hid (Nat.min 1 (c + 1 - i) = 1) := by
    show Nat.min 1 (c + 1 - i) = 1
    simp only [Nat.min_def]; split <;> omega
  have hmin1 : Hid (Nat.min (c - i) (c + 1 - (i + 1)) = c - i) := by
    show Nat.min (c - i) (c + 1 - (i + 1)) = c - i
    simp only [Nat.min_def]; split <;> omega
  have hrd : Hid (Reads W1 (fun b => b = g) 8 (some ⟨g, i * 8, none⟩) (c - i) D) := hb1.readsAt hDl (fun j u hu => by
    rw [hD, ← ecs_drop, List.getElem?_drop] at hu
    rw [← ht, List.getElem?_take] at hu
    split at hu
    · exact hu
    · cases hu)
  have h1D : Hid (∀ u ∈ D, u.oneCell' = true) := by rw [hD]; exact ecs_one _
  have HD : Hid (D = ecs (l.drop i) ∧ D.length = (c - i) * 8) := ⟨hD, hDl⟩
  have HG : Hid (c + 1 ≤ G ∧ G ≤ maxLen ∧ ROW.length = G * 8 ∧ ROW.take (i * 8) = ecs (l.take i) ∧ B ≤ g2) := ⟨hGn, hGm, hRl, hRt, by omega⟩
  have HK := Lib.hid hk
  have hw1 : IntKind.i64.wrap ((i : Int) + 1) = (i : Int) + 1 := by rw [IntKind.wrap_i64]; omega
  have hw0 : (0 : Int) ≤ (i : Int) + 1 := by omega
  have htn : ((i : Int) + 1).toNat = i + 1 := by omega
  have hin1 : (i : Int) ≤ (c : Int) := by omega
  clear hW1 hg2 hROW hG hGn hGm hRl hRt hold hcut hD hDl hk e2 hkc' ht hown hl hkk hik hBw
  go_enter Tryz.func147, Tryz.ntmps147
  go_wp2_with (first
    | (at_builtin; refine Lib.wpList_append_run _ rfl (.tmp 34) (.tmp 39) _ _ rfl _ _ (by simp [Act.eval]; try rfl) (by simp [Act.eval]; try rfl) _ _ (hrz _) ?_)
    | (with_reducible (show wpList _ _ _ (⟨some 45, _, _, _, _, _⟩ :: _) _ _); refine wpList_copy_at rfl (.tmp 43) (.tmp 44) 23 23 rfl 8 (c + 1 - i) (G - i) 1 1 1 Tryz.underlying23 Se.sz hmin0.out (by omega) (some ⟨vb, 0, none⟩) (fun _ => True) (by simp [Act.eval]) (by simp [Act.eval]) hb2 hrv (Se.one x) hfit0.out ?_; intro w2 hb3 hm2))
  have hb3' := hb3.out
  have hrd2 := hrd.out.mod hm2 (fun _ _ h h' => hne (h.symm.trans h'))
  go_region_law (refine step_copy_at rfl (.tmp 50) (.tmp 53) 23 23 rfl 8 (c + 1 - (i + 1)) (G - (i + 1)) (c - i) (c - i) (c - i) Tryz.underlying23 Se.sz hmin1.out (by omega) (some ⟨g, i * 8, none⟩) (fun b => b = g) (by simp [Act.eval, Act.put]) (by simp [Act.eval, Act.put]) hb3' hrd2 h1D.out hfit1.out ?_; intro w3 hb4 hm3)
  all_goals
    go_wp2
    go_ret
    have hm12 := hm1.trans hm2 (T := One g2) (fun j hj h' => (Nat.ne_of_lt (Nat.lt_of_lt_of_le hj hg2') h').elim)
    refine ⟨_, rfl, ?_, hm12.trans hm3.undrew (fun j hj h' => (Nat.ne_of_lt (Nat.lt_of_lt_of_le hj hg2') h').elim)⟩
    obtain ⟨k1, k2, k3, k4, k5⟩ := HG.out
    have e1 := splice_ins2 ROW x.cells D (i * 8) 8 rfl (by have := HD.out.2; omega)
    have e2 : i * 8 + 8 = (i + 1) * 8 := by omega
    have e3 : i * 8 + 8 + D.length = (c + 1) * 8 := by rw [HD.out.2]; omega
    rw [e3, e2] at e1
    have e4 : (l.take i ++ x :: l.drop i).length = c + 1 := by have := HK.out; simp; omega
    unfold OwnE
    rw [e4]
    refine own_of_blk hb4.out k5 k1 k2 ?_ (by rw [ecs_length, e4]) ?_
    · rw [length_splice, length_splice, k3]
      · exact hfit0.out
      · exact hfit1.out
    · rw [e1, HD.out.1, ecs_append, k4]
      rfl

/-- slices.Insert of one session that lies in a block of its own. -/
theorem insert_Se (v : Value) (l : List Se) (x : Se) (i vb B : Nat) (w : World) (hown : OwnE w B v l) (hvb : Blk w vb 68 x.cells.toArray) (hne : v.ownBlock ≠ some vb) (hi : i ≤ l.length) (hl : l.length ≤ 1000) (hB : B ≤ w.heap.size) :
    Calls Tryz.prog 147 #[v, .int .i64 i, .slice (some ⟨vb, 0, none⟩) 1 1] w fun e w' => ∃ v', e = .returned v' ∧ OwnE w' B v' (l.take i ++ x :: l.drop i) ∧ Mod (fun k => v.ownBlock = some k) w w' := by
  by_cases hin : i = l.length
  · subst hin
    have := insert_Se_end v l x vb B w hown hvb hl hB
    simpa using this
  · obtain ⟨g, c, cur, rfl, _, hb, hnc, _⟩ := own_blk hown (by omega)
    have hg : vb ≠ g := fun h => hne (by rw [h]; rfl)
    by_cases hroom : l.length + 1 ≤ c
    · refine (insert_Se_room l x i l.length c g vb B w hown rfl hvb hg hl (by omega) hroom).mono ?_
      rintro e w' ⟨v', h1, h2, h3⟩
      exact ⟨v', h1, h2, h3.mono fun k _ hk => by rw [show k = g from hk]; rfl⟩
    · refine (insert_Se_grow l x i l.length c g vb B w hown rfl hvb hl (by omega) (by omega) hB).mono ?_
      rintro e w' ⟨v', h1, h2, h3⟩
      exact ⟨v', h1, h2, h3.non⟩
end Go.Proofs.YtdclfdinhdaadaaGreatDoor

/- slices.Insert at pairs: the contract. -/
namespace Go.Proofs.YtdclfdinhdaadaaGreatDoor
open Go.RowKit

set_option maxRecDepth 100000 in
set_option maxHeartbeats 2000000 in
theorem insert_Pa_end (v : Value) (l : List Pa) (x : Pa) (vb B : Nat) (w : World) (hown : OwnP w B v l) (hvb : Blk w vb 42 x.cells.toArray) (hl : l.length ≤ 1000) (hB : B ≤ w.heap.size) :
    Calls Tryz.prog 167 #[v, .int .i64 l.length, .slice (some ⟨vb, 0, none⟩) 1 1] w fun e w' => ∃ v', e = .returned v' ∧ OwnP w' B v' (l ++ [x]) ∧ Mod (fun k => v.ownBlock = some k) w w' := by
  have hrd : Reads w (fun _ => True) 3 (some ⟨vb, 0, none⟩) 1 (pcs [x]) := hvb.reads rfl
  have hl1 : l.length + [x].length ≤ 1000000 := by simp; omega
  have hf := hown.2
  obtain ⟨k, hk⟩ : ∃ k, k = l.length := ⟨_, rfl⟩
  rw [← hk] at hf ⊢
  rcases hf with ⟨h3, h4⟩ | ⟨g, c, cur, hv, h5, _, hkc, h6, _⟩
  · subst h3 h4
    clear hk
    go_enter Tryz.func167, Tryz.ntmps167
    go_wp2_with (at_builtin; refine wpList_append_pcs rfl (.tmp 23) (.tmp 24) rfl B _ l rfl hown (fun _ => True) _ 1 1 [x] rfl hrd hl1 hB ?_; intro v' w' h1 h2 _)
    go_ret
    exact ⟨_, rfl, h1, h2⟩
  · subst hv
    clear hk
    by_cases hck : c = k
    · subst hck
      go_enter Tryz.func167, Tryz.ntmps167
      go_wp2_with (at_builtin; refine wpList_append_pcs rfl (.tmp 23) (.tmp 24) rfl B _ l rfl hown (fun _ => True) _ 1 1 [x] rfl hrd hl1 hB ?_; intro v' w' h1 h2 _)
      go_ret
      exact ⟨_, rfl, h1, h2⟩
    · have hck2 : k < c := by omega
      go_enter Tryz.func167, Tryz.ntmps167
      go_wp2_with (at_builtin; refine wpList_append_pcs rfl (.tmp 23) (.tmp 24) rfl B _ l rfl hown (fun _ => True) _ 1 1 [x] rfl hrd hl1 hB ?_; intro v' w' h1 h2 _)
      go_ret
      exact ⟨_, rfl, h1, h2⟩

theorem Pa.one (x : Pa) : ∀ u ∈ x.cells, u.oneCell' = true := by
  intro u hu
  simp only [Pa.cells, List.mem_cons, List.not_mem_nil, or_false] at hu
  rcases hu with rfl | rfl | rfl <;> rfl
theorem Pa.sz : (Tryz.prog.info? 42).map (·.size) = some 3 := by
  obtain ⟨i0, hi, _, hz1, _⟩ := info_parts Pa.info
  rw [hi]; simp [hz1]
theorem pcs_take (l : List Pa) (i : Nat) : (pcs l).take (i * 3) = pcs (l.take i) := by
  induction l generalizing i with
  | nil => simp [pcs]
  | cons a l ih =>
    cases i with
    | zero => simp [pcs]
    | succ i =>
      rw [show (i + 1) * 3 = i * 3 + 3 by omega]
      show (a.cells ++ pcs l).take _ = a.cells ++ pcs (l.take i)
      rw [← ih i]
      rfl
theorem pcs_drop (l : List Pa) (i : Nat) : (pcs l).drop (i * 3) = pcs (l.drop i) := by
  induction l generalizing i with
  | nil => simp [pcs]
  | cons a l ih =>
    cases i with
    | zero => simp [pcs]
    | succ i =>
      rw [show (i + 1) * 3 = i * 3 + 3 by omega]
      show (a.cells ++ pcs l).drop _ = pcs (l.drop i)
      rw [← ih i]
      rfl

theorem run_Insert_Pa_apart (w : World) (vb g o lb cb : Nat) (x : Pa) (cur : List Value) (hne : vb ≠ g) (hvb : Blk w vb 42 x.cells.toArray) (hb : Blk w g 42 cur.toArray) (hc : cur.length ≠ 0) :
    (callFunc 180 #[.slice (some ⟨vb, 0, none⟩) 1 1, .slice (some ⟨g, o, none⟩) lb cb]).run Tryz.prog w = .ok (.value (.bool false)) w := by
  rw [run_callFunc_extern Tryz.func180 (by kernel_rfl) (by kernel_rfl) (by kernel_rfl) (e := Extern.SlicesOverlaps.overlaps #[22, 22] #[4]) (by kernel_rfl),
    Lib.run_overlaps_apart w 22 4 42 Tryz.underlying22 3 (fun w => by obtain ⟨i0, hi, _, hz1, _⟩ := info_parts Pa.info; simp [sizeOf, typeInfo, hi, hz1]) ⟨vb, 0, none⟩ ⟨g, o, none⟩ 1 1 lb cb hne _ _ _ _ (shape_blk hvb) (shape_blk hb) (by simpa using hc) (hvb.frozen _) (hvb.frozen _)]
  rfl

set_option maxRecDepth 100000 in
set_option maxHeartbeats 2000000 in
theorem insert_Pa_room (l : List Pa) (x : Pa) (i k c g vb B : Nat) (w : World) (hown : OwnP w B (.slice (some ⟨g, 0, none⟩) k c) l) (hk : k = l.length) (hvb : Blk w vb 42 x.cells.toArray) (hne : vb ≠ g) (hl : l.length ≤ 1000) (hi : i < k) (hkc : k + 1 ≤ c) :
    Calls Tryz.prog 167 #[.slice (some ⟨g, 0, none⟩) k c, .int .i64 i, .slice (some ⟨vb, 0, none⟩) 1 1] w fun e w' => ∃ v', e = .returned v' ∧ OwnP w' B v' (l.take i ++ x :: l.drop i) ∧ Mod (One g) w w' := by
  obtain ⟨g', c', cur, hv, hB, hb, hkc', hcm, hcl, ht⟩ := own_blk hown (by omega)
  injection hv with e1 e2 e3
  injection e1 with e1
  injection e1 with e1 _ _
  subst e1 e3
  have hov := fun lb cb => run_Insert_Pa_apart w vb g ((i + 1) * 3) lb cb x cur hne hvb hb (by omega)
  have hc63 : c ≤ 9223372036854775807 := by unfold maxLen at hcm; omega
  have hz2 : ¬ ((i : Int) = (k : Int)) := by omega
  have hin : i ≤ k := by omega
  have hb2 : ¬ (c = i + 1) := by omega
  have hb4 : ¬ (c = i) := by omega
  have hmin : Hid (Nat.min (k + 1 - i) (k + 1 - (i + 1)) = k - i) := by
    show Nat.min (k + 1 - i) (k + 1 - (i + 1)) = k - i
    simp only [Nat.min_def]; split <;> omega
  obtain ⟨D, hD⟩ : ∃ D, D = pcs (l.drop i) := ⟨_, rfl⟩
  have hDl : D.length = (k - i) * 3 := by rw [hD, pcs_length, List.length_drop, hk]
  have hrd : Hid (Reads w (fun b => b = g) 3 (some ⟨g, i * 3, none⟩) (k - i) D) := hb.readsAt hDl (fun j u hu => by
    rw [hD, ← pcs_drop, List.getElem?_drop] at hu
    have hlt := (List.getElem?_eq_some_iff.1 hu).1
    rw [← ht, List.getElem?_take] at hu
    split at hu
    · exact hu
    · cases hu)
  have h1D : Hid (∀ u ∈ D, u.oneCell' = true) := by rw [hD]; exact pcs_one _
  have hfit : Hid ((i + 1) * 3 + D.length ≤ cur.length) := by
    show (i + 1) * 3 + D.length ≤ cur.length
    omega
  have hfit1' : Hid (i * 3 + x.cells.length ≤ cur.length) := by
    show i * 3 + 3 ≤ cur.length
    omega
  have hfit1 : Hid (i * 3 + x.cells.toArray.toList.length ≤ (splice cur ((i + 1) * 3) D).length) := by
    show i * 3 + 3 ≤ (splice cur ((i + 1) * 3) D).length
    rw [length_splice _ _ _ hfit.out]
    omega
  have hmin1 : Hid (Nat.min 1 (k + 1 - i) = 1) := by
    show Nat.min 1 (k + 1 - i) = 1
    simp only [Nat.min_def]; split <;> omega
  have HD : Hid (D = pcs (l.drop i) ∧ D.length = (k - i) * 3) := ⟨hD, hDl⟩
  have hw1 : IntKind.i64.wrap ((i : Int) + 1) = (i : Int) + 1 := by rw [IntKind.wrap_i64]; omega
  have hb1 : (0 : Int) ≤ (i : Int) + 1 := by omega
  have htn : ((i : Int) + 1).toNat = i + 1 := by omega
  have hb3 : (i : Int) ≤ (k : Int) + 1 := by omega
  have HK := Lib.hid hk
  have HT := Lib.hid ht
  clear hk e2 hkc' ht hown hl hD hDl
  go_enter Tryz.func167, Tryz.ntmps167
  go_wp2_with fail
  go_region_law (refine step_copy_at rfl (.tmp 73) (.tmp 76) 22 22 rfl 3 (k + 1 - (i + 1)) (c - (i + 1)) (k + 1 - i) (c - i) (k - i) Tryz.underlying22 Pa.sz hmin.out (by omega) (some ⟨g, i * 3, none⟩) (fun b => b = g) (by simp [Act.eval, Act.put]) (by simp [Act.eval, Act.put]) hb hrd.out h1D.out hfit.out ?_; intro w1 hb1 hm1)
  all_goals
    have hm1' := hm1.undrew
    have hvb1 := hvb.mod hm1' (fun h => hne h)
    have hrv := hvb1.reads (size := 3) rfl
    go_wp2_with (with_reducible (show wpList _ _ _ (⟨some 82, _, _, _, _, _⟩ :: _) _ _); refine wpList_copy_at rfl (.tmp 80) (.tmp 81) 22 22 rfl 3 (k + 1 - i) (c - i) 1 1 1 Tryz.underlying22 Pa.sz hmin1.out (by omega) (some ⟨vb, 0, none⟩) (fun _ => True) (by simp [Act.eval]) (by simp [Act.eval]) hb1.out hrv (Pa.one x) hfit1.out ?_; intro w2 hb2 hm2)
    go_ret
    refine ⟨_, rfl, ?_, hm1'.trans' hm2⟩
    have e1 := splice_ins1 cur x.cells D (i * 3) 3 rfl (by have := hfit.out; omega)
    have e2 : i * 3 + 3 = (i + 1) * 3 := by omega
    have e3 : i * 3 + 3 + D.length = (k + 1) * 3 := by rw [HD.out.2]; omega
    rw [e3, e2] at e1
    have e4 : (l.take i ++ x :: l.drop i).length = k + 1 := by have := HK.out; simp; omega
    unfold OwnP
    rw [e4]
    refine own_of_blk hb2.out hB hkc hcm ?_ (by rw [pcs_length, e4]) ?_
    · rw [length_splice, length_splice, hcl]
      · exact hfit.out
      · rw [length_splice _ _ _ hfit.out]; exact hfit1'.out
    · rw [e1, HD.out.1, pcs_append]
      have e5 : cur.take (i * 3) = pcs (l.take i) := by
        rw [← pcs_take, ← HT.out, List.take_take, Nat.min_eq_left]
        have := HK.out
        omega
      rw [e5]
      rfl

set_option maxRecDepth 100000 in
set_option maxHeartbeats 4000000 in
theorem insert_Pa_grow (l : List Pa) (x : Pa) (i k c g vb B : Nat) (w : World) (hown : OwnP w B (.slice (some ⟨g, 0, none⟩) k c) l) (hk : k = l.length) (hvb : Blk w vb 42 x.cells.toArray) (hl : l.length ≤ 1000) (hi : i < k) (hkc : c < k + 1) (hBw : B ≤ w.heap.size) :
    Calls Tryz.prog 167 #[.slice (some ⟨g, 0, none⟩) k c, .int .i64 i, .slice (some ⟨vb, 0, none⟩) 1 1] w fun e w' => ∃ v', e = .returned v' ∧ OwnP w' B v' (l.take i ++ x :: l.drop i) ∧ Mod Non w w' := by
  obtain ⟨g', c', cur, hv, hB, hb, hkc', hcm, hcl, ht⟩ := own_blk hown (by omega)
  injection hv with e1 e2 e3
  injection e1 with e1
  injection e1 with e1 _ _
  subst e1 e3
  obtain ⟨i0, hi0, hz0, hzs, hzb⟩ := info_parts Pa.info
  have hck : c = k := by omega
  subst hck
  obtain ⟨D, hD⟩ : ∃ D, D = pcs (l.drop i) := ⟨_, rfl⟩
  have hDl : D.length = (c - i) * 3 := by rw [hD, pcs_length, List.length_drop, hk]
  have hkk : (c : Int) + 1 - (i : Int) = ((c + 1 - i : Nat) : Int) := by omega
  have hik : i + (c + 1 - i) = c + 1 := by omega
  have hcut : cur.take (i * 3) = pcs (l.take i) := by
    rw [← pcs_take, ← ht, List.take_take, Nat.min_eq_left]
    omega
  have hold : (Builtin.firstCells i0.size i (.slice (some ⟨g, 0, none⟩) i c)).run Tryz.prog w.drew = .ok (pcs (l.take i)).toArray w.drew := by
    rw [hzs]
    exact run_firstCells_some w.drew 3 i ⟨g, 0, none⟩ i c (pcs (l.take i)) (by rw [pcs_length, List.length_take]; omega) (fun j v hj => by
      rw [Addr.add_lit, ← hcut, List.getElem?_take] at *
      split at hj
      · show w.cell? _ = _
        rw [hb.cell]
        simpa using hj
      · cases hj)
  obtain ⟨G, hG⟩ : ∃ G, G = grownCap w (c + 1) c 42 := ⟨_, rfl⟩
  have hGn : c + 1 ≤ G := by rw [hG]; exact grownCap_ge w _ _ _
  have hGm : G ≤ maxLen := by rw [hG]; exact grownCap_le_maxLen w (c + 1) c _ (by unfold maxLen; omega)
  obtain ⟨ROW, hROW⟩ : ∃ ROW : List Value, ROW = ((pcs (l.take i)).toArray ++ Builtin.zeroCells (Value.agg #[.string ⟨#[]⟩, .string ⟨#[]⟩, .int .i64 0]).cells (c + 1 - i) ++ Builtin.zeroCells (Value.agg #[.string ⟨#[]⟩, .string ⟨#[]⟩, .int .i64 0]).cells (G - (c + 1))).toList := ⟨_, rfl⟩
  have hrz : ∀ ty, (Builtin.append_ #[22, 3] ty #[.slice (some ⟨g, 0, none⟩) i c, .int .i64 ((c : Int) + 1 - (i : Int))]).run Tryz.prog w =
      .ok (.slice (some ⟨w.heap.size, 0, none⟩) (c + 1) G) (w.drew.alloc (.cells ROW.toArray 42)) := fun ty => by
    have h := Lib.run_append_grow_zeros w 22 3 ty 42 i0 _ .i64 .i64 Tryz.underlying22 Tryz.underlying3 hi0 hz0 (some ⟨g, 0, none⟩) i c (pcs (l.take i)) hold (c + 1 - i) (by omega) (by omega) (by omega) (by omega) (by rw [hzb]; omega) (by rw [hzb, hik]; exact growslice_fits hkc (by omega))
    rw [hik, ← hG] at h
    rw [hkk, hROW, Array.toArray_toList]
    exact h
  have hRl : ROW.length = G * 3 := by
    rw [hROW]
    simp [Builtin.zeroCells, Value.cells, pcs_length, List.length_take]
    omega
  have hRt : ROW.take (i * 3) = pcs (l.take i) := by
    rw [hROW]
    have : (pcs (l.take i)).length = i * 3 := by rw [pcs_length, List.length_take]; omega
    simp [← this]
  obtain ⟨W1, hW1⟩ : ∃ W1, W1 = w.drew.alloc (.cells ROW.toArray 42) := ⟨_, rfl⟩
  obtain ⟨g2, hg2⟩ : ∃ g2, g2 = w.heap.size := ⟨_, rfl⟩
  have hb2 : Blk W1 g2 42 ROW.toArray := by rw [hW1, hg2]; exact Blk.new w.drew _ _
  have hm1 : Mod Non w W1 := by rw [hW1]; exact ((Mod.refl Non w).drew).alloc _
  rw [← hW1, ← hg2] at hrz
  have hvb1 := hvb.mod hm1 (fun h => h)
  have hb1 := hb.mod hm1 (fun h => h)
  have hne : g ≠ g2 := by have := hb.lt; omega
  have hg2' : w.heap.size ≤ g2 := by omega
  have hnv : vb ≠ g2 := by have := hvb.lt; omega
  have hrv := hvb1.reads (size := 3) rfl
  have hc63 : c ≤ 9223372036854775807 := by unfold maxLen at hcm; omega
  have hc6 : c ≤ 100000 := by omega
  have hG63 : G ≤ 9223372036854775807 := by unfold maxLen at hGm; omega
  have hz2 : ¬ ((i : Int) = (c : Int)) := by omega
  have hin : i ≤ c := by omega
  have hb4 : ¬ (c = i) := by omega
  have hGi : ¬ (G = i) := by omega
  have hGi1 : ¬ (G = i + 1) := by omega
  have hfit0 : Hid (i * 3 + x.cells.toArray.toList.length ≤ ROW.length) := by
    show i * 3 + 3 ≤ ROW.length
    omega
  have hfit1 : Hid ((i + 1) * 3 + D.length ≤ (splice ROW (i * 3) x.cells).length) := by
    show (i + 1) * 3 + D.length ≤ (splice ROW (i * 3) x.cells).length
    rw [length_splice _ _ _ hfit0.out]
    omega
  have hmin0 : Hid (Nat.min 1 (c + 1 - i) = 1) := by
    show Nat.min 1 (c + 1 - i) = 1
    simp only [Nat.min_def]; split <;> omega
  have hmin1 : Hid (Nat.min (c - i) (c + 1 - (i + 1)) = c - i) := by
    show Nat.min (c - i) (c + 1 - (i + 1)) = c - i
    simp only [Nat.min_def]; split <;> omega
  have hrd : Hid (Reads W1 (fun b => b = g) 3 (some ⟨g, i * 3, none⟩) (c - i) D) := hb1.readsAt hDl (fun j u hu => by
    rw [hD, ← pcs_drop, List.getElem?_drop] at hu
    rw [← ht, List.getElem?_take] at hu
    split at hu
    · exact hu
    · cases hu)
  have h1D : Hid (∀ u ∈ D, u.oneCell' = true) := by rw [hD]; exact pcs_one _
  have HD : Hid (D = pcs (l.drop i) ∧ D.length = (c - i) * 3) := ⟨hD, hDl⟩
  have HG : Hid (c + 1 ≤ G ∧ G ≤ maxLen ∧ ROW.length = G * 3 ∧ ROW.take (i * 3) = pcs (l.take i) ∧ B ≤ g2) := ⟨hGn, hGm, hRl, hRt, by omega⟩
  have HK := Lib.hid hk
  have hw1 : IntKind.i64.wrap ((i : Int) + 1) = (i : Int) + 1 := by rw [IntKind.wrap_i64]; omega
  have hw0 : (0 : Int) ≤ (i : Int) + 1 := by omega
  have htn : ((i : Int) + 1).toNat = i + 1 := by omega
  have hin1 : (i : Int) ≤ (c : Int) := by omega
  clear hW1 hg2 hROW hG hGn hGm hRl hRt hold hcut hD hDl hk e2 hkc' ht hown hl hkk hik hBw
  go_enter Tryz.func167, Tryz.ntmps167
  go_wp2_with (first
    | (at_builtin; refine Lib.wpList_append_run _ rfl (.tmp 34) (.tmp 39) _ _ rfl _ _ (by simp [Act.eval]; try rfl) (by simp [Act.eval]; try rfl) _ _ (hrz _) ?_)
    | (with_reducible (show wpList _ _ _ (⟨some 45, _, _, _, _, _⟩ :: _) _ _); refine wpList_copy_at rfl (.tmp 43) (.tmp 44) 22 22 rfl 3 (c + 1 - i) (G - i) 1 1 1 Tryz.underlying22 Pa.sz hmin0.out (by omega) (some ⟨vb, 0, none⟩) (fun _ => True) (by simp [Act.eval]) (by simp [Act.eval]) hb2 hrv (Pa.one x) hfit0.out ?_; intro w2 hb3 hm2))
  have hb3' := hb3.out
  have hrd2 := hrd.out.mod hm2 (fun _ _ h h' => hne (h.symm.trans h'))
  go_region_law (refine step_copy_at rfl (.tmp 50) (.tmp 53) 22 22 rfl 3 (c + 1 - (i + 1)) (G - (i + 1)) (c - i) (c - i) (c - i) Tryz.underlying22 Pa.sz hmin1.out (by omega) (some ⟨g, i * 3, none⟩) (fun b => b = g) (by simp [Act.eval, Act.put]) (by simp [Act.eval, Act.put]) hb3' hrd2 h1D.out hfit1.out ?_; intro w3 hb4 hm3)
  all_goals
    go_wp2
    go_ret
    have hm12 := hm1.trans hm2 (T := One g2) (fun j hj h' => (Nat.ne_of_lt (Nat.lt_of_lt_of_le hj hg2') h').elim)
    refine ⟨_, rfl, ?_, hm12.trans hm3.undrew (fun j hj h' => (Nat.ne_of_lt (Nat.lt_of_lt_of_le hj hg2') h').elim)⟩
    obtain ⟨k1, k2, k3, k4, k5⟩ := HG.out
    have e1 := splice_ins2 ROW x.cells D (i * 3) 3 rfl (by have := HD.out.2; omega)
    have e2 : i * 3 + 3 = (i + 1) * 3 := by omega
    have e3 : i * 3 + 3 + D.length = (c + 1) * 3 := by rw [HD.out.2]; omega
    rw [e3, e2] at e1
    have e4 : (l.take i ++ x :: l.drop i).length = c + 1 := by have := HK.out; simp; omega
    unfold OwnP
    rw [e4]
    refine own_of_blk hb4.out k5 k1 k2 ?_ (by rw [pcs_length, e4]) ?_
    · rw [length_splice, length_splice, k3]
      · exact hfit0.out
      · exact hfit1.out
    · rw [e1, HD.out.1, pcs_append, k4]
      rfl

/-- slices.Insert of one pair that lies in a block of its own. -/
theorem insert_Pa (v : Value) (l : List Pa) (x : Pa) (i vb B : Nat) (w : World) (hown : OwnP w B v l) (hvb : Blk w vb 42 x.cells.toArray) (hne : v.ownBlock ≠ some vb) (hi : i ≤ l.length) (hl : l.length ≤ 1000) (hB : B ≤ w.heap.size) :
    Calls Tryz.prog 167 #[v, .int .i64 i, .slice (some ⟨vb, 0, none⟩) 1 1] w fun e w' => ∃ v', e = .returned v' ∧ OwnP w' B v' (l.take i ++ x :: l.drop i) ∧ Mod (fun k => v.ownBlock = some k) w w' := by
  by_cases hin : i = l.length
  · subst hin
    have := insert_Pa_end v l x vb B w hown hvb hl hB
    simpa using this
  · obtain ⟨g, c, cur, rfl, _, hb, hnc, _⟩ := own_blk hown (by omega)
    have hg : vb ≠ g := fun h => hne (by rw [h]; rfl)
    by_cases hroom : l.length + 1 ≤ c
    · refine (insert_Pa_room l x i l.length c g vb B w hown rfl hvb hg hl (by omega) hroom).mono ?_
      rintro e w' ⟨v', h1, h2, h3⟩
      exact ⟨v', h1, h2, h3.mono fun k _ hk => by rw [show k = g from hk]; rfl⟩
    · refine (insert_Pa_grow l x i l.length c g vb B w hown rfl hvb hl (by omega) (by omega) hB).mono ?_
      rintro e w' ⟨v', h1, h2, h3⟩
      exact ⟨v', h1, h2, h3.non⟩
end Go.Proofs.YtdclfdinhdaadaaGreatDoor

/- slices.Delete of one pair. -/
namespace Go.Proofs.YtdclfdinhdaadaaGreatDoor
open Go.RowKit

set_option maxRecDepth 100000 in
set_option maxHeartbeats 4000000 in
theorem delete_Pa (l : List Pa) (i k c g B : Nat) (w : World) (hown : OwnP w B (.slice (some ⟨g, 0, none⟩) k c) l) (hk : k = l.length) (hl : l.length ≤ 1000) (hi : i < k) :
    Calls Tryz.prog 168 #[.slice (some ⟨g, 0, none⟩) k c, .int .i64 i, .int .i64 (i + 1)] w fun e w' => ∃ v', e = .returned v' ∧ OwnP w' B v' (l.take i ++ l.drop (i + 1)) ∧ Mod (One g) w w' := by
  obtain ⟨g', c', cur, hv, hB, hb, hkc', hcm, hcl, ht⟩ := own_blk hown (by omega)
  injection hv with e1 e2 e3
  injection e1 with e1
  injection e1 with e1 _ _
  subst e1 e3
  obtain ⟨i0, hi0, hz0, hzs, hzb⟩ := info_parts Pa.info
  have hkc : k ≤ c := by omega
  obtain ⟨D, hD⟩ : ∃ D, D = pcs (l.drop (i + 1)) := ⟨_, rfl⟩
  have hDl : D.length = (k - (i + 1)) * 3 := by rw [hD, pcs_length, List.length_drop, hk]
  have h1D : Hid (∀ u ∈ D, u.oneCell' = true) := by rw [hD]; exact pcs_one _
  have hfit : Hid (i * 3 + D.length ≤ cur.length) := by
    show i * 3 + D.length ≤ cur.length
    omega
  obtain ⟨A, hA, hrd⟩ : ∃ A : Option Addr, A = (if c = i + 1 then some ⟨g, 0, none⟩ else some ⟨g, (i + 1) * 3, none⟩) ∧ Hid (Reads w (fun b => b = g) 3 A (k - (i + 1)) D) := by
    refine ⟨_, rfl, ?_⟩
    by_cases h : c = i + 1
    · have h0 : k - (i + 1) = 0 := by omega
      have h1 : D = [] := List.eq_nil_of_length_eq_zero (by rw [hDl]; omega)
      rw [h0, h1]
      exact ⟨by simp, fun h => absurd h (by omega)⟩
    · rw [if_neg h]
      exact hb.readsAt hDl (fun j u hu => by
        rw [hD, ← pcs_drop, List.getElem?_drop, ← ht, List.getElem?_take] at hu
        split at hu
        · exact hu
        · cases hu)
  have hAn : A ≠ none := by rw [hA]; split <;> simp
  obtain ⟨Z, hZ⟩ : ∃ Z, Z = (Builtin.zeroCells (Value.agg #[.string ⟨#[]⟩, .string ⟨#[]⟩, .int .i64 0]).cells 1).toList := ⟨_, rfl⟩
  have hZe : Z = [.string ⟨#[]⟩, .string ⟨#[]⟩, .int .i64 0] := by rw [hZ]; kernel_rfl
  have hZl : Z.length = 3 := by rw [hZe]; rfl
  have hZ1 : Hid (∀ u ∈ Z, u.oneCell' = true) := by
    rw [hZe]
    intro u hu
    simp only [List.mem_cons, List.not_mem_nil, or_false] at hu
    rcases hu with rfl | rfl | rfl <;> rfl
  have hZ2 := Lib.hid hZ
  have hfit2 : Hid ((i * 3 + D.length) + Z.length ≤ (splice cur (i * 3) D).length) := by
    show (i * 3 + D.length) + Z.length ≤ (splice cur (i * 3) D).length
    rw [length_splice _ _ _ hfit.out]
    omega
  obtain ⟨k1, hk1⟩ : ∃ k1, k1 = k - 1 := ⟨_, rfl⟩
  have hoffe : i + (k - (i + 1)) = k1 := by omega
  have hoff : Hid (k1 * 3 = i * 3 + D.length) := by
    show k1 * 3 = i * 3 + D.length
    rw [hDl]; omega
  have hkk : k - k1 = 1 := by omega
  have hr2 : (k1 : Int) ≤ (k : Int) := by omega
  have hr3 : k1 ≤ k := by omega
  have hr4 : ¬ (c = k1) := by omega
  have hr5 : k1 ≤ c := by omega
  have HK1 := Lib.hid hk1
  clear hk1
  have HD : Hid (D = pcs (l.drop (i + 1)) ∧ D.length = (k - (i + 1)) * 3) := ⟨hD, hDl⟩
  have HK := Lib.hid hk
  have HT := Lib.hid ht
  have hik : i ≤ c := by omega
  have hik1 : i + 1 ≤ c := by omega
  have hik2 : i + 1 ≤ k := by omega
  have hr0 : (0 : Int) ≤ (i : Int) + 1 := by omega
  have hr1 : (i : Int) + 1 ≤ (k : Int) := by omega
  clear hk e2 hkc' ht hown hl hD hDl hZ hZe
  clear hZl
  go_enter Tryz.func168, Tryz.ntmps168
  go_wp2_with fail
  go_region_law (refine step_append_at (off := i * 3) rfl (.tmp 22) (.tmp 25) 22 rfl i0 3 i c (k - (i + 1)) (c - (i + 1)) Tryz.underlying22 hi0 hzs A (fun b => b = g) hAn (by simp [Act.eval, Act.put]) (by simp [Act.eval, Act.put, hA]) hb hrd.out h1D.out (by omega) rfl hfit.out ?_; intro w1 hb1 hm1)
  all_goals
    rw [hoff.out.symm] at hfit2
    go_wp2_with (with_reducible (show wpList _ _ _ (⟨none, _, _, _, _, _⟩ :: _) _ _); refine wpList_clear_at rfl (.tmp 31) 22 rfl _ 1 (c - k1) Tryz.underlying22 Tryz.zeroValue42 (by omega) hZ2.out (by simp [Act.eval]) hb1.out hZ1.out hfit2.out ?_; intro w2 hb2 hm2)
  all_goals
    go_ret
    refine ⟨_, rfl, ?_, hm1.undrew.trans' hm2⟩
    have hb2' := hb2.out
    rw [hoff.out] at hb2' hfit2
    have e1 := splice_del cur D (i * 3) Z (by have := hfit2.out; rw [length_splice _ _ _ hfit.out] at this; omega)
    rw [← hoff.out] at e1
    have e4 : (l.take i ++ l.drop (i + 1)).length = k1 := by have := HK.out; have := HK1.out; simp; omega
    unfold OwnP
    rw [e4]
    refine own_of_blk (cur := splice (splice cur (i * 3) D) (i * 3 + D.length) Z) hb2' hB (by omega) (by first | exact hcm | omega) ?_ (by rw [pcs_length, e4]) ?_
    · rw [length_splice _ _ _ hfit2.out, length_splice _ _ _ hfit.out]; omega
    · rw [← hoff.out, e1, HD.out.1, pcs_append]
      have e5 : cur.take (i * 3) = pcs (l.take i) := by
        rw [← pcs_take, ← HT.out, List.take_take, Nat.min_eq_left]
        have := HK.out
        omega
      rw [e5]
end Go.Proofs.YtdclfdinhdaadaaGreatDoor

/- Package sess: the contract of With. -/
namespace Go.Proofs.YtdclfdinhdaadaaGreatDoor
open Go.RowKit

/-- an answer's session -/
def seOf (a : An) : Se := ⟨a.client, a.seq, a⟩
/-- sessions with a command's answer -/
def swith (ss : List Se) (a : An) : List Se := if sfd a.client ss = true then ss.set (slb a.client ss) (seOf a) else ss.take (slb a.client ss) ++ seOf a :: ss.drop (slb a.client ss)

theorem ecs_set8 (l : List Se) (j : Nat) (x : Se) (hj : j < l.length) :
    ((((((((ecs l).set (j * 8) (.int .i64 x.client)).set (j * 8 + 1) (.int .i64 x.seq)).set (j * 8 + 2) (.int .i64 x.last.client)).set (j * 8 + 3) (.int .i64 x.last.seq)).set (j * 8 + 4) (.int .i64 x.last.err)).set (j * 8 + 5) (.bool x.last.found)).set (j * 8 + 6) (.string x.last.val)).set (j * 8 + 7) (.int .i64 x.last.rev) = ecs (l.set j x) := by
  induction l generalizing j with
  | nil => simp at hj
  | cons a l ih =>
    cases j with
    | zero => rfl
    | succ j =>
      simp at hj
      rw [show (j + 1) * 8 = j * 8 + 8 by omega, show j * 8 + 8 + 1 = j * 8 + 1 + 8 by omega, show j * 8 + 8 + 2 = j * 8 + 2 + 8 by omega, show j * 8 + 8 + 3 = j * 8 + 3 + 8 by omega, show j * 8 + 8 + 4 = j * 8 + 4 + 8 by omega, show j * 8 + 8 + 5 = j * 8 + 5 + 8 by omega, show j * 8 + 8 + 6 = j * 8 + 6 + 8 by omega, show j * 8 + 8 + 7 = j * 8 + 7 + 8 by omega]
      show ((((((((a.cells ++ ecs l).set _ _).set _ _).set _ _).set _ _).set _ _).set _ _).set _ _).set _ _ = a.cells ++ ecs (l.set j _)
      rw [← ih j hj]
      rfl

section
variable {w : World} {B g m c : Nat} {l : List Se} {A : Option Addr}
theorem OwnE.at (h : OwnE w B (.slice A m c) l) (h0 : 0 < l.length) : ∃ g cur, A = some ⟨g, 0, none⟩ ∧ B ≤ g ∧ g < w.heap.size ∧ Blk w g 68 cur := by
  obtain ⟨h1, h2⟩ := h
  rcases h2 with ⟨h3, h4⟩ | ⟨g', cap, cur, hv, hb, hh, _⟩
  · omega
  · injection hv with e1 _ _
    exact ⟨g', cur, e1, hb, (Array.getElem?_eq_some_iff.1 hh).1, hh⟩
theorem OwnE.setSe (h : OwnE w B (.slice (some ⟨g, 0, none⟩) m c) l) {j : Nat} (hj : j < l.length) (x : Se) :
    OwnE ((((((((w.setCell ⟨g, j * 8, none⟩ (.int .i64 x.client)).setCell ⟨g, j * 8 + 1, none⟩ (.int .i64 x.seq)).setCell ⟨g, j * 8 + 2, none⟩ (.int .i64 x.last.client)).setCell ⟨g, j * 8 + 3, none⟩ (.int .i64 x.last.seq)).setCell ⟨g, j * 8 + 4, none⟩ (.int .i64 x.last.err)).setCell ⟨g, j * 8 + 5, none⟩ (.bool x.last.found)).setCell ⟨g, j * 8 + 6, none⟩ (.string x.last.val)).setCell ⟨g, j * 8 + 7, none⟩ (.int .i64 x.last.rev))
      B (.slice (some ⟨g, 0, none⟩) m c) (l.set j x) := by
  have h0 := own_set (i := j * 8) h (.int .i64 x.client) (by omega)
  have h1 := own_set (i := j * 8 + 1) h0 (.int .i64 x.seq) (by omega)
  have h2 := own_set (i := j * 8 + 2) h1 (.int .i64 x.last.client) (by omega)
  have h3 := own_set (i := j * 8 + 3) h2 (.int .i64 x.last.seq) (by omega)
  have h4 := own_set (i := j * 8 + 4) h3 (.int .i64 x.last.err) (by omega)
  have h5 := own_set (i := j * 8 + 5) h4 (.bool x.last.found) (by omega)
  have h6 := own_set (i := j * 8 + 6) h5 (.string x.last.val) (by omega)
  have h7 := own_set (i := j * 8 + 7) h6 (.int .i64 x.last.rev) (by omega)
  rw [ecs_set8 l j x hj] at h7
  unfold OwnE
  rw [List.length_set]
  exact h7
end

set_option maxRecDepth 100000 in
set_option maxHeartbeats 2000000 in
theorem sess_With (A : Option Addr) (n c : Nat) (R : Nat → Prop) (ss : List Se) (a : An) (w : World) (hr : Reads w R 8 A n (ecs ss)) (hn : n ≤ 1000) (hok : SesOk ss) :
    Calls Tryz.prog 119 #[.slice A n c, a.v] w fun e w' => ∃ v, e = .returned v ∧ OwnE w' w.heap.size v (swith ss a) ∧ Mod Non w w' := by
  have hl : ss.length = n := by have := hr.1; rw [ecs_length] at this; omega
  obtain ⟨sw, hsw⟩ : ∃ sw, sw = swith ss a := ⟨_, rfl⟩
  rw [← hsw]
  obtain ⟨m, hm⟩ : ∃ m, m = slb a.client ss := ⟨_, rfl⟩
  obtain ⟨fd, hfd⟩ : ∃ fd, fd = sfd a.client ss := ⟨_, rfl⟩
  have hle : m ≤ n := by have := takeWhile_le (fun s : Se => decide (s.client < a.client)) ss; rw [hm]; unfold slb; omega
  have HSW : Hid (sw = if fd = true then ss.set m (seOf a) else ss.take m ++ seOf a :: ss.drop m) := by rw [hfd, hm]; exact hsw
  have HF : Hid (fd = true → m < n) := by
    intro h
    rw [hfd] at h
    obtain ⟨x, hx, _⟩ := sfd_some h
    rw [← hm] at hx
    have := (List.getElem?_eq_some_iff.1 hx).1
    omega
  have hm0 := ((Mod.refl Non w).alloc (.cells #[.int .i64 a.client, .int .i64 a.seq, .int .i64 a.err, .bool a.found, .string a.val, .int .i64 a.rev] 57)).alloc (.cells #[.int .i64 a.client, .int .i64 a.seq, .int .i64 a.client, .int .i64 a.seq, .int .i64 a.err, .bool a.found, .string a.val, .int .i64 a.rev] 68)
  have z0 := Blk.new1 w (.cells #[.int .i64 a.client, .int .i64 a.seq, .int .i64 a.err, .bool a.found, .string a.val, .int .i64 a.rev] 57) 68 #[.int .i64 a.client, .int .i64 a.seq, .int .i64 a.client, .int .i64 a.seq, .int .i64 a.err, .bool a.found, .string a.val, .int .i64 a.rev]
  have HC := Lib.hid (sess_place A n c R ss a.client _ (hr.mod hm0 fun _ _ _ h => h) (by omega) hok)
  rw [← hm, ← hfd] at HC
  have HL := Lib.hid hl
  clear hl hm hfd hsw
  obtain ⟨lc, ls, le, lf, lv, lr⟩ := a
  simp only at HC hm0 z0 HSW
  go_enter Tryz.func119, Tryz.ntmps119
  go_wp2_with fail
  refine HC.out.mono ?_
  rintro e w1 ⟨rfl, hm1⟩
  have z1 := z0.mod hm1 (fun h => h)
  have hm01 := hm0.trans' hm1
  go_wp2_with fail
  refine (slices_Clone_Se A n c R ss w1 (hr.mod hm01 fun _ _ _ h => h) (by have := HL.out; omega)).mono ?_
  rintro e w2 ⟨v, rfl, hown, hm2⟩
  have z2 := z1.mod hm2 (fun h => h)
  have hm02 := hm01.trans' hm2
  have c0 := z2.cell 0
  have c1 := z2.cell 1
  have c2 := z2.cell 2
  have c3 := z2.cell 3
  have c4 := z2.cell 4
  have c5 := z2.cell 5
  have c6 := z2.cell 6
  have c7 := z2.cell 7
  simp at c0 c1 c2 c3 c4 c5 c6 c7
  have hs1 := hm01.size
  have hs2 := hm02.size
  have hsz1 : w.heap.size + 2 ≤ w1.heap.size := by have := hm1.size; simpa using this
  cases fd with
  | true =>
    have hmn := HF.out rfl
    have hmi : (m : Int) < n := by omega
    have hl := HL.out
    obtain ⟨A2, n2, c2', rfl, hn2, hc2⟩ := hown.form
    have hn2' : n2 = n := by rw [hn2.out, hl]
    subst hn2'
    obtain ⟨g, cur, rfl, hg1, hg2, hblk⟩ := hown.at (by omega)
    have hrr := hown.reads
    obtain ⟨b', off', y, hA', _, _, _, d0, d1, d2, d3, d4, d5, d6, d7⟩ := hrr.se (k := m) (by omega)
    injection hA' with hA'
    injection hA' with hb1 hb2 _
    subst hb1 hb2
    simp only [Nat.zero_add] at d0 d1 d2 d3 d4 d5 d6 d7
    have f0 := hblk.frozen (m * 8)
    have f1 := hblk.frozen (m * 8 + 1)
    have f2 := hblk.frozen (m * 8 + 2)
    have f3 := hblk.frozen (m * 8 + 3)
    have f4 := hblk.frozen (m * 8 + 4)
    have f5 := hblk.frozen (m * 8 + 5)
    have f6 := hblk.frozen (m * 8 + 6)
    have f7 := hblk.frozen (m * 8 + 7)
    have hset := hown.setSe (j := m) (by omega) ⟨lc, ls, ⟨lc, ls, le, lf, lv, lr⟩⟩
    have HSE := Lib.hid hset
    have hne : ¬ g < w.heap.size := by omega
    clear hset hrr hl hn2 hblk hown z0 z1 z2 hm1 hm2 HL
    go_wp2_with fail
    go_ret
    refine ⟨_, rfl, ?_, ?_⟩
    · rw [HSW.out]
      exact (HSE.out).below (by omega)
    · exact (((((((hm02.setNew (by omega) _ _).setNew (by omega) _ _).setNew (by omega) _ _).setNew (by omega) _ _).setNew (by omega) _ _).setNew (by omega) _ _).setNew (by omega) _ _).setNew (by omega) _ _
  | false =>
    have hno : v.ownBlock ≠ some w2.heap.size := fun h => by have := (World.ownsRow.lt hown _ h).2; omega
    have hnb := Blk.new w2 68 (seOf ⟨lc, ls, le, lf, lv, lr⟩).cells.toArray
    have hma := (Mod.refl Non w2).alloc (.cells (seOf ⟨lc, ls, le, lf, lv, lr⟩).cells.toArray 68)
    have HI := Lib.hid (insert_Se v ss (seOf ⟨lc, ls, le, lf, lv, lr⟩) m w2.heap.size w1.heap.size _ (hown.non hma) hnb hno (by have := HL.out; omega) (by have := HL.out; omega) (by simp; have := hm2.size; omega))
    have HV : Hid (∀ k, v.ownBlock = some k → w1.heap.size ≤ k) := fun k h => (World.ownsRow.lt hown _ h).1
    obtain ⟨A2, n2, c2', rfl, hn2, hc2⟩ := hown.form
    clear hn2 hown z0 z1 z2 hm1 hno hnb
    go_wp2_with fail
    refine HI.out.mono ?_
    rintro e w3 ⟨v', rfl, ho3, hm3⟩
    go_wp2
    go_ret
    refine ⟨_, rfl, ?_, ?_⟩
    · rw [HSW.out]
      exact ho3.below (by omega)
    · exact (hm02.trans hma fun _ _ h => h).trans hm3 fun k hk h => by have := HV.out k h; omega
end Go.Proofs.YtdclfdinhdaadaaGreatDoor

/- Packages kvone, kvtwo: the contracts of put, del, set. -/
namespace Go.Proofs.YtdclfdinhdaadaaGreatDoor
open Go.RowKit

/-- pairs of which that of a key is p, whatever their number -/
def pset (ps : List Pa) (p : Pa) : List Pa := if pfd p.key ps = true then ps.set (plb p.key ps) p else ps.take (plb p.key ps) ++ p :: ps.drop (plb p.key ps)
def proom (ps : List Pa) (p : Pa) : Bool := pfd p.key ps || decide (ps.length < 64)
def pput (ps : List Pa) (p : Pa) : List Pa := if proom ps p = true then pset ps p else ps
def pdel (ps : List Pa) (t : ByteArray) : List Pa := if pfd t ps = true then ps.take (plb t ps) ++ ps.drop (plb t ps + 1) else ps

theorem plb_le (t : ByteArray) (ps : List Pa) : plb t ps ≤ ps.length := takeWhile_le _ _
theorem pfd_lt {t : ByteArray} {ps : List Pa} (h : pfd t ps = true) : plb t ps < ps.length := by
  obtain ⟨x, hx, _⟩ := pfd_some h
  exact (List.getElem?_eq_some_iff.1 hx).1

set_option maxRecDepth 100000 in
set_option maxHeartbeats 2000000 in
theorem kv_put (v : Value) (B : Nat) (ps : List Pa) (p : Pa) (w : World) (hown : OwnP w B v ps) (hn : ps.length ≤ 64) (hs : Rise ps) (hB : B ≤ w.heap.size) :
    Calls Tryz.prog 154 #[v, p.v] w fun e w' => ∃ v', e = .returned (.tuple #[v', .bool (proom ps p)]) ∧ OwnP w' B v' (pput ps p) ∧ Mod (fun k => v.ownBlock = some k) w w' ∧ (proom ps p = false → v' = v) := by
  have HV : Hid (∀ k, v.ownBlock = some k → B ≤ k ∧ k < w.heap.size) := fun k h => World.ownsRow.lt hown _ h
  obtain ⟨A, n, c, rfl, hn1, hnc⟩ := hown.form
  have hr := hown.reads
  obtain ⟨sw, hsw⟩ : ∃ sw, sw = pput ps p := ⟨_, rfl⟩
  obtain ⟨rm, hrm⟩ : ∃ rm, rm = proom ps p := ⟨_, rfl⟩
  rw [← hsw, ← hrm]
  obtain ⟨m, hm⟩ : ∃ m, m = plb p.key ps := ⟨_, rfl⟩
  obtain ⟨fd, hfd⟩ : ∃ fd, fd = pfd p.key ps := ⟨_, rfl⟩
  have hle : m ≤ n := by rw [hm, hn1.out]; exact plb_le _ _
  have HF : Hid (fd = true → m < n) := by
    intro h
    rw [hm, hn1.out]
    exact pfd_lt (hfd ▸ h)
  have hrm' : rm = (fd || decide (n < 64)) := by rw [hrm, proom, hfd, hn1.out]
  have hsw' : sw = if rm = true then (if fd = true then ps.set m p else ps.take m ++ p :: ps.drop m) else ps := by rw [hsw, pput, hrm, pset, hfd, hm]
  have hm0 := (Mod.refl Non w).alloc (.cells #[.string p.key, .string p.val, .int .i64 p.rev] 42)
  have z0 := Blk.new w 42 #[.string p.key, .string p.val, .int .i64 p.rev]
  have HC := Lib.hid (kv_place A n c _ ps p.key _ (hr.mod hm0 fun _ _ _ h => h) (by rw [hn1.out]; omega) hs)
  rw [← hm, ← hfd] at HC
  have HN := hn1
  clear hsw hrm hm hfd hs hr hn1
  obtain ⟨key, val, rv⟩ := p
  simp only at HC hm0 z0
  cases fd with
  | true =>
    simp only [Bool.true_or] at hrm'
    subst hrm'
    simp only [if_true] at hsw'
    have HSW := Lib.hid hsw'
    have hmn := HF.out rfl
    have hmi : (m : Int) < n := by omega
    clear hsw'
    go_enter Tryz.func154, Tryz.ntmps154
    go_wp2_with fail
    refine HC.out.mono ?_
    rintro e w1 ⟨rfl, hm1⟩
    have hm01 := hm0.trans' hm1
    have z1 := z0.mod hm1 (fun h => h)
    have ho1 := hown.non hm01
    have hl : n = ps.length := HN.out
    obtain ⟨g, cur, rfl, hg1, hg2, hblk⟩ := ho1.at (by omega)
    have hrr := ho1.reads
    obtain ⟨b', off', y, hA', _, _, _, d0, d1, d2⟩ := hrr.pa (k := m) (by omega)
    injection hA' with hA'
    injection hA' with hb1 hb2 _
    subst hb1 hb2
    simp only [Nat.zero_add] at d0 d1 d2
    have f0 := hblk.frozen (m * 3)
    have f1 := hblk.frozen (m * 3 + 1)
    have f2 := hblk.frozen (m * 3 + 2)
    have c0 := z1.cell 0
    have c1 := z1.cell 1
    have c2 := z1.cell 2
    simp at c0 c1 c2
    have hset := ho1.setPa (j := m) (by omega) ⟨key, val, rv⟩
    have HSE := Lib.hid hset
    have hm2 : Mod (fun k => (Value.slice (some ⟨g, 0, none⟩) n c).ownBlock = some k) w w1 := hm01.non
    clear hset hrr hl hblk hown ho1 z0 z1 hm1 hm01 hm0
    go_wp2_with fail
    go_ret2
    refine ⟨_, rfl, ?_, ?_, fun h => by cases h⟩
    · rw [HSW.out]
      exact HSE.out
    · exact ((hm2.setCell (p := ⟨g, m * 3, none⟩) (fun _ => rfl) _).setCell (p := ⟨g, m * 3 + 1, none⟩) (fun _ => rfl) _).setCell (p := ⟨g, m * 3 + 2, none⟩) (fun _ => rfl) _
  | false =>
    simp only [Bool.false_or] at hrm'
    by_cases h64 : n < 64
    · simp only [h64, decide_true] at hrm'
      subst hrm'
      simp only [if_true, Bool.false_eq_true, if_false] at hsw'
      have HSW := Lib.hid hsw'
      have hni : (n : Int) < 64 := by omega
      clear hsw'
      go_enter Tryz.func154, Tryz.ntmps154
      go_wp2_with fail
      refine HC.out.mono ?_
      rintro e w1 ⟨rfl, hm1⟩
      have hm01 := hm0.trans' hm1
      have z1 := z0.mod hm1 (fun h => h)
      have ho1 := hown.non hm01
      have hl : n = ps.length := HN.out
      have c0 := z1.cell 0
      have c1 := z1.cell 1
      have c2 := z1.cell 2
      simp at c0 c1 c2
      have hno : (Value.slice A n c).ownBlock ≠ some w1.heap.size := fun h => by have := (HV.out _ h).2; have := hm01.size; omega
      have hnb := Blk.new w1 42 (Pa.cells ⟨key, val, rv⟩).toArray
      have hma := (Mod.refl Non w1).alloc (.cells (Pa.cells ⟨key, val, rv⟩).toArray 42)
      have HI := Lib.hid (insert_Pa (.slice A n c) ps ⟨key, val, rv⟩ m w1.heap.size B _ (ho1.non hma) hnb hno (by omega) (by omega) (by simp; have := hm01.size; omega))
      have hm2 := hm01.trans hma fun _ _ h => h
      clear hown z0 z1 hm1 hno hnb hma hm0 hm01 hl ho1
      go_wp2_with fail
      refine HI.out.mono ?_
      rintro e w3 ⟨v', rfl, ho3, hm3⟩
      obtain ⟨A3, n3, c3, rfl, hn3, hc3⟩ := ho3.form
      go_wp2
      go_ret2
      refine ⟨_, rfl, ?_, ?_, fun h => by cases h⟩
      · rw [HSW.out]
        exact ho3
      · exact hm2.non.trans hm3 fun k hk h => h
    · simp only [h64, decide_false] at hrm'
      subst hrm'
      simp only [Bool.false_eq_true, if_false] at hsw'
      have HSW := Lib.hid hsw'
      have hni : ¬ ((n : Int) < 64) := by omega
      clear hsw'
      go_enter Tryz.func154, Tryz.ntmps154
      go_wp2_with fail
      refine HC.out.mono ?_
      rintro e w1 ⟨rfl, hm1⟩
      have hm01 := hm0.trans' hm1
      have ho1 := hown.non hm01
      clear hown hm1 hm0 z0
      go_wp2
      go_ret2
      exact ⟨_, rfl, by rw [HSW.out]; exact ho1, hm01.non, fun _ => rfl⟩

set_option maxRecDepth 100000 in
set_option maxHeartbeats 2000000 in
theorem kv_del (v : Value) (B : Nat) (ps : List Pa) (t : ByteArray) (w : World) (hown : OwnP w B v ps) (hn : ps.length ≤ 64) (hs : Rise ps) :
    Calls Tryz.prog 155 #[v, .string t] w fun e w' => ∃ v', e = .returned v' ∧ OwnP w' B v' (pdel ps t) ∧ Mod (fun k => v.ownBlock = some k) w w' := by
  obtain ⟨A, n, c, rfl, hn1, hnc⟩ := hown.form
  have hr := hown.reads
  obtain ⟨sw, hsw⟩ : ∃ sw, sw = pdel ps t := ⟨_, rfl⟩
  rw [← hsw]
  obtain ⟨m, hm⟩ : ∃ m, m = plb t ps := ⟨_, rfl⟩
  obtain ⟨fd, hfd⟩ : ∃ fd, fd = pfd t ps := ⟨_, rfl⟩
  have HF : Hid (fd = true → m < n) := by
    intro h
    rw [hm, hn1.out]
    exact pfd_lt (hfd ▸ h)
  have hsw' : sw = if fd = true then ps.take m ++ ps.drop (m + 1) else ps := by rw [hsw, pdel, hfd, hm]
  have HC := Lib.hid (kv_place A n c _ ps t _ hr (by rw [hn1.out]; omega) hs)
  rw [← hm, ← hfd] at HC
  have HN := hn1
  clear hsw hm hfd hs hr hn1
  cases fd with
  | true =>
    simp only [if_true] at hsw'
    have HSW := Lib.hid hsw'
    have hmn := HF.out rfl
    clear hsw'
    go_enter Tryz.func155, Tryz.ntmps155
    go_wp2_with fail
    refine HC.out.mono ?_
    rintro e w1 ⟨rfl, hm1⟩
    have ho1 := hown.non hm1
    have hl : n = ps.length := HN.out
    obtain ⟨g, cur, rfl, hg1, hg2, hblk⟩ := ho1.at (by omega)
    have HI := Lib.hid (delete_Pa ps m n c g B w1 ho1 hl (by omega) hmn)
    have hm2 : Mod (fun k => (Value.slice (some ⟨g, 0, none⟩) n c).ownBlock = some k) w w1 := hm1.non
    have hmx : (m : Int) ≤ 100000 := by omega
    clear hblk ho1 hl hown hm1
    go_wp2_with fail
    refine HI.out.mono ?_
    rintro e w3 ⟨v', rfl, ho3, hm3⟩
    obtain ⟨A3, n3, c3, rfl, hn3, hc3⟩ := ho3.form
    go_wp2
    go_ret
    exact ⟨_, rfl, by rw [HSW.out]; exact ho3, hm2.trans hm3 fun k hk h => by rw [show k = g from h]; rfl⟩
  | false =>
    simp only [Bool.false_eq_true, if_false] at hsw'
    have HSW := Lib.hid hsw'
    clear hsw'
    go_enter Tryz.func155, Tryz.ntmps155
    go_wp2_with fail
    refine HC.out.mono ?_
    rintro e w1 ⟨rfl, hm1⟩
    have ho1 := hown.non hm1
    clear hown
    go_wp2
    go_ret
    exact ⟨_, rfl, by rw [HSW.out]; exact ho1, hm1.non⟩
end Go.Proofs.YtdclfdinhdaadaaGreatDoor

/- Package kvtwo: the contract of set. -/
namespace Go.Proofs.YtdclfdinhdaadaaGreatDoor
open Go.RowKit

set_option maxRecDepth 100000 in
set_option maxHeartbeats 2000000 in
theorem kv_set (v : Value) (B : Nat) (ps : List Pa) (p : Pa) (w : World) (hown : OwnP w B v ps) (hn : ps.length ≤ 64) (hs : Rise ps) (hB : B ≤ w.heap.size) :
    Calls Tryz.prog 157 #[v, p.v] w fun e w' => ∃ v', e = .returned v' ∧ OwnP w' B v' (pset ps p) ∧ Mod (fun k => v.ownBlock = some k) w w' := by
  have HV : Hid (∀ k, v.ownBlock = some k → B ≤ k ∧ k < w.heap.size) := fun k h => World.ownsRow.lt hown _ h
  obtain ⟨A, n, c, rfl, hn1, hnc⟩ := hown.form
  have hr := hown.reads
  obtain ⟨sw, hsw⟩ : ∃ sw, sw = pset ps p := ⟨_, rfl⟩
  rw [← hsw]
  obtain ⟨m, hm⟩ : ∃ m, m = plb p.key ps := ⟨_, rfl⟩
  obtain ⟨fd, hfd⟩ : ∃ fd, fd = pfd p.key ps := ⟨_, rfl⟩
  have hle : m ≤ n := by rw [hm, hn1.out]; exact plb_le _ _
  have HF : Hid (fd = true → m < n) := by
    intro h
    rw [hm, hn1.out]
    exact pfd_lt (hfd ▸ h)
  have hsw' : sw = if fd = true then ps.set m p else ps.take m ++ p :: ps.drop m := by rw [hsw, pset, hfd, hm]
  have hm0 := (Mod.refl Non w).alloc (.cells #[.string p.key, .string p.val, .int .i64 p.rev] 42)
  have z0 := Blk.new w 42 #[.string p.key, .string p.val, .int .i64 p.rev]
  have HC := Lib.hid (search_Pp A n c _ ps p m fd _ (hr.mod hm0 fun _ _ _ h => h) (by rw [hn1.out]; omega) hle
    (fun k x hx => by rw [hm]; exact plb_iff hs p.key k x hx)
    (fun x hx => by rw [hfd]; unfold pfd; rw [← hm, hx]) (fun h => by
      rw [hfd]
      unfold pfd
      rw [← hm, List.getElem?_eq_none (by have := hn1.out; omega)]))
  have HN := hn1
  clear hsw hm hfd hs hr hn1
  obtain ⟨key, val, rv⟩ := p
  simp only at HC hm0 z0
  cases fd with
  | true =>
    simp only [if_true] at hsw'
    have HSW := Lib.hid hsw'
    have hmn := HF.out rfl
    have hmi : (m : Int) < n := by omega
    clear hsw'
    go_enter Tryz.func157, Tryz.ntmps157
    go_wp2_with fail
    refine HC.out.mono ?_
    rintro e w1 ⟨rfl, hm1⟩
    have hm01 := hm0.trans' hm1
    have z1 := z0.mod hm1 (fun h => h)
    have ho1 := hown.non hm01
    have hl : n = ps.length := HN.out
    obtain ⟨g, cur, rfl, hg1, hg2, hblk⟩ := ho1.at (by omega)
    have hrr := ho1.reads
    obtain ⟨b', off', y, hA', _, _, _, d0, d1, d2⟩ := hrr.pa (k := m) (by omega)
    injection hA' with hA'
    injection hA' with hb1 hb2 _
    subst hb1 hb2
    simp only [Nat.zero_add] at d0 d1 d2
    have f0 := hblk.frozen (m * 3)
    have f1 := hblk.frozen (m * 3 + 1)
    have f2 := hblk.frozen (m * 3 + 2)
    have c0 := z1.cell 0
    have c1 := z1.cell 1
    have c2 := z1.cell 2
    simp at c0 c1 c2
    have hset := ho1.setPa (j := m) (by omega) ⟨key, val, rv⟩
    have HSE := Lib.hid hset
    have hm2 : Mod (fun k => (Value.slice (some ⟨g, 0, none⟩) n c).ownBlock = some k) w w1 := hm01.non
    clear hset hrr hl hblk hown ho1 z0 z1 hm1 hm01 hm0
    go_wp2_with fail
    go_ret
    refine ⟨_, rfl, ?_, ?_⟩
    · rw [HSW.out]
      exact HSE.out
    · exact ((hm2.setCell (p := ⟨g, m * 3, none⟩) (fun _ => rfl) _).setCell (p := ⟨g, m * 3 + 1, none⟩) (fun _ => rfl) _).setCell (p := ⟨g, m * 3 + 2, none⟩) (fun _ => rfl) _
  | false =>
    simp only [Bool.false_eq_true, if_false] at hsw'
    have HSW := Lib.hid hsw'
    clear hsw'
    go_enter Tryz.func157, Tryz.ntmps157
    go_wp2_with fail
    refine HC.out.mono ?_
    rintro e w1 ⟨rfl, hm1⟩
    have hm01 := hm0.trans' hm1
    have z1 := z0.mod hm1 (fun h => h)
    have ho1 := hown.non hm01
    have hl : n = ps.length := HN.out
    have c0 := z1.cell 0
    have c1 := z1.cell 1
    have c2 := z1.cell 2
    simp at c0 c1 c2
    have hno : (Value.slice A n c).ownBlock ≠ some w1.heap.size := fun h => by have := (HV.out _ h).2; have := hm01.size; omega
    have hnb := Blk.new w1 42 (Pa.cells ⟨key, val, rv⟩).toArray
    have hma := (Mod.refl Non w1).alloc (.cells (Pa.cells ⟨key, val, rv⟩).toArray 42)
    have HI := Lib.hid (insert_Pa (.slice A n c) ps ⟨key, val, rv⟩ m w1.heap.size B _ (ho1.non hma) hnb hno (by omega) (by omega) (by simp; have := hm01.size; omega))
    have hm2 := hm01.trans hma fun _ _ h => h
    clear hown z0 z1 hm1 hno hnb hma hm0 hm01 hl ho1
    go_wp2_with fail
    refine HI.out.mono ?_
    rintro e w3 ⟨v', rfl, ho3, hm3⟩
    obtain ⟨A3, n3, c3, rfl, hn3, hc3⟩ := ho3.form
    go_wp2
    go_ret
    refine ⟨_, rfl, ?_, ?_⟩
    · rw [HSW.out]
      exact ho3
    · exact hm2.non.trans hm3 fun k hk h => h
end Go.Proofs.YtdclfdinhdaadaaGreatDoor

/- Package kvone: the contract of Do at a client's commands. -/
namespace Go.Proofs.YtdclfdinhdaadaaGreatDoor
open Go.RowKit

def anOf (c : Cm) (e : Int) (f : Bool) (v : ByteArray) (r : Int) : An := ⟨c.client, c.seq, e, f, v, r⟩
/-- a command of schema 1 -/
def kdo1 (ps : List Pa) (c : Cm) : List Pa × An :=
  if c.kind = 2 then (pput ps ⟨c.key, c.val, 0⟩, if proom ps ⟨c.key, c.val, 0⟩ = true then anOf c 0 (pfd c.key ps) (pfind c.key ps).val 0 else anOf c 11 false ⟨#[]⟩ 0)
  else if c.kind = 4 then (pdel ps c.key, anOf c 0 (pfd c.key ps) (pfind c.key ps).val 0)
  else (ps, anOf c 0 (pfd c.key ps) (pfind c.key ps).val 0)

/-- Two results, the second a struct in memory, the first a value. -/
theorem results_tmp_row' {P : Program} {fn : Func} {s p : Tmp} {ty : TypeId} (h : fn.results = #[.tmp s, .cell p ty]) (tmps : Array Value) (w : World) (g : Nat) (t : TypeId) (cs : Array Value) (fr : Nat × Nat) (d : TypeDesc)
    (hp : tmps.getD p undef = .pointer (some ⟨g, 0, none⟩)) (hg : w.heap[g]? = some (.cells cs t fr))
    (hu : P.underlying ty = some d) (hd : (match d with | .struct _ | .array _ _ => true | _ => false) = true) (hi : (P.info? ty).map (·.size) = some cs.size) :
    (results fn tmps).run P w = .ok (.tuple #[tmps.getD s undef, .agg cs]) w := results_tmp_row h tmps w g t cs fr d hp hg hu hd hi

set_option maxRecDepth 100000 in
set_option maxHeartbeats 4000000 in
theorem kv_Do (A : Option Addr) (n c0 : Nat) (R : Nat → Prop) (ps : List Pa) (c : Cm) (w : World) (hr : Reads w R 3 A n (pcs ps)) (hn : ps.length ≤ 64) (hs : Rise ps) (hk : c.kind = 2 ∨ c.kind = 3 ∨ c.kind = 4) :
    Calls Tryz.prog 144 #[.slice A n c0, c.v] w fun e w' => ∃ v, e = .returned (.tuple #[v, (kdo1 ps c).2.v]) ∧ OwnP w' w.heap.size v (kdo1 ps c).1 ∧ Mod Non w w' := by
  have hl : ps.length = n := by have := hr.1; rw [pcs_length] at this; omega
  obtain ⟨kind, client, seq, key, val, old, node⟩ := c
  simp only at hk
  obtain ⟨sw, hsw⟩ : ∃ sw, sw = kdo1 ps ⟨kind, client, seq, key, val, old, node⟩ := ⟨_, rfl⟩
  rw [← hsw]
  obtain ⟨pf, hpf⟩ : ∃ pf, pf = pfind key ps := ⟨_, rfl⟩
  obtain ⟨fd, hfd⟩ : ∃ fd, fd = pfd key ps := ⟨_, rfl⟩
  have HSW : Hid (sw = if kind = 2 then (pput ps ⟨key, val, 0⟩, if proom ps ⟨key, val, 0⟩ = true then ⟨client, seq, 0, fd, pf.val, 0⟩ else ⟨client, seq, 11, false, ⟨#[]⟩, 0⟩)
      else if kind = 4 then (pdel ps key, ⟨client, seq, 0, fd, pf.val, 0⟩) else (ps, ⟨client, seq, 0, fd, pf.val, 0⟩)) := by
    rw [hpf, hfd]
    exact hsw
  have hm0 := ((Mod.refl Non w).alloc (.cells #[.int .i64 kind, .int .i64 client, .int .i64 seq, .string key, .string val, .string old, .int .i64 node] 33)).alloc (.cells #[.int .i64 0, .int .i64 0, .int .i64 0, .bool false, .string ⟨#[]⟩, .int .i64 0] 57)
  have b0 := (Blk.new w 33 #[.int .i64 kind, .int .i64 client, .int .i64 seq, .string key, .string val, .string old, .int .i64 node]).alloc (.cells #[.int .i64 0, .int .i64 0, .int .i64 0, .bool false, .string ⟨#[]⟩, .int .i64 0] 57)
  have r0 := Blk.new1 w (.cells #[.int .i64 kind, .int .i64 client, .int .i64 seq, .string key, .string val, .string old, .int .i64 node] 33) 57 #[.int .i64 0, .int .i64 0, .int .i64 0, .bool false, .string ⟨#[]⟩, .int .i64 0]
  clear hsw
  have HL := Lib.hid hl
  have HP := Lib.hid (show pfind key ps = pf ∧ pfd key ps = fd from ⟨hpf.symm, hfd.symm⟩)
  clear hpf hfd hl
  go_enter Tryz.func144, Tryz.ntmps144
  go_wp2_with fail
  refine (slices_Clone_Pa A n c0 R ps _ (hr.mod hm0 fun _ _ _ h => h) (by omega)).mono ?_
  rintro e w1 ⟨v, rfl, hown, hm1⟩
  have b1 := b0.mod hm1 (fun h => h)
  have r1 := r0.mod hm1 (fun h => h)
  have hm01 := hm0.trans' hm1
  have e10 := b1.cell 0
  have e11 := b1.cell 1
  have e12 := b1.cell 2
  have e13 := b1.cell 3
  have e14 := b1.cell 4
  simp at e10 e11 e12 e13 e14
  have ma1 := hm01.alloc (.cells #[.int .i64 client, .int .i64 seq, .int .i64 0, .bool false, .string ⟨#[]⟩, .int .i64 0] 57)
  have hf := kv_Find A n c0 R ps key (w1.alloc (.cells #[.int .i64 client, .int .i64 seq, .int .i64 0, .bool false, .string ⟨#[]⟩, .int .i64 0] 57)) (hr.mod ma1 fun _ _ _ h => h) (by have := HL.out; omega) hs
  rw [HP.out.1, HP.out.2] at hf
  have HFI := Lib.hid hf
  have ba1 := b1.alloc (.cells #[.int .i64 client, .int .i64 seq, .int .i64 0, .bool false, .string ⟨#[]⟩, .int .i64 0] 57)
  have ra1 := r1.alloc (.cells #[.int .i64 client, .int .i64 seq, .int .i64 0, .bool false, .string ⟨#[]⟩, .int .i64 0] 57)
  have za1 := Blk.new w1 57 #[.int .i64 client, .int .i64 seq, .int .i64 0, .bool false, .string ⟨#[]⟩, .int .i64 0]
  have hoa1 := hown.non ((Mod.refl Non w1).alloc (.cells #[.int .i64 client, .int .i64 seq, .int .i64 0, .bool false, .string ⟨#[]⟩, .int .i64 0] 57))
  obtain ⟨A2, n2, c2, rfl, hn2, hc2⟩ := hown.form
  have HV : Hid (∀ k, (Value.slice A2 n2 c2).ownBlock = some k → w.heap.size + 2 ≤ k ∧ k < w1.heap.size) := fun k h => by have := World.ownsRow.lt hown _ h; simpa using this
  have g13 := ba1.cell 3
  simp at g13
  have hsz1 : w.heap.size + 2 ≤ w1.heap.size := by have := r1.lt; omega
  have hszl : w.heap.size < w1.heap.size := by omega
  clear hf r0 b0 hm0 hm1 hown hm01
  go_wp2_with fail
  refine HFI.out.mono ?_
  rintro e w2 ⟨rfl, hm2⟩
  have b2 := ba1.mod hm2 (fun h => h)
  have r2 := ra1.mod hm2 (fun h => h)
  have z2 := za1.mod hm2 (fun h => h)
  have ho2 := hoa1.non hm2
  have hm02 := ma1.trans' hm2
  have hsz2 : w1.heap.size + 1 ≤ w2.heap.size := by have := hm2.size; simpa using this
  have k10 := b2.cell 0
  have k13 := b2.cell 3
  have k14 := b2.cell 4
  simp at k10 k13 k14
  clear ba1 ra1 za1 hoa1 ma1 b1 r1 e10 e11 e12 e13 e14 g13 hm2
  obtain ⟨pk, pv, pr⟩ := pf
  have zp := z2.alloc (.cells #[.string pk, .string pv, .int .i64 pr] 42)
  have rp := r2.alloc (.cells #[.string pk, .string pv, .int .i64 pr] 42)
  have bp := b2.alloc (.cells #[.string pk, .string pv, .int .i64 pr] 42)
  have mp := hm02.alloc (.cells #[.string pk, .string pv, .int .i64 pr] 42)
  have op := (ho2.non ((Mod.refl Non w2).alloc (.cells #[.string pk, .string pv, .int .i64 pr] 42))).below (B' := w.heap.size + 2) (by simp)
  have hszr : w.heap.size + 1 < w2.heap.size := by omega
  have hszm : w1.heap.size < w2.heap.size := by omega
  have hsz0 : w.heap.size < w2.heap.size := by omega
  have hne1 : ¬ w1.heap.size = w.heap.size + 1 := by omega
  have hne2 : ¬ w.heap.size + 1 = w1.heap.size := by omega
  have pn := Blk.new w2 42 #[.string pk, .string pv, .int .i64 pr]
  clear b2 z2 r2 hm02 ho2
  rcases hk with rfl | rfl | rfl
  · have HS0 : Hid (sw = (pput ps ⟨key, val, 0⟩, if proom ps ⟨key, val, 0⟩ = true then ⟨client, seq, 0, fd, pv, 0⟩ else ⟨client, seq, 11, false, ⟨#[]⟩, 0⟩)) := HSW.out
    have HPU := Lib.hid (kv_put (.slice A2 n2 c2) (w.heap.size + 2) ps ⟨key, val, 0⟩ _ op (by omega) hs (by simp; omega))
    have nz0 := own_ne_blk op zp (by decide)
    have nr0 := own_ne_blk op rp (by decide)
    have hoP := Lib.hid op
    clear op hs
    go_wp2_with fail
    refine HPU.out.mono ?_
    rintro e w3 ⟨v', rfl, ho3, hm3, hno⟩
    have z3 := zp.mod hm3 nz0
    have r3 := rp.mod hm3 nr0
    have p3' : Blk w3 w2.heap.size 42 #[.string pk, .string pv, .int .i64 pr] := pn.mod hm3 (fun h => by have := (HV.out _ h).2; omega)
    have p3 := p3'
    have m3 : Mod Non w w3 := mp.trans hm3 fun i hi h => by have := (HV.out _ h).1; omega
    obtain ⟨A3, n3, c3, rfl, hn3, hc3⟩ := ho3.form
    have HNO := Lib.hid hno
    clear hno
    obtain ⟨rm, hrm⟩ : ∃ rm, rm = proom ps ⟨key, val, 0⟩ := ⟨_, rfl⟩
    have HSR := HS0
    rw [← hrm] at HSR HNO ⊢
    clear HS0 HPU zp rp bp mp pn p3' hrm hm3
    cases rm with
    | false =>
      have HS : Hid (sw = (pput ps ⟨key, val, 0⟩, ⟨client, seq, 11, false, ⟨#[]⟩, 0⟩)) := HSR.out
      have e3 := HNO.out rfl
      injection e3 with e31 e32 e33
      subst e31 e32 e33
      clear HNO
      have q1 := z3.lt
      have q2 := r3.lt
      have y2 := z3.frozen 2
      have x2 := z3.cell 2
      simp at x2
      have nz := own_ne_blk ho3 z3 (by decide)
      have nr := own_ne_blk ho3 r3 (by decide)
      have z4 := z3.set_ 2 (.int .i64 11)
      have r4 : Blk (w3.setCell ⟨w1.heap.size, 2, none⟩ (.int .i64 11)) (w.heap.size + 1) 57 #[.int .i64 0, .int .i64 0, .int .i64 0, .bool false, .string ⟨#[]⟩, .int .i64 0] := r3.far (p := ⟨w1.heap.size, 2, none⟩) hne2 _
      have hM4 : Mod (One w1.heap.size) w3 (w3.setCell ⟨w1.heap.size, 2, none⟩ (.int .i64 11)) := (Mod.refl _ _).setOne _
      have o4 := ho3.mod hM4 (fun g hg h => nz (hg.trans (congrArg some h)))
      have m4 : Mod Non w _ := m3.trans hM4 fun i hi h => (Nat.ne_of_lt (Nat.lt_trans hi hszl) h).elim
      have x0 := z4.cell 0
      have x1 := z4.cell 1
      have x2' := z4.cell 2
      have x3 := z4.cell 3
      have x4 := z4.cell 4
      have x5 := z4.cell 5
      have u0 := r4.cell 0
      have u1 := r4.cell 1
      have u2 := r4.cell 2
      have u3 := r4.cell 3
      have u4 := r4.cell 4
      have u5 := r4.cell 5
      have v0 := r4.frozen 0
      have v1 := r4.frozen 1
      have v2 := r4.frozen 2
      have v3 := r4.frozen 3
      have v4 := r4.frozen 4
      have v5 := r4.frozen 5
      simp at x0 x1 x2' x3 x4 x5 u0 u1 u2 u3 u4 u5
      clear z3 r3 p3 m3 ho3 z4 hM4
      go_wp2_with fail
      go_region
      go_wp2_with fail
      have r5 := ((((((r4.set_ 0 (.int .i64 client)).set_ 1 (.int .i64 seq)).set_ 2 (.int .i64 11)).set_ 3 (.bool false)).set_ 4 (.string ⟨#[]⟩)).set_ 5 (.int .i64 0)).drew
      have m5 := ((((((Mod.refl (One (w.heap.size + 1)) (w3.setCell ⟨w1.heap.size, 2, none⟩ (.int .i64 11))).setOne (i := 0) (.int .i64 client)).setOne (i := 1) (.int .i64 seq)).setOne (i := 2) (.int .i64 11)).setOne (i := 3) (.bool false)).setOne (i := 4) (.string ⟨#[]⟩)).setOne (i := 5) (.int .i64 0)
      refine bodyPost_ret (results_tmp_row rfl _ _ (w.heap.size + 1) 57 #[.int .i64 client, .int .i64 seq, .int .i64 11, .bool false, .string ⟨#[]⟩, .int .i64 0] (0, 0) _ rfl r5 Tryz.underlying57 rfl (by kernel_rfl)) rfl ?_
      rw [HS.out]
      refine ⟨_, rfl, ?_, ?_⟩
      · exact ((o4.mod m5 (fun g hg h => nr (hg.trans (congrArg some h)))).mod (Mod.refl Non _).drew (fun _ _ h => h)).below (by omega)
      · exact (m4.trans m5 fun i hi h => by rw [show i = w.heap.size + 1 from h] at hi; omega).drew
    | true =>
      have HS : Hid (sw = (pput ps ⟨key, val, 0⟩, ⟨client, seq, 0, fd, pv, 0⟩)) := HSR.out
      clear HSR
      have q1 := z3.lt
      have q2 := r3.lt
      have y3 := z3.frozen 3
      have y4 := z3.frozen 4
      have x3 := z3.cell 3
      have x4 := z3.cell 4
      have p31 := p3.cell 1
      simp at x3 x4 p31
      have nz := own_ne_blk ho3 z3 (by decide)
      have nr := own_ne_blk ho3 r3 (by decide)
      go_wp2_with fail
      go_region
      obtain ⟨W4, hW4⟩ : ∃ W4, W4 = (w3.setCell ⟨w1.heap.size, 3, none⟩ (.bool fd)).setCell ⟨w1.heap.size, 4, none⟩ (.string pv) := ⟨_, rfl⟩
      have z4 : Blk W4 w1.heap.size 57 #[.int .i64 client, .int .i64 seq, .int .i64 0, .bool fd, .string pv, .int .i64 0] := by
        rw [hW4]
        exact (z3.set_ 3 (.bool fd)).set_ 4 (.string pv)
      have r4 : Blk W4 (w.heap.size + 1) 57 #[.int .i64 0, .int .i64 0, .int .i64 0, .bool false, .string ⟨#[]⟩, .int .i64 0] := by
        rw [hW4]
        exact (r3.far (p := ⟨w1.heap.size, 3, none⟩) hne2 _).far (p := ⟨w1.heap.size, 4, none⟩) hne2 _
      have hM4 : Mod (One w1.heap.size) w3 W4 := by
        rw [hW4]
        exact ((Mod.refl _ _).setOne _).setOne _
      rw [← hW4]
      have o4 := ho3.mod hM4 (fun g hg h => nz (hg.trans (congrArg some h)))
      have m4 : Mod Non w W4 := m3.trans hM4 fun i hi h => (Nat.ne_of_lt (Nat.lt_trans hi hszl) h).elim
      have x0 := z4.cell 0
      have x1 := z4.cell 1
      have x2 := z4.cell 2
      have x3 := z4.cell 3
      have x4 := z4.cell 4
      have x5 := z4.cell 5
      have u0 := r4.cell 0
      have u1 := r4.cell 1
      have u2 := r4.cell 2
      have u3 := r4.cell 3
      have u4 := r4.cell 4
      have u5 := r4.cell 5
      have v0 := r4.frozen 0
      have v1 := r4.frozen 1
      have v2 := r4.frozen 2
      have v3 := r4.frozen 3
      have v4 := r4.frozen 4
      have v5 := r4.frozen 5
      simp at x0 x1 x2 x3 x4 x5 u0 u1 u2 u3 u4 u5
      clear z3 r3 p3 m3 ho3 hW4 z4 hM4 p31 y3 y4
      go_wp2_with fail
      go_region
      go_wp2_with fail
      have r5 := ((((((r4.set_ 0 (.int .i64 client)).set_ 1 (.int .i64 seq)).set_ 2 (.int .i64 0)).set_ 3 (.bool fd)).set_ 4 (.string pv)).set_ 5 (.int .i64 0)).drew.drew
      have m5 := ((((((Mod.refl (One (w.heap.size + 1)) W4).setOne (i := 0) (.int .i64 client)).setOne (i := 1) (.int .i64 seq)).setOne (i := 2) (.int .i64 0)).setOne (i := 3) (.bool fd)).setOne (i := 4) (.string pv)).setOne (i := 5) (.int .i64 0)
      refine bodyPost_ret (results_tmp_row rfl _ _ (w.heap.size + 1) 57 #[.int .i64 client, .int .i64 seq, .int .i64 0, .bool fd, .string pv, .int .i64 0] (0, 0) _ rfl r5 Tryz.underlying57 rfl (by kernel_rfl)) rfl ?_
      rw [HS.out]
      refine ⟨_, rfl, ?_, ?_⟩
      · exact ((o4.mod m5 (fun g hg h => nr (hg.trans (congrArg some h)))).mod (Mod.refl Non _).drew.drew (fun _ _ h => h)).below (by omega)
      · exact (m4.trans m5 fun i hi h => by rw [show i = w.heap.size + 1 from h] at hi; omega).drew.drew
  · have HS : Hid (sw = (ps, ⟨client, seq, 0, fd, pv, 0⟩)) := HSW.out
    clear HSW
    obtain ⟨w3, hw3⟩ : ∃ w3, w3 = w2.alloc (.cells #[.string pk, .string pv, .int .i64 pr] 42) := ⟨_, rfl⟩
    go_wp2_with fail
    rw [← hw3]
    rw [← hw3] at zp rp bp mp op pn
    have z3 := zp
    have r3 := rp
    have p3 := pn
    have m3 := mp
    have ho3 := op
    clear hw3 zp rp bp mp op pn
    have q1 := z3.lt
    have q2 := r3.lt
    have y3 := z3.frozen 3
    have y4 := z3.frozen 4
    have x3 := z3.cell 3
    have x4 := z3.cell 4
    have p31 := p3.cell 1
    simp at x3 x4 p31
    have nz := own_ne_blk ho3 z3 (by decide)
    have nr := own_ne_blk ho3 r3 (by decide)
    skip
    go_region
    obtain ⟨W4, hW4⟩ : ∃ W4, W4 = (w3.setCell ⟨w1.heap.size, 3, none⟩ (.bool fd)).setCell ⟨w1.heap.size, 4, none⟩ (.string pv) := ⟨_, rfl⟩
    have z4 : Blk W4 w1.heap.size 57 #[.int .i64 client, .int .i64 seq, .int .i64 0, .bool fd, .string pv, .int .i64 0] := by
      rw [hW4]
      exact (z3.set_ 3 (.bool fd)).set_ 4 (.string pv)
    have r4 : Blk W4 (w.heap.size + 1) 57 #[.int .i64 0, .int .i64 0, .int .i64 0, .bool false, .string ⟨#[]⟩, .int .i64 0] := by
      rw [hW4]
      exact (r3.far (p := ⟨w1.heap.size, 3, none⟩) hne2 _).far (p := ⟨w1.heap.size, 4, none⟩) hne2 _
    have hM4 : Mod (One w1.heap.size) w3 W4 := by
      rw [hW4]
      exact ((Mod.refl _ _).setOne _).setOne _
    rw [← hW4]
    have o4 := ho3.mod hM4 (fun g hg h => nz (hg.trans (congrArg some h)))
    have m4 : Mod Non w W4 := m3.trans hM4 fun i hi h => (Nat.ne_of_lt (Nat.lt_trans hi hszl) h).elim
    have x0 := z4.cell 0
    have x1 := z4.cell 1
    have x2 := z4.cell 2
    have x3 := z4.cell 3
    have x4 := z4.cell 4
    have x5 := z4.cell 5
    have u0 := r4.cell 0
    have u1 := r4.cell 1
    have u2 := r4.cell 2
    have u3 := r4.cell 3
    have u4 := r4.cell 4
    have u5 := r4.cell 5
    have v0 := r4.frozen 0
    have v1 := r4.frozen 1
    have v2 := r4.frozen 2
    have v3 := r4.frozen 3
    have v4 := r4.frozen 4
    have v5 := r4.frozen 5
    simp at x0 x1 x2 x3 x4 x5 u0 u1 u2 u3 u4 u5
    clear z3 r3 p3 m3 ho3 hW4 z4 hM4 p31 y3 y4
    go_wp2_with fail
    go_region
    go_wp2_with fail
    have r5 := ((((((r4.set_ 0 (.int .i64 client)).set_ 1 (.int .i64 seq)).set_ 2 (.int .i64 0)).set_ 3 (.bool fd)).set_ 4 (.string pv)).set_ 5 (.int .i64 0)).drew.drew
    have m5 := ((((((Mod.refl (One (w.heap.size + 1)) W4).setOne (i := 0) (.int .i64 client)).setOne (i := 1) (.int .i64 seq)).setOne (i := 2) (.int .i64 0)).setOne (i := 3) (.bool fd)).setOne (i := 4) (.string pv)).setOne (i := 5) (.int .i64 0)
    refine bodyPost_ret (results_tmp_row rfl _ _ (w.heap.size + 1) 57 #[.int .i64 client, .int .i64 seq, .int .i64 0, .bool fd, .string pv, .int .i64 0] (0, 0) _ rfl r5 Tryz.underlying57 rfl (by kernel_rfl)) rfl ?_
    rw [HS.out]
    refine ⟨_, rfl, ?_, ?_⟩
    · exact ((o4.mod m5 (fun g hg h => nr (hg.trans (congrArg some h)))).mod (Mod.refl Non _).drew.drew (fun _ _ h => h)).below (by omega)
    · exact (m4.trans m5 fun i hi h => by rw [show i = w.heap.size + 1 from h] at hi; omega).drew.drew
  · have HS : Hid (sw = (pdel ps key, ⟨client, seq, 0, fd, pv, 0⟩)) := HSW.out
    have HPU := Lib.hid (kv_del (.slice A2 n2 c2) (w.heap.size + 2) ps key _ op (by omega) hs)
    have nz0 := own_ne_blk op zp (by decide)
    have nr0 := own_ne_blk op rp (by decide)
    have hoP := Lib.hid op
    clear op hs HSW
    go_wp2_with fail
    refine HPU.out.mono ?_
    rintro e w3 ⟨v', rfl, ho3, hm3⟩
    have z3 := zp.mod hm3 nz0
    have r3 := rp.mod hm3 nr0
    have p3 : Blk w3 w2.heap.size 42 #[.string pk, .string pv, .int .i64 pr] := pn.mod hm3 (fun h => by have := (HV.out _ h).2; omega)
    have m3 : Mod Non w w3 := mp.trans hm3 fun i hi h => by have := (HV.out _ h).1; omega
    obtain ⟨A3, n3, c3, rfl, hn3, hc3⟩ := ho3.form
    clear HPU zp rp bp mp pn hm3
    have q1 := z3.lt
    have q2 := r3.lt
    have y3 := z3.frozen 3
    have y4 := z3.frozen 4
    have x3 := z3.cell 3
    have x4 := z3.cell 4
    have p31 := p3.cell 1
    simp at x3 x4 p31
    have nz := own_ne_blk ho3 z3 (by decide)
    have nr := own_ne_blk ho3 r3 (by decide)
    go_wp2_with fail
    go_region
    obtain ⟨W4, hW4⟩ : ∃ W4, W4 = (w3.setCell ⟨w1.heap.size, 3, none⟩ (.bool fd)).setCell ⟨w1.heap.size, 4, none⟩ (.string pv) := ⟨_, rfl⟩
    have z4 : Blk W4 w1.heap.size 57 #[.int .i64 client, .int .i64 seq, .int .i64 0, .bool fd, .string pv, .int .i64 0] := by
      rw [hW4]
      exact (z3.set_ 3 (.bool fd)).set_ 4 (.string pv)
    have r4 : Blk W4 (w.heap.size + 1) 57 #[.int .i64 0, .int .i64 0, .int .i64 0, .bool false, .string ⟨#[]⟩, .int .i64 0] := by
      rw [hW4]
      exact (r3.far (p := ⟨w1.heap.size, 3, none⟩) hne2 _).far (p := ⟨w1.heap.size, 4, none⟩) hne2 _
    have hM4 : Mod (One w1.heap.size) w3 W4 := by
      rw [hW4]
      exact ((Mod.refl _ _).setOne _).setOne _
    rw [← hW4]
    have o4 := ho3.mod hM4 (fun g hg h => nz (hg.trans (congrArg some h)))
    have m4 : Mod Non w W4 := m3.trans hM4 fun i hi h => (Nat.ne_of_lt (Nat.lt_trans hi hszl) h).elim
    have x0 := z4.cell 0
    have x1 := z4.cell 1
    have x2 := z4.cell 2
    have x3 := z4.cell 3
    have x4 := z4.cell 4
    have x5 := z4.cell 5
    have u0 := r4.cell 0
    have u1 := r4.cell 1
    have u2 := r4.cell 2
    have u3 := r4.cell 3
    have u4 := r4.cell 4
    have u5 := r4.cell 5
    have v0 := r4.frozen 0
    have v1 := r4.frozen 1
    have v2 := r4.frozen 2
    have v3 := r4.frozen 3
    have v4 := r4.frozen 4
    have v5 := r4.frozen 5
    simp at x0 x1 x2 x3 x4 x5 u0 u1 u2 u3 u4 u5
    clear z3 r3 p3 m3 ho3 hW4 z4 hM4 p31 y3 y4
    go_wp2_with fail
    go_region
    go_wp2_with fail
    have r5 := ((((((r4.set_ 0 (.int .i64 client)).set_ 1 (.int .i64 seq)).set_ 2 (.int .i64 0)).set_ 3 (.bool fd)).set_ 4 (.string pv)).set_ 5 (.int .i64 0)).drew.drew
    have m5 := ((((((Mod.refl (One (w.heap.size + 1)) W4).setOne (i := 0) (.int .i64 client)).setOne (i := 1) (.int .i64 seq)).setOne (i := 2) (.int .i64 0)).setOne (i := 3) (.bool fd)).setOne (i := 4) (.string pv)).setOne (i := 5) (.int .i64 0)
    refine bodyPost_ret (results_tmp_row rfl _ _ (w.heap.size + 1) 57 #[.int .i64 client, .int .i64 seq, .int .i64 0, .bool fd, .string pv, .int .i64 0] (0, 0) _ rfl r5 Tryz.underlying57 rfl (by kernel_rfl)) rfl ?_
    rw [HS.out]
    refine ⟨_, rfl, ?_, ?_⟩
    · exact ((o4.mod m5 (fun g hg h => nr (hg.trans (congrArg some h)))).mod (Mod.refl Non _).drew.drew (fun _ _ h => h)).below (by omega)
    · exact (m4.trans m5 fun i hi h => by rw [show i = w.heap.size + 1 from h] at hi; omega).drew.drew
end Go.Proofs.YtdclfdinhdaadaaGreatDoor

/- Plain laws of pairs: order, number, revisions. -/
namespace Go.Proofs.YtdclfdinhdaadaaGreatDoor
open Go.RowKit

def lk (a b : ByteArray) : Prop := Op.bytesLess a.data.toList b.data.toList = true
theorem less_irrefl (a : List UInt8) : Op.bytesLess a a = false := by
  cases h : Op.bytesLess a a with
  | false => rfl
  | true => exact absurd (less_asymm a a h) (by simp [h])
theorem leB_of {a b : ByteArray} (h : lk a b) : leB b a = false := by
  unfold leB ltB
  rw [Lib.toList_data, Lib.toList_data, Bool.or_eq_false_iff]
  refine ⟨less_asymm _ _ h, ?_⟩
  rw [Bool.eq_false_iff]
  intro he
  have he : b.data.toList = a.data.toList := by simpa using he
  unfold lk at h
  rw [he, less_irrefl] at h
  cases h
theorem of_leB {a b : ByteArray} (h : leB b a = false) : lk a b := by
  unfold leB ltB at h
  rw [Lib.toList_data, Lib.toList_data, Bool.or_eq_false_iff] at h
  exact less_total _ _ h.1 h.2
theorem rise_iff (ps : List Pa) : Rise ps ↔ ps.Pairwise fun a b => lk a.key b.key := by
  unfold Rise
  exact ⟨fun h => h.imp of_leB, fun h => h.imp leB_of⟩
theorem lk_trans {a b c : ByteArray} (h : lk a b) (k : lk b c) : lk a c := less_trans _ _ _ h k
theorem key_ext {a b : ByteArray} (h : a.data.toList = b.data.toList) : a = b := by
  cases a; cases b
  congr 1
  exact Array.toList_inj.1 h

theorem rise_keys {ps qs : List Pa} (h : ps.map Pa.key = qs.map Pa.key) (hs : Rise ps) : Rise qs := by
  rw [rise_iff] at hs ⊢
  have h1 : (ps.map Pa.key).Pairwise lk := List.pairwise_map.2 hs
  rw [h] at h1
  exact List.pairwise_map.1 h1
theorem rise_len {ps : List Pa} (p : Pa) (h : pfd p.key ps = true) : (ps.set (plb p.key ps) p).map Pa.key = ps.map Pa.key := by
  obtain ⟨x, hx, he⟩ := pfd_some h
  have hk : x.key = p.key := key_ext he
  rw [List.map_set, ← hk]
  apply List.ext_getElem?
  intro i
  by_cases hi : plb x.key ps = i
  · subst hi
    rw [← hk] at hx
    have := (List.getElem?_eq_some_iff.1 hx).1
    rw [List.getElem?_set_self (by simpa using this), List.getElem?_map, hx]
    rfl
  · rw [List.getElem?_set_ne hi]

theorem pset_rise {ps : List Pa} (p : Pa) (hs : Rise ps) : Rise (pset ps p) := by
  unfold pset
  split
  · next h => exact rise_keys (rise_len p h).symm hs
  · next h =>
    rw [Bool.not_eq_true] at h
    have hs' := (rise_iff ps).1 hs
    rw [rise_iff]
    obtain ⟨m, hm⟩ : ∃ m, m = plb p.key ps := ⟨_, rfl⟩
    rw [← hm]
    have ha : ∀ a ∈ ps.take m, lk a.key p.key := by
      intro a ha
      obtain ⟨i, hi⟩ := List.mem_iff_getElem?.1 ha
      rw [List.getElem?_take] at hi
      split at hi
      · next hlt => exact (cb_less _ _).1 ((plb_iff hs p.key i a hi).2 (hm ▸ hlt))
      · cases hi
    have hb : ∀ b ∈ ps.drop m, lk p.key b.key := by
      intro b hb
      obtain ⟨i, hi⟩ := List.mem_iff_getElem?.1 hb
      rw [List.getElem?_drop] at hi
      have h1 : ¬ Op.bytesLess b.key.data.toList p.key.data.toList = true := by
        rw [← cb_less, plb_iff hs p.key (m + i) b hi]
        omega
      rw [Bool.not_eq_true] at h1
      refine less_total _ _ h1 ?_
      rw [Bool.eq_false_iff]
      intro he
      have he : b.key.data.toList = p.key.data.toList := by simpa using he
      rcases Nat.eq_zero_or_pos i with h0 | h0
      · subst h0
        unfold pfd at h
        rw [← hm, show ps[m]? = some b from hi] at h
        simp only at h
        rw [cb_eq, he] at h
        simp at h
      · have hlt : m < ps.length := by have := (List.getElem?_eq_some_iff.1 hi).1; omega
        have h2 := List.pairwise_iff_getElem.1 hs' m (m + i) hlt (List.getElem?_eq_some_iff.1 hi).1 (by omega)
        rw [(List.getElem?_eq_some_iff.1 hi).2] at h2
        have h3 : lk ps[m].key p.key := by unfold lk at h2 ⊢; rw [← he]; exact h2
        have := (plb_iff hs p.key m ps[m] (List.getElem?_eq_getElem hlt)).1 ((cb_less _ _).2 h3)
        omega
    rw [List.pairwise_append, List.pairwise_cons]
    refine ⟨hs'.sublist (List.take_sublist _ _), ⟨hb, hs'.sublist (List.drop_sublist _ _)⟩, ?_⟩
    intro a hia b hib
    rcases List.mem_cons.1 hib with rfl | hib
    · exact ha a hia
    · exact lk_trans (ha a hia) (hb b hib)
theorem pput_rise {ps : List Pa} (p : Pa) (hs : Rise ps) : Rise (pput ps p) := by
  unfold pput
  split
  · exact pset_rise p hs
  · exact hs
theorem pdel_rise {ps : List Pa} (t : ByteArray) (hs : Rise ps) : Rise (pdel ps t) := by
  unfold pdel
  split
  · refine List.Pairwise.sublist ?_ hs
    rw [← List.eraseIdx_eq_take_drop_succ]
    exact List.eraseIdx_sublist _ _
  · exact hs
theorem pset_length (ps : List Pa) (p : Pa) : (pset ps p).length = if pfd p.key ps = true then ps.length else ps.length + 1 := by
  unfold pset
  split
  · simp
  · have := plb_le p.key ps
    simp; omega
theorem pput_length {ps : List Pa} (p : Pa) (h : ps.length ≤ 64) : (pput ps p).length ≤ 64 := by
  unfold pput
  split
  · next hr =>
    rw [pset_length]
    unfold proom at hr
    split
    · exact h
    · next hf => simp [hf] at hr; omega
  · exact h
theorem pdel_length {ps : List Pa} (t : ByteArray) (h : ps.length ≤ 64) : (pdel ps t).length ≤ 64 := by
  unfold pdel
  split
  · simp; omega
  · exact h
theorem pset_mem {ps : List Pa} {p q : Pa} (h : q ∈ pset ps p) : q = p ∨ q ∈ ps := by
  unfold pset at h
  split at h
  · rcases List.mem_or_eq_of_mem_set h with h | h
    · exact .inr h
    · exact .inl h
  · rcases List.mem_append.1 h with h | h
    · exact .inr (List.mem_of_mem_take h)
    · rcases List.mem_cons.1 h with h | h
      · exact .inl h
      · exact .inr (List.mem_of_mem_drop h)
theorem pput_mem {ps : List Pa} {p q : Pa} (h : q ∈ pput ps p) : q = p ∨ q ∈ ps := by
  unfold pput at h
  split at h
  · exact pset_mem h
  · exact .inr h
theorem pdel_mem {ps : List Pa} {t : ByteArray} {q : Pa} (h : q ∈ pdel ps t) : q ∈ ps := by
  unfold pdel at h
  split at h
  · rcases List.mem_append.1 h with h | h
    · exact List.mem_of_mem_take h
    · exact List.mem_of_mem_drop h
  · exact h
theorem pfind_mem (t : ByteArray) (ps : List Pa) : pfind t ps = paZ ∨ (pfind t ps ∈ ps ∧ pfd t ps = true) := by
  unfold pfind
  split
  · exact .inl rfl
  · next x hx =>
    split at hx
    · next h => exact .inr ⟨List.mem_of_getElem? hx, h⟩
    · cases hx

/- revisions -/
theorem plb_rev (r : Int) (t : ByteArray) (ps : List Pa) : plb t (rev r ps) = plb t ps := by
  unfold plb rev
  rw [List.takeWhile_map, List.length_map]
  rfl
theorem pfd_rev (r : Int) (t : ByteArray) (ps : List Pa) : pfd t (rev r ps) = pfd t ps := by
  unfold pfd
  rw [plb_rev, rev, List.getElem?_map]
  cases ps[plb t ps]? <;> rfl
theorem pfind_rev (r : Int) (t : ByteArray) (ps : List Pa) : (pfind t (rev r ps)).val = (pfind t ps).val := by
  unfold pfind
  rw [plb_rev, pfd_rev, rev, List.getElem?_map]
  split <;> rename_i h
  · split at h
    · next hf =>
      rw [if_pos hf]
      cases hq : ps[plb t ps]? with
      | none => rfl
      | some x => rw [hq] at h; cases h
    · next hf => rw [if_neg hf]
  · split at h
    · next hf =>
      rw [if_pos hf]
      cases hq : ps[plb t ps]? with
      | none => rw [hq] at h; cases h
      | some y =>
        rw [hq] at h
        injection h with h
        subst h
        rfl
    · cases h
theorem rev_pset (r : Int) (ps : List Pa) (p : Pa) : rev r (pset ps p) = pset (rev r ps) { p with rev := r } := by
  unfold pset
  simp only
  rw [plb_rev, pfd_rev]
  split <;> simp [rev, List.map_set]
theorem proom_rev (r r' : Int) (ps : List Pa) (p : Pa) : proom (rev r ps) { p with rev := r' } = proom ps p := by
  unfold proom
  simp only
  rw [pfd_rev, rev_length]
theorem rev_pput (r : Int) (ps : List Pa) (p : Pa) : rev r (pput ps p) = pput (rev r ps) { p with rev := r } := by
  unfold pput
  rw [proom_rev]
  split
  · exact rev_pset r ps p
  · rfl
theorem rev_pdel (r : Int) (ps : List Pa) (t : ByteArray) : rev r (pdel ps t) = pdel (rev r ps) t := by
  unfold pdel
  rw [plb_rev, pfd_rev]
  split <;> simp [rev]
theorem rev_rev (r s : Int) (ps : List Pa) : rev r (rev s ps) = rev r ps := by simp [rev]
theorem rev_zero {ps : List Pa} (h : ∀ p ∈ ps, p.rev = 0) : rev 0 ps = ps := by
  unfold rev
  conv => rhs; rw [← List.map_id ps]
  refine List.map_congr_left fun p hp => ?_
  have := h p hp
  cases p
  simp only at this
  subst this
  rfl

theorem cb_self (a : List UInt8) : (Lib.compareBytes a a == 0) = true := by rw [cb_eq]; simp
theorem not_lt_self (a : List UInt8) : ¬ Lib.compareBytes a a < 0 := by rw [cb_less, less_irrefl]; simp
theorem take_plb (t : ByteArray) (ps : List Pa) : ps.take (plb t ps) = ps.takeWhile fun p => decide (Lib.compareBytes p.key.data.toList t.data.toList < 0) := by
  unfold plb
  have h := List.takeWhile_prefix (l := ps) (p := fun p => decide (Lib.compareBytes p.key.data.toList t.data.toList < 0))
  exact (List.prefix_iff_eq_take.1 h).symm
theorem plb_keys (t : ByteArray) (l : List Pa) : plb t l = ((l.map Pa.key).takeWhile fun k => decide (Lib.compareBytes k.data.toList t.data.toList < 0)).length := by
  rw [List.takeWhile_map, List.length_map]
  rfl
theorem pfd_of_keys {ps qs : List Pa} (t : ByteArray) (h : ps.map Pa.key = qs.map Pa.key) : pfd t ps = pfd t qs ∧ plb t ps = plb t qs := by
  have e2 : plb t ps = plb t qs := by rw [plb_keys, plb_keys, h]
  refine ⟨?_, e2⟩
  unfold pfd
  rw [e2]
  have h3 : (ps[plb t qs]?).map Pa.key = (qs[plb t qs]?).map Pa.key := by rw [← List.getElem?_map, ← List.getElem?_map, h]
  cases hp : ps[plb t qs]? with
  | none =>
    cases hq : qs[plb t qs]? with
    | none => rfl
    | some y => rw [hp, hq] at h3; cases h3
  | some x =>
    cases hq : qs[plb t qs]? with
    | none => rw [hp, hq] at h3; cases h3
    | some y =>
      rw [hp, hq] at h3
      injection h3 with h3
      simp only [h3]
theorem pset_eq {ps : List Pa} {p : Pa} (h : pfd p.key ps = true) : pset ps p = ps.set (plb p.key ps) p := by
  unfold pset
  rw [if_pos h]
theorem plb_ins (t : ByteArray) (ps : List Pa) (p : Pa) (h : p.key = t) : plb t (ps.take (plb t ps) ++ p :: ps.drop (plb t ps)) = plb t ps := by
  obtain ⟨m, hm⟩ : ∃ m, m = plb t ps := ⟨_, rfl⟩
  obtain ⟨q, hq⟩ : ∃ q, q = ps.take (plb t ps) := ⟨_, rfl⟩
  rw [← hm]
  rw [← hm] at hq
  rw [← hq]
  have hall : ∀ a ∈ q, decide (Lib.compareBytes a.key.data.toList t.data.toList < 0) = true := by
    intro a ha
    rw [hq, hm, take_plb] at ha
    exact List.all_eq_true.1 List.all_takeWhile a ha
  unfold plb
  rw [List.takeWhile_append_of_pos hall, List.takeWhile_cons_of_neg (by rw [h]; simpa using not_lt_self _), List.append_nil, hq, List.length_take, hm]
  exact Nat.min_eq_left (plb_le t ps)
theorem pset_at {ps : List Pa} (p : Pa) : plb p.key (pset ps p) = plb p.key ps ∧ (pset ps p)[plb p.key ps]? = some p := by
  unfold pset
  split
  · next h => exact ⟨(pfd_of_keys p.key (rise_len p h)).2, by rw [List.getElem?_set_self (pfd_lt h)]⟩
  · have hle := plb_le p.key ps
    exact ⟨plb_ins p.key ps p rfl, by rw [List.getElem?_append_right (by simp; omega)]; simp [hle]⟩
theorem pset_found (ps : List Pa) (p : Pa) : pfd p.key (pset ps p) = true := by
  unfold pfd
  rw [(pset_at p).1, (pset_at p).2]
  exact cb_self _
theorem pset_idem (ps : List Pa) (p : Pa) : pset (pset ps p) p = pset ps p := by
  rw [pset_eq (pset_found ps p), (pset_at p).1]
  apply List.ext_getElem?
  intro i
  by_cases hi : plb p.key ps = i
  · subst hi
    rw [(pset_at p).2, List.getElem?_set_self (List.getElem?_eq_some_iff.1 (pset_at p).2).1]
  · rw [List.getElem?_set_ne hi]

/-- a command of schema 2, but for a compare and swap -/
def kdo2 (ps : List Pa) (c : Cm) : List Pa × An :=
  if c.kind = 2 ∧ proom ps ⟨c.key, c.val, 0⟩ = true then (pset (kdo1 ps c).1 ⟨c.key, c.val, rnext (pfind c.key ps).rev⟩, (kdo1 ps c).2) else kdo1 ps c
theorem rev_kdo1 (ps : List Pa) (c : Cm) : kdo1 (rev 0 ps) c = (rev 0 (kdo1 ps c).1, (kdo1 ps c).2) := by
  have e : proom (rev 0 ps) ⟨c.key, c.val, 0⟩ = proom ps ⟨c.key, c.val, 0⟩ := proom_rev 0 0 ps ⟨c.key, c.val, 0⟩
  unfold kdo1
  rw [pfd_rev, pfind_rev, e]
  split
  · rw [rev_pput]
  · split
    · rw [rev_pdel]
    · rfl
/-- what both schemas come to is the same, revisions aside -/
theorem rev_kdo2 (ps : List Pa) (c : Cm) : kdo1 (rev 0 ps) c = (rev 0 (kdo2 ps c).1, (kdo2 ps c).2) := by
  rw [rev_kdo1]
  unfold kdo2
  split
  · next h =>
    obtain ⟨h2, hr⟩ := h
    simp only
    rw [rev_pset]
    have e : (kdo1 ps c).1 = pset ps ⟨c.key, c.val, 0⟩ := by
      unfold kdo1
      rw [if_pos h2]
      simp only
      unfold pput
      rw [if_pos hr]
    rw [e, rev_pset]
    simp only
    rw [pset_idem]
  · rfl
theorem kdo1_rise {ps : List Pa} (c : Cm) (hs : Rise ps) : Rise (kdo1 ps c).1 := by
  unfold kdo1
  split
  · exact pput_rise _ hs
  · split
    · exact pdel_rise _ hs
    · exact hs
theorem kdo1_length {ps : List Pa} (c : Cm) (h : ps.length ≤ 64) : (kdo1 ps c).1.length ≤ 64 := by
  unfold kdo1
  split
  · exact pput_length _ h
  · split
    · exact pdel_length _ h
    · exact h
theorem kdo1_mem {ps : List Pa} {c : Cm} {q : Pa} (h : q ∈ (kdo1 ps c).1) : (c.kind = 2 ∧ q = ⟨c.key, c.val, 0⟩) ∨ q ∈ ps := by
  unfold kdo1 at h
  split at h
  · next hk =>
    rcases pput_mem h with h | h
    · exact .inl ⟨hk, h⟩
    · exact .inr h
  · split at h
    · exact .inr (pdel_mem h)
    · exact .inr h
/-- the pairs behind a command may be -/
theorem kdo1_ok {ps : List Pa} {c : Cm} (h : PasOk 1 ps) (hc : c.kind = 2 → keyB c.key = true ∧ valB c.val = true) : PasOk 1 (kdo1 ps c).1 := by
  refine ⟨kdo1_length c h.few, ?_, kdo1_rise c h.rise⟩
  intro q hq
  rcases kdo1_mem hq with ⟨hk, rfl⟩ | hq
  · exact ⟨hc hk, by simp⟩
  · exact h.each q hq
theorem rnext_ok {r : Int} (h1 : 0 ≤ r) (h2 : r ≤ 4294967296) : 1 ≤ rnext r ∧ rnext r ≤ 4294967296 := by
  unfold rnext
  split <;> omega
theorem pfind_rev_ok {ps : List Pa} (h : PasOk 2 ps) (t : ByteArray) : 0 ≤ (pfind t ps).rev ∧ (pfind t ps).rev ≤ 4294967296 := by
  rcases pfind_mem t ps with h0 | ⟨h1, _⟩
  · rw [h0]; exact ⟨by decide, by decide⟩
  · have h2 := (h.each _ h1).2
    rw [if_neg (by decide)] at h2
    omega
theorem kdo2_ok {ps : List Pa} {c : Cm} (h : PasOk 2 ps) (hc : c.kind = 2 → keyB c.key = true ∧ valB c.val = true) : PasOk 2 (kdo2 ps c).1 := by
  have hr := rnext_ok (pfind_rev_ok h c.key).1 (pfind_rev_ok h c.key).2
  unfold kdo2
  split
  · next h2 =>
    obtain ⟨h2, hroom⟩ := h2
    have e : (kdo1 ps c).1 = pset ps ⟨c.key, c.val, 0⟩ := by
      unfold kdo1
      rw [if_pos h2]
      simp only
      unfold pput
      rw [if_pos hroom]
    simp only
    have hfd : pfd c.key (pset ps ⟨c.key, c.val, 0⟩) = true := pset_found ps ⟨c.key, c.val, 0⟩
    refine ⟨?_, ?_, pset_rise _ (kdo1_rise c h.rise)⟩
    · have := kdo1_length c h.few
      rw [e] at this ⊢
      rw [pset_length]
      simp only
      rw [if_pos hfd]
      exact this
    · intro q hq
      have hat := (pset_at (ps := ps) ⟨c.key, c.val, 0⟩)
      rw [e] at hq
      rw [pset_eq (p := ⟨c.key, c.val, rnext (pfind c.key ps).rev⟩) hfd] at hq
      simp only at hq hat
      rw [hat.1] at hq
      -- the place that is set held the pair with revision 0
      have hq2 : q = ⟨c.key, c.val, rnext (pfind c.key ps).rev⟩ ∨ q ∈ ps := by
        unfold pset at hq
        simp only at hq
        split at hq
        · rw [List.set_set] at hq
          rcases List.mem_or_eq_of_mem_set hq with h' | h'
          · exact .inr h'
          · exact .inl h'
        · have hle := plb_le c.key ps
          rw [List.set_append_right _ _ (by simp; omega)] at hq
          simp only [List.length_take, Nat.min_eq_left hle, Nat.sub_self, List.set_cons_zero] at hq
          rcases List.mem_append.1 hq with h' | h'
          · exact .inr (List.mem_of_mem_take h')
          · rcases List.mem_cons.1 h' with h' | h'
            · exact .inl h'
            · exact .inr (List.mem_of_mem_drop h')
      rcases hq2 with rfl | hq2
      · exact ⟨hc h2, by rw [if_neg (by decide)]; exact hr⟩
      · exact h.each q hq2
  · next h2 =>
    refine ⟨kdo1_length c h.few, ?_, kdo1_rise c h.rise⟩
    intro q hq
    rcases kdo1_mem hq with ⟨hk2, rfl⟩ | hq'
    · exfalso
      have hroom : proom ps ⟨c.key, c.val, 0⟩ = false := by
        rw [Bool.eq_false_iff]
        exact fun hr => h2 ⟨hk2, hr⟩
      unfold kdo1 at hq
      rw [if_pos hk2] at hq
      simp only at hq
      unfold pput at hq
      rw [hroom] at hq
      simp at hq
      have := (h.each _ hq).2
      rw [if_neg (by decide)] at this
      simp at this
    · exact h.each q hq'
end Go.Proofs.YtdclfdinhdaadaaGreatDoor
