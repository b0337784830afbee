/- The reference of package bag: the contract of Do, kind 4. -/
import Derived.Test.YtlkifobajdafpaaBagRef
import Derived.Test.YtlkifobajdafpaaBagDel
import Derived.Test.YtlkifobajdafpaaBagDo
namespace Go.Proofs.Ytlkifobajdafpaa
open Go.RowKit

set_option maxRecDepth 100000 in
set_option maxHeartbeats 2000000 in
theorem ref38_Do_put4 (A : Option Addr) (len c B : Nat) (R : Nat → Prop) (qs : List Pv) (ps : List Pk) (i : Nat) (f t : Int) (A2 : Option Addr) (n2 c2 : Nat) (d : List UInt8) (f0 t0 : Int) (A0 : Option Addr) (n0 c0 : Nat) (w : World) (hr : Reads w R 3 A len (pcs qs)) (hp : PRs w B qs ps)
    (hlen : len < 512) (hi : i < len) (hq : qs[i]? = some ⟨f, t, A2, n2, c2⟩) (hf1 : 1 ≤ f) (hf9 : f ≤ 9) (ht1 : 1 ≤ t) (ht9 : t ≤ 9) (hne : f ≠ t) (hd : RdB w B A2 n2 d) :
    Calls Try.prog 25 #[.slice A len c, .agg #[.int .i64 4, .int .i64 i, .int .i64 f0, .int .i64 t0, .slice A0 n0 c0]] w fun e w' => ∃ v qs', e = .returned (.tuple #[v, .agg #[.int .i64 0, .int .i64 0, .slice none 0 0], .bool true]) ∧
      OwnP w' w.heap.size v qs' ∧ PRs w' B qs' (ps ++ [⟨f, t, d⟩]) ∧ Mod Non w w' := by
  have e1 : (f == t) = false := by simp [hne]
  have g1 : ¬ f < 1 := by omega
  have g2 : ¬ 9 < f := by omega
  have g3 : ¬ t < 1 := by omega
  have g4 : ¬ 9 < t := by omega
  have g5 : ¬ (512 : Int) ≤ (len : Int) := by omega
  clear hne
  obtain ⟨b, off, q, rfl, hbl, _, hq', r0, r1, r2⟩ := hr.pk hi
  rw [hq] at hq'
  injection hq' with hq'
  subst hq'
  simp only at r0 r1 r2
  have L4 : ∀ (j : Nat) (u : Value), w.cell? ⟨b, j, none⟩ = some u → ∀ o1 o2 o3 o4 : Obj, ((((w.alloc o1).alloc o2).alloc o3).alloc o4).cell? ⟨b, j, none⟩ = some u := by
    intro j u h o1 o2 o3 o4
    rw [World.cell?_alloc_lt _ _ _ (by simp only [World.size_alloc]; omega), World.cell?_alloc_lt _ _ _ (by simp only [World.size_alloc]; omega), World.cell?_alloc_lt _ _ _ (by simp only [World.size_alloc]; omega), World.cell?_alloc_lt _ _ _ hbl, h]
  have s0 := L4 _ _ r0
  have s1 := L4 _ _ r1
  have s2 := L4 _ _ r2
  clear L4 r0 r1 r2
  have g6 : ¬ ((i : Int) < 0) := by omega
  have g7 : ¬ ((len : Int) ≤ (i : Int)) := by omega
  have Hd := Lib.hid hd; have Hp := Lib.hid hp
  clear hd hp hq
  go_enter Try.func25, Try.ntmps25
  go_wp2
  obtain ⟨i0, hi0, hz0, hz1, hz2⟩ := info_parts packet_info2
  have Hi := Lib.hid hi0; have Hz0 := Lib.hid hz0; have Hz1 := Lib.hid hz1; have Hz2 := Lib.hid hz2
  clear hi0 hz0 hz1 hz2
  obtain ⟨H, HH⟩ : ∃ H, Hid (H = w.heap.size) := ⟨_, rfl⟩
  generalize hw0 : (((w.alloc _).alloc _).alloc _).alloc _ = w0
  have hm0 : Mod Non w w0 := by rw [← hw0]; exact ((((Mod.refl _ _).alloc _).alloc _).alloc _).alloc _
  have hs0 : Hid (w0.heap.size = H + 4) := by show _ = _; rw [← hw0, HH.out]; simp
  have h5 : Blk w0 (H + 1) 48 #[.int .i64 0, .int .i64 0, .slice none 0 0] := by rw [← hw0, HH.out]; exact ((Blk.new1 _ _ _ _).alloc _).alloc _
  have h7 : Blk w0 (H + 2) 48 #[.int .i64 0, .int .i64 0, .slice none 0 0] := by rw [← hw0, HH.out]; exact (Blk.new2 _ _ _ _ _).alloc _
  have h8 : Blk w0 (H + 3) 48 #[.int .i64 f, .int .i64 t, .slice A2 n2 c2] := by rw [← hw0, HH.out]; exact Blk.new3 _ _ _ _ _ _
  have hr0 := hr.mod hm0 fun _ _ _ h => h
  rw [← HH.out]
  have hql : qs.length = len := by have := hr.1; rw [pcs_length] at this; omega
  have HQL := Lib.hid hql
  clear hw0 hr hql
  generalize hAA : (some (⟨b, off, none⟩ : Addr)) = AA at hr0 ⊢
  clear hAA
  have x70 := h7.cell 0
  have x71 := h7.cell 1
  have x72 := h7.cell 2
  have x80 := h8.cell 0
  have x81 := h8.cell 1
  have x82 := h8.cell 2
  simp at x70 x71 x72 x80 x81 x82
  have hone := pcs_one qs
  have hone1 : ∀ u ∈ [Value.int .i64 f, .int .i64 t, .slice A2 n2 c2], u.oneCell' = true := by intro u hu; simp at hu; rcases hu with rfl | rfl | rfl <;> rfl
  have hx1 : 0 + len ≤ maxLen := by simp only [maxLen]; omega
  have hx2 : (0 + len) * 40 ≤ 140737488355328 := by omega
  have hx3 : qs.length + 1 ≤ maxLen := by rw [HQL.out]; simp only [maxLen]; omega
  have hx4 : (qs.length + 1) * 40 ≤ 140737488355328 := by rw [HQL.out]; omega
  have sz3 : w.heap.size ≤ w0.heap.size + 1 := by have := hm0.size; omega
  have sz1 : w.heap.size ≤ (w0.alloc (.cells #[] 48)).heap.size := by simp only [World.size_alloc]; exact sz3
  have sz2 : ∀ o o' : Obj, w.heap.size ≤ ((w0.alloc o).alloc o').heap.size := by intro o o'; simp only [World.size_alloc]; omega
  go_region_held3 (fun w' => w'.cell? ⟨H + 2, 0, none⟩ = some (.int .i64 0) ∧ w'.cell? ⟨H + 2, 1, none⟩ = some (.int .i64 0) ∧ w'.cell? ⟨H + 2, 2, none⟩ = some (.slice none 0 0) ∧
      w'.cell? ⟨H + 3, 0, none⟩ = some (.int .i64 f) ∧ w'.cell? ⟨H + 3, 1, none⟩ = some (.int .i64 t) ∧ w'.cell? ⟨H + 3, 2, none⟩ = some (.slice A2 n2 c2))
    (go_keep)
    (first
      | (refine step_append_any _ (by rfl) (.tmp 84) (.tmp 85) _ (by rfl) w.heap.size 48 i0 _ 3 40 Try.underlying46 Hi.out Hz0.out Hz1.out Hz2.out rfl (by omega) (.slice (some ⟨w0.heap.size, 0, none⟩) 0 0) 0 [] (by rfl) (by exact OwnP.empty (Blk.new w0 _ #[]) hm0.size) R AA len c (pcs qs) (by rfl) (by exact hr0.alloc _) hone hx1 hx2 (by exact sz1) ?_
         intro v1 w1 hown1 hg1 hat1
         have hownP1 : OwnP w1 w.heap.size v1 qs := OwnP.of_row (by simpa using hown1)
         have hmX : Mod (One (w0.heap.size)) _ w1 := Mod.of_grown hg1 (fun k hk _ => by injection hk with hk; exact hk.symm)
         have hn1 : Mod Non w0 w1 := ((Mod.refl Non w0).alloc _).trans hmX.undrew fun k hk h => by unfold One at h; omega
         have hv1 : ∀ k, v1.ownBlock = some k → w0.heap.size ≤ k := by
           intro k hk
           rcases hat1 with h | h
           · rw [h] at hk; injection hk with hk; rw [← hk]; first | exact Nat.le_refl _ | exact Nat.le_add_right _ _
           · rw [h] at hk; injection hk with hk; rw [← hk]; simp only [World.size_drew, World.size_alloc]; omega
         have y70 := (h7.mod hn1 fun h => h).cell 0
         have y71 := (h7.mod hn1 fun h => h).cell 1
         have y72 := (h7.mod hn1 fun h => h).cell 2
         have y80 := (h8.mod hn1 fun h => h).cell 0
         have y81 := (h8.mod hn1 fun h => h).cell 1
         have y82 := (h8.mod hn1 fun h => h).cell 2
         simp at y70 y71 y72 y80 y81 y82
         clear hown1 hg1 hat1 hmX)
      | (refine step_append_any _ (by rfl) (.tmp 84) (.tmp 85) _ (by rfl) w.heap.size 48 i0 _ 3 40 Try.underlying46 Hi.out Hz0.out Hz1.out Hz2.out rfl (by omega) (.slice (some ⟨w0.heap.size, 0, none⟩) 0 0) 0 [] (by rfl) (by exact OwnP.empty ((Blk.new w0 _ #[]).alloc (.cells #[.int .i64 f, .int .i64 t, .slice A2 n2 c2] 48)) hm0.size) R AA len c (pcs qs) (by rfl) (by exact (hr0.alloc _).alloc _) hone hx1 hx2 (by exact sz2 _ _) ?_
         intro v1 w1 hown1 hg1 hat1
         have hownP1 : OwnP w1 w.heap.size v1 qs := OwnP.of_row (by simpa using hown1)
         have hmX : Mod (One (w0.heap.size)) _ w1 := Mod.of_grown hg1 (fun k hk _ => by injection hk with hk; exact hk.symm)
         have hn1 : Mod Non w0 w1 := (((Mod.refl Non w0).alloc _).alloc _).trans hmX.undrew fun k hk h => by unfold One at h; omega
         have hY : Blk w1 (w0.heap.size + 1) 48 #[.int .i64 f, .int .i64 t, .slice A2 n2 c2] := (Blk.new1 w0 _ _ _).mod hmX.undrew (by unfold One; omega)
         have hv1 : ∀ k, v1.ownBlock = some k → w0.heap.size ≤ k := by
           intro k hk
           rcases hat1 with h | h
           · rw [h] at hk; injection hk with hk; rw [← hk]; first | exact Nat.le_refl _ | exact Nat.le_add_right _ _
           · rw [h] at hk; injection hk with hk; rw [← hk]; simp only [World.size_drew, World.size_alloc]; omega
         have y70 := (h7.mod hn1 fun h => h).cell 0
         have y71 := (h7.mod hn1 fun h => h).cell 1
         have y72 := (h7.mod hn1 fun h => h).cell 2
         have y80 := (h8.mod hn1 fun h => h).cell 0
         have y81 := (h8.mod hn1 fun h => h).cell 1
         have y82 := (h8.mod hn1 fun h => h).cell 2
         simp at y70 y71 y72 y80 y81 y82
         clear hown1 hg1 hat1 hmX)
      | (refine step_append_any _ (by rfl) (.tmp 84) (.tmp 85) _ (by rfl) w.heap.size 48 i0 _ 3 40 Try.underlying46 Hi.out Hz0.out Hz1.out Hz2.out rfl (by omega) (.slice (some ⟨w0.heap.size + 1, 0, none⟩) 0 0) 0 [] (by rfl) (by exact OwnP.empty (Blk.new1 w0 (.cells #[.int .i64 f, .int .i64 t, .slice A2 n2 c2] 48) _ #[]) sz3) R AA len c (pcs qs) (by rfl) (by exact (hr0.alloc _).alloc _) hone hx1 hx2 (by exact sz2 _ _) ?_
         intro v1 w1 hown1 hg1 hat1
         have hownP1 : OwnP w1 w.heap.size v1 qs := OwnP.of_row (by simpa using hown1)
         have hmX : Mod (One (w0.heap.size + 1)) _ w1 := Mod.of_grown hg1 (fun k hk _ => by injection hk with hk; exact hk.symm)
         have hn1 : Mod Non w0 w1 := (((Mod.refl Non w0).alloc _).alloc _).trans hmX.undrew fun k hk h => by unfold One at h; omega
         have hY : Blk w1 w0.heap.size 48 #[.int .i64 f, .int .i64 t, .slice A2 n2 c2] := ((Blk.new w0 _ _).alloc _).mod hmX.undrew (by unfold One; omega)
         have hv1 : ∀ k, v1.ownBlock = some k → w0.heap.size ≤ k := by
           intro k hk
           rcases hat1 with h | h
           · rw [h] at hk; injection hk with hk; rw [← hk]; first | exact Nat.le_refl _ | exact Nat.le_add_right _ _
           · rw [h] at hk; injection hk with hk; rw [← hk]; simp only [World.size_drew, World.size_alloc]; omega
         have y70 := (h7.mod hn1 fun h => h).cell 0
         have y71 := (h7.mod hn1 fun h => h).cell 1
         have y72 := (h7.mod hn1 fun h => h).cell 2
         have y80 := (h8.mod hn1 fun h => h).cell 0
         have y81 := (h8.mod hn1 fun h => h).cell 1
         have y82 := (h8.mod hn1 fun h => h).cell 2
         simp at y70 y71 y72 y80 y81 y82
         clear hown1 hg1 hat1 hmX)
      | (refine step_append_any _ (by rfl) (.tmp 86) (.tmp 88) _ (by rfl) w.heap.size 48 i0 _ 3 40 Try.underlying46 Hi.out Hz0.out Hz1.out Hz2.out rfl (by omega) v1 qs.length (pcs qs) (by rfl) (by exact hownP1) (fun _ => True) _ 1 1 [.int .i64 f, .int .i64 t, .slice A2 n2 c2] (by rfl) (by exact hY.reads rfl) hone1 hx3 hx4 (by exact Nat.le_trans hm0.size hn1.size) ?_
         intro v2 w2 hown2 hg2 hat2
         have hownP2 : OwnP w2 w.heap.size v2 (qs ++ [⟨f, t, A2, n2, c2⟩]) := by unfold OwnP; rw [pcs_append, List.length_append]; exact hown2
         have hn2 : Mod Non w0 w2 := by
           have h1 := mod_of_grown hg2
           first
             | exact (hn1.alloc _).trans h1 fun k hk h => by have := hv1 k h; omega
             | exact hn1.trans h1 fun k hk h => by have := hv1 k h; omega
         have hv2 : ∀ k, v2.ownBlock = some k → w0.heap.size ≤ k := by
           intro k hk
           have hs1 := hn1.size
           rcases hat2 with h | h
           · rw [h] at hk; exact hv1 k hk
           · rw [h] at hk; injection hk with hk; rw [← hk]; first | exact Nat.le_trans hs1 (by simp) | exact hs1
         have b5 := h5.mod hn2 fun h => h
         have z70 := (h7.mod hn2 fun h => h).cell 0
         have z71 := (h7.mod hn2 fun h => h).cell 1
         have z72 := (h7.mod hn2 fun h => h).cell 2
         have z80 := (h8.mod hn2 fun h => h).cell 0
         have z81 := (h8.mod hn2 fun h => h).cell 1
         have z82 := (h8.mod hn2 fun h => h).cell 2
         have z50 := b5.cell 0
         have z51 := b5.cell 1
         have z52 := b5.cell 2
         have f50 := b5.frozen 0
         have f51 := b5.frozen 1
         have f52 := b5.frozen 2
         simp at z70 z71 z72 z80 z81 z82 z50 z51 z52
         clear hown2 hg2 hat2)
      | (refine step_append_any _ (by rfl) (.tmp 86) (.tmp 88) _ (by rfl) w.heap.size 48 i0 _ 3 40 Try.underlying46 Hi.out Hz0.out Hz1.out Hz2.out rfl (by omega) v1 qs.length (pcs qs) (by rfl) (by exact hownP1.alloc _) (fun _ => True) _ 1 1 [.int .i64 f, .int .i64 t, .slice A2 n2 c2] (by rfl) (by exact reads_new w1 _ _ _ trivial 3 rfl) hone1 hx3 hx4 (by exact Nat.le_trans (Nat.le_trans hm0.size hn1.size) (by simp)) ?_
         intro v2 w2 hown2 hg2 hat2
         have hownP2 : OwnP w2 w.heap.size v2 (qs ++ [⟨f, t, A2, n2, c2⟩]) := by unfold OwnP; rw [pcs_append, List.length_append]; exact hown2
         have hn2 : Mod Non w0 w2 := by
           have h1 := mod_of_grown hg2
           first
             | exact (hn1.alloc _).trans h1 fun k hk h => by have := hv1 k h; omega
             | exact hn1.trans h1 fun k hk h => by have := hv1 k h; omega
         have hv2 : ∀ k, v2.ownBlock = some k → w0.heap.size ≤ k := by
           intro k hk
           have hs1 := hn1.size
           rcases hat2 with h | h
           · rw [h] at hk; exact hv1 k hk
           · rw [h] at hk; injection hk with hk; rw [← hk]; first | exact Nat.le_trans hs1 (by simp) | exact hs1
         have b5 := h5.mod hn2 fun h => h
         have z70 := (h7.mod hn2 fun h => h).cell 0
         have z71 := (h7.mod hn2 fun h => h).cell 1
         have z72 := (h7.mod hn2 fun h => h).cell 2
         have z80 := (h8.mod hn2 fun h => h).cell 0
         have z81 := (h8.mod hn2 fun h => h).cell 1
         have z82 := (h8.mod hn2 fun h => h).cell 2
         have z50 := b5.cell 0
         have z51 := b5.cell 1
         have z52 := b5.cell 2
         have f50 := b5.frozen 0
         have f51 := b5.frozen 1
         have f52 := b5.frozen 2
         simp at z70 z71 z72 z80 z81 z82 z50 z51 z52
         clear hown2 hg2 hat2))
  all_goals
    generalize hwz : World.setCell (World.setCell (World.setCell w2 _ _) _ _) _ _ = wz
    have hN : Mod Non w wz := by
      rw [← hwz]
      have h0 : Mod Non w w2 := hm0.trans' hn2
      exact (((h0.setCell (p := ⟨H + 1, 0, none⟩) (fun h => by have := HH.out; simp only at h; omega) _).setCell (p := ⟨H + 1, 1, none⟩) (fun h => by have := HH.out; simp only at h; omega) _).setCell (p := ⟨H + 1, 2, none⟩) (fun h => by have := HH.out; simp only at h; omega) _)
    have hO : OwnP wz w.heap.size v2 (qs ++ [⟨f, t, A2, n2, c2⟩]) := by
      rw [← hwz]
      have hfar : ∀ j, ¬ v2.ownBlock = some (Addr.mk (H + 1) j none).block := fun j h => by have h1 : w0.heap.size ≤ H + 1 := hv2 _ h; have h2 : w0.heap.size = H + 4 := hs0.out; omega
      exact ((hownP2.far (hfar 0) _).far (hfar 1) _).far (hfar 2) _
    have hP : PRs wz B (qs ++ [⟨f, t, A2, n2, c2⟩]) (ps ++ [⟨f, t, d⟩]) := (Hp.out.snoc ⟨rfl, rfl, Hd.out⟩).kp (Kp.non hN)
    have hZ : Blk wz (H + 1) 48 #[.int .i64 0, .int .i64 0, .slice none 0 0] := by
      rw [← hwz]
      exact ((b5.set_ 0 _).set_ 1 _).set_ 2 _
    go_wp2
    refine bodyPost_ret (results_tmp_row_tmp rfl _ _ (H + 1) 48 #[.int .i64 0, .int .i64 0, .slice none 0 0] (0, 0) _ rfl hZ Try.underlying48 rfl (by kernel_rfl)) rfl ?_
    exact ⟨v2, qs ++ [⟨f, t, A2, n2, c2⟩], rfl, hO, hP, hN⟩
end Go.Proofs.Ytlkifobajdafpaa
