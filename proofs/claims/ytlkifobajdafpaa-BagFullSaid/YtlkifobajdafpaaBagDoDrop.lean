/- The reference of package bag: the contract of Do, kinds 2 and 3. -/
import Derived.Test.YtlkifobajdafpaaBagDoTwice
namespace Go.Proofs.Ytlkifobajdafpaa
open Go.RowKit

theorem era_eq {α : Type} (ps : List α) (i : Nat) : (ps.take (i + 1)).eraseIdx i = (ps.take i).eraseIdx i := by
  rw [List.eraseIdx_of_length_le (l := ps.take i) (by rw [List.length_take]; omega)]
  rw [List.eraseIdx_eq_take_drop_succ, List.take_take, List.drop_take]
  simp
theorem era_ne {α : Type} (ps : List α) (i k : Nat) (p : α) (hp : ps[k]? = some p) (hk : k ≠ i) : (ps.take (k + 1)).eraseIdx i = (ps.take k).eraseIdx i ++ [p] := by
  have hl : k < ps.length := by have := (List.getElem?_eq_some_iff.mp hp).1; exact this
  have e : ps.take (k + 1) = ps.take k ++ [p] := by rw [List.take_add_one, hp]; rfl
  rw [e]
  have hlen : (ps.take k).length = k := by rw [List.length_take]; omega
  by_cases h : i < k
  · rw [List.eraseIdx_append_of_lt_length (by omega)]
  · rw [List.eraseIdx_of_length_le (l := ps.take k ++ [p]) (by simp; omega), List.eraseIdx_of_length_le (l := ps.take k) (by omega)]

theorem Mod.set3 {S : Nat → Prop} {a w : World} (h : Mod S a w) {g : Nat} (hp : g < a.heap.size → S g) (u0 u1 u2 : Value) : Mod S a (((w.setCell ⟨g, 0, none⟩ u0).setCell ⟨g, 1, none⟩ u1).setCell ⟨g, 2, none⟩ u2) :=
  ((h.setCell (p := ⟨g, 0, none⟩) hp u0).setCell (p := ⟨g, 1, none⟩) hp u1).setCell (p := ⟨g, 2, none⟩) hp u2
theorem OwnP.far3 {w : World} {B : Nat} {v : Value} {qs : List Pv} (h : OwnP w B v qs) {g : Nat} (hp : ¬ v.ownBlock = some g) (u0 u1 u2 : Value) : OwnP (((w.setCell ⟨g, 0, none⟩ u0).setCell ⟨g, 1, none⟩ u1).setCell ⟨g, 2, none⟩ u2) B v qs :=
  ((h.far (p := ⟨g, 0, none⟩) hp u0).far (p := ⟨g, 1, none⟩) hp u1).far (p := ⟨g, 2, none⟩) hp u2
theorem Kp.drew {w w' : World} {B : Nat} (h : Kp B w w') : Kp B w w'.drew := Mod.drew h
theorem OwnP.weak {w : World} {B B' : Nat} {v : Value} {qs : List Pv} (h : OwnP w B v qs) (hB : B' ≤ B) : OwnP w B' v qs := by
  refine ⟨h.1, ?_⟩
  rcases h.2 with h1 | ⟨g, cap, cur, hv, hb, hr⟩
  · exact .inl h1
  · exact .inr ⟨g, cap, cur, hv, Nat.le_trans hB hb, hr⟩
theorem OwnP.out {w : World} {B : Nat} {v : Value} {qs : List Pv} (h : OwnP w B v qs) {g : Nat} (hg : g < B) : ¬ v.ownBlock = some g := fun e => by have := (World.ownsRow.lt h g e).1; omega
theorem Blk.set3 {w : World} {g t : Nat} {v0 v1 v2 : Value} (h : Blk w g t #[v0, v1, v2]) (u0 u1 u2 : Value) : Blk (((w.setCell ⟨g, 0, none⟩ u0).setCell ⟨g, 1, none⟩ u1).setCell ⟨g, 2, none⟩ u2) g t #[u0, u1, u2] :=
  ((h.set_ 0 _).set_ 1 _).set_ 2 _
theorem Kp.set3p {w0 w : World} {B g t : Nat} {cs : Array Value} (h0 : Kp B w0 w) (h : Blk w g t cs) (ht : t ≠ 5) (hB : B ≤ g) (u0 u1 u2 : Value) : Kp B w0 (((w.setCell ⟨g, 0, none⟩ u0).setCell ⟨g, 1, none⟩ u1).setCell ⟨g, 2, none⟩ u2) :=
  ((h0.setCell h ht hB u0).setCell (h.set_ 0 u0) ht hB u1).setCell ((h.set_ 0 u0).set_ 1 u1) ht hB u2
theorem Blk.far3 {w : World} {g g' t : Nat} {cs : Array Value} (h : Blk w g t cs) (hp : g ≠ g') (u0 u1 u2 : Value) : Blk (((w.setCell ⟨g', 0, none⟩ u0).setCell ⟨g', 1, none⟩ u1).setCell ⟨g', 2, none⟩ u2) g t cs :=
  ((h.far (p := ⟨g', 0, none⟩) hp u0).far (p := ⟨g', 1, none⟩) hp u1).far (p := ⟨g', 2, none⟩) hp u2

set_option maxRecDepth 100000 in
set_option maxHeartbeats 2000000 in
theorem ref38_Do_drop (A : Option Addr) (len c B : Nat) (R : Nat → Prop) (qs : List Pv) (ps : List Pk) (i : Nat) (k f t : Int) (A2 : Option Addr) (n2 c2 : Nat) (f0 t0 : Int) (A0 : Option Addr) (n0 c0 : Nat) (w : World) (hr : Reads w R 3 A len (pcs qs)) (hp : PRs w B qs ps)
    (hB : B ≤ w.heap.size) (hlen : len < 512) (hi : i < len) (hq : qs[i]? = some ⟨f, t, A2, n2, c2⟩) (hk : k = 2 ∨ k = 3) :
    Calls Try.prog 25 #[.slice A len c, .agg #[.int .i64 k, .int .i64 i, .int .i64 f0, .int .i64 t0, .slice A0 n0 c0]] w fun e w' => ∃ v qs',
      ((k = 2 ∧ e = .returned (.tuple #[v, .agg #[.int .i64 f, .int .i64 t, .slice A2 n2 c2], .bool true])) ∨ (k = 3 ∧ e = .returned (.tuple #[v, .agg #[.int .i64 0, .int .i64 0, .slice none 0 0], .bool true]))) ∧
      OwnP w' w.heap.size v qs' ∧ PRs w' B qs' (ps.eraseIdx i) ∧ Mod Non w w' := by
  have HK := Lib.hid hk
  have e1 : (k == 1) = false := by rcases hk with rfl | rfl <;> rfl
  have e4 : (k == 4) = false := by rcases hk with rfl | rfl <;> rfl
  have k1 : 1 ≤ k := by omega
  have k4 : k ≤ 4 := by omega
  clear hk
  obtain ⟨b, off, q, rfl, hbl, _, hq', r0, r1, r2⟩ := hr.pk hi
  rw [hq] at hq'
  injection hq' with hq'
  subst hq'
  simp only at r0 r1 r2
  have L4 : ∀ (j : Nat) (u : Value), w.cell? ⟨b, j, none⟩ = some u → ∀ o1 o2 o3 o4 : Obj, ((((w.alloc o1).alloc o2).alloc o3).alloc o4).cell? ⟨b, j, none⟩ = some u := by
    intro j u h o1 o2 o3 o4
    rw [World.cell?_alloc_lt _ _ _ (by simp only [World.size_alloc]; omega), World.cell?_alloc_lt _ _ _ (by simp only [World.size_alloc]; omega), World.cell?_alloc_lt _ _ _ (by simp only [World.size_alloc]; omega), World.cell?_alloc_lt _ _ _ hbl, h]
  have s0 := L4 _ _ r0
  have s1 := L4 _ _ r1
  have s2 := L4 _ _ r2
  clear L4 r0 r1 r2
  have g6 : (0 : Int) ≤ (i : Int) := by omega
  have g7 : (i : Int) < (len : Int) := by omega
  have hql : qs.length = len := by have := hr.1; rw [pcs_length] at this; omega
  have hpl : ps.length = len := by have := hp.1; omega
  have HQL := Lib.hid hql
  have HPL := Lib.hid hpl
  have Hp := Lib.hid hp
  clear hp hq hql hpl
  go_enter Try.func25, Try.ntmps25
  go_wp2
  obtain ⟨H, HH⟩ : ∃ H, Hid (H = w.heap.size) := ⟨_, rfl⟩
  generalize hw0 : (((w.alloc _).alloc _).alloc _).alloc _ = w0
  have hm0 : Mod Non w w0 := by rw [← hw0]; exact ((((Mod.refl _ _).alloc _).alloc _).alloc _).alloc _
  have hs0 : Hid (w0.heap.size = H + 4) := by show _ = _; rw [← hw0, HH.out]; simp
  have h4 : Blk w0 H 52 #[.int .i64 k, .int .i64 i, .int .i64 f0, .int .i64 t0, .slice A0 n0 c0] := by rw [← hw0, HH.out]; exact (((Blk.new _ _ _).alloc _).alloc _).alloc _
  have h5 : Blk w0 (H + 1) 48 #[.int .i64 0, .int .i64 0, .slice none 0 0] := by rw [← hw0, HH.out]; exact ((Blk.new1 _ _ _ _).alloc _).alloc _
  have h7 : Blk w0 (H + 2) 48 #[.int .i64 0, .int .i64 0, .slice none 0 0] := by rw [← hw0, HH.out]; exact (Blk.new2 _ _ _ _ _).alloc _
  have h8 : Blk w0 (H + 3) 48 #[.int .i64 f, .int .i64 t, .slice A2 n2 c2] := by rw [← hw0, HH.out]; exact Blk.new3 _ _ _ _ _ _
  have hr0 := hr.mod hm0 fun _ _ _ h => h
  rw [← HH.out]
  clear hw0 hr s0 s1 s2
  generalize hAA : (some (⟨b, off, none⟩ : Addr)) = AA at hr0 ⊢
  clear hAA
  have hsz0 := hm0.size
  have y1 : decide (len ≤ i) = false := decide_eq_false (by omega)
  have y2 : decide ((i : Int) < 0) = false := decide_eq_false (by omega)
  have y3 : decide (k < 1) = false := decide_eq_false (by omega)
  have y4 : decide (4 < k) = false := decide_eq_false (by omega)
  simp only [y1, y2, y3, y4, Bool.or_false]
  clear y1 y2 y3 y4
  go_loopw [9, 10] (fun v x wr => ∃ (j : Nat) (qs' : List Pv), j ≤ len ∧ x = .int .i64 j ∧ OwnP wr w0.heap.size v qs' ∧ PRs wr B qs' ((ps.take j).eraseIdx i) ∧ Mod Non w0 wr) (fun _ x _ => len - (intOf x).toNat)
  case atStart => exact ⟨0, [], by omega, rfl, OwnP.nil _ _, PRs.nil, Mod.refl _ _⟩
  case round =>
    obtain ⟨j, qs', hj, rfl, hown, hprs, hmr⟩ := hrel
    have hsz := hmr.size
    have b4 := h4.mod hmr fun h => h
    have x40 := b4.cell 0
    have x41 := b4.cell 1
    simp at x40 x41
    by_cases hlt : j < len
    · by_cases hji : j = i
      · have hE : PRs wr B qs' ((ps.take (j + 1)).eraseIdx i) := by rw [hji] at hprs ⊢; rw [era_eq]; exact hprs
        have e5 : ((j : Int) != (i : Int)) = false := by rw [hji]; simp
        clear hprs hji
        go_wp2
        go_roundw
        case rel => exact ⟨j + 1, qs', by omega, by go_num, hown, hE, hmr⟩
        case measure => simp [intOf]; omega
      · have e5 : ((j : Int) != (i : Int)) = true := by simp; omega
        obtain ⟨ab, off', ⟨f', t', A', n', c'⟩, hA, hab, _, hqk, d0, d1, d2⟩ := (hr0.mod hmr (fun _ _ _ h => h)).pk hlt
        have hpk : ps[j]? = some (ps[j]'(by rw [HPL.out]; exact hlt)) := List.getElem?_eq_getElem (by rw [HPL.out]; exact hlt)
        obtain ⟨p, hpk⟩ : ∃ p, ps[j]? = some p := ⟨_, hpk⟩
        have hPk := (Hp.out.kp (Kp.non (hm0.trans' hmr))).2 j _ p hqk hpk
        have hpsE := era_ne ps i j p hpk hji
        have HPS := Lib.hid hpsE
        have HPk := Lib.hid hPk
        simp only at d0 d1 d2
        have hql : qs'.length ≤ 1000000 := by have := hprs.1; have h2 := List.length_eraseIdx_le (ps.take j) i; rw [List.length_take] at h2; omega
        subst hA
        clear hqk hpk hPk hpsE hji
        go_wp2_with (at_builtin; refine wpList_append_packet rfl (.tmp 101) (.tmp 106) rfl w0.heap.size _ qs' rfl hown f' t' A' n' c' rfl hql hsz ?_; intro v2 w2 hown2 hm2 _)
        have hk2 := hown.kp (B := B) (by omega) hm2
        have hmr2 := hown.modNon hmr hm2
        have hprs2 := (hprs.kp hk2).snoc (q := ⟨f', t', A', n', c'⟩) (p := p) (HPk.out.kp hk2)
        rw [← HPS.out] at hprs2
        clear hk2 hm2 hown hprs
        go_wp2
        go_roundw
        case rel => exact ⟨j + 1, _, by omega, by go_num, hown2, hprs2, hmr2⟩
        case measure => simp [intOf]; omega
    · have hps : ps.take j = ps := List.take_of_length_le (by rw [HPL.out]; omega)
      rw [hps] at hprs
      clear hps
      have b5 := h5.mod hmr fun h => h
      have b7 := h7.mod hmr fun h => h
      have b8 := h8.mod hmr fun h => h
      have x50 := b5.cell 0
      have x51 := b5.cell 1
      have x52 := b5.cell 2
      have f50 := b5.frozen 0
      have f51 := b5.frozen 1
      have f52 := b5.frozen 2
      have x70 := b7.cell 0
      have x71 := b7.cell 1
      have x72 := b7.cell 2
      have x80 := b8.cell 0
      have x81 := b8.cell 1
      have x82 := b8.cell 2
      have f80 := b8.frozen 0
      have f81 := b8.frozen 1
      have f82 := b8.frozen 2
      simp at x50 x51 x52 x70 x71 x72 x80 x81 x82
      have hN0 : Mod Non w wr := hm0.trans' hmr
      have hnl : ∀ d, ¬ H + d < w.heap.size := fun d h => by have := HH.out; omega
      have hs1 : H + 1 < w0.heap.size := by rw [hs0.out]; omega
      have hs3 : H + 3 < w0.heap.size := by rw [hs0.out]; omega
      have hown' := hown.weak hsz0
      by_cases hk3 : k = 3
      · have e3 : (k == 3) = true := by simp [hk3]
        go_wp2
        go_region
        go_wp2
        have hN1 := ((hN0.set3 (g := H + 1 + 1 + 1) (fun h => (hnl 3 h).elim) (.int .i64 0) (.int .i64 0) (.slice none 0 0)).set3 (g := H + 1) (fun h => (hnl 1 h).elim) (.int .i64 0) (.int .i64 0) (.slice none 0 0)).drew
        have hZ := ((b5.far3 (g' := H + 1 + 1 + 1) (by omega) (.int .i64 0) (.int .i64 0) (.slice none 0 0)).set3 (.int .i64 0) (.int .i64 0) (.slice none 0 0)).drew
        have hO := ((hown'.far3 (g := H + 1 + 1 + 1) (hown.out hs3) (.int .i64 0) (.int .i64 0) (.slice none 0 0)).far3 (g := H + 1) (hown.out hs1) (.int .i64 0) (.int .i64 0) (.slice none 0 0)).drew
        have hP := hprs.kp (Kp.drew (((Kp.refl B wr).set3p (g := H + 1 + 1 + 1) b8 (by decide) (by have := HH.out; omega) (.int .i64 0) (.int .i64 0) (.slice none 0 0)).set3p (b5.far3 (g' := H + 1 + 1 + 1) (by omega) (.int .i64 0) (.int .i64 0) (.slice none 0 0)) (by decide) (by have := HH.out; omega) (.int .i64 0) (.int .i64 0) (.slice none 0 0)))
        generalize World.drew (World.setCell (World.setCell (World.setCell (World.setCell (World.setCell (World.setCell wr _ _) _ _) _ _) _ _) _ _) _ _) = wz at hN1 hZ hO hP ⊢
        refine bodyPost_ret (results_tmp_row_tmp rfl _ _ (H + 1) 48 #[.int .i64 0, .int .i64 0, .slice none 0 0] (0, 0) _ rfl hZ Try.underlying48 rfl (by kernel_rfl)) rfl ?_
        exact ⟨_, qs', .inr ⟨hk3, rfl⟩, hO, hP, hN1⟩
      · have e3 : (k == 3) = false := by simp [hk3]
        go_wp2
        go_region
        go_wp2
        have hN1 := (hN0.set3 (g := H + 1) (fun h => (hnl 1 h).elim) (.int .i64 f) (.int .i64 t) (.slice A2 n2 c2)).drew
        have hZ := (b5.set3 (.int .i64 f) (.int .i64 t) (.slice A2 n2 c2)).drew
        have hO := (hown'.far3 (g := H + 1) (hown.out hs1) (.int .i64 f) (.int .i64 t) (.slice A2 n2 c2)).drew
        have hP := hprs.kp (Kp.drew ((Kp.refl B wr).set3p b5 (by decide) (by have := HH.out; omega) (.int .i64 f) (.int .i64 t) (.slice A2 n2 c2)))
        generalize World.drew (World.setCell (World.setCell (World.setCell wr _ _) _ _) _ _) = wz at hN1 hZ hO hP ⊢
        refine bodyPost_ret (results_tmp_row_tmp rfl _ _ (H + 1) 48 #[.int .i64 f, .int .i64 t, .slice A2 n2 c2] (0, 0) _ rfl hZ Try.underlying48 rfl (by kernel_rfl)) rfl ?_
        exact ⟨_, qs', .inl ⟨by have := HK.out; omega, rfl⟩, hO, hP, hN1⟩
end Go.Proofs.Ytlkifobajdafpaa
