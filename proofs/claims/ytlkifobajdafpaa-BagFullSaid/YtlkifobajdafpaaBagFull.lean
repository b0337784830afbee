/- The statement BagFull: the walk of the law's function. -/
import Derived.Test.YtlkifobajdafpaaBagDoes
namespace Go.Proofs.Ytlkifobajdafpaa
open Go.RowKit

theorem bag_Len_nil (w : World) :
    Calls Try.prog 27 #[.pointer none] w fun e w' => e = .returned (.int .i64 0) ∧ w = w' := by
  go_enter Try.func27, Try.ntmps27
  go_wp2
  go_ret
  exact ⟨rfl, rfl⟩

theorem full_large (f t : Int) (A2 : Option Addr) (n2 c2 : Nat) (m : Int) (W : World) (hn : 50 < n2) :
    Calls Try.prog 9 #[.agg #[.int .i64 f, .int .i64 t, .slice A2 n2 c2], .int .u8 m] W fun e W' => e = .returned (.bool true) ∧ Mod Non W W' := by
  have hn' : (50 : Int) < n2 := by omega
  go_enter Try.func9, Try.ntmps9
  go_wp2_with fail
  refine (bag_awake _).mono ?_
  rintro e w1 ⟨rfl, hm⟩
  go_wp2
  go_ret
  exact ⟨rfl, ((Mod.refl _ _).alloc _).trans' hm⟩

def cnt (ok : Bool) (k : Nat) : Nat := if ok then min k 512 else 0
def GoodB (ok : Bool) (p : Pk) : Prop := (ok = true ↔ (1 ≤ p.f ∧ p.f ≤ 9 ∧ 1 ≤ p.t ∧ p.t ≤ 9 ∧ p.f ≠ p.t)) ∧ p.d.length ≤ 50

theorem full_put (ok : Bool) (k b : Nat) (v : Value) (qs : List Pv) (f t : Int) (A2 : Option Addr) (n2 c2 : Nat) (d : List UInt8) (w : World) (hok : GoodB ok ⟨f, t, d⟩) (hb : Blk w b 76 #[v]) (hown : OwnP w b v qs)
    (hp : PRs w b qs (List.replicate (cnt ok k) ⟨f, t, d⟩)) (hd : RdB w b A2 n2 d) :
    Calls Try.prog 33 #[.pointer (some ⟨b, 0, none⟩), .agg #[.int .i64 f, .int .i64 t, .slice A2 n2 c2]] w fun e w' => e = .returned (.bool (ok && decide (k < 512))) ∧ ∃ v' qs', Blk w' b 76 #[v'] ∧ OwnP w' b v' qs' ∧
      PRs w' b qs' (List.replicate (cnt ok (k + 1)) ⟨f, t, d⟩) ∧ Mod (fun k => k = b ∨ v.ownBlock = some k) w w' := by
  obtain ⟨A, m, c, rfl, hm, _⟩ := hown.form
  have hm : m = qs.length := hm
  have hql := hp.1
  rw [List.length_replicate] at hql
  obtain ⟨hok, hdl⟩ := hok
  simp only at hok hdl
  by_cases h : ok = true ∧ k < 512
  · obtain ⟨h1, h2⟩ := h
    obtain ⟨g1, g2, g3, g4, g5⟩ := hok.1 h1
    have hc : cnt ok k = k := by simp [cnt, h1]; omega
    have hc1 : cnt ok (k + 1) = k + 1 := by simp [cnt, h1]; omega
    refine (bag_Put_ok b b A m c qs f t A2 n2 c2 d w hb hown (by omega) g1 g2 g3 g4 g5 hd (by omega) (Nat.le_refl _)).mono ?_
    rintro e w' ⟨A', n', c', v', rfl, hrd, hb', hown', hmod, hfr⟩
    refine ⟨by simp [h1, h2], v', _, hb', hown', ?_, hmod⟩
    rw [hc1, List.replicate_succ']
    rw [hc] at hp
    exact (hp.kp (kp_bag hb hown (Nat.le_refl _) hmod)).snoc ⟨rfl, rfl, hrd⟩
  · have hc : cnt ok (k + 1) = cnt ok k := by
      cases ok
      · simp [cnt]
      · simp [cnt] at h ⊢; omega
    refine (bag_Put_no b A m c f t A2 n2 c2 w hb ?_).mono ?_
    · cases ok
      · have : ¬ (1 ≤ f ∧ f ≤ 9 ∧ 1 ≤ t ∧ t ≤ 9 ∧ f ≠ t) := fun hh => by have := hok.2 hh; cases this
        omega
      · have h3 : 512 ≤ k := by
          rcases Nat.lt_or_ge k 512 with h' | h'
          · exact absurd ⟨rfl, h'⟩ h
          · exact h'
        have h4 : cnt true k = 512 := by simp [cnt]; omega
        omega
    rintro e w' ⟨rfl, hmod⟩
    refine ⟨?_, _, qs, hb.mod hmod fun h => h, hown.non hmod, by rw [hc]; exact hp.kp (Kp.non hmod), hmod.non⟩
    cases ok
    · simp
    · simp at h ⊢; omega

set_option maxRecDepth 100000 in
set_option maxHeartbeats 2000000 in
theorem full_all (ok : Bool) (ps' : List Pk) (f t : Int) (A2 : Option Addr) (n2 c2 : Nat) (m : Int) (d : List UInt8) (W : World) (hn : n2 ≤ 50) (hd : Reads W (fun _ => True) 1 A2 n2 (vbs d)) (hm0 : 0 ≤ m) (hm1 : m ≤ 255)
    (hok : GoodB ok ⟨f, t, d⟩) (hrc : RefC [] 1 0 ⟨f, t, d⟩ ps' Pk.zero ok) :
    Calls Try.prog 9 #[.agg #[.int .i64 f, .int .i64 t, .slice A2 n2 c2], .int .u8 m] W fun e W' => e = .returned (.bool true) ∧ Mod Non W W' := by
  have hn' : ¬ (50 : Int) < n2 := by omega
  have HG := Lib.hid hok
  have HD := Lib.hid hd
  have HRC := Lib.hid hrc
  clear hok hd hrc
  go_enter Try.func9, Try.ntmps9
  go_wp2_with fail
  refine (bag_Take_nil 0 _).mono ?_
  rintro e w1 ⟨rfl, hm1'⟩
  obtain ⟨H, HH⟩ : ∃ H, Hid (H = W.heap.size) := ⟨_, rfl⟩
  rw [← HH.out]
  have hw1 : Mod Non W w1 := ((Mod.refl _ _).alloc _).trans' hm1'
  have hbox : Blk w1 H 48 #[.int .i64 f, .int .i64 t, .slice A2 n2 c2] := by rw [HH.out]; exact (Blk.new _ _ _).mod hm1' fun h => h
  have x0 := hbox.cell 0
  have x1 := hbox.cell 1
  have x2 := hbox.cell 2
  simp at x0 x1 x2
  have hbl := hbox.lt
  clear hm1'
  go_wp2_with fail
  refine (bag_Put_nil f t A2 n2 c2 _).mono ?_
  rintro e w2 ⟨rfl, hm2⟩
  have hw2 : Mod Non W w2 := (hw1.alloc _).trans' hm2
  have hbox2 := (hbox.alloc _).mod hm2 fun h => h
  clear hm2 hbox x0 x1 x2
  go_wp2_with fail
  refine (bag_Lose_nil 0 _).mono ?_
  rintro e w3 ⟨rfl, hm3⟩
  have hw3 : Mod Non W w3 := hw2.trans' hm3
  have hbox3 := hbox2.mod hm3 fun h => h
  clear hm3 hbox2
  go_wp2_with fail
  refine (bag_Twice_nil 0 _).mono ?_
  rintro e w4 ⟨rfl, hm4⟩
  have hw4 : Mod Non W w4 := hw3.trans' hm4
  have hbox4 := hbox3.mod hm4 fun h => h
  clear hm4 hbox3
  go_wp2_with fail
  refine (bag_Len_nil _).mono ?_
  rintro e w5 ⟨rfl, rfl⟩
  go_wp2_with fail
  refine (bag_List_nil _).mono ?_
  rintro e w5 ⟨rfl, rfl⟩
  go_wp2_with fail
  refine (bag_To_nil 1 _).mono ?_
  rintro e w5 ⟨rfl, rfl⟩
  have x0 := hbox4.cell 0
  have x1 := hbox4.cell 1
  have x2 := hbox4.cell 2
  simp at x0 x1 x2
  go_wp2_with fail
  refine (bag_New _).mono ?_
  rintro e w5 ⟨rfl, hb5, hm5⟩
  have hbox5 := hbox4.mod hm5 fun h => h
  have y0 := hbox5.cell 0
  have y1 := hbox5.cell 1
  have y2 := hbox5.cell 2
  simp at y0 y1 y2
  obtain ⟨b, HB⟩ : ∃ b, Hid (b = w4.heap.size) := ⟨_, rfl⟩
  rw [← HB.out] at hb5 ⊢
  have hHb : H < b := by rw [HB.out]; exact hbox4.lt
  have hHW : Hid (H = W.heap.size) := HH
  have hw5 : Mod Non W w5 := hw4.trans' hm5
  have hb5l := hb5.lt
  have hrdW : RdB W b A2 n2 d := RdB.below (HD.out.more fun k hk _ => by have := HH.out; omega)
  have hrd5 : RdB w5 b A2 n2 d := hrdW.kp (Kp.non hw5)
  clear hbox4 x0 x1 x2 hm5 hw1 hw2 hw3
  go_wp2_with fail
  refine (HRC.out b (.slice none 0 0) [] f t A2 n2 c2 w5 (OwnP.nil _ _) PRs.nil ⟨rfl, rfl, hrd5⟩ (by omega)).mono ?_
  rintro e w6 ⟨v6, qs6, f6, t6, A6, n6, c6, rfl, _, _, _, hm6, _⟩
  go_wp2
  generalize hw7 : World.alloc w6 _ = w7
  have hm7 : Mod Non w5 w7 := by rw [← hw7]; exact hm6.alloc _
  have hb7 := hb5.mod hm7 fun h => h
  have hbox7 := hbox5.mod hm7 fun h => h
  have hw7' := hw5.trans' hm7
  have hrd7 := hrd5.kp (Kp.non hm7)
  clear hw7 hm6 hm7 hb5 hbox5 hrd5 y0 y1 y2 hw5
  go_loopw [12, 13] (fun n i wr => ∃ (k : Nat) (v : Value) (qs : List Pv), k ≤ 519 ∧ i = .int .i64 k ∧ n = .int .i64 (cnt ok k : Nat) ∧ Blk wr b 76 #[v] ∧ OwnP wr b v qs ∧ PRs wr b qs (List.replicate (cnt ok k) ⟨f, t, d⟩) ∧
      Blk wr H 48 #[.int .i64 f, .int .i64 t, .slice A2 n2 c2] ∧ RdB wr b A2 n2 d ∧ Mod Non W wr) (fun _ i _ => 519 - (intOf i).toNat)
  case atStart => exact ⟨0, _, [], by omega, rfl, by simp [cnt], hb7, OwnP.nil _ _, by simp [cnt]; exact PRs.nil, hbox7, hrd7, hw7'⟩
  case round =>
    obtain ⟨k, v, qs, hk, rfl, rfl, hb, hown, hps, hbox, hrd, hmr⟩ := hrel
    have x0 := hbox.cell 0
    have x1 := hbox.cell 1
    have x2 := hbox.cell 2
    simp at x0 x1 x2
    have hbl := hb.lt
    have hmr' := hmr
    by_cases hkl : (k : Int) < 512 + m % 8
    · have hk1 : k + 1 ≤ 519 := by omega
      obtain ⟨cc, hcc⟩ : ∃ cc, cnt ok k = cc := ⟨_, rfl⟩
      have hc5 : cc ≤ 512 := by rw [← hcc]; unfold cnt; split <;> omega
      have HC : Hid (cnt ok k = cc) := hcc
      rw [hcc]
      clear hcc
      go_wp2_with fail
      refine (full_put ok k b v qs f t A2 n2 c2 d wr HG.out hb hown hps hrd).mono ?_
      rintro e w2 ⟨rfl, v', qs', hb', hown', hps', hm2⟩
      have hbox' := hbox.mod hm2 fun h => by
        rcases h with h | h
        · omega
        · have := (hown.lt H h).1; omega
      have hrd' := hrd.kp (kp_bag hb hown (Nat.le_refl _) hm2)
      have hmr2 := hmr.trans hm2 fun i hi h => by
        rcases h with h | h
        · have := hHW.out; omega
        · have := (hown.lt i h).1; have := hHW.out; omega
      clear hb hown hps hbox hrd hm2 x0 x1 x2 hmr hmr'
      cases hq : (ok && decide (k < 512))
      · have hc1 : Hid (cnt ok (k + 1) = cc) := by
          show _ = _
          rw [← HC.out]
          cases ok
          · rfl
          · simp at hq; simp [cnt]; omega
        clear hq
        go_wp2
        go_roundw
        case rel => exact ⟨k + 1, v', qs', hk1, by go_num, by rw [hc1.out], hb', hown', hps', hbox', hrd', hmr2⟩
        case measure => simp [intOf]; omega
      · have hc1 : Hid (cnt ok (k + 1) = cc + 1) := by
          show _ = _
          rw [← HC.out]
          simp at hq
          simp [cnt, hq.1]; omega
        clear hq
        go_wp2
        go_roundw
        case rel => exact ⟨k + 1, v', qs', hk1, by go_num, by rw [hc1.out]; go_num, hb', hown', hps', hbox', hrd', hmr2⟩
        case measure => simp [intOf]; omega
    · cases ok
      · rw [show cnt false k = 0 from rfl]
        go_wp2_with fail
        refine (bag_awake _).mono ?_
        rintro e w2 ⟨rfl, hm2⟩
        go_wp2
        go_ret
        exact ⟨rfl, hmr.trans' hm2⟩
      · have hc : cnt true k = 512 := by simp [cnt]; omega
        rw [hc] at hps ⊢
        have hql := hps.1
        rw [List.length_replicate] at hql
        obtain ⟨g, c, mm, rfl, hmm, hmc, hcm⟩ := hown.form1 (by omega)
        obtain rfl : mm = 512 := by omega
        have hgl := hown.lt g rfl
        obtain ⟨⟨qf, qt, qA, qn, qc⟩, hqv⟩ : ∃ qv, qs[511]? = some qv := ⟨_, List.getElem?_eq_getElem (by omega)⟩
        obtain ⟨hqf, hqt, hqd⟩ := hps.2 511 _ ⟨f, t, d⟩ hqv (by simp)
        simp only at hqf hqt hqd
        subst hqf hqt
        clear hc hmm hql
        go_wp2_with fail
        refine (bag_Take_yes b b g 512 c 511 qs _ wr hb hown (by omega) hqv hmc hcm).mono ?_
        rintro e w2 ⟨rfl, hb2, hown2, hm2⟩
        have hm2' : Mod (fun k => k = b ∨ (Value.slice (some ⟨g, 0, none⟩) 512 c).ownBlock = some k) wr w2 := hm2.mono fun k _ h => by
          rcases h with h | h
          · exact .inl h
          · exact .inr (by rw [h]; rfl)
        have hkp2 := kp_bag hb hown (Nat.le_refl _) hm2'
        have hps2 := (hps.erase 511).kp hkp2
        have hrd2 := hrd.kp hkp2
        have hqd2 := hqd.kp hkp2
        have hbox2 := hbox.mod hm2 (by omega)
        have hmr2 : Mod Non W w2 := hmr.trans hm2 fun i hi h => by have := hHW.out; omega
        have hE : (List.replicate 512 (⟨qf, qt, d⟩ : Pk)).eraseIdx 511 = List.replicate 511 ⟨qf, qt, d⟩ := by rw [List.eraseIdx_replicate]; rfl
        rw [hE] at hps2
        replace hb2 : Blk w2 b 76 #[.slice (some ⟨g, 0, none⟩) 511 c] := hb2
        replace hown2 : OwnP w2 b (.slice (some ⟨g, 0, none⟩) 511 c) (qs.eraseIdx 511) := hown2
        have x0 := hbox2.cell 0
        have x1 := hbox2.cell 1
        have x2 := hbox2.cell 2
        simp at x0 x1 x2
        have hn2 : qn ≤ maxLen := by have h1 := hqd.1; have h2 := HG.out.2; rw [vbs_length] at h1; simp only at h2; simp only [maxLen]; omega
        have hmA : ∀ o, Mod Non w2 (w2.alloc o) := fun o => (Mod.refl _ _).alloc o
        have HSA : Hid (samePB ⟨qf, qt, d⟩ ⟨qf, qt, d⟩ = true) := samePB_refl _
        have hHl := hbox2.lt
        clear hb hown hps hrd hqd hbox hm2 hm2' hkp2 hqv hE hmr hmr'
        simp only
        go_wp2_with fail
        refine (ref38_Same qf qt qA qn qc qf qt A2 n2 c2 d d b _ (hqd2.kp (Kp.non (hmA _))) (hrd2.kp (Kp.non (hmA _))) hn2).mono ?_
        rintro e w3 ⟨rfl, hm3⟩
        rw [HSA.out]
        have hm23 := (hmA _).trans' hm3
        have hb3 := hb2.mod hm23 fun h => h
        have hown3 := hown2.non hm23
        have hps3 := hps2.kp (Kp.non hm23)
        have hmr3 := hmr2.trans' hm23
        clear hm3 hm23 hb2 hown2 hps2 hmr2 hqd2 hrd2 x0 x1 x2 hbox2
        have hql3 := hps3.1
        rw [List.length_replicate] at hql3
        obtain ⟨⟨f0, t0, A0, n0, c0⟩, hq0⟩ : ∃ qv, (qs.eraseIdx 511)[0]? = some qv := ⟨_, List.getElem?_eq_getElem (by omega)⟩
        obtain ⟨hf0, ht0, hd0⟩ := hps3.2 0 _ ⟨qf, qt, d⟩ hq0 (by simp)
        simp only at hf0 ht0 hd0
        subst hf0 ht0
        go_wp2_with fail
        refine (bag_Twice_yes b b g 511 c 0 _ _ w3 (fun r w' => r = true ∧ ∃ v' qs', Blk w' b 76 #[v'] ∧ OwnP w' b v' qs' ∧
          PRs w' b qs' (List.replicate 512 ⟨f0, t0, d⟩) ∧ Mod (fun k => k = b ∨ (Value.slice (some ⟨g, 0, none⟩) 511 c).ownBlock = some k) w3 w') hb3 hown3 (by omega) hq0 ?_).mono ?_
        · refine (full_put true 511 b _ _ f0 t0 A0 n0 c0 d w3 HG.out hb3 hown3 (by simpa [cnt] using hps3) hd0).mono ?_
          rintro e w' ⟨rfl, v', qs', h1, h2, h3, h4⟩
          exact ⟨_, rfl, rfl, v', qs', h1, h2, by simpa [cnt] using h3, h4⟩
        rintro e w4' ⟨r, rfl, rfl, v4, qs4, hb4, hown4, hps4, hm4⟩
        have hmr4 : Mod Non W w4' := hmr3.trans hm4 fun i hi h => by
          rcases h with h | h
          · have := hHW.out; omega
          · have := (hown3.lt i h).1; have := hHW.out; omega
        have hql4 := hps4.1
        rw [List.length_replicate] at hql4
        obtain ⟨g4, c4, m4, rfl, hmm4, hmc4, hcm4⟩ := hown4.form1 (by omega)
        obtain rfl : m4 = 512 := by omega
        obtain ⟨⟨f1, t1, A1, n1, c1⟩, hq1⟩ : ∃ qv, qs4[0]? = some qv := ⟨_, List.getElem?_eq_getElem (by omega)⟩
        obtain ⟨hf1, ht1, hd1⟩ := hps4.2 0 _ ⟨f0, t0, d⟩ hq1 (by simp)
        simp only at hf1 ht1 hd1
        subst hf1 ht1
        clear hb3 hown3 hps3 hm4 hmr3 hq0 hd0 hql3 hql4 hmm4
        go_wp2_with fail
        refine (bag_Twice_yes b b g4 512 c4 0 _ _ w4' (fun r w' => r = false ∧ Mod Non w4' w') hb4 hown4 (by omega) hq1 ?_).mono ?_
        · refine (bag_Put_no b _ 512 c4 f1 t1 A1 n1 c1 w4' hb4 (by omega)).mono ?_
          rintro e w' ⟨rfl, hm⟩
          exact ⟨_, rfl, rfl, hm⟩
        rintro e w5' ⟨r, rfl, rfl, hm5'⟩
        go_wp2_with fail
        refine (bag_awake _).mono ?_
        rintro e w6' ⟨rfl, hm6'⟩
        go_wp2
        go_ret
        exact ⟨rfl, (hmr4.trans' hm5').trans' hm6'⟩

theorem full_done (q : Pv) (m : Int) (W : World) (hq : (∃ d, Reads W (fun _ => True) 1 q.A q.n (vbs d)) ∧ q.n ≤ q.c ∧ q.c ≤ maxLen ∧ (Lit.int .i64 q.f).wf = true ∧ (Lit.int .i64 q.t).wf = true) (hm : (Lit.int .u8 m).wf = true) :
    Calls Try.prog 9 #[.agg #[.int .i64 q.f, .int .i64 q.t, .slice q.A q.n q.c], .int .u8 m] W fun e W' => e = .returned (.bool true) ∧ Below W.heap.size W W' := by
  obtain ⟨f, t, A, n, c⟩ := q
  obtain ⟨⟨d, hd⟩, _, _, _, _⟩ := hq
  simp only at hd ⊢
  have hm' : 0 ≤ m ∧ m ≤ 255 := by
    have hmin : IntKind.u8.min = 0 := rfl
    have hmax : IntKind.u8.max = 255 := rfl
    simp only [Lit.wf, Bool.and_eq_true, decide_eq_true_eq] at hm; omega
  have hdl : d.length = n := by have := hd.1; rw [vbs_length] at this; omega
  suffices h : Calls Try.prog 9 #[.agg #[.int .i64 f, .int .i64 t, .slice A n c], .int .u8 m] W fun e W' => e = .returned (.bool true) ∧ Mod Non W W' from
    h.mono fun e W' ⟨h1, h2⟩ => ⟨h1, h2.below'⟩
  by_cases hn : n ≤ 50
  · by_cases hg : 1 ≤ f ∧ f ≤ 9 ∧ 1 ≤ t ∧ t ≤ 9 ∧ f ≠ t
    · exact full_all true [⟨f, t, d⟩] f t A n c m d W hn hd hm'.1 hm'.2 ⟨⟨fun _ => hg, fun _ => rfl⟩, by simp only; omega⟩ (refC_put [] 0 ⟨f, t, d⟩ (by simp) ⟨hg, by simp only; omega⟩)
    · exact full_all false [] f t A n c m d W hn hd hm'.1 hm'.2 ⟨⟨fun h => by (cases h), fun h => absurd h hg⟩, by simp only; omega⟩ (refC_putNo [] 0 ⟨f, t, d⟩ hg)
  · exact full_large f t A n c m W (by omega)
end Go.Proofs.Ytlkifobajdafpaa
