/- Package kvtwo: the contract of Do at a client's commands, but for a compare and swap. -/
import Derived.Test.YtdclfdinhdaadaaGreatDoorMgG
import Derived.Test.YtdclfdinhdaadaaGreatDoorTakeG
namespace Go.Proofs.YtdclfdinhdaadaaGreatDoor
open Go.RowKit

set_option maxRecDepth 100000 in
set_option maxHeartbeats 4000000 in
theorem kv_Do2 (A : Option Addr) (n c0 : Nat) (R : Nat → Prop) (ps : List Pa) (c : Cm) (w : World) (hr : Reads w R 3 A n (pcs ps)) (hok : PasOk 2 ps) (hk : c.kind = 2 ∨ c.kind = 3 ∨ c.kind = 4) :
    Calls Tryz.prog 145 #[.slice A n c0, c.v] w fun e w' => ∃ v, e = .returned (.tuple #[v, (kdo2 ps c).2.v]) ∧ OwnP w' w.heap.size v (kdo2 ps c).1 ∧ Mod Non w w' := by
  have hn := hok.few
  have hs := hok.rise
  have hro := pfind_rev_ok hok c.key
  have hrise1 := kdo1_rise c hs
  have hlen1 := kdo1_length c hn
  have hl : ps.length = n := by have := hr.1; rw [pcs_length] at this; omega
  obtain ⟨kind, client, seq, key, val, old, node⟩ := c
  simp only at hk hro
  obtain ⟨sw, hsw⟩ : ∃ sw, sw = kdo2 ps ⟨kind, client, seq, key, val, old, node⟩ := ⟨_, rfl⟩
  rw [← hsw]
  obtain ⟨ko, hko⟩ : ∃ ko, ko = kdo1 ps ⟨kind, client, seq, key, val, old, node⟩ := ⟨_, rfl⟩
  rw [← hko] at hrise1 hlen1
  obtain ⟨pf, hpf⟩ : ∃ pf, pf = pfind key ps := ⟨_, rfl⟩
  rw [← hpf] at hro
  have HSW : Hid (sw = if kind = 2 ∧ proom ps ⟨key, val, 0⟩ = true then (pset ko.1 ⟨key, val, rnext pf.rev⟩, ko.2) else ko) := by
    rw [hpf, hko]
    exact hsw
  have HKO := Lib.hid (show kdo1 ps ⟨kind, client, seq, key, val, old, node⟩ = ko from hko.symm)
  have HAE : Hid (ko.2.err = if kind = 2 ∧ proom ps ⟨key, val, 0⟩ = false then 11 else 0) := by
    show ko.2.err = _
    rw [hko]
    unfold kdo1
    rcases hk with rfl | rfl | rfl
    · simp only [if_true]
      cases proom ps ⟨key, val, 0⟩ <;> rfl
    · simp [anOf]
    · simp [anOf]
  have hm0 := ((Mod.refl Non w).alloc (.cells #[.int .i64 kind, .int .i64 client, .int .i64 seq, .string key, .string val, .string old, .int .i64 node] 33)).alloc (.cells #[.int .i64 0, .int .i64 0, .int .i64 0, .bool false, .string ⟨#[]⟩, .int .i64 0] 57)
  have b0 := (Blk.new w 33 #[.int .i64 kind, .int .i64 client, .int .i64 seq, .string key, .string val, .string old, .int .i64 node]).alloc (.cells #[.int .i64 0, .int .i64 0, .int .i64 0, .bool false, .string ⟨#[]⟩, .int .i64 0] 57)
  have r0 := Blk.new1 w (.cells #[.int .i64 kind, .int .i64 client, .int .i64 seq, .string key, .string val, .string old, .int .i64 node] 33) 57 #[.int .i64 0, .int .i64 0, .int .i64 0, .bool false, .string ⟨#[]⟩, .int .i64 0]
  have HL := Lib.hid hl
  obtain ⟨fd, hfd⟩ : ∃ fd, fd = pfd key ps := ⟨_, rfl⟩
  have HP := Lib.hid (show pfind key ps = pf ∧ pfd key ps = fd from ⟨hpf.symm, hfd.symm⟩)
  have HKK := Lib.hid hk
  have hk5 : (kind == 5) = false := by rcases hk with rfl | rfl | rfl <;> rfl
  clear hsw hpf hfd hl hko hok
  go_enter Tryz.func145, Tryz.ntmps145
  go_wp2_with fail
  refine (slices_Clone_Pa A n c0 R ps _ (hr.mod hm0 fun _ _ _ h => h) (by omega)).mono ?_
  rintro e w1 ⟨v, rfl, hown, hm1⟩
  have b1 := b0.mod hm1 (fun h => h)
  have r1 := r0.mod hm1 (fun h => h)
  have hm01 := hm0.trans' hm1
  have e10 := b1.cell 0
  have e13 := b1.cell 3
  simp at e10 e13
  obtain ⟨A2, n2, c2, rfl, hn2, hc2⟩ := hown.form
  have hf := kv_Find A2 n2 c2 _ ps key w1 hown.reads (by have := hn2.out; omega) hs
  rw [HP.out.1, HP.out.2] at hf
  have HFI := Lib.hid hf
  clear hf r0 b0 hm0 hm1
  go_wp2_with fail
  refine HFI.out.mono ?_
  rintro e w2 ⟨rfl, hm2⟩
  have b2 := b1.mod hm2 (fun h => h)
  have r2 := r1.mod hm2 (fun h => h)
  have ho2 := hown.non hm2
  have hm02 := hm01.trans' hm2
  obtain ⟨pk, pv, pr⟩ := pf
  simp only at hro
  have zp := Blk.new w2 42 #[.string pk, .string pv, .int .i64 pr]
  have rp := r2.alloc (.cells #[.string pk, .string pv, .int .i64 pr] 42)
  have bp := b2.alloc (.cells #[.string pk, .string pv, .int .i64 pr] 42)
  have mp := hm02.alloc (.cells #[.string pk, .string pv, .int .i64 pr] 42)
  have op := ho2.non ((Mod.refl Non w2).alloc (.cells #[.string pk, .string pv, .int .i64 pr] 42))
  have hd := kv_Do A2 n2 c2 _ ps ⟨kind, client, seq, key, val, old, node⟩ (w2.alloc (.cells #[.string pk, .string pv, .int .i64 pr] 42)) op.reads hn hs hk
  rw [HKO.out] at hd
  have HDO := Lib.hid hd
  have g0 := bp.cell 0
  have g1 := bp.cell 1
  have g2 := bp.cell 2
  have g3 := bp.cell 3
  have g4 := bp.cell 4
  have g5 := bp.cell 5
  have g6 := bp.cell 6
  simp at g0 g1 g2 g3 g4 g5 g6
  have hszl : w.heap.size < w2.heap.size := b2.lt
  have hszr : w.heap.size + 1 < w2.heap.size := r2.lt
  clear hd b1 r1 e10 e13 hown hm01 hm2 b2 r2 ho2 hm02 op hk
  go_wp2_with fail
  refine HDO.out.mono ?_
  rintro e w3 ⟨v3, rfl, hown3, hm3⟩
  obtain ⟨L, ⟨ac, asq, ae, af, av, ar⟩⟩ := ko
  simp only at HSW HAE hown3 hrise1 hlen1
  have b3 := bp.mod hm3 (fun h => h)
  have r3 := rp.mod hm3 (fun h => h)
  have z3 := zp.mod hm3 (fun h => h)
  have m3 := mp.trans' hm3
  have ba := b3.alloc (.cells #[.int .i64 ac, .int .i64 asq, .int .i64 ae, .bool af, .string av, .int .i64 ar] 57)
  have ra := r3.alloc (.cells #[.int .i64 ac, .int .i64 asq, .int .i64 ae, .bool af, .string av, .int .i64 ar] 57)
  have za := z3.alloc (.cells #[.int .i64 ac, .int .i64 asq, .int .i64 ae, .bool af, .string av, .int .i64 ar] 57)
  have ya := Blk.new w3 57 #[.int .i64 ac, .int .i64 asq, .int .i64 ae, .bool af, .string av, .int .i64 ar]
  have ma := m3.alloc (.cells #[.int .i64 ac, .int .i64 asq, .int .i64 ae, .bool af, .string av, .int .i64 ar] 57)
  have oa := (hown3.non ((Mod.refl Non w3).alloc (.cells #[.int .i64 ac, .int .i64 asq, .int .i64 ae, .bool af, .string av, .int .i64 ar] 57))).below (B' := w2.heap.size + 1) (by simp)
  obtain ⟨W3, hW3⟩ : ∃ W3, W3 = w3.alloc (.cells #[.int .i64 ac, .int .i64 asq, .int .i64 ae, .bool af, .string av, .int .i64 ar] 57) := ⟨_, rfl⟩
  rw [← hW3] at ba ra za ya ma oa
  obtain ⟨A3, n3, c3, rfl, hn3, hc3⟩ := hown3.form
  have k0 := b3.cell 0
  have k2 := ya.cell 2
  have hsz3 : w2.heap.size < w3.heap.size := z3.lt
  have hsz3' : w.heap.size < w3.heap.size := by omega
  have nz := own_ne_blk oa za
  have ny := own_ne_blk oa ya (by decide)
  have nr := own_ne_blk oa ra (by decide)
  have nb := own_ne_blk oa ba (by decide)
  clear nz
  simp at k0 k2
  by_cases hA : kind = 2 ∧ proom ps ⟨key, val, 0⟩ = true
  · have HS : Hid (sw = (pset L ⟨key, val, rnext pr⟩, ⟨ac, asq, ae, af, av, ar⟩)) := by
      have := HSW.out
      rw [if_pos hA] at this
      exact this
    have hae : ae = 0 := by have := HAE.out; rw [hA.2] at this; simpa using this
    obtain ⟨rfl, _⟩ := hA
    subst hae
    clear HSW HAE HDO HFI HP HKO HL HKK
    go_wp2_with fail
    rw [← hW3]
    have k3 := ba.cell 3
    have k4 := ba.cell 4
    have p2 := za.cell 2
    simp at k3 k4 p2
    obtain ⟨q, hq⟩ : ∃ q, q = rnext pr := ⟨_, rfl⟩
    have HN := kvtwo_next pr hro.1 hro.2
    have HST := kv_set (.slice A3 n3 c3) (w2.heap.size + 1) L ⟨key, val, q⟩ W3.drew oa hlen1 hrise1 (by have := za.lt; simp; omega)
    rw [← hq] at HS HN
    have HN' := Lib.hid HN
    have nzp : ¬ (Value.slice A3 n3 c3).ownBlock = some w2.heap.size := fun h => by have := (World.ownsRow.lt oa _ h).1; omega
    have HV : Hid (∀ i, (Value.slice A3 n3 c3).ownBlock = some i → w2.heap.size + 1 ≤ i) := fun i h => (World.ownsRow.lt oa _ h).1
    have HST' := Lib.hid HST
    clear HN HST hq hW3
    refine wp_region_held_drew (S := (fun w' => w'.cell? ⟨w.heap.size, 3, none⟩ = some (.string key) ∧ w'.cell? ⟨w.heap.size, 4, none⟩ = some (.string val) ∧ w'.cell? ⟨w2.heap.size, 2, none⟩ = some (.int .i64 pr))) (by kernel_rfl) (⟨by simpa using k3, by simpa using k4, by simpa using p2⟩) (fun hHeld => ?_)
    refine take_run (i := 0) (some 42) rfl rfl (by kernel_rfl) (by kernel_rfl) (by kernel_rfl) (fun _ _ _ h => h) rfl (by assumption) (by intro w hSw; (try dsimp only at hSw); go_simp; (try with_reducible rfl)) ?_
    simp only [Act.put, List.setIfInBounds_toArray, List.set_cons_zero, List.set_cons_succ]
    refine take_run (i := 1) (some 43) rfl rfl (by kernel_rfl) (by kernel_rfl) (by kernel_rfl) (fun _ _ _ h => h) rfl (by assumption) (by intro w hSw; (try dsimp only at hSw); go_simp; (try with_reducible rfl)) ?_
    simp only [Act.put, List.setIfInBounds_toArray, List.set_cons_zero, List.set_cons_succ]
    refine take_run (i := 2) (some 44) rfl rfl (by kernel_rfl) (by kernel_rfl) (by kernel_rfl) (fun _ _ _ h => h) rfl (by assumption) (by intro w hSw; (try dsimp only at hSw); go_simp; (try with_reducible rfl)) ?_
    simp only [Act.put, List.setIfInBounds_toArray, List.set_cons_zero, List.set_cons_succ]
    refine take_run (i := 3) (some 45) rfl rfl (by kernel_rfl) (by kernel_rfl) (by kernel_rfl) (fun _ _ _ h => h) rfl (by assumption) (by intro w hSw; (try dsimp only at hSw); go_simp; (try with_reducible rfl)) ?_
    simp only [Act.put, List.setIfInBounds_toArray, List.set_cons_zero, List.set_cons_succ]
    refine take_run (i := 4) (some 46) rfl rfl (by kernel_rfl) (by kernel_rfl) (by kernel_rfl) (fun _ _ _ h => h) rfl (by assumption) (by intro w hSw; (try dsimp only at hSw); go_simp; (try with_reducible rfl)) ?_
    simp only [Act.put, List.setIfInBounds_toArray, List.set_cons_zero, List.set_cons_succ]
    refine take_run (i := 5) (some 47) rfl rfl (by kernel_rfl) (by kernel_rfl) (by kernel_rfl) (fun _ _ _ h => h) rfl (by assumption) (by intro w hSw; (try dsimp only at hSw); go_simp; (try with_reducible rfl)) ?_
    simp only [Act.put, List.setIfInBounds_toArray, List.set_cons_zero, List.set_cons_succ]
    refine take_run (i := 6) (some 48) rfl rfl (by kernel_rfl) (by kernel_rfl) (by kernel_rfl) (fun _ _ _ h => h) rfl (by assumption) (by intro w hSw; (try dsimp only at hSw); go_simp; (try with_reducible rfl)) ?_
    simp only [Act.put, List.setIfInBounds_toArray, List.set_cons_zero, List.set_cons_succ]
    refine wpAnyH_ready (rs := [7]) (by kernel_rfl) (by simp) ?_
    refine AllReadyH.cons rfl (fun K hK => ?_) AllReadyH.nil
    go_simp
    refine (HN'.out _).mono ?_
    rintro e w5 ⟨rfl, rfl⟩
    refine hK.out _ _ (hHeld) (fun hHeld => ?_)
    clear hK K
    refine take_run (i := 8) (some 50) rfl rfl (by kernel_rfl) (by kernel_rfl) (by kernel_rfl) (fun _ _ _ h => h) rfl (by assumption) (by intro w hSw; (try dsimp only at hSw); go_simp; (try with_reducible rfl)) ?_
    simp only [Act.put, List.setIfInBounds_toArray, List.set_cons_zero, List.set_cons_succ]
    refine wpAnyH_ready (rs := [9]) (by kernel_rfl) (by simp) ?_
    refine AllReadyH.cons rfl (fun K hK => ?_) AllReadyH.nil
    go_simp
    refine (HST'.out).mono ?_
    rintro e w5 ⟨v5, rfl, o5, hm5⟩
    have hm5' := hm5.undrew
    obtain ⟨A5, n5, c5, rfl, hn5, hc5⟩ := o5.form
    clear hHeld
    refine hK.out _ _ (⟨(hm5'.cell (p := ⟨w.heap.size, 3, none⟩) ba.lt nb).trans k3, (hm5'.cell (p := ⟨w.heap.size, 4, none⟩) ba.lt nb).trans k4, (hm5'.cell (p := ⟨w2.heap.size, 2, none⟩) za.lt nzp).trans p2⟩) (fun hHeld => ?_)
    clear hK K
    refine take_run (i := 10) (some 9) rfl rfl (by kernel_rfl) (by kernel_rfl) (by kernel_rfl) (fun _ _ _ h => h) rfl (by assumption) (by intro w hSw; (try dsimp only at hSw); go_simp; (try with_reducible rfl)) ?_
    simp only [Act.put, List.setIfInBounds_toArray, List.set_cons_zero, List.set_cons_succ]
    refine wpAnyH_done (by kernel_rfl) ?_ _
    clear hHeld
    have r5 := ra.mod hm5' nr
    have y5 := ya.mod hm5' ny
    have m5 : Mod Non w w5 := ma.trans hm5' fun i hi h => by have := HV.out i h; omega
    clear ba ra za ya ma oa nr ny nb nzp hm5'
    have x0 := y5.cell 0
    have x1 := y5.cell 1
    have x2 := y5.cell 2
    have x3 := y5.cell 3
    have x4 := y5.cell 4
    have x5 := y5.cell 5
    have u0 := r5.cell 0
    have u1 := r5.cell 1
    have u2 := r5.cell 2
    have u3 := r5.cell 3
    have u4 := r5.cell 4
    have u5 := r5.cell 5
    have v0 := r5.frozen 0
    have v1 := r5.frozen 1
    have v2 := r5.frozen 2
    have v3 := r5.frozen 3
    have v4 := r5.frozen 4
    have v5 := r5.frozen 5
    simp at x0 x1 x2 x3 x4 x5 u0 u1 u2 u3 u4 u5
    have nr5 := own_ne_blk o5 r5 (by decide)
    clear y5
    go_wp2_with fail
    go_region
    go_wp2_with fail
    have r6 := ((((((r5.set_ 0 (.int .i64 ac)).set_ 1 (.int .i64 asq)).set_ 2 (.int .i64 0)).set_ 3 (.bool af)).set_ 4 (.string av)).set_ 5 (.int .i64 ar)).drew
    have m6 := ((((((Mod.refl (One (w.heap.size + 1)) w5).setOne (i := 0) (.int .i64 ac)).setOne (i := 1) (.int .i64 asq)).setOne (i := 2) (.int .i64 0)).setOne (i := 3) (.bool af)).setOne (i := 4) (.string av)).setOne (i := 5) (.int .i64 ar)
    refine bodyPost_ret (results_tmp_row rfl _ _ (w.heap.size + 1) 57 #[.int .i64 ac, .int .i64 asq, .int .i64 0, .bool af, .string av, .int .i64 ar] (0, 0) _ rfl r6 Tryz.underlying57 rfl (by kernel_rfl)) rfl ?_
    rw [HS.out]
    refine ⟨_, rfl, ?_, ?_⟩
    · exact ((o5.mod m6 (fun g hg h => nr5 (hg.trans (congrArg some h)))).mod (Mod.refl Non _).drew (fun _ _ h => h)).below (by omega)
    · exact (m5.trans m6 fun i hi h => by rw [show i = w.heap.size + 1 from h] at hi; omega).drew
  · have HS : Hid (sw = (L, ⟨ac, asq, ae, af, av, ar⟩)) := by
      have := HSW.out
      rw [if_neg hA] at this
      exact this
    have r5 := ra
    have y5 := ya
    have o5 := oa
    have m5 := ma
    by_cases hk2 : kind = 2
    · have hae : ae = 11 := by
        have := HAE.out
        rw [if_pos ⟨hk2, by rw [Bool.eq_false_iff]; exact fun h => hA ⟨hk2, h⟩⟩] at this
        exact this
      subst hk2 hae
      clear HSW HAE HDO HFI HP HKO HL HKK ba ra za ya ma oa nr ny nb
      go_wp2_with fail
      rw [← hW3]
      clear hW3
      have x0 := y5.cell 0
      have x1 := y5.cell 1
      have x2 := y5.cell 2
      have x3 := y5.cell 3
      have x4 := y5.cell 4
      have x5 := y5.cell 5
      have u0 := r5.cell 0
      have u1 := r5.cell 1
      have u2 := r5.cell 2
      have u3 := r5.cell 3
      have u4 := r5.cell 4
      have u5 := r5.cell 5
      have v0 := r5.frozen 0
      have v1 := r5.frozen 1
      have v2 := r5.frozen 2
      have v3 := r5.frozen 3
      have v4 := r5.frozen 4
      have v5 := r5.frozen 5
      simp at x0 x1 x2 x3 x4 x5 u0 u1 u2 u3 u4 u5
      have nr5 := own_ne_blk o5 r5 (by decide)
      clear y5
      go_wp2_with fail
      go_region
      go_wp2_with fail
      have r6 := ((((((r5.set_ 0 (.int .i64 ac)).set_ 1 (.int .i64 asq)).set_ 2 (.int .i64 11)).set_ 3 (.bool af)).set_ 4 (.string av)).set_ 5 (.int .i64 ar)).drew
      have m6 := ((((((Mod.refl (One (w.heap.size + 1)) W3).setOne (i := 0) (.int .i64 ac)).setOne (i := 1) (.int .i64 asq)).setOne (i := 2) (.int .i64 11)).setOne (i := 3) (.bool af)).setOne (i := 4) (.string av)).setOne (i := 5) (.int .i64 ar)
      refine bodyPost_ret (results_tmp_row rfl _ _ (w.heap.size + 1) 57 #[.int .i64 ac, .int .i64 asq, .int .i64 11, .bool af, .string av, .int .i64 ar] (0, 0) _ rfl r6 Tryz.underlying57 rfl (by kernel_rfl)) rfl ?_
      rw [HS.out]
      refine ⟨_, rfl, ?_, ?_⟩
      · exact ((o5.mod m6 (fun g hg h => nr5 (hg.trans (congrArg some h)))).mod (Mod.refl Non _).drew (fun _ _ h => h)).below (by omega)
      · exact (m5.trans m6 fun i hi h => by rw [show i = w.heap.size + 1 from h] at hi; omega).drew
    · have hk2' : (kind == 2) = false := by simpa using hk2
      clear HSW HAE HDO HFI HP HKO HL HKK ba ra za ya ma oa nr ny nb
      go_wp2_with fail
      rw [← hW3]
      clear hW3
      have x0 := y5.cell 0
      have x1 := y5.cell 1
      have x2 := y5.cell 2
      have x3 := y5.cell 3
      have x4 := y5.cell 4
      have x5 := y5.cell 5
      have u0 := r5.cell 0
      have u1 := r5.cell 1
      have u2 := r5.cell 2
      have u3 := r5.cell 3
      have u4 := r5.cell 4
      have u5 := r5.cell 5
      have v0 := r5.frozen 0
      have v1 := r5.frozen 1
      have v2 := r5.frozen 2
      have v3 := r5.frozen 3
      have v4 := r5.frozen 4
      have v5 := r5.frozen 5
      simp at x0 x1 x2 x3 x4 x5 u0 u1 u2 u3 u4 u5
      have nr5 := own_ne_blk o5 r5 (by decide)
      clear y5
      go_wp2_with fail
      go_region
      go_wp2_with fail
      have r6 := ((((((r5.set_ 0 (.int .i64 ac)).set_ 1 (.int .i64 asq)).set_ 2 (.int .i64 ae)).set_ 3 (.bool af)).set_ 4 (.string av)).set_ 5 (.int .i64 ar)).drew
      have m6 := ((((((Mod.refl (One (w.heap.size + 1)) W3).setOne (i := 0) (.int .i64 ac)).setOne (i := 1) (.int .i64 asq)).setOne (i := 2) (.int .i64 ae)).setOne (i := 3) (.bool af)).setOne (i := 4) (.string av)).setOne (i := 5) (.int .i64 ar)
      refine bodyPost_ret (results_tmp_row rfl _ _ (w.heap.size + 1) 57 #[.int .i64 ac, .int .i64 asq, .int .i64 ae, .bool af, .string av, .int .i64 ar] (0, 0) _ rfl r6 Tryz.underlying57 rfl (by kernel_rfl)) rfl ?_
      rw [HS.out]
      refine ⟨_, rfl, ?_, ?_⟩
      · exact ((o5.mod m6 (fun g hg h => nr5 (hg.trans (congrArg some h)))).mod (Mod.refl Non _).drew (fun _ _ h => h)).below (by omega)
      · exact (m5.trans m6 fun i hi h => by rw [show i = w.heap.size + 1 from h] at hi; omega).drew
end Go.Proofs.YtdclfdinhdaadaaGreatDoor

/- Package kvtwo: the contract of cas. -/
namespace Go.Proofs.YtdclfdinhdaadaaGreatDoor
open Go.RowKit

/-- a compare and swap -/
def kcas (ps : List Pa) (c : Cm) : List Pa × An :=
  if pfd c.key ps = false then (ps, anOf c 10 false ⟨#[]⟩ 0)
  else if ((pfind c.key ps).val.toList == c.old.toList) = true then (pset ps ⟨c.key, c.val, rnext (pfind c.key ps).rev⟩, anOf c 0 true (pfind c.key ps).val (rnext (pfind c.key ps).rev))
  else (ps, anOf c 15 true (pfind c.key ps).val (pfind c.key ps).rev)

set_option maxRecDepth 100000 in
set_option maxHeartbeats 4000000 in
theorem kv_cas (v : Value) (B : Nat) (ps : List Pa) (c : Cm) (w : World) (hown : OwnP w B v ps) (hok : PasOk 2 ps) (hB : B ≤ w.heap.size) :
    Calls Tryz.prog 156 #[v, c.v] w fun e w' => ∃ v', e = .returned (.tuple #[v', (kcas ps c).2.v]) ∧ OwnP w' B v' (kcas ps c).1 ∧ Mod (fun k => v.ownBlock = some k) w w' := by
  have hn := hok.few
  have hs := hok.rise
  have hro := pfind_rev_ok hok c.key
  have HV : Hid (∀ k, v.ownBlock = some k → B ≤ k ∧ k < w.heap.size) := fun k h => World.ownsRow.lt hown _ h
  obtain ⟨A, n, c0, rfl, hn1, hnc⟩ := hown.form
  obtain ⟨kind, client, seq, key, val, old, node⟩ := c
  simp only at hro
  obtain ⟨sw, hsw⟩ : ∃ sw, sw = kcas ps ⟨kind, client, seq, key, val, old, node⟩ := ⟨_, rfl⟩
  rw [← hsw]
  obtain ⟨pf, hpf⟩ : ∃ pf, pf = pfind key ps := ⟨_, rfl⟩
  obtain ⟨fd, hfd⟩ : ∃ fd, fd = pfd key ps := ⟨_, rfl⟩
  rw [← hpf] at hro
  have HSW : Hid (sw = if fd = false then (ps, ⟨client, seq, 10, false, ⟨#[]⟩, 0⟩) else if (pf.val.toList == old.toList) = true then (pset ps ⟨key, val, rnext pf.rev⟩, ⟨client, seq, 0, true, pf.val, rnext pf.rev⟩) else (ps, ⟨client, seq, 15, true, pf.val, pf.rev⟩)) := by
    rw [hpf, hfd]
    exact hsw
  have hm0 := ((Mod.refl Non w).alloc (.cells #[.int .i64 kind, .int .i64 client, .int .i64 seq, .string key, .string val, .string old, .int .i64 node] 33)).alloc (.cells #[.int .i64 0, .int .i64 0, .int .i64 0, .bool false, .string ⟨#[]⟩, .int .i64 0] 57)
  have b0 := (Blk.new w 33 #[.int .i64 kind, .int .i64 client, .int .i64 seq, .string key, .string val, .string old, .int .i64 node]).alloc (.cells #[.int .i64 0, .int .i64 0, .int .i64 0, .bool false, .string ⟨#[]⟩, .int .i64 0] 57)
  have r0 := Blk.new1 w (.cells #[.int .i64 kind, .int .i64 client, .int .i64 seq, .string key, .string val, .string old, .int .i64 node] 33) 57 #[.int .i64 0, .int .i64 0, .int .i64 0, .bool false, .string ⟨#[]⟩, .int .i64 0]
  have b1 := b0.alloc (.cells #[.int .i64 client, .int .i64 seq, .int .i64 0, .bool false, .string ⟨#[]⟩, .int .i64 0] 57)
  have r1 := r0.alloc (.cells #[.int .i64 client, .int .i64 seq, .int .i64 0, .bool false, .string ⟨#[]⟩, .int .i64 0] 57)
  have z1 : Blk _ (w.heap.size + 1 + 1) _ _ := Blk.new2 w (.cells #[.int .i64 kind, .int .i64 client, .int .i64 seq, .string key, .string val, .string old, .int .i64 node] 33) (.cells #[.int .i64 0, .int .i64 0, .int .i64 0, .bool false, .string ⟨#[]⟩, .int .i64 0] 57) 57 #[.int .i64 client, .int .i64 seq, .int .i64 0, .bool false, .string ⟨#[]⟩, .int .i64 0]
  have hm1 := hm0.alloc (.cells #[.int .i64 client, .int .i64 seq, .int .i64 0, .bool false, .string ⟨#[]⟩, .int .i64 0] 57)
  have ho1 := hown.non hm1
  have hf := kv_Find A n c0 _ ps key _ ho1.reads (by have := hn1.out; omega) hs
  rw [← hpf, ← hfd] at hf
  have HFI := Lib.hid hf
  clear hsw hpf hfd hok hf r0 b0 hm0 hown
  go_enter Tryz.func156, Tryz.ntmps156
  go_wp2_with fail
  refine HFI.out.mono ?_
  rintro e w2 ⟨rfl, hm2⟩
  have b2 := b1.mod hm2 (fun h => h)
  have r2 := r1.mod hm2 (fun h => h)
  have z2 := z1.mod hm2 (fun h => h)
  have o2 := ho1.non hm2
  have m2 := hm1.trans' hm2
  obtain ⟨pk, pv, pr⟩ := pf
  simp only at hro HSW
  obtain ⟨W3, hW3⟩ : ∃ W3, W3 = w2.alloc (.cells #[.string pk, .string pv, .int .i64 pr] 42) := ⟨_, rfl⟩
  have b3 := b2.alloc (.cells #[.string pk, .string pv, .int .i64 pr] 42)
  have r3 := r2.alloc (.cells #[.string pk, .string pv, .int .i64 pr] 42)
  have z3 := z2.alloc (.cells #[.string pk, .string pv, .int .i64 pr] 42)
  have p3 := Blk.new w2 42 #[.string pk, .string pv, .int .i64 pr]
  rw [← hW3] at b3 r3 z3 p3
  have hma : Mod Non w2 W3 := by rw [hW3]; exact (Mod.refl Non w2).alloc _
  have o3 := o2.non hma
  have m3 := m2.trans' hma
  have hs3 := hma.size
  have q1 := z2.lt
  clear b1 r1 z1 hm1 ho1 hm2 b2 HFI
  have nz := own_ne_blk o3 z3 (by decide)
  have nr := own_ne_blk o3 r3 (by decide)
  have nb := own_ne_blk o3 b3 (by decide)
  -- ARMS
  have hne2 : ¬ w.heap.size + 1 = w.heap.size + 1 + 1 := by omega
  have hne3 : ¬ w2.heap.size = w.heap.size + 1 + 1 := by omega
  have hne4 : ¬ w.heap.size = w.heap.size + 1 + 1 := by omega
  have m3' : Mod (fun k => (Value.slice A n c0).ownBlock = some k) w W3 := m3.non
  cases fd with
  | false =>
    have HS : Hid (sw = (ps, ⟨client, seq, 10, false, ⟨#[]⟩, 0⟩)) := HSW.out
    clear HSW HV
    have y2 := z2.frozen 2
    have g2 := z2.cell 2
    simp at g2
    have nz2 := own_ne_blk o2 z2 (by decide)
    obtain ⟨W4, hW4⟩ : ∃ W4, W4 = (w2.setCell ⟨w.heap.size + 1 + 1, 2, none⟩ (.int .i64 10)).alloc (.cells #[.string pk, .string pv, .int .i64 pr] 42) := ⟨_, rfl⟩
    have z4 := (z2.set_ 2 (.int .i64 10)).alloc (.cells #[.string pk, .string pv, .int .i64 pr] 42)
    have r4 := (r2.far (p := ⟨w.heap.size + 1 + 1, 2, none⟩) hne2 (.int .i64 10)).alloc (.cells #[.string pk, .string pv, .int .i64 pr] 42)
    have hM4 := ((Mod.refl (One (w.heap.size + 1 + 1)) w2).setOne (i := 2) (.int .i64 10)).alloc (.cells #[.string pk, .string pv, .int .i64 pr] 42)
    rw [← hW4] at z4 r4 hM4
    have o4 := o2.mod hM4 (fun g hg h => nz2 (hg.trans (congrArg some h)))
    have m4 := (m2.non (S := fun k => (Value.slice A n c0).ownBlock = some k)).trans hM4 fun i hi h => by rw [show i = w.heap.size + 1 + 1 from h] at hi; omega
    have nr4 := own_ne_blk o4 r4 (by decide)
    have x0 := z4.cell 0
    have x1 := z4.cell 1
    have x2 := z4.cell 2
    have x3 := z4.cell 3
    have x4 := z4.cell 4
    have x5 := z4.cell 5
    have u0 := r4.cell 0
    have u1 := r4.cell 1
    have u2 := r4.cell 2
    have u3 := r4.cell 3
    have u4 := r4.cell 4
    have u5 := r4.cell 5
    have v0 := r4.frozen 0
    have v1 := r4.frozen 1
    have v2 := r4.frozen 2
    have v3 := r4.frozen 3
    have v4 := r4.frozen 4
    have v5 := r4.frozen 5
    simp at x0 x1 x2 x3 x4 x5 u0 u1 u2 u3 u4 u5
    have HW4 := Lib.hid hW4
    clear z3 r3 b3 p3 m3 o3 hM4 z4 hW4 hW3 z2 r2 o2 m2
    go_wp2_with fail
    rw [← HW4.out]
    clear y2 g2
    go_region
    go_wp2_with fail
    have r6 := ((((((r4.set_ 0 (.int .i64 client)).set_ 1 (.int .i64 seq)).set_ 2 (.int .i64 10)).set_ 3 (.bool false)).set_ 4 (.string ⟨#[]⟩)).set_ 5 (.int .i64 0)).drew
    have m6 := ((((((Mod.refl (One (w.heap.size + 1)) W4).setOne (i := 0) (.int .i64 client)).setOne (i := 1) (.int .i64 seq)).setOne (i := 2) (.int .i64 10)).setOne (i := 3) (.bool false)).setOne (i := 4) (.string ⟨#[]⟩)).setOne (i := 5) (.int .i64 0)
    refine bodyPost_ret (results_tmp_row rfl _ _ (w.heap.size + 1) 57 #[.int .i64 client, .int .i64 seq, .int .i64 10, .bool false, .string ⟨#[]⟩, .int .i64 0] (0, 0) _ rfl r6 Tryz.underlying57 rfl (by kernel_rfl)) rfl ?_
    rw [HS.out]
    refine ⟨_, rfl, ?_, ?_⟩
    · exact ((o4.mod m6 (fun g hg h => nr4 (hg.trans (congrArg some h)))).mod (Mod.refl Non _).drew (fun _ _ h => h))
    · exact (m4.trans m6 fun i hi h => by rw [show i = w.heap.size + 1 from h] at hi; omega).drew
  | true =>
    have y3 := z3.frozen 3
    have y4 := z3.frozen 4
    have y5 := z3.frozen 5
    have g3 := z3.cell 3
    have g4 := z3.cell 4
    have g5 := z3.cell 5
    have p1 := p3.cell 1
    have p2 := p3.cell 2
    simp at g3 g4 g5 p1 p2
    clear z2 r2 o2 m2
    go_wp2_with fail
    rw [← hW3]
    clear hW3
    go_region
    obtain ⟨W4, hW4⟩ : ∃ W4, W4 = ((W3.setCell ⟨w.heap.size + 1 + 1, 3, none⟩ (.bool true)).setCell ⟨w.heap.size + 1 + 1, 4, none⟩ (.string pv)).setCell ⟨w.heap.size + 1 + 1, 5, none⟩ (.int .i64 pr) := ⟨_, rfl⟩
    have z4 := ((z3.set_ 3 (.bool true)).set_ 4 (.string pv)).set_ 5 (.int .i64 pr)
    have r4 := ((r3.far (p := ⟨w.heap.size + 1 + 1, 3, none⟩) hne2 (.bool true)).far (p := ⟨w.heap.size + 1 + 1, 4, none⟩) hne2 (.string pv)).far (p := ⟨w.heap.size + 1 + 1, 5, none⟩) hne2 (.int .i64 pr)
    have b4 := ((b3.far (p := ⟨w.heap.size + 1 + 1, 3, none⟩) hne4 (.bool true)).far (p := ⟨w.heap.size + 1 + 1, 4, none⟩) hne4 (.string pv)).far (p := ⟨w.heap.size + 1 + 1, 5, none⟩) hne4 (.int .i64 pr)
    have p4 := ((p3.far (p := ⟨w.heap.size + 1 + 1, 3, none⟩) hne3 (.bool true)).far (p := ⟨w.heap.size + 1 + 1, 4, none⟩) hne3 (.string pv)).far (p := ⟨w.heap.size + 1 + 1, 5, none⟩) hne3 (.int .i64 pr)
    have hM4 := (((Mod.refl (One (w.heap.size + 1 + 1)) W3).setOne (i := 3) (.bool true)).setOne (i := 4) (.string pv)).setOne (i := 5) (.int .i64 pr)
    rw [← hW4] at z4 r4 b4 p4 hM4 ⊢
    have o4 := o3.mod hM4 (fun g hg h => nz (hg.trans (congrArg some h)))
    have m4 := m3'.trans hM4 fun i hi h => by rw [show i = w.heap.size + 1 + 1 from h] at hi; omega
    have k1 := p4.cell 1
    have k2 := p4.cell 2
    have k5 := b4.cell 5
    simp at k1 k2 k5
    clear hW4 y3 y4 y5 g3 g4 g5 p1 p2 z3 r3 b3 p3 o3 hM4 m3 m3'
    by_cases hpo : (pv.toList == old.toList) = true
    · have HS : Hid (sw = (pset ps ⟨key, val, rnext pr⟩, ⟨client, seq, 0, true, pv, rnext pr⟩)) := by
        have := HSW.out
        rw [if_neg (by decide), if_pos hpo] at this
        exact this
      obtain ⟨q, hq⟩ : ∃ q, q = rnext pr := ⟨_, rfl⟩
      have HN := kvtwo_next pr hro.1 hro.2
      rw [← hq] at HS HN
      clear HSW hq
      go_wp2_with fail
      refine (HN _).mono ?_
      rintro e w5 ⟨rfl, rfl⟩
      have y5 := z4.frozen 5
      have g5 := z4.cell 5
      simp at g5
      obtain ⟨W5, hW5⟩ : ∃ W5, W5 = W4.setCell ⟨w.heap.size + 1 + 1, 5, none⟩ (.int .i64 q) := ⟨_, rfl⟩
      have z5 := z4.set_ 5 (.int .i64 q)
      have r5 := r4.far (p := ⟨w.heap.size + 1 + 1, 5, none⟩) hne2 (.int .i64 q)
      have b5 := b4.far (p := ⟨w.heap.size + 1 + 1, 5, none⟩) hne4 (.int .i64 q)
      have hM5 := (Mod.refl (One (w.heap.size + 1 + 1)) W4).setOne (i := 5) (.int .i64 q)
      have nz4 := own_ne_blk o4 z4 (by decide)
      rw [← hW5] at z5 r5 b5 hM5
      have o5 := o4.mod hM5 (fun g hg h => nz4 (hg.trans (congrArg some h)))
      have m5 := m4.trans hM5 fun i hi h => by rw [show i = w.heap.size + 1 + 1 from h] at hi; omega
      have nr5 := own_ne_blk o5 r5 (by decide)
      have nz5 := own_ne_blk o5 z5 (by decide)
      have nb5 := own_ne_blk o5 b5 (by decide)
      have HW5 := Lib.hid hW5
      clear z4 r4 b4 p4 o4 m4 hM5 hW5 nz4
      go_wp2_with fail
      rw [← HW5.out]
      clear y5 g5
      have HST := Lib.hid (kv_set (.slice A n c0) B ps ⟨key, val, q⟩ W5.drew.drew o5 hn hs (by have := r5.lt; simp; omega))
      have k3 := b5.cell 3
      have k4 := b5.cell 4
      have x0 := z5.cell 0
      have x1 := z5.cell 1
      have x2 := z5.cell 2
      have x3 := z5.cell 3
      have x4 := z5.cell 4
      have x5 := z5.cell 5
      have u0 := r5.cell 0
      have u1 := r5.cell 1
      have u2 := r5.cell 2
      have u3 := r5.cell 3
      have u4 := r5.cell 4
      have u5 := r5.cell 5
      have v0 := r5.frozen 0
      have v1 := r5.frozen 1
      have v2 := r5.frozen 2
      have v3 := r5.frozen 3
      have v4 := r5.frozen 4
      have v5 := r5.frozen 5
      simp at x0 x1 x2 x3 x4 x5 u0 u1 u2 u3 u4 u5
      simp at k3 k4
      clear HN HW5
      have hbl := b5.lt
      have hzl := z5.lt
      refine wp_region_held_drew (S := (fun w' => w'.cell? ⟨w.heap.size, 3, none⟩ = some (.string key) ∧ w'.cell? ⟨w.heap.size, 4, none⟩ = some (.string val) ∧ w'.cell? ⟨w.heap.size + 1 + 1, 0, none⟩ = some (.int .i64 client) ∧ w'.cell? ⟨w.heap.size + 1 + 1, 1, none⟩ = some (.int .i64 seq) ∧ w'.cell? ⟨w.heap.size + 1 + 1, 2, none⟩ = some (.int .i64 0) ∧ w'.cell? ⟨w.heap.size + 1 + 1, 3, none⟩ = some (.bool true) ∧ w'.cell? ⟨w.heap.size + 1 + 1, 4, none⟩ = some (.string pv) ∧ w'.cell? ⟨w.heap.size + 1 + 1, 5, none⟩ = some (.int .i64 q))) (by kernel_rfl) (⟨by simpa using k3, by simpa using k4, by simpa using x0, by simpa using x1, by simpa using x2, by simpa using x3, by simpa using x4, by simpa using x5⟩) (fun hHeld => ?_)
      refine take_run (i := 0) (some 45) rfl rfl (by kernel_rfl) (by kernel_rfl) (by kernel_rfl) (fun _ _ _ h => h) rfl (by assumption) (by intro w hSw; (try dsimp only at hSw); go_simp; (try with_reducible rfl)) ?_
      simp only [Act.put, List.setIfInBounds_toArray, List.set_cons_zero, List.set_cons_succ]
      refine take_run (i := 1) (some 46) rfl rfl (by kernel_rfl) (by kernel_rfl) (by kernel_rfl) (fun _ _ _ h => h) rfl (by assumption) (by intro w hSw; (try dsimp only at hSw); go_simp; (try with_reducible rfl)) ?_
      simp only [Act.put, List.setIfInBounds_toArray, List.set_cons_zero, List.set_cons_succ]
      refine take_run (i := 2) (some 47) rfl rfl (by kernel_rfl) (by kernel_rfl) (by kernel_rfl) (fun _ _ _ h => h) rfl (by assumption) (by intro w hSw; (try dsimp only at hSw); go_simp; (try with_reducible rfl)) ?_
      simp only [Act.put, List.setIfInBounds_toArray, List.set_cons_zero, List.set_cons_succ]
      refine take_run (i := 3) (some 48) rfl rfl (by kernel_rfl) (by kernel_rfl) (by kernel_rfl) (fun _ _ _ h => h) rfl (by assumption) (by intro w hSw; (try dsimp only at hSw); go_simp; (try with_reducible rfl)) ?_
      simp only [Act.put, List.setIfInBounds_toArray, List.set_cons_zero, List.set_cons_succ]
      refine take_run (i := 4) (some 49) rfl rfl (by kernel_rfl) (by kernel_rfl) (by kernel_rfl) (fun _ _ _ h => h) rfl (by assumption) (by intro w hSw; (try dsimp only at hSw); go_simp; (try with_reducible rfl)) ?_
      simp only [Act.put, List.setIfInBounds_toArray, List.set_cons_zero, List.set_cons_succ]
      refine take_run (i := 5) (some 50) rfl rfl (by kernel_rfl) (by kernel_rfl) (by kernel_rfl) (fun _ _ _ h => h) rfl (by assumption) (by intro w hSw; (try dsimp only at hSw); go_simp; (try with_reducible rfl)) ?_
      simp only [Act.put, List.setIfInBounds_toArray, List.set_cons_zero, List.set_cons_succ]
      refine take_run (i := 6) (some 51) rfl rfl (by kernel_rfl) (by kernel_rfl) (by kernel_rfl) (fun _ _ _ h => h) rfl (by assumption) (by intro w hSw; (try dsimp only at hSw); go_simp; (try with_reducible rfl)) ?_
      simp only [Act.put, List.setIfInBounds_toArray, List.set_cons_zero, List.set_cons_succ]
      refine take_run (i := 7) (some 52) rfl rfl (by kernel_rfl) (by kernel_rfl) (by kernel_rfl) (fun _ _ _ h => h) rfl (by assumption) (by intro w hSw; (try dsimp only at hSw); go_simp; (try with_reducible rfl)) ?_
      simp only [Act.put, List.setIfInBounds_toArray, List.set_cons_zero, List.set_cons_succ]
      refine take_run (i := 9) (some 54) rfl rfl (by kernel_rfl) (by kernel_rfl) (by kernel_rfl) (fun _ _ _ h => h) rfl (by assumption) (by intro w hSw; (try dsimp only at hSw); go_simp; (try with_reducible rfl)) ?_
      simp only [Act.put, List.setIfInBounds_toArray, List.set_cons_zero, List.set_cons_succ]
      refine wpAnyH_ready (rs := [8]) (by kernel_rfl) (by simp) ?_
      refine AllReadyH.cons rfl (fun K hK => ?_) AllReadyH.nil
      go_simp
      refine (HST.out).mono ?_
      rintro e w6 ⟨v6, rfl, o6, hm6⟩
      have hm6' := hm6.undrew.undrew
      have r6' := r5.mod hm6' nr5
      obtain ⟨A6, n6, c6, rfl, hn6, hc6⟩ := o6.form
      clear hHeld
      refine hK.out _ _ (⟨(hm6'.cell (p := ⟨w.heap.size, 3, none⟩) hbl nb5).trans k3, (hm6'.cell (p := ⟨w.heap.size, 4, none⟩) hbl nb5).trans k4, (hm6'.cell (p := ⟨w.heap.size + 1 + 1, 0, none⟩) hzl nz5).trans x0, (hm6'.cell (p := ⟨w.heap.size + 1 + 1, 1, none⟩) hzl nz5).trans x1, (hm6'.cell (p := ⟨w.heap.size + 1 + 1, 2, none⟩) hzl nz5).trans x2, (hm6'.cell (p := ⟨w.heap.size + 1 + 1, 3, none⟩) hzl nz5).trans x3, (hm6'.cell (p := ⟨w.heap.size + 1 + 1, 4, none⟩) hzl nz5).trans x4, (hm6'.cell (p := ⟨w.heap.size + 1 + 1, 5, none⟩) hzl nz5).trans x5⟩) (fun hHeld => ?_)
      clear hK K
      refine take_run (i := 10) (some 4) rfl rfl (by kernel_rfl) (by kernel_rfl) (by kernel_rfl) (fun _ _ _ h => h) rfl (by assumption) (by intro w hSw; (try dsimp only at hSw); go_simp; (try with_reducible rfl)) ?_
      simp only [Act.put, List.setIfInBounds_toArray, List.set_cons_zero, List.set_cons_succ]
      have nr6 := own_ne_blk o6 r6' (by decide)
      have m6' := m5.trans hm6' fun i hi h => h
      have u0' := r6'.cell 0
      have u1' := r6'.cell 1
      have u2' := r6'.cell 2
      have u3' := r6'.cell 3
      have u4' := r6'.cell 4
      have u5' := r6'.cell 5
      have v0' := r6'.frozen 0
      have v1' := r6'.frozen 1
      have v2' := r6'.frozen 2
      have v3' := r6'.frozen 3
      have v4' := r6'.frozen 4
      have v5' := r6'.frozen 5
      simp at u0' u1' u2' u3' u4' u5'
      refine wpAnyH_ready (rs := [11]) (by kernel_rfl) (by simp) ?_
      refine AllReadyH.cons rfl (fun K hK => ?_) AllReadyH.nil
      go_simp
      have mW := ((((((Mod.refl (One (w.heap.size + 1)) w6).setOne (i := 0) (.int .i64 client)).setOne (i := 1) (.int .i64 seq)).setOne (i := 2) (.int .i64 0)).setOne (i := 3) (.bool true)).setOne (i := 4) (.string pv)).setOne (i := 5) (.int .i64 q)
      have rW := (((((r6'.set_ 0 (.int .i64 client)).set_ 1 (.int .i64 seq)).set_ 2 (.int .i64 0)).set_ 3 (.bool true)).set_ 4 (.string pv)).set_ 5 (.int .i64 q)
      have hs6 := hm6'.size
      have hbl6 : w.heap.size < w6.heap.size := by omega
      have hzl6 : w.heap.size + 1 + 1 < w6.heap.size := by omega
      have hneb : ¬ One (w.heap.size + 1) w.heap.size := fun h => by unfold One at h; omega
      have hnez : ¬ One (w.heap.size + 1) (w.heap.size + 1 + 1) := fun h => by unfold One at h; omega
      refine hK.out _ _ (⟨(mW.cell (p := ⟨w.heap.size, 3, none⟩) hbl6 hneb).trans hHeld.1, (mW.cell (p := ⟨w.heap.size, 4, none⟩) hbl6 hneb).trans hHeld.2.1, (mW.cell (p := ⟨w.heap.size + 1 + 1, 0, none⟩) hzl6 hnez).trans hHeld.2.2.1, (mW.cell (p := ⟨w.heap.size + 1 + 1, 1, none⟩) hzl6 hnez).trans hHeld.2.2.2.1, (mW.cell (p := ⟨w.heap.size + 1 + 1, 2, none⟩) hzl6 hnez).trans hHeld.2.2.2.2.1, (mW.cell (p := ⟨w.heap.size + 1 + 1, 3, none⟩) hzl6 hnez).trans hHeld.2.2.2.2.2.1, (mW.cell (p := ⟨w.heap.size + 1 + 1, 4, none⟩) hzl6 hnez).trans hHeld.2.2.2.2.2.2.1, (mW.cell (p := ⟨w.heap.size + 1 + 1, 5, none⟩) hzl6 hnez).trans hHeld.2.2.2.2.2.2.2⟩) (fun hHeld2 => ?_)
      clear hK K hHeld hHeld2
      refine wpAnyH_done (by kernel_rfl) ?_ _
      go_wp2_with fail
      refine bodyPost_ret (results_tmp_row rfl _ _ (w.heap.size + 1) 57 #[.int .i64 client, .int .i64 seq, .int .i64 0, .bool true, .string pv, .int .i64 q] (0, 0) _ rfl rW Tryz.underlying57 rfl (by kernel_rfl)) rfl ?_
      rw [HS.out]
      refine ⟨_, rfl, ?_, ?_⟩
      · exact o6.mod mW (fun g hg h => nr6 (hg.trans (congrArg some h)))
      · exact m6'.trans mW fun i hi h => by rw [show i = w.heap.size + 1 from h] at hi; omega
    · have HS : Hid (sw = (ps, ⟨client, seq, 15, true, pv, pr⟩)) := by
        have := HSW.out
        rw [if_neg (by decide), if_neg hpo] at this
        exact this
      rw [Bool.not_eq_true] at hpo
      clear HSW HV
      have y2 := z4.frozen 2
      have g2 := z4.cell 2
      simp at g2
      obtain ⟨W5, hW5⟩ : ∃ W5, W5 = W4.setCell ⟨w.heap.size + 1 + 1, 2, none⟩ (.int .i64 15) := ⟨_, rfl⟩
      have z5 := z4.set_ 2 (.int .i64 15)
      have r5 := r4.far (p := ⟨w.heap.size + 1 + 1, 2, none⟩) hne2 (.int .i64 15)
      have hM5 := (Mod.refl (One (w.heap.size + 1 + 1)) W4).setOne (i := 2) (.int .i64 15)
      have nz4 := own_ne_blk o4 z4 (by decide)
      rw [← hW5] at z5 r5 hM5
      have o5 := o4.mod hM5 (fun g hg h => nz4 (hg.trans (congrArg some h)))
      have m5 := m4.trans hM5 fun i hi h => by rw [show i = w.heap.size + 1 + 1 from h] at hi; omega
      have nr5 := own_ne_blk o5 r5 (by decide)
      have HW5 := Lib.hid hW5
      clear z4 r4 b4 p4 o4 m4 hM5 hW5 nz4
      go_wp2_with fail
      rw [← HW5.out]
      clear y2 g2
      have x0 := z5.cell 0
      have x1 := z5.cell 1
      have x2 := z5.cell 2
      have x3 := z5.cell 3
      have x4 := z5.cell 4
      have x5 := z5.cell 5
      have u0 := r5.cell 0
      have u1 := r5.cell 1
      have u2 := r5.cell 2
      have u3 := r5.cell 3
      have u4 := r5.cell 4
      have u5 := r5.cell 5
      have v0 := r5.frozen 0
      have v1 := r5.frozen 1
      have v2 := r5.frozen 2
      have v3 := r5.frozen 3
      have v4 := r5.frozen 4
      have v5 := r5.frozen 5
      simp at x0 x1 x2 x3 x4 x5 u0 u1 u2 u3 u4 u5
      clear z5
      go_region
      go_wp2_with fail
      have r6 := ((((((r5.set_ 0 (.int .i64 client)).set_ 1 (.int .i64 seq)).set_ 2 (.int .i64 15)).set_ 3 (.bool true)).set_ 4 (.string pv)).set_ 5 (.int .i64 pr)).drew.drew
      have m6 := ((((((Mod.refl (One (w.heap.size + 1)) W5).setOne (i := 0) (.int .i64 client)).setOne (i := 1) (.int .i64 seq)).setOne (i := 2) (.int .i64 15)).setOne (i := 3) (.bool true)).setOne (i := 4) (.string pv)).setOne (i := 5) (.int .i64 pr)
      refine bodyPost_ret (results_tmp_row rfl _ _ (w.heap.size + 1) 57 #[.int .i64 client, .int .i64 seq, .int .i64 15, .bool true, .string pv, .int .i64 pr] (0, 0) _ rfl r6 Tryz.underlying57 rfl (by kernel_rfl)) rfl ?_
      rw [HS.out]
      refine ⟨_, rfl, ?_, ?_⟩
      · exact ((o5.mod m6 (fun g hg h => nr5 (hg.trans (congrArg some h)))).mod (Mod.refl Non _).drew.drew (fun _ _ h => h))
      · exact (m5.trans m6 fun i hi h => by rw [show i = w.heap.size + 1 from h] at hi; omega).drew.drew
end Go.Proofs.YtdclfdinhdaadaaGreatDoor

/- Package kvtwo: the contract of Do at a client's commands. -/
namespace Go.Proofs.YtdclfdinhdaadaaGreatDoor
open Go.RowKit

/-- a command of schema 2 -/
def kdo3 (ps : List Pa) (c : Cm) : List Pa × An := if c.kind = 5 then kcas ps c else kdo2 ps c

set_option maxRecDepth 100000 in
set_option maxHeartbeats 4000000 in
theorem kv_Do5 (A : Option Addr) (n c0 : Nat) (R : Nat → Prop) (ps : List Pa) (c : Cm) (w : World) (hr : Reads w R 3 A n (pcs ps)) (hok : PasOk 2 ps) (hk : c.kind = 5) :
    Calls Tryz.prog 145 #[.slice A n c0, c.v] w fun e w' => ∃ v, e = .returned (.tuple #[v, (kcas ps c).2.v]) ∧ OwnP w' w.heap.size v (kcas ps c).1 ∧ Mod Non w w' := by
  have hn := hok.few
  have hl : ps.length = n := by have := hr.1; rw [pcs_length] at this; omega
  obtain ⟨kind, client, seq, key, val, old, node⟩ := c
  simp only at hk
  subst hk
  obtain ⟨ko, hko⟩ : ∃ ko, ko = kcas ps ⟨5, client, seq, key, val, old, node⟩ := ⟨_, rfl⟩
  rw [← hko]
  have hm0 := ((Mod.refl Non w).alloc (.cells #[.int .i64 5, .int .i64 client, .int .i64 seq, .string key, .string val, .string old, .int .i64 node] 33)).alloc (.cells #[.int .i64 0, .int .i64 0, .int .i64 0, .bool false, .string ⟨#[]⟩, .int .i64 0] 57)
  have b0 := (Blk.new w 33 #[.int .i64 5, .int .i64 client, .int .i64 seq, .string key, .string val, .string old, .int .i64 node]).alloc (.cells #[.int .i64 0, .int .i64 0, .int .i64 0, .bool false, .string ⟨#[]⟩, .int .i64 0] 57)
  have r0 := Blk.new1 w (.cells #[.int .i64 5, .int .i64 client, .int .i64 seq, .string key, .string val, .string old, .int .i64 node] 33) 57 #[.int .i64 0, .int .i64 0, .int .i64 0, .bool false, .string ⟨#[]⟩, .int .i64 0]
  have HKO := Lib.hid hko
  clear hko hl
  go_enter Tryz.func145, Tryz.ntmps145
  go_wp2_with fail
  refine (slices_Clone_Pa A n c0 R ps _ (hr.mod hm0 fun _ _ _ h => h) (by omega)).mono ?_
  rintro e w1 ⟨v, rfl, hown, hm1⟩
  have hown := hown.below (B' := w.heap.size + 2) (by simp)
  have HV : Hid (∀ k, v.ownBlock = some k → w.heap.size + 2 ≤ k ∧ k < w1.heap.size) := fun k h => World.ownsRow.lt hown _ h
  have b1 := b0.mod hm1 (fun h => h)
  have r1 := r0.mod hm1 (fun h => h)
  have hm01 := hm0.trans' hm1
  have e0 := b1.cell 0
  have e1 := b1.cell 1
  have e2 := b1.cell 2
  have e3 := b1.cell 3
  have e4 := b1.cell 4
  have e5 := b1.cell 5
  have e6 := b1.cell 6
  simp at e0 e1 e2 e3 e4 e5 e6
  have hc := kv_cas v (w.heap.size + 2) ps ⟨5, client, seq, key, val, old, node⟩ w1 hown hok (by have := r1.lt; omega)
  rw [← HKO.out] at hc
  have HC := Lib.hid hc
  have nr := own_ne_blk hown r1 (by decide)
  obtain ⟨A2, n2, c2, rfl, hn2, hc2⟩ := hown.form
  clear hc hown hm1 b0 r0 b1 hok hm0
  go_wp2_with fail
  refine HC.out.mono ?_
  rintro e w2 ⟨v2, rfl, o2, hm2⟩
  obtain ⟨A3, n3, c3, rfl, hn3, hc3⟩ := o2.form
  have r2 := r1.mod hm2 nr
  have m2 := hm01.trans hm2 fun i hi h => by have := (HV.out i h).1; omega
  have nr2 := own_ne_blk o2 r2 (by decide)
  obtain ⟨L, ⟨ac, asq, ae, af, av, ar⟩⟩ := ko
  have u0 := r2.cell 0
  have u1 := r2.cell 1
  have u2 := r2.cell 2
  have u3 := r2.cell 3
  have u4 := r2.cell 4
  have u5 := r2.cell 5
  have v0 := r2.frozen 0
  have v1 := r2.frozen 1
  have v2 := r2.frozen 2
  have v3 := r2.frozen 3
  have v4 := r2.frozen 4
  have v5 := r2.frozen 5
  simp at u0 u1 u2 u3 u4 u5
  clear r1 hm01 e0 e1 e2 e3 e4 e5 e6 nr HC
  go_wp2_with fail
  have r6 := ((((((r2.set_ 0 (.int .i64 ac)).set_ 1 (.int .i64 asq)).set_ 2 (.int .i64 ae)).set_ 3 (.bool af)).set_ 4 (.string av)).set_ 5 (.int .i64 ar))
  have m6 := ((((((Mod.refl (One (w.heap.size + 1)) w2).setOne (i := 0) (.int .i64 ac)).setOne (i := 1) (.int .i64 asq)).setOne (i := 2) (.int .i64 ae)).setOne (i := 3) (.bool af)).setOne (i := 4) (.string av)).setOne (i := 5) (.int .i64 ar)
  refine bodyPost_ret (results_tmp_row rfl _ _ (w.heap.size + 1) 57 #[.int .i64 ac, .int .i64 asq, .int .i64 ae, .bool af, .string av, .int .i64 ar] (0, 0) _ rfl r6 Tryz.underlying57 rfl (by kernel_rfl)) rfl ?_
  refine ⟨_, rfl, ?_, ?_⟩
  · exact (o2.mod m6 (fun g hg h => nr2 (hg.trans (congrArg some h)))).below (by omega)
  · exact m2.trans m6 fun i hi h => by rw [show i = w.heap.size + 1 from h] at hi; omega

theorem kv_Do3 (A : Option Addr) (n c0 : Nat) (R : Nat → Prop) (ps : List Pa) (c : Cm) (w : World) (hr : Reads w R 3 A n (pcs ps)) (hok : PasOk 2 ps) (hk : c.kind = 2 ∨ c.kind = 3 ∨ c.kind = 4 ∨ c.kind = 5) :
    Calls Tryz.prog 145 #[.slice A n c0, c.v] w fun e w' => ∃ v, e = .returned (.tuple #[v, (kdo3 ps c).2.v]) ∧ OwnP w' w.heap.size v (kdo3 ps c).1 ∧ Mod Non w w' := by
  unfold kdo3
  by_cases h5 : c.kind = 5
  · rw [if_pos h5]
    exact kv_Do5 A n c0 R ps c w hr hok h5
  · rw [if_neg h5]
    exact kv_Do2 A n c0 R ps c w hr hok (by omega)
end Go.Proofs.YtdclfdinhdaadaaGreatDoor
