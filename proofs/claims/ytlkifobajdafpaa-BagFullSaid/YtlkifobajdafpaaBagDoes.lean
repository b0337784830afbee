/- The statement BagDoes: the walk of the law's function. -/
import Derived.Test.YtlkifobajdafpaaBagAwake
import Derived.Test.YtlkifobajdafpaaBagTo
namespace Go.Proofs.Ytlkifobajdafpaa
open Go.RowKit

theorem OwnP.bagFar {w w' : World} {b B : Nat} {v x : Value} {qx : List Pv} (hx : OwnP w B x qx) (hb : Blk w b 76 #[v]) (hsep : ∀ g, v.ownBlock = some g → ¬ x.ownBlock = some g)
    (hm : Mod (fun k => k = b ∨ v.ownBlock = some k) w w') : OwnP w' B x qx :=
  hx.mod hm fun g hg h => by
    rcases h with rfl | h
    · exact own_ne_blk hx hb (by decide) hg
    · exact hsep g h hg

set_option maxRecDepth 100000 in
set_option maxHeartbeats 2000000 in
theorem bag_does (A : Option Addr) (len c : Nat) (ss : List Sv) (node : Int) (W : World) (hr : Reads W (fun _ => True) 5 A len (scs ss)) (hmax : len ≤ 9223372036854775807)
    (hd : ∀ s ∈ ss, ∃ d, Reads W (fun _ => True) 1 s.q.A s.q.n (vbs d)) :
    Calls Try.prog 8 #[.slice A len c, .int .i64 node] W fun e W' => e = .returned (.bool true) ∧ Below W.heap.size W W' := by
  have HDD := Lib.hid hd
  clear hd
  go_enter Try.func8, Try.ntmps8
  go_wp2_with fail
  refine (law38_large A len c _ ss W hr hmax).mono ?_
  rintro e w0 ⟨rfl | ⟨rfl, hl80, hs50⟩, rfl⟩
  · go_wp2_with fail
    refine (bag_awake _).mono ?_
    rintro e w1 ⟨rfl, hm⟩
    go_wp2
    go_ret
    exact ⟨rfl, hm.below'⟩
  have HS := Lib.hid hs50
  clear hs50
  go_wp2_with fail
  refine (bag_New _).mono ?_
  rintro e w1 ⟨rfl, hb1, hm1⟩
  obtain ⟨B, HB⟩ : ∃ b, Hid (b = W.heap.size) := ⟨_, rfl⟩
  rw [← HB.out] at hb1 ⊢
  go_wp2
  go_loopw [6, 7] (fun x i wr => ∃ (k : Nat) (v : Value) (qs qx : List Pv) (ps : List Pk), k ≤ len ∧ i = .int .i64 k ∧ Blk wr B 76 #[v] ∧ OwnP wr B v qs ∧ PRs wr B qs ps ∧ OwnP wr B x qx ∧ PRs wr B qx ps ∧
      (∀ q ∈ ps, okQ q) ∧ ps.length ≤ k ∧ (∀ g, v.ownBlock = some g → ¬ x.ownBlock = some g) ∧ Mod Non W wr) (fun _ i _ => len - (intOf i).toNat)
  case atStart => exact ⟨0, _, [], [], [], by omega, rfl, hb1, OwnP.nil _ _, PRs.nil, OwnP.nil _ _, PRs.nil, by simp, by simp, fun g h => by simp [Value.ownBlock] at h, hm1⟩
  case round =>
    obtain ⟨k, v, qs, qx, ps, hk, rfl, hb, hown, hps, hownx, hpx, hok, hpl, hsep, hmr⟩ := hrel
    have hsz := hmr.size
    have hbl := hb.lt
    by_cases hlt : k < len
    · obtain ⟨ab, off, ⟨sk, sn, f, t, A2, n2, c2⟩, hA, hab, _, hsk, d0, d1, d2, d3, d4⟩ := hr.st hlt
      obtain ⟨d, hdr⟩ := HDD.out _ (List.mem_of_getElem? hsk)
      have hn50 := HS.out _ (List.mem_of_getElem? hsk)
      simp only at d0 d1 d2 d3 d4 hdr hn50
      have hdl : d.length = n2 := by have := hdr.1; rw [vbs_length] at this; omega
      have hrd : RdB wr B A2 n2 d := (RdB.below (hdr.more fun _ hk _ => by rw [HB.out]; exact hk)).kp (Kp.non hmr)
      obtain ⟨ps', p', r, hok', hpl', hpd', hbc, hrc⟩ := step ps sk sn ⟨f, t, d⟩ hok (by omega) (by simp only; omega)
      have HBC := Lib.hid hbc; have HRC := Lib.hid hrc; have HOK := Lib.hid hok'
      have L : ∀ {w' : World}, Mod Non W w' → ∀ (j : Nat) (u : Value), W.cell? ⟨ab, j, none⟩ = some u → w'.cell? ⟨ab, j, none⟩ = some u := fun hm j u h => (hm.cell (p := ⟨ab, j, none⟩) hab (fun h => h)).trans h
      have a0 := L hmr _ _ d0
      have a1 := L hmr _ _ d1
      have a2 := L hmr _ _ d2
      have a3 := L hmr _ _ d3
      have a4 := L hmr _ _ d4
      have hlt' : (k : Int) < len := by omega
      have hk0 : (0 : Int) ≤ k := by omega
      subst hA
      have HDR := Lib.hid hdr
      clear hsk hdr hok hok' hbc hrc
      go_wp2_with fail
      refine (HBC.out B B v qs f t A2 n2 c2 _ hb hown hps ⟨rfl, rfl, hrd⟩ (Nat.le_refl _)).mono ?_
      rintro e w2 ⟨f1, t1, A1, n1, c1, rfl, hpk1, v', qs', hb2, hown2, hps2, hm2, hfr⟩
      have hkp2 := kp_bag hb hown (Nat.le_refl _) hm2
      have hownx2 := hownx.bagFar hb hsep hm2
      have hpx2 := hpx.kp hkp2
      have hrd2 := hrd.kp hkp2
      have hmr2 : Mod Non W w2 := hmr.trans hm2 fun i hi h => by
        rcases h with h | h
        · have := HB.out; omega
        · have := (hown.lt _ h).1; have := HB.out; omega
      have hsep2 : ∀ g, v'.ownBlock = some g → g < w2.heap.size := fun g hg => (hown2.lt g hg).2
      have hs2 := hm2.size
      have hxl := hownx.lt
      have hsep3 : ∀ g, v'.ownBlock = some g → ¬ (Value.ownBlock _ = some g) := fun g hg h => by
        rcases hfr with h1 | ⟨g', h1, h2⟩
        · rw [h1] at hg; exact hsep g hg h
        · rw [h1] at hg; injection hg with hg; have := (hxl g h).2; omega
      have o0 := L hmr2 _ _ d0
      have o1 := L hmr2 _ _ d1
      have o2 := L hmr2 _ _ d2
      have o3 := L hmr2 _ _ d3
      have o4 := L hmr2 _ _ d4
      have hab2 : ab < w2.heap.size := Nat.lt_of_lt_of_le hab hmr2.size
      have hmA : ∀ o, Mod Non w2 (w2.alloc o) := fun o => (Mod.refl _ _).alloc o
      clear a0 a1 a2 a3 a4 L d0 d1 d2 d3 d4 hb hown hps hownx hpx hsep hm2 hfr hxl hkp2 hrd
      go_wp2_with fail
      refine (HRC.out B _ qx f t A2 n2 c2 _ (hownx2.alloc _) (hpx2.kp (Kp.non (hmA _))) ⟨rfl, rfl, hrd2.kp (Kp.non (hmA _))⟩ (by have := hmr2.size; have := HB.out; simp only [World.size_alloc]; omega)).mono ?_
      rintro e w3 ⟨v2, qx', f2, t2, A3, n3, c3, rfl, hpk2, hownx3, hpx3, hm3, hor⟩
      have hsep4 : ∀ g, v'.ownBlock = some g → ¬ v2.ownBlock = some g := fun g hg h => by
        rcases hor with h1 | h1
        · rw [h1] at h; exact hsep3 g hg h
        · have h2 := h1 g h; have h3 := hsep2 g hg; simp only [World.size_alloc] at h2; omega
      obtain ⟨Ax, mx, cx, rfl, hmx, _⟩ := hownx3.form
      obtain ⟨Ab, mb, cb, rfl, hmb, _⟩ := hown2.form
      have hml : mx = ps'.length := by rw [hmx.out]; exact hpx3.1
      obtain rfl : mx = mb := by rw [hmb.out, hml]; exact hps2.1.symm
      have hm3' : Mod Non w2 w3 := (hmA _).trans' hm3
      have hP1 : Blk w3 w2.heap.size 48 #[.int .i64 f1, .int .i64 t1, .slice A1 n1 c1] := (Blk.new w2 _ _).mod hm3 fun h => h
      have x0 := hP1.cell 0
      have x1 := hP1.cell 1
      have x2 := hP1.cell 2
      simp at x0 x1 x2
      have hP1l := hP1.lt
      obtain ⟨hf1, ht1, hd1⟩ := hpk1
      obtain ⟨hf2, ht2, hd2⟩ := hpk2
      simp only at hf1 ht1 hd1 hf2 ht2 hd2
      have hd1' := hd1.kp (Kp.non hm3')
      have hn1 : n1 ≤ maxLen := by have := hd1.1; rw [vbs_length] at this; simp only [maxLen]; omega
      have HSA : Hid (samePB ⟨f1, t1, p'.d⟩ ⟨f2, t2, p'.d⟩ = true) := by show _ = _; rw [hf1, ht1, hf2, ht2]; exact samePB_refl _
      have hrr : (r != r) = false := by simp
      have hmm : ((mx : Int) != mx) = false := by simp
      have hmB : ∀ o, Mod Non w3 (w3.alloc o) := fun o => (Mod.refl _ _).alloc o
      have HPD : Hid (∀ p ∈ ps', p.d.length ≤ 140737488355328) := fun p hp => by have := (HOK.out p hp).2; omega
      have hml2 : mx ≤ 1000000 := by omega
      have HPL : Hid (ps'.length = mx) := hml.symm
      have hB3 : B ≤ w3.heap.size := by have := hmr2.size; have := hm3'.size; have := HB.out; omega
      clear hml hf1 ht1 hf2 ht2 hd1 hor hmx hmb hP1 hsep2 hsep3 o0 o1 o2 o3 o4 hownx2 hpx2 hrd2 hm3
      go_wp2_with fail
      refine (ref38_Same f1 t1 A1 n1 c1 f2 t2 A3 n3 c3 p'.d p'.d B _ (hd1'.kp (Kp.non (hmB _))) (hd2.kp (Kp.non (hmB _))) hn1).mono ?_
      rintro e w4 ⟨rfl, hm4⟩
      rw [HSA.out]
      have hm34 : Mod Non w3 w4 := (hmB _).trans' hm4
      have hm24 : Mod Non w2 w4 := hm3'.trans' hm34
      have hb4 := hb2.mod hm24 fun h => h
      have hown4 := hown2.non hm24
      have hps4 := hps2.kp (Kp.non hm24)
      have hownx4 := hownx3.non hm34
      have hpx4 := hpx3.kp (Kp.non hm34)
      have hs4 := hm34.size
      clear hm4 hb2 hown2 hps2 hownx3 hpx3 hd1' hd2 x0 x1 x2
      go_wp2_with fail
      refine (bag_Len B Ab mx cb w4 hb4).mono ?_
      rintro e w5 ⟨rfl, rfl⟩
      go_wp2_with fail
      refine (bag_List B B Ab mx cb _ qs' ps' w4 hb4 hown4.reads hps4 (by omega) hml2 HPD.out).mono ?_
      rintro e w5 ⟨vl, ql, rfl, hownl, hpsl, hm5⟩
      obtain ⟨Al, ml, cl, rfl, hmlq, _⟩ := hownl.form
      have hml3 : ml ≤ 1000000 := by rw [hmlq.out, hpsl.1, HPL.out]; exact hml2
      go_wp2_with fail
      refine (ref38_All Al Ax ml mx cl cx B _ _ ql qx' ps' w5 hownl.reads (hownx4.non hm5).reads hpsl (hpx4.kp (Kp.non hm5)) hml3 HPD.out).mono ?_
      rintro e w6 ⟨rfl, hm6⟩
      have hm46 := hm5.trans' hm6
      have hb6 := hb4.mod hm46 fun h => h
      have hown6 := hown4.non hm46
      have hps6 := hps4.kp (Kp.non hm46)
      have hownx6 := hownx4.non hm46
      have hpx6 := hpx4.kp (Kp.non hm46)
      have hm6W := (hmr2.trans' hm24).trans' hm46
      clear hb4 hown4 hps4 hownx4 hpx4 hownl hpsl
      go_wp2
      go_roundw
      case rel => exact ⟨k + 1, _, qs', qx', ps', by omega, by go_num, hb6, hown6, hps6, hownx6, hpx6, HOK.out, by omega, hsep4, hm6W⟩
      case measure => simp [intOf]; omega
    · have hlt' : ¬ ((k : Int) < (len : Int)) := by omega
      obtain ⟨Ax, mx, cx, rfl, hmx, _⟩ := hownx.form
      obtain ⟨Ab, mb, cb, rfl, hmb, _⟩ := hown.form
      have hml : mx = ps.length := by rw [hmx.out]; exact hpx.1
      obtain rfl : mx = mb := by rw [hmb.out, hml]; exact hps.1.symm
      have HPL : Hid (ps.length = mx) := hml.symm
      have HPD : Hid (∀ p ∈ ps, p.d.length ≤ 140737488355328) := fun p hp => by have := (hok p hp).2; omega
      have hm6 : mx ≤ 1000000 := by omega
      have hrx := hownx.reads
      have hB1 : B ≤ wr.heap.size := by omega
      clear hml hmx hmb hok hpl hsep hownx
      obtain ⟨wo, rfl⟩ : ∃ wo, wo = wr := ⟨_, rfl⟩
      go_wp2
      go_loopw [13, 14] (fun v i wr => ∃ j : Nat, j ≤ mx ∧ i = .int .i64 j ∧ OwnI wr wo.heap.size v (toK node (ps.take j) 0) ∧ Mod Non wo wr) (fun _ i _ => mx - (intOf i).toNat)
      case atStart => exact ⟨0, by omega, rfl, OwnI.nil _ _, Mod.refl _ _⟩
      case round =>
        obtain ⟨j, hj, rfl, hownI, hmq⟩ := hrel
        have hszq := hmq.size
        by_cases hjl : j < mx
        · have hjl' : (j : Int) < mx := by omega
          have hj0 : (0 : Int) ≤ j := by omega
          obtain ⟨ab, off, ⟨f, t, A2, n2, c2⟩, hA, hab, _, hqk, d0, d1, d2⟩ := (hrx.mod hmq (fun _ _ _ h => h)).pk hjl
          have hjp : j < ps.length := by have := HPL.out; omega
          obtain ⟨p, hpk⟩ : ∃ p, p = ps[j] := ⟨_, rfl⟩
          have hpk' : ps[j]? = some p := by rw [hpk]; exact List.getElem?_eq_getElem hjp
          obtain ⟨_, ht, _⟩ := hpx.2 j _ p hqk hpk'
          simp only at d0 d1 d2 ht
          have hps : Hid (toK node (ps.take (j + 1)) 0 = toK node (ps.take j) 0 ++ (if t = node then [(j : Int)] else [])) := by
            show _ = _
            rw [List.take_add_one, hpk']
            show toK node (ps.take j ++ [p]) 0 = _
            rw [toK_snoc, List.length_take, Nat.min_eq_left (by omega), ht]
          have hle : (toK node (ps.take j) 0).length ≤ 10000000 := by
            have := toK_le node (ps.take j) 0
            rw [List.length_take] at this
            omega
          subst hA
          clear hqk hpk hpk' ht
          by_cases htn : t = node
          · have e1 : (t == node) = true := by simp [htn]
            have HTN := Lib.hid htn
            clear htn
            go_wp2_with (at_builtin; refine wpList_append_int rfl (.tmp 81) (.tmp 83) rfl wo.heap.size _ _ rfl hownI j wr.heap.size rfl rfl hle hszq ?_; intro v2 w2 hown2 hm2 _)
            have hmr2 := hownI.modNon hmq hm2
            clear hm2 hownI
            go_wp2
            go_roundw
            case rel => exact ⟨j + 1, by omega, by go_num, by rw [hps.out, if_pos HTN.out]; exact hown2, hmr2⟩
            case measure => simp [intOf]; omega
          · have e1 : (t == node) = false := by simp [htn]
            have HTN := Lib.hid htn
            clear htn
            go_wp2
            go_roundw
            case rel => exact ⟨j + 1, by omega, by go_num, by rw [hps.out, if_neg HTN.out, List.append_nil]; exact hownI, hmq⟩
            case measure => simp [intOf]; omega
        · have hjl' : ¬ ((j : Int) < (mx : Int)) := by omega
          have htk : ps.take j = ps := List.take_of_length_le (by have := HPL.out; omega)
          rw [htk] at hownI
          clear htk
          obtain ⟨Ai, mi, ci, rfl, hmi, _⟩ := hownI.form
          have hmil : mi ≤ maxLen := by have := toK_le node ps 0; have := hmi.out; have := HPL.out; simp only [maxLen]; omega
          go_wp2_with fail
          refine (bag_To B B Ab mx cb _ qs ps node _ (hb.mod hmq fun h => h) (hown.non hmq).reads (hps.kp (Kp.non hmq)) (by omega) hm6 HPD.out).mono ?_
          rintro e w2 ⟨v2, rfl, hown2, hm2⟩
          obtain ⟨A2, m2, c2, rfl, hm2l, _⟩ := hown2.form
          have hm2b : m2 ≤ maxLen := by rw [hm2l.out, ← hmi.out]; exact hmil
          go_wp2_with fail
          refine (ref_Ints A2 Ai m2 mi c2 ci _ _ (toK node ps 0) (toK node ps 0) w2 hown2.reads (hownI.non hm2).reads hm2b).mono ?_
          rintro e w3 ⟨rfl, hm3⟩
          rw [sameI_yes rfl]
          go_wp2_with fail
          refine (bag_awake w3).mono ?_
          rintro e w4 ⟨rfl, hm4⟩
          go_wp2
          go_ret
          exact ⟨rfl, ((((hmr.trans' hmq).trans' hm2).trans' hm3).trans' hm4).below'⟩
end Go.Proofs.Ytlkifobajdafpaa
