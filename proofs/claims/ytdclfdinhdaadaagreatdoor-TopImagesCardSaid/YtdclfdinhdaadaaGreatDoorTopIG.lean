/- The law TopImages: true at every input. -/
import Derived.Test.YtdclfdinhdaadaaGreatDoorMgW
import Derived.Test.YtdclfdinhdaadaaGreatDoorMgR
import Derived.Test.YtdclfdinhdaadaaGreatDoorFirstNoG
import Derived.Test.YtdclfdinhdaadaaGreatDoorWinYesG
import Derived.Test.YtdclfdinhdaadaaGreatDoorTopRegG
import Derived.Test.YtdclfdinhdaadaaGreatDoorImgDecodeG
import Derived.Test.YtdclfdinhdaadaaGreatDoorRSame30G
namespace Go.Proofs.YtdclfdinhdaadaaGreatDoor
open Go.RowKit

theorem Settled.confs {w5 w6 wx : World} {H S An : Nat} {tS tA : TypeId} {cS cA : Array Value} (h : Settled w5 w6 wx H S An tS tA cS cA) {n : Nat} {A : Option Addr} {cs : List Cf} (hr : Confs w6 (fun k => H ≤ k) A n cs) : Confs wx (fun k => w5.heap.size ≤ k ∧ k ≠ S ∧ k ≠ An) A n cs := by
  have h1 := hr.more (R' := fun k => w5.heap.size ≤ k ∧ k ≠ S ∧ k ≠ An) fun k hk hH => ⟨Nat.le_trans h.low hH, h.far k hH hk⟩
  exact h1.mod h.turn fun k _ hk ht => by rcases ht with e | e; exact hk.2.1 e; exact hk.2.2 e

theorem dec_two (m : Im) (A : Option Addr) (n c : Nat) (R : Nat → Prop) (w : World) (hr : Reads w R 1 A n (vbs (ienc m))) (hok : m.Ok) (hT : T8 w) :
    Calls Tryz.prog 21 #[.int .i64 2, .slice A n c] w fun e w' => ∃ u, e = .returned (.tuple #[u, .int .i64 0]) ∧ ImV (fun k => w.heap.size ≤ k) w' u m ∧ Mod Non w w' := by
  obtain ⟨ix, ac, cs, ⟨v, ps, ss⟩⟩ := m
  rcases hok.st.schema with hv | hv
  · simp only at hv
    subst hv
    exact image_Decode21 ix ac cs ps ss A n c R w hr hok hT
  · simp only at hv
    subst hv
    exact image_Decode22 ix ac cs ps ss A n c R w hr hok hT
theorem dec_one (m : Im) (A : Option Addr) (n c : Nat) (R : Nat → Prop) (w : World) (hr : Reads w R 1 A n (vbs (ienc m))) (hok : m.Ok) (hT : T8 w) :
    Calls Tryz.prog 21 #[.int .i64 1, .slice A n c] w fun e w' => ∃ u k m', e = .returned (.tuple #[u, .int .i64 k]) ∧ (k == 0) = (m.active == 0) ∧ ImV (fun k => w.heap.size ≤ k) w' u m' ∧ Mod Non w w' := by
  obtain ⟨ix, ac, cs, ⟨v, ps, ss⟩⟩ := m
  have hsc := hok.schema
  have hac := hok.active
  simp only at hsc hac
  rcases hok.st.schema with hv | hv
  · simp only at hv
    subst hv
    have h0 : ac = 0 := by split at hsc; cases hsc; omega
    refine (image_Decode11 ix ac cs ps ss A n c R w hr hok hT).mono ?_
    rintro e w' ⟨u, rfl, hu, hm⟩
    exact ⟨u, 0, _, rfl, by simp [h0], hu, hm⟩
  · simp only at hv
    subst hv
    have h0 : ¬ ac = 0 := by split at hsc; omega; cases hsc
    refine (image_Decode12 ix ac cs ps ss A n c R w hr hok hT).mono ?_
    rintro e w' ⟨u, rfl, hu, hm⟩
    exact ⟨u, 8, _, rfl, by simp [h0], hu, hm⟩

set_option maxRecDepth 100000 in
set_option maxHeartbeats 16000000 in
theorem top_TopImages (mem : List Int) (l more : List Cm) (A0 A1 A2 : Option Addr) (n0 c0 n1 c1 n2 c2 : Nat) (R0 R1 R2 : Nat → Prop) (w : World) (h0 : Reads w R0 1 A0 n0 (vis mem)) (h1 : Reads w R1 7 A1 n1 (ccs l)) (h2 : Reads w R2 7 A2 n2 (ccs more)) (hT : T8 w) :
    Calls Tryz.prog 4 #[.slice A0 n0 c0, .slice A1 n1 c1, .slice A2 n2 c2] w fun e w' => e = .returned (.bool true) ∧ Mod Non w w' := by
  have hl0 : mem.length = n0 := by have := h0.1; rw [vis_length] at this; omega
  have hl1 : l.length = n1 := by have := h1.1; rw [ccs_length] at this; omega
  have hl2 : more.length = n2 := by have := h2.1; rw [ccs_length] at this; omega
  have HL := Lib.hid (show mem.length = n0 ∧ l.length = n1 ∧ more.length = n2 from ⟨hl0, hl1, hl2⟩)
  have HEY := Lib.hid (fun w' (hm : Mod Non w w') => top_early w' (hT.non hm))
  have HLA := Lib.hid (fun w' (hm : Mod Non w w') => ref28_Large A1 n1 c1 R1 l w' (h1.mod hm fun _ _ _ h => h))
  have HLB := Lib.hid (fun w' (hm : Mod Non w w') => ref28_Large A2 n2 c2 R2 more w' (h2.mod hm fun _ _ _ h => h))
  have HT := Lib.hid hT
  clear hl0 hl1 hl2 hT
  go_enter Tryz.func4, Tryz.ntmps4
  by_cases h40 : 40 < n0
  · have hd : decide ((40 : Int) < (n0 : Int)) = true := by simpa using (show (40 : Int) < n0 by omega)
    go_wp2_with fail
    refine (HEY.out _ (Mod.refl _ _)).mono ?_
    rintro e wz ⟨rfl, hmz⟩
    go_wp2
    go_ret
    exact ⟨rfl, (Mod.refl _ _).trans' hmz⟩
  have hd : decide ((40 : Int) < (n0 : Int)) = false := by simpa using (show (n0 : Int) ≤ 40 by omega)
  go_wp2_with fail
  refine (HLA.out _ (Mod.refl _ _)).mono ?_
  rintro e w1 ⟨⟨q1, rfl, hq1⟩, rfl⟩
  have HQ1 := Lib.hid hq1
  clear hq1 HLA
  cases q1 with
  | true =>
    go_wp2_with fail
    refine (HEY.out _ (Mod.refl _ _)).mono ?_
    rintro e wz ⟨rfl, hmz⟩
    go_wp2
    go_ret
    exact ⟨rfl, (Mod.refl _ _).trans' hmz⟩
  | false =>
  have hn1 : n1 ≤ 60 := by have := (HQ1.out rfl).1; have := HL.out.2.1; omega
  clear HQ1
  go_wp2_with fail
  refine (HLB.out _ (Mod.refl _ _)).mono ?_
  rintro e w1 ⟨⟨q1, rfl, hq1⟩, rfl⟩
  have HQ1 := Lib.hid hq1
  clear hq1 HLB
  cases q1 with
  | true =>
    go_wp2_with fail
    refine (HEY.out _ (Mod.refl _ _)).mono ?_
    rintro e wz ⟨rfl, hmz⟩
    go_wp2
    go_ret
    exact ⟨rfl, (Mod.refl _ _).trans' hmz⟩
  | false =>
  have hn2 : n2 ≤ 60 := by have := (HQ1.out rfl).1; have := HL.out.2.2; omega
  clear HQ1
  by_cases hmo : MemOk mem
  case neg =>
    have HFN := Lib.hid (window_First_no A0 n0 c0 R0 mem w h0 (by have := HL.out.1; omega) hmo)
    go_wp2_with fail
    refine HFN.out.mono ?_
    rintro e w1 ⟨⟨k, rfl, hk⟩, hm1⟩
    have M1 := Lib.hid (hm1.alloc (.cells #[.int .i64 0, .int .i64 0, .slice none 0 0, .int .i64 0, .slice none 0 0, .slice none 0 0] 53))
    clear hm1
    go_wp2_with fail
    refine (HEY.out _ (M1.out)).mono ?_
    rintro e wz ⟨rfl, hmz⟩
    go_wp2
    go_ret
    exact ⟨rfl, (M1.out).trans' hmz⟩
  have HFY := Lib.hid (window_First A0 n0 c0 R0 mem w h0 (by have := HL.out.1; omega))
  have HMO := Lib.hid hmo
  clear hmo h0
  go_wp2_with fail
  refine HFY.out.mono ?_
  rintro e w1 ⟨⟨u, k, rfl, hk, hu⟩, hm1⟩
  have hk0 : k = 0 := hk.2 HMO.out
  subst hk0
  obtain ⟨B0, k0, d0, B1, k1, d1, B2, k2, d2, he, q0, q1, q2⟩ := hu HMO.out
  simp only [im0] at he q0 q1 q2
  subst he
  have ma := (Mod.refl Non w1).alloc (.cells #[.int .i64 0, .int .i64 0, .slice B0 k0 d0, .int .i64 1, .slice B1 k1 d1, .slice B2 k2 d2] 53)
  have HIB : Hid (ImB (w1.alloc (.cells #[.int .i64 0, .int .i64 0, .slice B0 k0 d0, .int .i64 1, .slice B1 k1 d1, .slice B2 k2 d2] 53)) w1.heap.size (im0 mem)) :=
    ⟨B0, k0, d0, B1, k1, d1, B2, k2, d2, Blk.new _ _ _, (q0.more fun b hb _ => by omega).non ma, (q1.more (R' := fun b => b ≠ w1.heap.size) fun b hb _ => by omega).mod ma fun _ _ _ h => h, (q2.more (R' := fun b => b ≠ w1.heap.size) fun b hb _ => by omega).mod ma fun _ _ _ h => h⟩
  have M1 := Lib.hid (hm1.trans' ma)
  have hs1 := hm1.size
  clear ma hm1 hk hu q0 q1 q2 HFY
  go_wp2
  go_loopw [9] (fun i wr => ∃ (k : Nat) (m : Im), k ≤ n1 ∧ i = .int .i64 k ∧ m.Run ∧ m.index ≤ k ∧ ImB wr w1.heap.size m ∧ Mod Non w wr) (fun i _ => n1 - (intOf i).toNat)
  case atStart => exact ⟨0, im0 mem, by omega, rfl, im0_run HMO.out, by simp [im0], HIB.out, M1.out⟩
  case round =>
    obtain ⟨k, m, hk, rfl, hrun, hix, hib, hm⟩ := hrel
    clear HIB M1
    have HM := Lib.hid hm
    have HRUN := Lib.hid hrun
    by_cases hlt : k < n1
    · obtain ⟨b, off, c, hA, hbk, _, hck, d0, d1c, d2c, d3, d4, d5, d6⟩ := (h1.mod hm fun _ _ _ h => h).cm hlt
      subst hA
      have hkn : (k : Int) < n1 := by omega
      obtain ⟨B0, k0, d0_, B1, k1, d1_, B2, k2, d2_, bm, q0, q1, q2⟩ := hib
      have BM := Lib.hid bm
      have QQ := Lib.hid (show _ ∧ _ ∧ _ from ⟨q0, q1, q2⟩)
      have hbl := bm.lt
      by_cases hc : c.Ok
      · have HAP := Lib.hid (fun w' (h : Mod Non wr w') => window_Apply_yes m c B0 B1 B2 k0 d0_ k1 d1_ k2 d2_ _ _ _ w' (q0.non h) (q1.mod h fun _ _ _ h => h) (q2.mod h fun _ _ _ h => h) hrun (by omega) (HT.out.non (hm.trans' h)) hc)
        obtain ⟨wm, hwm⟩ : ∃ wm, wm = wapply m c := ⟨_, rfl⟩
        simp only [← hwm] at HAP
        have HWM := Lib.hid (show wm.1.Run ∧ wm.1.index = m.index + 1 from ⟨by rw [hwm]; exact wapply_run hrun hc (by omega), by rw [hwm]; rfl⟩)
        obtain ⟨⟨ix2, ac2, cs2, ⟨v2, ps2, ss2⟩⟩, ⟨xa, xb, xc, xd, xe, xf⟩⟩ := wm
        obtain ⟨ix, ac, cs, ⟨v, ps, ss⟩⟩ := m
        obtain ⟨kind, client, seq, key, val, old, node⟩ := c
        simp only at HAP d0 d1c d2c d3 d4 d5 d6 bm
        have x0 := bm.cell 0
        have x1 := bm.cell 1
        have x2 := bm.cell 2
        have x3 := bm.cell 3
        have x4 := bm.cell 4
        have x5 := bm.cell 5
        simp at x0 x1 x2 x3 x4 x5
        have z0 := bm.frozen 0
        have z1 := bm.frozen 1
        have z2 := bm.frozen 2
        have z3 := bm.frozen 3
        have z4 := bm.frozen 4
        have z5 := bm.frozen 5
        have hb1 : b < wr.heap.size + 1 := by omega
        have hb2 : w1.heap.size < wr.heap.size + 1 := by omega
        clear bm q0 q1 q2 hck hc hm hrun hwm
        go_wp2_with fail
        refine top_reg9 (ix2 := ix2) (ac2 := ac2) (v2 := v2) (xa := xa) (xb := xb) (xc := xc) (xd := xd) (xe := xe) (xf := xf) (er := 0) (PP := fun H w6 E0 p0 _ E1 p1 _ E2 p2 _ => Confs w6 (fun k => H ≤ k) E0 p0 cs2 ∧ Reads w6 (fun k => H ≤ k) 3 E1 p1 (pcs ps2) ∧ Reads w6 (fun k => H ≤ k) 8 E2 p2 (ecs ss2)) (by kernel_rfl) hkn hbk BM.out ⟨d0, d1c, d2c, d3, d4, d5, d6⟩ ?hap1 ?rest1
        case hap1 =>
          intro w' hw'
          refine (HAP.out w' hw').mono ?_
          rintro e w6 ⟨u6, rfl, ⟨E0, p0, f0, E1, p1, f1, E2, p2, f2, he6, r60, r61, r62⟩, hm6⟩
          simp only at he6 r60 r61 r62
          subst he6
          exact ⟨E0, p0, f0, E1, p1, f1, E2, p2, f2, rfl, ⟨r60, r61, r62⟩, hm6⟩
        case rest1 =>
          intro u10 u11 u12 u46 u47 u48 u49 u50 u51 u52 u53 u54 u55 u56 u57 u58 u59 u60 u61 u62 u63 u64 wc hcut
          try dsimp only at hcut ⊢
          obtain ⟨S, An, w6, H6, E0, p0, f0, E1, p1, f1, E2, p2, f2, rfl, rfl, rfl, hst, r60, r61, r62⟩ := hcut
          have bs := hst.bs
          have bm := BM.out.mod hst.mod (fun h => h)
          have hF := (((((((Mod.refl (One w1.heap.size) wc).setOne (i := 0) (.int .i64 ix2)).setOne (i := 1) (.int .i64 ac2)).setOne (i := 2) (.slice E0 p0 f0)).setOne (i := 3) (.int .i64 v2)).setOne (i := 4) (.slice E1 p1 f1)).setOne (i := 5) (.slice E2 p2 f2))
          have HIN := Lib.hid (show ImB _ w1.heap.size ⟨ix2, ac2, cs2, ⟨v2, ps2, ss2⟩⟩ from ⟨E0, p0, f0, E1, p1, f1, E2, p2, f2, ((((((bm.set_ 0 (.int .i64 ix2)).set_ 1 (.int .i64 ac2)).set_ 2 (.slice E0 p0 f0)).set_ 3 (.int .i64 v2)).set_ 4 (.slice E1 p1 f1)).set_ 5 (.slice E2 p2 f2)), ((hst.confs r60).mod hF fun j _ h e => by have h := h.1; unfold One at e; omega).more fun j _ h => by have h := h.1; omega, ((hst.reads r61).mod hF fun j _ h e => by have h := h.1; unfold One at e; omega).more fun j _ h => by have h := h.1; omega, ((hst.reads r62).mod hF fun j _ h e => by have h := h.1; unfold One at e; omega).more fun j _ h => by have h := h.1; omega⟩)
          have MN := Lib.hid ((HM.out.trans' hst.mod).trans hF fun j hj h => by unfold One at h; omega)
          clear x0 x1 x2 x3 x4 x5 z0 z1 z2 z3 z4 z5
          have x0 := bs.cell 0
          have x1 := bs.cell 1
          have x2 := bs.cell 2
          have x3 := bs.cell 3
          have x4 := bs.cell 4
          have x5 := bs.cell 5
          simp at x0 x1 x2 x3 x4 x5
          have y0 := bm.cell 0
          have y1 := bm.cell 1
          have y2 := bm.cell 2
          have y3 := bm.cell 3
          have y4 := bm.cell 4
          have y5 := bm.cell 5
          simp at y0 y1 y2 y3 y4 y5
          have z0 := bm.frozen 0
          have z1 := bm.frozen 1
          have z2 := bm.frozen 2
          have z3 := bm.frozen 3
          have z4 := bm.frozen 4
          have z5 := bm.frozen 5
          clear bs bm hst r60 r61 r62 hF HAP
          go_wp2
          go_roundw
          case rel =>
            exact ⟨k + 1, _, by omega, by go_num, HWM.out.1, by have := HWM.out.2; simp only at this ⊢; omega, HIN.out, MN.out⟩
          case measure => simp [intOf]; omega
      · have HAP := Lib.hid (fun w' (h : Mod Non wr w') => window_Apply_no m c B0 B1 B2 k0 d0_ k1 d1_ k2 d2_ _ _ _ w' (q0.non h) (q1.mod h fun _ _ _ h => h) (q2.mod h fun _ _ _ h => h) hrun.ok (by omega) (HT.out.non (hm.trans' h)) hc)
        obtain ⟨er, her⟩ : ∃ er, er = ckErr c := ⟨_, rfl⟩
        have hne : ¬ er = 0 := fun h => hc (ckErr_zero.1 (her ▸ h))
        have hne2 : (er == 0) = false := by simpa using hne
        simp only [← her] at HAP
        have HIB := Lib.hid (show ImB wr w1.heap.size m from ⟨_, _, _, _, _, _, _, _, _, bm, q0, q1, q2⟩)
        have hix1 : m.index ≤ (k : Int) + 1 := by omega
        have HIX := Lib.hid hix1
        obtain ⟨mm, hmm⟩ : ∃ mm, mm = m := ⟨_, rfl⟩
        rw [← hmm] at HRUN HIB HIX
        obtain ⟨ix, ac, cs, ⟨v, ps, ss⟩⟩ := m
        obtain ⟨kind, client, seq, key, val, old, node⟩ := c
        simp only at HAP d0 d1c d2c d3 d4 d5 d6 bm
        have x0 := bm.cell 0
        have x1 := bm.cell 1
        have x2 := bm.cell 2
        have x3 := bm.cell 3
        have x4 := bm.cell 4
        have x5 := bm.cell 5
        simp at x0 x1 x2 x3 x4 x5
        have hb1 : b < wr.heap.size + 1 := by omega
        have hb2 : w1.heap.size < wr.heap.size + 1 := by omega
        clear bm q0 q1 q2 hck hc hm hrun her hmm hix1
        go_wp2_with fail
        refine top_reg9 (ix2 := 0) (ac2 := 0) (v2 := 0) (xa := 0) (xb := 0) (xc := 0) (xd := false) (xe := ⟨#[]⟩) (xf := 0) (er := er) (PP := fun _ _ E0 p0 f0 E1 p1 f1 E2 p2 f2 => E0 = none ∧ p0 = 0 ∧ f0 = 0 ∧ E1 = none ∧ p1 = 0 ∧ f1 = 0 ∧ E2 = none ∧ p2 = 0 ∧ f2 = 0) (by kernel_rfl) hkn hbk BM.out ⟨d0, d1c, d2c, d3, d4, d5, d6⟩ ?hap2 ?rest2
        case hap2 =>
          intro w' hw'
          refine (HAP.out w' hw').mono ?_
          rintro e w6 ⟨rfl, hm6⟩
          exact ⟨none, 0, 0, none, 0, 0, none, 0, 0, rfl, ⟨rfl, rfl, rfl, rfl, rfl, rfl, rfl, rfl, rfl⟩, hm6⟩
        case rest2 =>
          intro u10 u11 u12 u46 u47 u48 u49 u50 u51 u52 u53 u54 u55 u56 u57 u58 u59 u60 u61 u62 u63 u64 wc hcut
          try dsimp only at hcut ⊢
          obtain ⟨S, An, w6, H6, E0, p0, f0, E1, p1, f1, E2, p2, f2, rfl, rfl, rfl, hst, rfl, rfl, rfl, rfl, rfl, rfl, rfl, rfl, rfl⟩ := hcut
          have HIN := Lib.hid (HIB.out.non hst.mod)
          have MN := Lib.hid (HM.out.trans' hst.mod)
          clear hst x0 x1 x2 x3 x4 x5 HAP
          go_wp2
          go_roundw
          case rel =>
            exact ⟨k + 1, mm, by omega, by go_num, HRUN.out, by have := HIX.out; omega, HIN.out, MN.out⟩
          case measure => simp [intOf]; omega
    · have hkn : ¬ (k : Int) < n1 := by omega
      obtain ⟨B0, k0, d0_, B1, k1, d1_, B2, k2, d2_, bm, q0, q1, q2⟩ := hib
      have HEN := Lib.hid (image_Encode m B0 B1 B2 k0 d0_ k1 d1_ k2 d2_ _ _ _ wr q0 q1 q2 hrun.ok (HT.out.non hm))
      have HD2 := Lib.hid (fun w' A n c R (hr : Reads w' R 1 A n (vbs (ienc m))) (hT : T8 w') => dec_two m A n c R w' hr hrun.ok hT)
      have HD1 := Lib.hid (fun w' A n c R (hr : Reads w' R 1 A n (vbs (ienc m))) (hT : T8 w') => dec_one m A n c R w' hr hrun.ok hT)
      have HSM := Lib.hid (fun w' u v R R' (hu : ImV R w' u m) (hv : ImV R' w' v m) => ref30_Same m u v R R' w' hu hv (by have := hrun.few; omega) (cf_len hrun.ok.confs) (by have := hrun.ok.st.pairs.few; omega) hrun.ok.st.few)
      have HIB := Lib.hid (show ImB wr w1.heap.size m from ⟨_, _, _, _, _, _, _, _, _, bm, q0, q1, q2⟩)
      have hix60 : m.index ≤ 60 := by omega
      have HIX := Lib.hid hix60
      have hbl := bm.lt
      obtain ⟨mm, hmm⟩ : ∃ mm, mm = m := ⟨_, rfl⟩
      have HMM := Lib.hid hmm
      rw [← hmm] at HRUN HIB HIX
      obtain ⟨ix, ac, cs, ⟨v, ps, ss⟩⟩ := m
      simp only at HEN HD1 bm
      have x0 := bm.cell 0
      have x1 := bm.cell 1
      have x2 := bm.cell 2
      have x3 := bm.cell 3
      have x4 := bm.cell 4
      have x5 := bm.cell 5
      simp at x0 x1 x2 x3 x4 x5
      clear hrun hix hm bm q0 q1 q2 hix60 hlt hk hmm
      go_wp2_with fail
      refine HEN.out.mono ?_
      rintro e w2 ⟨vb, rfl, hob, hm2⟩
      obtain ⟨Ab, nb, cb, rfl, _, _⟩ := hob.form
      have HIB2 := Lib.hid (HIB.out.non hm2)
      have HM2 := Lib.hid (HM.out.trans' hm2)
      have hs2 := hm2.size
      have HOB := Lib.hid hob
      clear hm2 hob HIB HM HEN x0 x1 x2 x3 x4 x5
      go_wp2_with fail
      refine (HD2.out w2 Ab nb cb _ HOB.out.reads (HT.out.non HM2.out)).mono ?_
      rintro e w3 ⟨u, rfl, hu, hm3⟩
      obtain ⟨D0, g0, e0, D1, g1, e1, D2, g2, e2, he, r0, r1, r2⟩ := hu
      simp only at he r0 r1 r2
      subst he
      have ma := (Mod.refl Non w3).alloc (.cells #[.int .i64 ix, .int .i64 ac, .slice D0 g0 e0, .int .i64 v, .slice D1 g1 e1, .slice D2 g2 e2] 53)
      have HIB4 := Lib.hid ((HIB2.out.non hm3).non ma)
      have HIX4 : Hid (ImB (w3.alloc (.cells #[.int .i64 ix, .int .i64 ac, .slice D0 g0 e0, .int .i64 v, .slice D1 g1 e1, .slice D2 g2 e2] 53)) w3.heap.size ⟨ix, ac, cs, ⟨v, ps, ss⟩⟩) :=
        ⟨D0, g0, e0, D1, g1, e1, D2, g2, e2, Blk.new _ _ _, (r0.more fun b hb _ => by omega).non ma, (r1.more (R' := fun b => b ≠ w3.heap.size) fun b hb _ => by omega).mod ma fun _ _ _ h => h, (r2.more (R' := fun b => b ≠ w3.heap.size) fun b hb _ => by omega).mod ma fun _ _ _ h => h⟩
      have HM4 := Lib.hid ((HM2.out.trans' hm3).trans' ma)
      have HOB4 := Lib.hid ((HOB.out.non hm3).non ma)
      have hs3 := hm3.size
      obtain ⟨W4, hW4⟩ : ∃ W4, W4 = w3.alloc (.cells #[.int .i64 ix, .int .i64 ac, .slice D0 g0 e0, .int .i64 v, .slice D1 g1 e1, .slice D2 g2 e2] 53) := ⟨_, rfl⟩
      rw [← hW4] at HIB4 HIX4 HM4 HOB4
      have HW4 := Lib.hid hW4
      clear hm3 ma hW4 r0 r1 r2 HIB2 HM2 HOB HD2
      go_wp2_with fail
      rw [← HW4.out]
      refine (HD1.out W4 Ab nb cb _ HOB4.out.reads (HT.out.non HM4.out)).mono ?_
      rintro e w5 ⟨u5, k5, m5, rfl, hk5, hu5, hm5⟩
      obtain ⟨F0, l0, o0, F1, l1, o1, F2, l2, o2, he, _, _, _⟩ := hu5
      subst he
      obtain ⟨j0, hj0⟩ : ∃ j0, j0 = m5.index := ⟨_, rfl⟩
      obtain ⟨j1, hj1⟩ : ∃ j1, j1 = m5.active := ⟨_, rfl⟩
      obtain ⟨j2, hj2⟩ : ∃ j2, j2 = m5.st.schema := ⟨_, rfl⟩
      rw [← hj0, ← hj1, ← hj2]
      obtain ⟨q, hq⟩ : ∃ q : Bool, q = (ac == 0) := ⟨_, rfl⟩
      rw [← hq] at hk5
      have haq : (ac == 0) = q := hq.symm
      have mb := (Mod.refl Non w5).alloc (.cells #[.int .i64 j0, .int .i64 j1, .slice F0 l0 o0, .int .i64 j2, .slice F1 l1 o1, .slice F2 l2 o2] 53)
      have HIB6 := Lib.hid ((HIB4.out.non hm5).non mb)
      have HIX6 := Lib.hid ((HIX4.out.non hm5).non mb)
      have HM6 := Lib.hid ((HM4.out.trans' hm5).trans' mb)
      clear hq hj0 hj1 hj2 hm5 mb HIB4 HIX4 HM4 HOB4 HD1 HW4
      go_upto_region 15 with fail
      obtain ⟨W6, hW6⟩ : ∃ W6, W6 = w5.alloc (.cells #[.int .i64 j0, .int .i64 j1, .slice F0 l0 o0, .int .i64 j2, .slice F1 l1 o1, .slice F2 l2 o2] 53) := ⟨_, rfl⟩
      rw [← hW6] at HIB6 HIX6 HM6 ⊢
      clear hW6
      rw [HMM.out] at HIB6
      obtain ⟨D0, g0, e0, D1, g1, e1, D2, g2, e2, bm, r0, r1, r2⟩ := HIB6.out
      obtain ⟨F0, l0, o0, F1, l1, o1, F2, l2, o2, bx, t0, t1, t2⟩ := HIX6.out
      simp only at bm bx r0 r1 r2 t0 t1 t2
      have HSC := Lib.hid (HSM.out W6 _ _ _ _ ⟨F0, l0, o0, F1, l1, o1, F2, l2, o2, rfl, t0, t1, t2⟩ ⟨D0, g0, e0, D1, g1, e1, D2, g2, e2, rfl, r0, r1, r2⟩)
      simp only at HSC
      have x0 := bm.cell 0
      have x1 := bm.cell 1
      have x2 := bm.cell 2
      have x3 := bm.cell 3
      have x4 := bm.cell 4
      have x5 := bm.cell 5
      simp at x0 x1 x2 x3 x4 x5
      have y0 := bx.cell 0
      have y1 := bx.cell 1
      have y2 := bx.cell 2
      have y3 := bx.cell 3
      have y4 := bx.cell 4
      have y5 := bx.cell 5
      simp at y0 y1 y2 y3 y4 y5
      clear bm bx r0 r1 r2 t0 t1 t2 HSM
      go_wp2_with fail
      refine HSC.out.mono ?_
      rintro e w7 ⟨rfl, hm7⟩
      have HIB7 := Lib.hid (HIB6.out.non hm7)
      have HIX7 := Lib.hid (HIX6.out.non hm7)
      have HM7 := Lib.hid (HM6.out.trans' hm7)
      have hs7 : w.heap.size ≤ w3.heap.size := by omega
      have hMX : w1.heap.size < w3.heap.size := by omega
      have x1' : w7.cell? ⟨w1.heap.size, 1, none⟩ = some (.int .i64 ac) := by
        obtain ⟨_, _, _, _, _, _, _, _, _, bm7, _, _, _⟩ := HIB7.out
        exact bm7.cell 1
      clear x0 x1 x2 x3 x4 x5 y0 y1 y2 y3 y4 y5 hm7 HIB6 HIX6 HM6 HSC
      have hqq : (q != q) = false := by cases q <;> rfl
      go_wp2
      clear x1' hqq haq hk5 hbl hs2 hs3
      have HB7 : Hid (ImB w7 w1.heap.size mm ∧ ImB w7 w3.heap.size mm) := by rw [HMM.out]; exact ⟨HIB7.out, HIX7.out⟩
      clear HIB7 HIX7
      go_loopw [19] (fun i wr => ∃ (k : Nat) (m : Im), k ≤ n2 ∧ i = .int .i64 k ∧ m.Run ∧ m.index ≤ 60 + k ∧ ImB wr w1.heap.size m ∧ ImB wr w3.heap.size m ∧ Mod Non w wr) (fun i _ => n2 - (intOf i).toNat)
      case atStart => exact ⟨0, mm, by omega, rfl, HRUN.out, by have := HIX.out; simpa using this, HB7.out.1, HB7.out.2, HM7.out⟩
      case round =>
        obtain ⟨k, m, hk, rfl, hrun, hix, hib, hib2, hm⟩ := hrel
        clear HB7 HM7 HRUN HIX HMM
        have HM := Lib.hid hm
        have HRUN := Lib.hid hrun
        by_cases hlt : k < n2
        · obtain ⟨b, off, c, hA, hbk, _, hck, d0, d1c, d2c, d3, d4, d5, d6⟩ := (h2.mod hm fun _ _ _ h => h).cm hlt
          have hdd := Lib.hid (fun w' (h : Mod Non wr w') => (h2.mod (hm.trans' h) fun _ _ _ h => h).cm hlt)
          subst hA
          have hkn : (k : Int) < n2 := by omega
          obtain ⟨B0, k0, d0_, B1, k1, d1_, B2, k2, d2_, bm, q0, q1, q2⟩ := hib
          obtain ⟨C0, m0, h0_, C1, m1, h1_, C2, m2, h2_, bx, t0, t1, t2⟩ := hib2
          have BM := Lib.hid bm
          have BX := Lib.hid bx
          have hbl := bm.lt
          have hbx := bx.lt
          by_cases hc : c.Ok
          · have HAP := Lib.hid (fun w' (h : Mod Non wr w') => window_Apply_yes m c B0 B1 B2 k0 d0_ k1 d1_ k2 d2_ _ _ _ w' (q0.non h) (q1.mod h fun _ _ _ h => h) (q2.mod h fun _ _ _ h => h) hrun (by omega) (HT.out.non (hm.trans' h)) hc)
            have HAQ := Lib.hid (fun w' (h : Mod Non wr w') => window_Apply_yes m c C0 C1 C2 m0 h0_ m1 h1_ m2 h2_ _ _ _ w' (t0.non h) (t1.mod h fun _ _ _ h => h) (t2.mod h fun _ _ _ h => h) hrun (by omega) (HT.out.non (hm.trans' h)) hc)
            obtain ⟨wm, hwm⟩ : ∃ wm, wm = wapply m c := ⟨_, rfl⟩
            simp only [← hwm] at HAP HAQ
            have HWM := Lib.hid (show wm.1.Run ∧ wm.1.index = m.index + 1 from ⟨by rw [hwm]; exact wapply_run hrun hc (by omega), by rw [hwm]; rfl⟩)
            obtain ⟨⟨ix2, ac2, cs2, ⟨v2, ps2, ss2⟩⟩, ⟨xa, xb, xc, xd, xe, xf⟩⟩ := wm
            obtain ⟨ix, ac, cs, ⟨v, ps, ss⟩⟩ := m
            obtain ⟨kind, client, seq, key, val, old, node⟩ := c
            simp only at HAP HAQ d0 d1c d2c d3 d4 d5 d6 bm bx
            have HD := Lib.hid (show _ ∧ _ ∧ _ ∧ _ ∧ _ ∧ _ ∧ _ from ⟨d0, d1c, d2c, d3, d4, d5, d6⟩)
            have x0 := bm.cell 0
            have x1 := bm.cell 1
            have x2 := bm.cell 2
            have x3 := bm.cell 3
            have x4 := bm.cell 4
            have x5 := bm.cell 5
            simp at x0 x1 x2 x3 x4 x5
            have hb1 : b < wr.heap.size + 1 := by omega
            have hb2 : w1.heap.size < wr.heap.size + 1 := by omega
            clear bm bx q0 q1 q2 t0 t1 t2 hck hc hm hrun hwm hdd
            go_wp2_with fail
            refine top_reg20 (ix2 := ix2) (ac2 := ac2) (v2 := v2) (xa := xa) (xb := xb) (xc := xc) (xd := xd) (xe := xe) (xf := xf) (er := 0) (PP := fun H w6 E0 p0 _ E1 p1 _ E2 p2 _ => Confs w6 (fun k => H ≤ k) E0 p0 cs2 ∧ Reads w6 (fun k => H ≤ k) 3 E1 p1 (pcs ps2) ∧ Reads w6 (fun k => H ≤ k) 8 E2 p2 (ecs ss2)) (by kernel_rfl) hkn hbk BM.out ⟨d0, d1c, d2c, d3, d4, d5, d6⟩ ?hap3 ?rest3
            case hap3 =>
              intro w' hw'
              refine (HAP.out w' hw').mono ?_
              rintro e w6 ⟨u6, rfl, ⟨E0, p0, f0, E1, p1, f1, E2, p2, f2, he6, r60, r61, r62⟩, hm6⟩
              simp only at he6 r60 r61 r62
              subst he6
              exact ⟨E0, p0, f0, E1, p1, f1, E2, p2, f2, rfl, ⟨r60, r61, r62⟩, hm6⟩
            case rest3 =>
              intro u20 u21 u22 u100 u101 u102 u103 u104 u105 u106 u107 u108 u109 u110 u111 u112 u113 u114 u115 u116 u117 u118 u119 u120 u121 u122 u123 u124 u125 u126 u127 u128 u129 u130 u131 u132 u133 u134 u135 u136 u137 u138 u139 u140 u141 u142 u143 wc hcut
              try dsimp only at hcut ⊢
              obtain ⟨S, An, w6, H6, E0, p0, f0, E1, p1, f1, E2, p2, f2, rfl, rfl, rfl, hst, r60, r61, r62⟩ := hcut
              obtain ⟨wa, rfl⟩ : ∃ wa, wa = wc := ⟨_, rfl⟩
              have HS1 := Lib.hid hst
              have HR1 := Lib.hid (show _ ∧ _ ∧ _ from ⟨hst.confs r60, hst.reads r61, hst.reads r62⟩)
              have bx := BX.out.mod hst.mod (fun h => h)
              have BX2 := Lib.hid bx
              have d0 := (hst.mod.cell (p := ⟨b, off + k * 7, none⟩) hbk (fun h => h)).trans HD.out.1
              have d1c := (hst.mod.cell (p := ⟨b, off + k * 7 + 1, none⟩) hbk (fun h => h)).trans HD.out.2.1
              have d2c := (hst.mod.cell (p := ⟨b, off + k * 7 + 2, none⟩) hbk (fun h => h)).trans HD.out.2.2.1
              have d3 := (hst.mod.cell (p := ⟨b, off + k * 7 + 3, none⟩) hbk (fun h => h)).trans HD.out.2.2.2.1
              have d4 := (hst.mod.cell (p := ⟨b, off + k * 7 + 4, none⟩) hbk (fun h => h)).trans HD.out.2.2.2.2.1
              have d5 := (hst.mod.cell (p := ⟨b, off + k * 7 + 5, none⟩) hbk (fun h => h)).trans HD.out.2.2.2.2.2.1
              have d6 := (hst.mod.cell (p := ⟨b, off + k * 7 + 6, none⟩) hbk (fun h => h)).trans HD.out.2.2.2.2.2.2
              have hsa := hst.mod.size
              have HAQ2 := Lib.hid (fun w' (h : Mod Non wa w') => HAQ.out w' (hst.mod.trans' h))
              clear x0 x1 x2 x3 x4 x5 HAP HAQ hb1 hb2
              have y0 := bx.cell 0
              have y1 := bx.cell 1
              have y2 := bx.cell 2
              have y3 := bx.cell 3
              have y4 := bx.cell 4
              have y5 := bx.cell 5
              simp at y0 y1 y2 y3 y4 y5
              have hb0 : b < wa.heap.size := by omega
              have hb1 : b < wa.heap.size + 1 := by omega
              have hb3 : w3.heap.size < wa.heap.size := by omega
              have hb2 : w3.heap.size < wa.heap.size + 1 := by omega
              clear bx hst r60 r61 r62
              go_wp2_with fail
              refine top_reg21 (ix2 := ix2) (ac2 := ac2) (v2 := v2) (xa := xa) (xb := xb) (xc := xc) (xd := xd) (xe := xe) (xf := xf) (er := 0) (PP := fun H w6 E0 p0 _ E1 p1 _ E2 p2 _ => Confs w6 (fun k => H ≤ k) E0 p0 cs2 ∧ Reads w6 (fun k => H ≤ k) 3 E1 p1 (pcs ps2) ∧ Reads w6 (fun k => H ≤ k) 8 E2 p2 (ecs ss2)) (by kernel_rfl) hkn hb0 BX2.out ⟨d0, d1c, d2c, d3, d4, d5, d6⟩ ?hap4 ?rest4
              case hap4 =>
                intro w' hw'
                refine (HAQ2.out w' hw').mono ?_
                rintro e w6 ⟨u6, rfl, ⟨E0, p0, f0, E1, p1, f1, E2, p2, f2, he6, r60, r61, r62⟩, hm6⟩
                simp only at he6 r60 r61 r62
                subst he6
                exact ⟨E0, p0, f0, E1, p1, f1, E2, p2, f2, rfl, ⟨r60, r61, r62⟩, hm6⟩
              case rest4 =>
                intro u23 u24 u25 u100 u101 u102 u103 u104 u105 u106 u107 u108 u109 u110 u111 u112 u113 u114 u115 u116 u117 u118 u119 u120 u121 u122 u123 u124 u125 u126 u127 u128 u129 u130 u131 u132 u133 u134 u135 u136 u137 u138 u139 u140 u141 u142 u143 wc hcut
                try dsimp only at hcut ⊢
                obtain ⟨S', An', w6', H6', G0, r0, s0, G1, r1, s1, G2, r2, s2, rfl, rfl, rfl, hst, r60, r61, r62⟩ := hcut
                have b1 := HS1.out.bs.mod hst.mod (fun h => h)
                have a1 := HS1.out.ba.mod hst.mod (fun h => h)
                have b2 := hst.bs
                have a2 := hst.ba
                have lo1 := HS1.out.s
                have lo2 := hst.s
                have c1_ := HR1.out.1.non hst.mod
                have c2_ := HR1.out.2.1.mod hst.mod (fun _ _ _ h => h)
                have c3_ := HR1.out.2.2.mod hst.mod (fun _ _ _ h => h)
                have g1_ := hst.confs r60
                have g2_ := hst.reads r61
                have g3_ := hst.reads r62
                have HSC := Lib.hid (ref30_Same ⟨ix2, ac2, cs2, ⟨v2, ps2, ss2⟩⟩ _ _ _ _ wc ⟨E0, p0, f0, E1, p1, f1, E2, p2, f2, rfl, c1_, c2_, c3_⟩ ⟨G0, r0, s0, G1, r1, s1, G2, r2, s2, rfl, g1_, g2_, g3_⟩ (by have := HWM.out.1.few; omega) (cf_len HWM.out.1.ok.confs) (by have := HWM.out.1.ok.st.pairs.few; omega) HWM.out.1.ok.st.few)
                simp only at HSC
                have HBM := Lib.hid ((BM.out.mod HS1.out.mod (fun h => h)).mod hst.mod (fun h => h))
                have HBX := Lib.hid ((BX.out.mod HS1.out.mod (fun h => h)).mod hst.mod (fun h => h))
                have HC1 := Lib.hid (show _ ∧ _ ∧ _ from ⟨c1_, c2_, c3_⟩)
                have HC2 := Lib.hid (show _ ∧ _ ∧ _ from ⟨g1_, g2_, g3_⟩)
                have HBB := Lib.hid (show _ ∧ _ from ⟨b1, b2⟩)
                have HMC := Lib.hid ((HM.out.trans' HS1.out.mod).trans' hst.mod)
                clear y0 y1 y2 y3 y4 y5
                have x0 := b1.cell 0
                have x1 := b1.cell 1
                have x2 := b1.cell 2
                have x3 := b1.cell 3
                have x4 := b1.cell 4
                have x5 := b1.cell 5
                simp at x0 x1 x2 x3 x4 x5
                have y0 := b2.cell 0
                have y1 := b2.cell 1
                have y2 := b2.cell 2
                have y3 := b2.cell 3
                have y4 := b2.cell 4
                have y5 := b2.cell 5
                simp at y0 y1 y2 y3 y4 y5
                have aa0 := a1.cell 0
                have aa1 := a1.cell 1
                have aa2 := a1.cell 2
                have aa3 := a1.cell 3
                have aa4 := a1.cell 4
                have aa5 := a1.cell 5
                simp at aa0 aa1 aa2 aa3 aa4 aa5
                have ab0 := a2.cell 0
                have ab1 := a2.cell 1
                have ab2 := a2.cell 2
                have ab3 := a2.cell 3
                have ab4 := a2.cell 4
                have ab5 := a2.cell 5
                simp at ab0 ab1 ab2 ab3 ab4 ab5
                clear b1 b2 a1 a2 c1_ c2_ c3_ g1_ g2_ g3_ hst r60 r61 r62 HAQ2 HR1
                go_wp2_with fail
                refine HSC.out.mono ?_
                rintro e w8 ⟨rfl, hm8⟩
                have b1 := HBB.out.1.mod hm8 (fun h => h)
                have b2 := HBB.out.2.mod hm8 (fun h => h)
                have bm := HBM.out.mod hm8 (fun h => h)
                have bx := HBX.out.mod hm8 (fun h => h)
                have M8 := Lib.hid (HMC.out.trans' hm8)
                have hF := Lib.hid (fill12 bm bx (by omega) (.int .i64 ix2) (.int .i64 ac2) (.slice E0 p0 f0) (.int .i64 v2) (.slice E1 p1 f1) (.slice E2 p2 f2) (.int .i64 ix2) (.int .i64 ac2) (.slice G0 r0 s0) (.int .i64 v2) (.slice G1 r1 s1) (.slice G2 r2 s2))
                have D1 := Lib.hid (show _ ∧ _ ∧ _ from ⟨HC1.out.1.non hm8, HC1.out.2.1.mod hm8 (fun _ _ _ h => h), HC1.out.2.2.mod hm8 (fun _ _ _ h => h)⟩)
                have D2 := Lib.hid (show _ ∧ _ ∧ _ from ⟨HC2.out.1.non hm8, HC2.out.2.1.mod hm8 (fun _ _ _ h => h), HC2.out.2.2.mod hm8 (fun _ _ _ h => h)⟩)
                clear x0 x1 x2 x3 x4 x5 y0 y1 y2 y3 y4 y5 aa0 aa1 aa2 aa3 aa4 aa5 ab0 ab1 ab2 ab3 ab4 ab5
                have x0 := b1.cell 0
                have x1 := b1.cell 1
                have x2 := b1.cell 2
                have x3 := b1.cell 3
                have x4 := b1.cell 4
                have x5 := b1.cell 5
                simp at x0 x1 x2 x3 x4 x5
                have y0 := b2.cell 0
                have y1 := b2.cell 1
                have y2 := b2.cell 2
                have y3 := b2.cell 3
                have y4 := b2.cell 4
                have y5 := b2.cell 5
                simp at y0 y1 y2 y3 y4 y5
                have e0 := bm.cell 0
                have e1 := bm.cell 1
                have e2 := bm.cell 2
                have e3 := bm.cell 3
                have e4 := bm.cell 4
                have e5 := bm.cell 5
                simp at e0 e1 e2 e3 e4 e5
                have g0 := bx.cell 0
                have g1 := bx.cell 1
                have g2 := bx.cell 2
                have g3 := bx.cell 3
                have g4 := bx.cell 4
                have g5 := bx.cell 5
                simp at g0 g1 g2 g3 g4 g5
                have z0 := bm.frozen 0
                have z1 := bm.frozen 1
                have z2 := bm.frozen 2
                have z3 := bm.frozen 3
                have z4 := bm.frozen 4
                have z5 := bm.frozen 5
                have zz0 := bx.frozen 0
                have zz1 := bx.frozen 1
                have zz2 := bx.frozen 2
                have zz3 := bx.frozen 3
                have zz4 := bx.frozen 4
                have zz5 := bx.frozen 5
                clear b1 b2 bm bx hm8 HSC HBB HBM HBX HC1 HC2 HMC
                go_wp2_with fail
                go_region
                go_wp2
                go_roundw
                case rel =>
                  have hD := hF.out.2.2.2.drew
                  refine ⟨k + 1, ⟨ix2, ac2, cs2, ⟨v2, ps2, ss2⟩⟩, by omega, by go_num, HWM.out.1, by have := HWM.out.2; simp only at this ⊢; omega, ?_, ?_, (hF.out.2.2.1 w (by omega) (by omega) M8.out).drew⟩
                  · exact ⟨E0, p0, f0, E1, p1, f1, E2, p2, f2, hF.out.1.drew, (D1.out.1.mod hD fun j _ h e => by have h := h.1; rcases e with e | e <;> omega).more fun j _ h => by have h := h.1; omega, (D1.out.2.1.mod hD fun j _ h e => by have h := h.1; rcases e with e | e <;> omega).more fun j _ h => by have h := h.1; omega, (D1.out.2.2.mod hD fun j _ h e => by have h := h.1; rcases e with e | e <;> omega).more fun j _ h => by have h := h.1; omega⟩
                  · exact ⟨G0, r0, s0, G1, r1, s1, G2, r2, s2, hF.out.2.1.drew, (D2.out.1.mod hD fun j _ h e => by have h := h.1; rcases e with e | e <;> omega).more fun j _ h => by have h := h.1; omega, (D2.out.2.1.mod hD fun j _ h e => by have h := h.1; rcases e with e | e <;> omega).more fun j _ h => by have h := h.1; omega, (D2.out.2.2.mod hD fun j _ h e => by have h := h.1; rcases e with e | e <;> omega).more fun j _ h => by have h := h.1; omega⟩
                case measure => simp [intOf]; omega
          · have HAP := Lib.hid (fun w' (h : Mod Non wr w') => window_Apply_no m c B0 B1 B2 k0 d0_ k1 d1_ k2 d2_ _ _ _ w' (q0.non h) (q1.mod h fun _ _ _ h => h) (q2.mod h fun _ _ _ h => h) hrun.ok (by omega) (HT.out.non (hm.trans' h)) hc)
            have HAQ := Lib.hid (fun w' (h : Mod Non wr w') => window_Apply_no m c C0 C1 C2 m0 h0_ m1 h1_ m2 h2_ _ _ _ w' (t0.non h) (t1.mod h fun _ _ _ h => h) (t2.mod h fun _ _ _ h => h) hrun.ok (by omega) (HT.out.non (hm.trans' h)) hc)
            obtain ⟨er, her⟩ : ∃ er, er = ckErr c := ⟨_, rfl⟩
            have hne : ¬ er = 0 := fun h => hc (ckErr_zero.1 (her ▸ h))
            have hne2 : (er == 0) = false := by simpa using hne
            have hne3 : (er != er) = false := by simp
            simp only [← her] at HAP HAQ
            have HIB := Lib.hid (show ImB wr w1.heap.size m ∧ ImB wr w3.heap.size m from ⟨⟨_, _, _, _, _, _, _, _, _, bm, q0, q1, q2⟩, ⟨_, _, _, _, _, _, _, _, _, bx, t0, t1, t2⟩⟩)
            have hix1 : m.index ≤ 60 + ((k : Int) + 1) := by omega
            have HIX := Lib.hid hix1
            obtain ⟨mm, hmm⟩ : ∃ mm, mm = m := ⟨_, rfl⟩
            rw [← hmm] at HRUN HIB HIX
            obtain ⟨ix, ac, cs, ⟨v, ps, ss⟩⟩ := m
            obtain ⟨kind, client, seq, key, val, old, node⟩ := c
            simp only at HAP HAQ d0 d1c d2c d3 d4 d5 d6 bm bx
            have HD := Lib.hid (show _ ∧ _ ∧ _ ∧ _ ∧ _ ∧ _ ∧ _ from ⟨d0, d1c, d2c, d3, d4, d5, d6⟩)
            have x0 := bm.cell 0
            have x1 := bm.cell 1
            have x2 := bm.cell 2
            have x3 := bm.cell 3
            have x4 := bm.cell 4
            have x5 := bm.cell 5
            simp at x0 x1 x2 x3 x4 x5
            have hb1 : b < wr.heap.size + 1 := by omega
            have hb2 : w1.heap.size < wr.heap.size + 1 := by omega
            clear bm bx q0 q1 q2 t0 t1 t2 hck hc hm hrun her hmm hix1 hdd
            go_wp2_with fail
            refine top_reg20 (ix2 := 0) (ac2 := 0) (v2 := 0) (xa := 0) (xb := 0) (xc := 0) (xd := false) (xe := ⟨#[]⟩) (xf := 0) (er := er) (PP := fun _ _ E0 p0 f0 E1 p1 f1 E2 p2 f2 => E0 = none ∧ p0 = 0 ∧ f0 = 0 ∧ E1 = none ∧ p1 = 0 ∧ f1 = 0 ∧ E2 = none ∧ p2 = 0 ∧ f2 = 0) (by kernel_rfl) hkn hbk BM.out ⟨d0, d1c, d2c, d3, d4, d5, d6⟩ ?hap5 ?rest5
            case hap5 =>
              intro w' hw'
              refine (HAP.out w' hw').mono ?_
              rintro e w6 ⟨rfl, hm6⟩
              exact ⟨none, 0, 0, none, 0, 0, none, 0, 0, rfl, ⟨rfl, rfl, rfl, rfl, rfl, rfl, rfl, rfl, rfl⟩, hm6⟩
            case rest5 =>
              intro u20 u21 u22 u100 u101 u102 u103 u104 u105 u106 u107 u108 u109 u110 u111 u112 u113 u114 u115 u116 u117 u118 u119 u120 u121 u122 u123 u124 u125 u126 u127 u128 u129 u130 u131 u132 u133 u134 u135 u136 u137 u138 u139 u140 u141 u142 u143 wc hcut
              try dsimp only at hcut ⊢
              obtain ⟨S, An, w6, H6, E0, p0, f0, E1, p1, f1, E2, p2, f2, rfl, rfl, rfl, hst, rfl, rfl, rfl, rfl, rfl, rfl, rfl, rfl, rfl⟩ := hcut
              obtain ⟨wa, rfl⟩ : ∃ wa, wa = wc := ⟨_, rfl⟩
              have HS1 := Lib.hid hst
              have bx := BX.out.mod hst.mod (fun h => h)
              have BX2 := Lib.hid bx
              have d0 := (hst.mod.cell (p := ⟨b, off + k * 7, none⟩) hbk (fun h => h)).trans HD.out.1
              have d1c := (hst.mod.cell (p := ⟨b, off + k * 7 + 1, none⟩) hbk (fun h => h)).trans HD.out.2.1
              have d2c := (hst.mod.cell (p := ⟨b, off + k * 7 + 2, none⟩) hbk (fun h => h)).trans HD.out.2.2.1
              have d3 := (hst.mod.cell (p := ⟨b, off + k * 7 + 3, none⟩) hbk (fun h => h)).trans HD.out.2.2.2.1
              have d4 := (hst.mod.cell (p := ⟨b, off + k * 7 + 4, none⟩) hbk (fun h => h)).trans HD.out.2.2.2.2.1
              have d5 := (hst.mod.cell (p := ⟨b, off + k * 7 + 5, none⟩) hbk (fun h => h)).trans HD.out.2.2.2.2.2.1
              have d6 := (hst.mod.cell (p := ⟨b, off + k * 7 + 6, none⟩) hbk (fun h => h)).trans HD.out.2.2.2.2.2.2
              have hsa := hst.mod.size
              have HAQ2 := Lib.hid (fun w' (h : Mod Non wa w') => HAQ.out w' (hst.mod.trans' h))
              clear x0 x1 x2 x3 x4 x5 HAP HAQ hb1 hb2
              have y0 := bx.cell 0
              have y1 := bx.cell 1
              have y2 := bx.cell 2
              have y3 := bx.cell 3
              have y4 := bx.cell 4
              have y5 := bx.cell 5
              simp at y0 y1 y2 y3 y4 y5
              have hb0 : b < wa.heap.size := by omega
              have hb1 : b < wa.heap.size + 1 := by omega
              have hb3 : w3.heap.size < wa.heap.size := by omega
              have hb2 : w3.heap.size < wa.heap.size + 1 := by omega
              clear bx hst
              go_wp2_with fail
              refine top_reg21 (ix2 := 0) (ac2 := 0) (v2 := 0) (xa := 0) (xb := 0) (xc := 0) (xd := false) (xe := ⟨#[]⟩) (xf := 0) (er := er) (PP := fun _ _ E0 p0 f0 E1 p1 f1 E2 p2 f2 => E0 = none ∧ p0 = 0 ∧ f0 = 0 ∧ E1 = none ∧ p1 = 0 ∧ f1 = 0 ∧ E2 = none ∧ p2 = 0 ∧ f2 = 0) (by kernel_rfl) hkn hb0 BX2.out ⟨d0, d1c, d2c, d3, d4, d5, d6⟩ ?hap6 ?rest6
              case hap6 =>
                intro w' hw'
                refine (HAQ2.out w' hw').mono ?_
                rintro e w6 ⟨rfl, hm6⟩
                exact ⟨none, 0, 0, none, 0, 0, none, 0, 0, rfl, ⟨rfl, rfl, rfl, rfl, rfl, rfl, rfl, rfl, rfl⟩, hm6⟩
              case rest6 =>
                intro u23 u24 u25 u100 u101 u102 u103 u104 u105 u106 u107 u108 u109 u110 u111 u112 u113 u114 u115 u116 u117 u118 u119 u120 u121 u122 u123 u124 u125 u126 u127 u128 u129 u130 u131 u132 u133 u134 u135 u136 u137 u138 u139 u140 u141 u142 u143 wc hcut
                try dsimp only at hcut ⊢
                obtain ⟨S', An', w6', H6', E0, p0, f0, E1, p1, f1, E2, p2, f2, rfl, rfl, rfl, hst, rfl, rfl, rfl, rfl, rfl, rfl, rfl, rfl, rfl⟩ := hcut
                have b1 := HS1.out.bs.mod hst.mod (fun h => h)
                have a1 := HS1.out.ba.mod hst.mod (fun h => h)
                have b2 := hst.bs
                have a2 := hst.ba
                have HSC := Lib.hid (ref30_Same ⟨0, 0, [], ⟨0, [], []⟩⟩ _ _ (fun _ => True) (fun _ => True) wc ⟨none, 0, 0, none, 0, 0, none, 0, 0, rfl, ⟨[], Reads.none_, rfl, fun i v c h => by simp at h⟩, Reads.none_, Reads.none_⟩ ⟨none, 0, 0, none, 0, 0, none, 0, 0, rfl, ⟨[], Reads.none_, rfl, fun i v c h => by simp at h⟩, Reads.none_, Reads.none_⟩ (by simp) (fun x hx => by simp at hx) (by simp) (by simp))
                simp only at HSC
                have HI2 := Lib.hid (show _ ∧ _ from ⟨(HIB.out.1.non HS1.out.mod).non hst.mod, (HIB.out.2.non HS1.out.mod).non hst.mod⟩)
                have HMC := Lib.hid ((HM.out.trans' HS1.out.mod).trans' hst.mod)
                clear y0 y1 y2 y3 y4 y5
                have x0 := b1.cell 0
                have x1 := b1.cell 1
                have x2 := b1.cell 2
                have x3 := b1.cell 3
                have x4 := b1.cell 4
                have x5 := b1.cell 5
                simp at x0 x1 x2 x3 x4 x5
                have y0 := b2.cell 0
                have y1 := b2.cell 1
                have y2 := b2.cell 2
                have y3 := b2.cell 3
                have y4 := b2.cell 4
                have y5 := b2.cell 5
                simp at y0 y1 y2 y3 y4 y5
                have aa0 := a1.cell 0
                have aa1 := a1.cell 1
                have aa2 := a1.cell 2
                have aa3 := a1.cell 3
                have aa4 := a1.cell 4
                have aa5 := a1.cell 5
                simp at aa0 aa1 aa2 aa3 aa4 aa5
                have ab0 := a2.cell 0
                have ab1 := a2.cell 1
                have ab2 := a2.cell 2
                have ab3 := a2.cell 3
                have ab4 := a2.cell 4
                have ab5 := a2.cell 5
                simp at ab0 ab1 ab2 ab3 ab4 ab5
                clear b1 b2 a1 a2 hst HAQ2
                go_wp2_with fail
                refine HSC.out.mono ?_
                rintro e w8 ⟨rfl, hm8⟩
                have HI8 := Lib.hid (show _ ∧ _ from ⟨HI2.out.1.non hm8, HI2.out.2.non hm8⟩)
                have M8 := Lib.hid (HMC.out.trans' hm8)
                clear x0 x1 x2 x3 x4 x5 y0 y1 y2 y3 y4 y5 aa0 aa1 aa2 aa3 aa4 aa5 ab0 ab1 ab2 ab3 ab4 ab5 hm8 HSC
                go_wp2
                go_roundw
                case rel => exact ⟨k + 1, mm, by omega, by go_num, HRUN.out, by have := HIX.out; omega, HI8.out.1, HI8.out.2, M8.out⟩
                case measure => simp [intOf]; omega
        · have hkn : ¬ (k : Int) < n2 := by omega
          clear hib hib2 hm hrun
          go_wp2_with fail
          refine (HEY.out _ HM.out).mono ?_
          rintro e wz ⟨rfl, hmz⟩
          go_wp2
          go_ret
          exact ⟨rfl, HM.out.trans' hmz⟩
end Go.Proofs.YtdclfdinhdaadaaGreatDoor
