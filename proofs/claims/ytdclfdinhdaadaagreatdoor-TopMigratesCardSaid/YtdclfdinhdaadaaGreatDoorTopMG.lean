/- The law TopMigrates: true at every input. -/
import Derived.Test.YtdclfdinhdaadaaGreatDoorMgW
import Derived.Test.YtdclfdinhdaadaaGreatDoorRRevsG
import Derived.Test.YtdclfdinhdaadaaGreatDoorMgO
namespace Go.Proofs.YtdclfdinhdaadaaGreatDoor
open Go.RowKit

def GoodM (c : Cm) : Prop := c.Ok ∧ hasB 1 c.kind = true ∧ ¬ c.kind = 6

set_option maxRecDepth 100000 in
set_option maxHeartbeats 8000000 in
theorem top_TopMigrates (s : St) (cs : List Cm) (A1 A2 A3 : Option Addr) (n1 c1 n2 c2 n3 c3 : Nat) (R1 R2 R3 : Nat → Prop) (w : World) (h1 : Reads w R1 3 A1 n1 (pcs s.pairs)) (h2 : Reads w R2 8 A2 n2 (ecs s.sess)) (h3 : Reads w R3 7 A3 n3 (ccs cs)) (hT : T8 w) :
    Calls Tryz.prog 3 #[stv s.schema (.slice A1 n1 c1) (.slice A2 n2 c2), .slice A3 n3 c3] w fun e w' => e = .returned (.bool true) ∧ Mod Non w w' := by
  have hl1 : s.pairs.length = n1 := by have := h1.1; rw [pcs_length] at this; omega
  have hl2 : s.sess.length = n2 := by have := h2.1; rw [ecs_length] at this; omega
  have hl3 : cs.length = n3 := by have := h3.1; rw [ccs_length] at this; omega
  have HL := Lib.hid (show s.pairs.length = n1 ∧ s.sess.length = n2 ∧ cs.length = n3 from ⟨hl1, hl2, hl3⟩)
  obtain ⟨v, hv⟩ : ∃ v, v = s.schema := ⟨_, rfl⟩
  have m0 := (Mod.refl Non w).alloc (.cells #[.int .i64 v, .slice A1 n1 c1, .slice A2 n2 c2] 25)
  have b0 := Blk.new w 25 #[.int .i64 v, .slice A1 n1 c1, .slice A2 n2 c2]
  have HEY := Lib.hid (fun w' (hm : Mod Non w w') => top_early w' (hT.non hm))
  have HLA := Lib.hid (fun w' (hm : Mod Non w w') => ref25_Large s A1 A2 n1 c1 n2 c2 R1 R2 w' (h1.mod hm fun _ _ _ h => h) (h2.mod hm fun _ _ _ h => h))
  have HLB := Lib.hid (fun w' (hm : Mod Non w w') => ref28_Large A3 n3 c3 R3 cs w' (h3.mod hm fun _ _ _ h => h))
  have HCK := Lib.hid (fun w' (hm : Mod Non w w') => ref25_Check s A1 A2 n1 c1 n2 c2 R1 R2 w' (h1.mod hm fun _ _ _ h => h) (h2.mod hm fun _ _ _ h => h))
  rw [← hv] at HLA HCK ⊢
  have HV := Lib.hid hv
  clear hl1 hl2 hl3 hv
  go_enter Tryz.func3, Tryz.ntmps3
  go_wp2_with fail
  refine (HLA.out _ m0).mono ?_
  rintro e w1 ⟨⟨q1, rfl, hq1⟩, hm1⟩
  have b1 := b0.mod hm1 (fun h => h)
  have m1 := m0.trans' hm1
  have HQ1 := Lib.hid hq1
  clear b0 m0 hm1 hq1 HLA
  cases q1 with
  | true =>
    go_wp2_with fail
    refine (HEY.out _ (m1)).mono ?_
    rintro e wz ⟨rfl, hmz⟩
    go_wp2
    go_ret
    exact ⟨rfl, (m1).trans' hmz⟩
  | false =>
  obtain ⟨⟨g1, g2⟩, g3, g4⟩ := HQ1.out rfl
  have hn1 : n1 ≤ 80 := by have := HL.out.1; omega
  have hn2 : n2 ≤ 40 := by have := HL.out.2.1; omega
  have HC := Lib.hid (fun w' hm => HCK.out w' hm hn1 hn2 g2 g4)
  clear g1 g2 g3 g4 HQ1 HCK
  go_wp2_with fail
  refine (HLB.out _ m1).mono ?_
  rintro e w2 ⟨⟨q2, rfl, hq2⟩, rfl⟩
  have HQ2 := Lib.hid hq2
  clear hq2
  cases q2 with
  | true =>
    go_wp2_with fail
    refine (HEY.out _ (m1)).mono ?_
    rintro e wz ⟨rfl, hmz⟩
    go_wp2
    go_ret
    exact ⟨rfl, (m1).trans' hmz⟩
  | false =>
  have HSZ := Lib.hid (HQ2.out rfl)
  have hn3 : n3 ≤ 60 := by have := HSZ.out.1; have := HL.out.2.2; omega
  have e0 := b1.cell 0
  have e1 := b1.cell 1
  have e2 := b1.cell 2
  simp at e0 e1 e2
  clear HQ2 HLB
  go_wp2_with fail
  refine (HC.out _ m1).mono ?_
  rintro e w3 ⟨⟨q3, rfl, hq3⟩, hm3⟩
  have b3 := b1.mod hm3 (fun h => h)
  have m3 := m1.trans' hm3
  have HQ3 := Lib.hid hq3
  clear hq3 b1 m1 hm3 e0 e1 e2 HC
  cases q3 with
  | false =>
    go_wp2_with fail
    refine (HEY.out _ (m3)).mono ?_
    rintro e wz ⟨rfl, hmz⟩
    go_wp2
    go_ret
    exact ⟨rfl, (m3).trans' hmz⟩
  | true =>
  have hok := HQ3.out rfl
  have HOK := Lib.hid hok
  clear hok HQ3
  have e0 := b3.cell 0
  have e1 := b3.cell 1
  have e2 := b3.cell 2
  simp at e0 e1 e2
  by_cases hv1 : v = 1
  case neg =>
    have hv1' : (v != 1) = true := by simp [hv1]
    clear hv1
    go_wp2_with fail
    refine (HEY.out _ (m3)).mono ?_
    rintro e wz ⟨rfl, hmz⟩
    go_wp2
    go_ret
    exact ⟨rfl, (m3).trans' hmz⟩
  subst hv1
  have B3 := Lib.hid b3
  have M3 := Lib.hid m3
  clear b3 m3
  go_wp2
  clear e0 e1 e2
  go_loopw [5] (fun i wr => ∃ k : Nat, k ≤ n3 ∧ i = .int .i64 k ∧ (∀ x ∈ cs.take k, GoodM x) ∧ Blk wr w.heap.size 25 #[.int .i64 1, .slice A1 n1 c1, .slice A2 n2 c2] ∧ Mod Non w wr) (fun i _ => n3 - (intOf i).toNat)
  case atStart => exact ⟨0, by omega, rfl, fun x hx => by simp at hx, B3.out, M3.out⟩
  case round =>
    obtain ⟨k, hk, rfl, hall, hb, hm⟩ := hrel
    clear B3 M3
    have HALL := Lib.hid hall
    have HM := Lib.hid hm
    clear hall
    by_cases hlt : k < n3
    · obtain ⟨b, off, c, hA, hbk, _, hck, d0, d1c, d2c, d3, d4, d5, d6⟩ := (h3.mod hm fun _ _ _ h => h).cm hlt
      subst hA
      have hkn : (k : Int) < n3 := by omega
      have HCKK := Lib.hid hck
      have hsz := HSZ.out.2 c (List.mem_of_getElem? hck)
      have HR8 := Lib.hid (fun w' => ref08_Check c w' ⟨by omega, by omega, by omega⟩)
      have HR7 := Lib.hid (fun w' => ref07_Has 1 c.kind w' (.inl rfl))
      obtain ⟨hb1, hhb1⟩ : ∃ y, y = hasB 1 c.kind := ⟨_, rfl⟩
      rw [← hhb1] at HR7
      have HHB := Lib.hid hhb1
      have HB := Lib.hid hb
      have HCE := Lib.hid (fun w' (h : Mod Non w w') => (h3.mod h fun _ _ _ h => h).cm hlt)
      clear hck hsz hhb1 hb hm
      obtain ⟨kind, client, seq, key, val, old, node⟩ := c
      simp only at d0 d1c d2c d3 d4 d5 d6 HR7
      go_wp2_with fail
      refine (HR8.out _).mono ?_
      rintro e w5 ⟨⟨k8, rfl, hk8⟩, hm5⟩
      have HK8 := Lib.hid hk8
      have M5 := Lib.hid (HM.out.trans' hm5)
      have B5 := Lib.hid (HB.out.mod hm5 (fun h => h))
      have d0' : w5.cell? ⟨b, off + k * 7, none⟩ = some (.int .i64 kind) := (hm5.cell (p := ⟨b, off + k * 7, none⟩) hbk (fun h => h)).trans d0
      clear hk8 hm5 d0 d1c d2c d3 d4 d5 d6 HR8
      by_cases hk0 : k8 = 0
      case neg =>
        have hk0' : (k8 != 0) = true := by simp [hk0]
        clear hk0
        go_wp2_with fail
        refine (HEY.out _ (M5.out)).mono ?_
        rintro e wz ⟨rfl, hmz⟩
        go_wp2
        go_ret
        exact ⟨rfl, (M5.out).trans' hmz⟩
      subst hk0
      have HCOK := Lib.hid (HK8.out rfl)
      go_wp2_with fail
      refine (HR7.out _).mono ?_
      rintro e w6 ⟨rfl, rfl⟩
      cases hb1 with
      | false =>
        go_wp2_with fail
        refine (HEY.out _ (M5.out)).mono ?_
        rintro e wz ⟨rfl, hmz⟩
        go_wp2
        go_ret
        exact ⟨rfl, (M5.out).trans' hmz⟩
      | true =>
      by_cases h6 : kind = 6
      · subst h6
        go_wp2_with fail
        refine (HEY.out _ (M5.out)).mono ?_
        rintro e wz ⟨rfl, hmz⟩
        go_wp2
        go_ret
        exact ⟨rfl, (M5.out).trans' hmz⟩
      · have h6' : (kind == 6) = false := by simp [h6]
        have HN := Lib.hid (take_more HALL.out HCKK.out (p := GoodM) ⟨HCOK.out, HHB.out.symm, h6⟩)
        clear h6
        go_wp2
        go_roundw
        case rel => exact ⟨k + 1, by omega, by go_num, HN.out, B5.out, M5.out⟩
        case measure => simp [intOf]; omega
    · have hkn : ¬ (k : Int) < n3 := by omega
      have HALLC := Lib.hid (take_all (p := GoodM) HALL.out (by have := HL.out.2.2; omega))
      have hs1 : s = ⟨1, s.pairs, s.sess⟩ := by
        obtain ⟨v, ps, ss⟩ := s
        have := HV.out
        simp only at this
        rw [← this]
      have e0 := hb.cell 0
      have e1 := hb.cell 1
      have e2 := hb.cell 2
      simp at e0 e1 e2
      have HOK1 : Hid (St.Ok ⟨1, s.pairs, s.sess⟩) := by show St.Ok _; rw [← hs1]; exact HOK.out
      have HEN := Lib.hid (snapone_Encode s.pairs s.sess A1 A2 n1 c1 n2 c2 R1 R2 wr (h1.mod hm fun _ _ _ h => h) (h2.mod hm fun _ _ _ h => h) HOK1.out (hT.non hm))
      obtain ⟨ps, hps⟩ : ∃ ps, ps = s.pairs := ⟨_, rfl⟩
      obtain ⟨ss, hss⟩ : ∃ ss, ss = s.sess := ⟨_, rfl⟩
      rw [← hps, ← hss] at HEN HOK1
      obtain ⟨l1, hl1⟩ : ∃ l1, l1 = senc ⟨1, ps, ss⟩ := ⟨_, rfl⟩
      obtain ⟨l2, hl2⟩ : ∃ l2, l2 = senc ⟨2, rev 1 ps, ss⟩ := ⟨_, rfl⟩
      have hsl1 : l1.length ≤ 7300 := by rw [hl1]; exact senc_length HOK1.out
      have hsl2 : l2.length ≤ 7300 := by rw [hl2]; exact senc_length (ok_up HOK1.out)
      rw [← hl1] at HEN
      have HS1 := Lib.hid hl1
      have HS2 := Lib.hid hl2
      clear hl1 hl2 hs1 hps hss hb HALL h1 h2
      go_wp2_with fail
      refine HEN.out.mono ?_
      rintro e w4 ⟨x4, rfl, o4, hm4⟩
      have m4 := hm.trans' hm4
      obtain ⟨A4, n4, c4, rfl, hn4, hc4⟩ := o4.form
      have hn4' : n4 ≤ 7300 := by rw [hn4.out]; exact hsl1
      have r4 := o4.reads
      have HMI := Lib.hid (by have := snaptwo_Migrate ps ss A4 n4 c4 _ w4 (by rw [← HS1.out]; exact r4) HOK1.out (hT.non m4) (by omega); rw [← HS2.out] at this; exact this)
      clear e0 e1 e2 hm hm4 hn4 o4 HEN hsl1
      go_wp2_with fail
      refine HMI.out.mono ?_
      rintro e w5 ⟨x5, rfl, o5, hm5⟩
      have m5 := m4.trans' hm5
      obtain ⟨A5, n5, c5, rfl, hn5, hc5⟩ := o5.form
      have hn5' : n5 ≤ 7300 := by rw [hn5.out]; exact hsl2
      have r5 := o5.reads
      have r4' := r4.mod hm5 fun _ _ _ h => h
      have HG1 := Lib.hid (snaptwo_Get 1 (.inl rfl) ps ss A4 n4 c4 _ w5 (by rw [show (⟨((1 : Nat) : Int), ps, ss⟩ : St) = ⟨1, ps, ss⟩ from rfl, ← HS1.out]; exact r4') HOK1.out (hT.non m5) (by omega))
      clear r4 r4' hm5 o5 hn5 m4 HMI hsl2
      go_wp2_with fail
      refine HG1.out.mono ?_
      rintro e w6 ⟨y1, y2, rfl, p6, s6, hm6⟩
      have m6 := m5.trans' hm6
      obtain ⟨A6, n6, c6, rfl, hn6, hc6⟩ := p6.form
      obtain ⟨A7, n7, c7, rfl, hn7, hc7⟩ := s6.form
      have rp6 := p6.reads
      have rs6 := s6.reads
      have r5' := (r5.mod hm6 fun _ _ _ h => h).alloc (.cells #[.int .i64 1, .slice A6 n6 c6, .slice A7 n7 c7] 25)
      have m6' := m6.alloc (.cells #[.int .i64 1, .slice A6 n6 c6, .slice A7 n7 c7] 25)
      have rp6' := rp6.alloc (.cells #[.int .i64 1, .slice A6 n6 c6, .slice A7 n7 c7] 25)
      have rs6' := rs6.alloc (.cells #[.int .i64 1, .slice A6 n6 c6, .slice A7 n7 c7] 25)
      have b6 := Blk.new w6 25 #[.int .i64 1, .slice A6 n6 c6, .slice A7 n7 c7]
      have HG2 := Lib.hid (snaptwo_Get 2 (.inr rfl) (rev 1 ps) ss A5 n5 c5 _ _ (by rw [show (⟨((2 : Nat) : Int), rev 1 ps, ss⟩ : St) = ⟨2, rev 1 ps, ss⟩ from rfl, ← HS2.out]; exact r5') (ok_up HOK1.out) (hT.non m6') (by omega))
      clear r5 r5' hm6 m6 p6 s6 rp6 rs6 m5 HG1 hn6 hn7
      have hz6 := b6.lt
      go_wp2_with fail
      refine HG2.out.mono ?_
      rintro e w7 ⟨y1, y2, rfl, p7, s7, hm7⟩
      have m7 := m6'.trans' hm7
      obtain ⟨A8, n8, c8, rfl, hn8, hc8⟩ := p7.form
      obtain ⟨A9, n9, c9, rfl, hn9, hc9⟩ := s7.form
      have HN8 : Hid (n8 = (rev 1 ps).length) := hn8.out
      have hn8' : n8 ≤ 64 := by rw [HN8.out, rev_length]; exact HOK1.out.pairs.few
      have rp8 := p7.reads.alloc (.cells #[.int .i64 2, .slice A8 n8 c8, .slice A9 n9 c9] 25)
      have rs8 := s7.reads.alloc (.cells #[.int .i64 2, .slice A8 n8 c8, .slice A9 n9 c9] 25)
      have rp7 := (rp6'.mod hm7 fun _ _ _ h => h).alloc (.cells #[.int .i64 2, .slice A8 n8 c8, .slice A9 n9 c9] 25)
      have rs7 := (rs6'.mod hm7 fun _ _ _ h => h).alloc (.cells #[.int .i64 2, .slice A8 n8 c8, .slice A9 n9 c9] 25)
      have b7 := (b6.mod hm7 (fun h => h)).alloc (.cells #[.int .i64 2, .slice A8 n8 c8, .slice A9 n9 c9] 25)
      have b8 := Blk.new w7 25 #[.int .i64 2, .slice A8 n8 c8, .slice A9 n9 c9]
      have m8 := m7.alloc (.cells #[.int .i64 2, .slice A8 n8 c8, .slice A9 n9 c9] 25)
      obtain ⟨W8, hW8⟩ : ∃ W8, W8 = w7.alloc (.cells #[.int .i64 2, .slice A8 n8 c8, .slice A9 n9 c9] 25) := ⟨_, rfl⟩
      rw [← hW8] at rp8 rs8 rp7 rs7 b7 b8 m8
      have HW8 := Lib.hid hW8
      clear p7 s7 hm7 m7 rp6' rs6' b6 hn8 hn9 m6' hW8 HG2
      go_wp2_with (with_reducible (show wpList _ _ _ (⟨some 103, _, _, _, _, _⟩ :: _) _ _); refine Hid.out ?_)
      rw [← HW8.out]
      have hb7 := b7.lt
      have f0 := b8.cell 0
      have f1 := b8.cell 1
      simp at f0 f1
      have HB7 := Lib.hid b7
      have HB8 := Lib.hid b8
      clear b7 b8
      refine Lib.hid ?_
      obtain ⟨wo, hwo⟩ : ∃ wo, wo = wr := ⟨_, rfl⟩
      go_wp2
      go_loopw [14] (fun i wr => ∃ k : Nat, k ≤ n8 ∧ i = .int .i64 k ∧ W8 = wr) (fun i _ => n8 - (intOf i).toNat)
      case atStart => exact ⟨0, by omega, rfl, rfl⟩
      case round =>
        obtain ⟨j, hj, rfl, rfl⟩ := hrel
        by_cases hjt : j < n8
        · obtain ⟨b9, off9, p9, hA9, _, _, hp9, _, _, z2⟩ := rp8.pa hjt
          subst hA9
          have hjn : (j : Int) < n8 := by omega
          have hr1 : p9.rev = 1 := by
            obtain ⟨p0, _, rfl⟩ := List.mem_map.1 (List.mem_of_getElem? hp9)
            rfl
          rw [hr1] at z2
          clear hp9 hr1
          go_wp2
          go_roundw
          case rel => exact ⟨j + 1, by omega, by go_num, trivial⟩
          case measure => simp [intOf]; omega
        · have hjn : ¬ (j : Int) < n8 := by omega
          have b7 := HB7.out
          have b8 := HB8.out
          have k0 := b7.cell 0
          have k1 := b7.cell 1
          have k2 := b7.cell 2
          simp at k0 k1 k2
          have hoks : ∀ c ∈ cs, c.Ok := fun c hc => (HALLC.out c hc).1
          have hrun1 := app_Run ⟨1, ps, ss⟩ cs A6 A7 A3 n6 c6 n7 c7 n3 c3 _ _ _ W8 rp7 rs7 (h3.mod m8 fun _ _ _ h => h) HOK1.out hoks (hT.non m8) (by omega)
          have hal := runP_alike (alike_up HOK1.out rfl) (fun c hc => (HALLC.out c hc).2)
          simp only at hal
          obtain ⟨rx, hrx⟩ : ∃ rx, rx = runP ⟨1, ps, ss⟩ cs := ⟨_, rfl⟩
          obtain ⟨ry, hry⟩ : ∃ ry, ry = runP ⟨2, rev 1 ps, ss⟩ cs := ⟨_, rfl⟩
          rw [← hrx] at hrun1 hal
          rw [← hry] at hal
          have hxok : rx.1.Ok := by rw [hrx]; exact runP_ok HOK1.out hoks
          have hyok : ry.1.Ok := by rw [hry]; exact runP_ok (ok_up HOK1.out) hoks
          have hxl : rx.2.length ≤ 60 := by rw [hrx, runP_length]; have := HL.out.2.2; omega
          have HAL := Lib.hid hal
          have HXO := Lib.hid hxok
          have HYO := Lib.hid hyok
          have HRX := Lib.hid hrx
          have HRY := Lib.hid hry
          have HR1 := Lib.hid hrun1
          clear hal hxok hyok hrx hry hrun1
          obtain ⟨xt, xan⟩ := rx
          obtain ⟨yt, yan⟩ := ry
          simp only at HAL HXO HYO HR1 hxl
          skip
          go_wp2_with fail
          refine HR1.out.mono ?_
          rintro e w9 ⟨u9, v9, rfl, hu9, ho9, hm9⟩
          obtain ⟨B1, p1, d1, B2, p2, d2, rfl, q1, q2⟩ := hu9
          obtain ⟨A10, n10, c10, rfl, hn10, hc10⟩ := ho9.form
          have HN10 : Hid (n10 = xan.length) := hn10.out
          have ra := ho9.reads
          obtain ⟨xv, hxv⟩ : ∃ xv, xv = xt.schema := ⟨_, rfl⟩
          rw [← hxv]
          have HXV := Lib.hid hxv
          have m9 := m8.trans' hm9
          have ma := (Mod.refl Non w9).alloc (.cells #[.int .i64 xv, .slice B1 p1 d1, .slice B2 p2 d2] 25)
          have m9a := m9.alloc (.cells #[.int .i64 xv, .slice B1 p1 d1, .slice B2 p2 d2] 25)
          have xb := Blk.new w9 25 #[.int .i64 xv, .slice B1 p1 d1, .slice B2 p2 d2]
          have b8a := (b8.mod hm9 (fun h => h)).alloc (.cells #[.int .i64 xv, .slice B1 p1 d1, .slice B2 p2 d2] 25)
          have hrun2 := app_Run ⟨2, rev 1 ps, ss⟩ cs A8 A9 A3 n8 c8 n9 c9 n3 c3 _ _ _ _ ((rp8.mod hm9 fun _ _ _ h => h).mod ma fun _ _ _ h => h) ((rs8.mod hm9 fun _ _ _ h => h).mod ma fun _ _ _ h => h) (h3.mod m9a fun _ _ _ h => h) (ok_up HOK1.out) (fun c hc => (HALLC.out c hc).1) (hT.non m9a) (by omega)
          rw [← HRY.out] at hrun2
          simp only at hrun2
          have qa1 := q1.mod ma fun _ _ _ h => h
          have qa2 := q2.mod ma fun _ _ _ h => h
          have raa := ra.mod ma fun _ _ _ h => h
          obtain ⟨W9, hW9⟩ : ∃ W9, W9 = w9.alloc (.cells #[.int .i64 xv, .slice B1 p1 d1, .slice B2 p2 d2] 25) := ⟨_, rfl⟩
          rw [← hW9] at hrun2 qa1 qa2 raa xb b8a m9a
          have HW9 := Lib.hid hW9
          have HR2 := Lib.hid hrun2
          clear hrun2 hW9 ma m9 hm9 ho9 hn10 q1 q2 ra hxv b7 b8 k0 k1 k2 HR1 rp7 rs7 rp8 rs8 HB7 HB8 m8
          go_wp2_with (with_reducible (show wpList _ _ _ (⟨some 129, _, _, _, _, _⟩ :: _) _ _); refine Hid.out ?_)
          rw [← HW9.out]
          have k0 := b8a.cell 0
          have k1 := b8a.cell 1
          have k2 := b8a.cell 2
          simp at k0 k1 k2
          refine Lib.hid ?_
          go_wp2_with fail
          refine HR2.out.mono ?_
          rintro e w10 ⟨u10, v10, rfl, hu10, ho10, hm10⟩
          obtain ⟨C1, g1, e1, C2, g2, e2, rfl, t1, t2⟩ := hu10
          obtain ⟨A11, n11, c11, rfl, hn11, hc11⟩ := ho10.form
          have HN11 : Hid (n11 = yan.length) := hn11.out
          have rb := ho10.reads
          obtain ⟨yv, hyv⟩ : ∃ yv, yv = yt.schema := ⟨_, rfl⟩
          rw [← hyv]
          have HYV := Lib.hid hyv
          have m10 := m9a.trans' hm10
          have mb := (Mod.refl Non w10).alloc (.cells #[.int .i64 yv, .slice C1 g1 e1, .slice C2 g2 e2] 25)
          have m11 := m10.alloc (.cells #[.int .i64 yv, .slice C1 g1 e1, .slice C2 g2 e2] 25)
          have yb := Blk.new w10 25 #[.int .i64 yv, .slice C1 g1 e1, .slice C2 g2 e2]
          have xb1 := (xb.mod hm10 (fun h => h)).alloc (.cells #[.int .i64 yv, .slice C1 g1 e1, .slice C2 g2 e2] 25)
          have qb1 := (qa1.mod hm10 fun _ _ _ h => h).mod mb fun _ _ _ h => h
          have qb2 := (qa2.mod hm10 fun _ _ _ h => h).mod mb fun _ _ _ h => h
          have rab := (raa.mod hm10 fun _ _ _ h => h).mod mb fun _ _ _ h => h
          have tb1 := t1.mod mb fun _ _ _ h => h
          have tb2 := t2.mod mb fun _ _ _ h => h
          have rbb := rb.mod mb fun _ _ _ h => h
          obtain ⟨W, hW⟩ : ∃ W, W = w10.alloc (.cells #[.int .i64 yv, .slice C1 g1 e1, .slice C2 g2 e2] 25) := ⟨_, rfl⟩
          rw [← hW] at m11 yb xb1 qb1 qb2 rab tb1 tb2 rbb
          have HW := Lib.hid hW
          clear hW mb m10 hm10 ho10 hn11 t1 t2 rb hyv qa1 qa2 raa xb b8a m9a k0 k1 k2 HR2
          have hann : xan = yan := HAL.out.1
          subst hann
          have hn1011 : n11 = n10 := by rw [HN11.out, HN10.out]
          subst hn1011
          have HAN := Lib.hid (fun w' (h : Mod Non W w') => ref28_Answers A10 A11 n11 c10 c11 _ _ xan w' (rab.mod h fun _ _ _ h => h) (rbb.mod h fun _ _ _ h => h) (by rw [HN11.out]; omega))
          have hxf := HXO.out.pairs.few
          have hyf := HYO.out.pairs.few
          have HRV1 := Lib.hid (fun w' (h : Mod Non W w') => ref25_Revs xt 0 0 B1 B2 p1 d1 p2 d2 _ _ w' (qb1.mod h fun _ _ _ h => h) (qb2.mod h fun _ _ _ h => h) (by have := qb1.1; rw [pcs_length] at this; omega))
          have HRV2 := Lib.hid (fun w' (h : Mod Non W w') => ref25_Revs yt 0 0 C1 C2 g1 e1 g2 e2 _ _ w' (tb1.mod h fun _ _ _ h => h) (tb2.mod h fun _ _ _ h => h) (by have := tb1.1; rw [pcs_length] at this; omega))
          rw [← HXV.out] at HRV1
          rw [← HYV.out] at HRV2
          have HEQ : Hid ((⟨0, rev 0 xt.pairs, xt.sess⟩ : St) = ⟨0, rev 0 yt.pairs, yt.sess⟩) := by
            show _ = _
            obtain ⟨_, _, a3, a4⟩ := HAL.out.2
            rw [a3, a4, rev_rev]
          have HEY2 : Hid (∀ w', Mod Non W w' → Calls Tryz.prog 8 #[] w' fun e w'' => e = .returned (.bool true) ∧ Mod Non w' w'') := fun w' h => HEY.out w' (m11.trans' h)
          have hsm1 : (rev 0 xt.pairs).length ≤ 100000 := by rw [rev_length]; omega
          have hsm2 : xt.sess.length ≤ 100000 := HXO.out.few
          have HSM := Lib.hid (show _ ∧ _ from ⟨hsm1, hsm2⟩)
          have HM11 := Lib.hid m11
          have xk0 := xb1.cell 0
          have xk1 := xb1.cell 1
          have xk2 := xb1.cell 2
          have yk0 := yb.cell 0
          have yk1 := yb.cell 1
          have yk2 := yb.cell 2
          simp at xk0 xk1 xk2 yk0 yk1 yk2
          have HXB := Lib.hid (fun w' (h : Mod Non W w') => xb1.mod h (fun h => h))
          have HYB := Lib.hid (fun w' (h : Mod Non W w') => yb.mod h (fun h => h))
          clear qb1 qb2 tb1 tb2 rab rbb m11 hxf hyf hsm1 hsm2 xb1 yb
          go_wp2_with (with_reducible (show Code.wp _ (Code.region 21 _ _) _ _ _); refine Hid.out ?_)
          rw [← HW.out]
          refine Lib.hid ?_
          refine wp_region_held_drew (S := (fun w' => w'.cell? ⟨w9.heap.size, 0, none⟩ = some (.int .i64 xv) ∧ w'.cell? ⟨w9.heap.size, 1, none⟩ = some (.slice B1 p1 d1) ∧ w'.cell? ⟨w9.heap.size, 2, none⟩ = some (.slice B2 p2 d2) ∧ w'.cell? ⟨w10.heap.size, 0, none⟩ = some (.int .i64 yv) ∧ w'.cell? ⟨w10.heap.size, 1, none⟩ = some (.slice C1 g1 e1) ∧ w'.cell? ⟨w10.heap.size, 2, none⟩ = some (.slice C2 g2 e2) ∧ Mod Non W w')) (by kernel_rfl) (⟨by simpa using xk0, by simpa using xk1, by simpa using xk2, by simpa using yk0, by simpa using yk1, by simpa using yk2, (Mod.refl _ _).drew⟩) (fun hHeld => ?_)
          refine take_run (i := 0) (some 135) rfl rfl (by kernel_rfl) (by kernel_rfl) (by kernel_rfl) (fun _ _ _ h => h) rfl (by assumption) (by intro w hSw; (try dsimp only at hSw); go_simp; (try with_reducible rfl)) ?_
          simp only [Act.put, List.setIfInBounds_toArray, List.set_cons_zero, List.set_cons_succ]
          refine take_run (i := 1) (some 136) rfl rfl (by kernel_rfl) (by kernel_rfl) (by kernel_rfl) (fun _ _ _ h => h) rfl (by assumption) (by intro w hSw; (try dsimp only at hSw); go_simp; (try with_reducible rfl)) ?_
          simp only [Act.put, List.setIfInBounds_toArray, List.set_cons_zero, List.set_cons_succ]
          refine take_run (i := 2) (some 137) rfl rfl (by kernel_rfl) (by kernel_rfl) (by kernel_rfl) (fun _ _ _ h => h) rfl (by assumption) (by intro w hSw; (try dsimp only at hSw); go_simp; (try with_reducible rfl)) ?_
          simp only [Act.put, List.setIfInBounds_toArray, List.set_cons_zero, List.set_cons_succ]
          refine take_run (i := 3) (some 138) rfl rfl (by kernel_rfl) (by kernel_rfl) (by kernel_rfl) (fun _ _ _ h => h) rfl (by assumption) (by intro w hSw; (try dsimp only at hSw); go_simp; (try with_reducible rfl)) ?_
          simp only [Act.put, List.setIfInBounds_toArray, List.set_cons_zero, List.set_cons_succ]
          refine take_run (i := 4) (some 139) rfl rfl (by kernel_rfl) (by kernel_rfl) (by kernel_rfl) (fun _ _ _ h => h) rfl (by assumption) (by intro w hSw; (try dsimp only at hSw); go_simp; (try with_reducible rfl)) ?_
          simp only [Act.put, List.setIfInBounds_toArray, List.set_cons_zero, List.set_cons_succ]
          refine take_run (i := 5) (some 140) rfl rfl (by kernel_rfl) (by kernel_rfl) (by kernel_rfl) (fun _ _ _ h => h) rfl (by assumption) (by intro w hSw; (try dsimp only at hSw); go_simp; (try with_reducible rfl)) ?_
          simp only [Act.put, List.setIfInBounds_toArray, List.set_cons_zero, List.set_cons_succ]
          refine take_run (i := 6) (some 141) rfl rfl (by kernel_rfl) (by kernel_rfl) (by kernel_rfl) (fun _ _ _ h => h) rfl (by assumption) (by intro w hSw; (try dsimp only at hSw); go_simp; (try with_reducible rfl)) ?_
          simp only [Act.put, List.setIfInBounds_toArray, List.set_cons_zero, List.set_cons_succ]
          refine take_run (i := 7) (some 142) rfl rfl (by kernel_rfl) (by kernel_rfl) (by kernel_rfl) (fun _ _ _ h => h) rfl (by assumption) (by intro w hSw; (try dsimp only at hSw); go_simp; (try with_reducible rfl)) ?_
          simp only [Act.put, List.setIfInBounds_toArray, List.set_cons_zero, List.set_cons_succ]
          refine take_run (i := 8) (some 143) rfl rfl (by kernel_rfl) (by kernel_rfl) (by kernel_rfl) (fun _ _ _ h => h) rfl (by assumption) (by intro w hSw; (try dsimp only at hSw); go_simp; (try with_reducible rfl)) ?_
          simp only [Act.put, List.setIfInBounds_toArray, List.set_cons_zero, List.set_cons_succ]
          refine wpAnyH_ready (rs := [9]) (by kernel_rfl) (by simp) ?_
          refine AllReadyH.cons rfl (fun K hK => ?_) AllReadyH.nil
          go_simp
          refine (HAN.out _ hHeld.2.2.2.2.2.2).mono ?_
          rintro e w13 ⟨rfl, hmz⟩
          have hn := hHeld.2.2.2.2.2.2.trans' hmz
          have xq := HXB.out _ hn
          have yq := HYB.out _ hn
          clear hHeld
          refine hK.out _ _ (⟨by simpa using xq.cell 0, by simpa using xq.cell 1, by simpa using xq.cell 2, by simpa using yq.cell 0, by simpa using yq.cell 1, by simpa using yq.cell 2, hn⟩) (fun hHeld => ?_)
          clear hK K
          refine take_run (i := 10) (some 145) rfl rfl (by kernel_rfl) (by kernel_rfl) (by kernel_rfl) (fun _ _ _ h => h) rfl (by assumption) (by intro w hSw; (try dsimp only at hSw); go_simp; (try with_reducible rfl)) ?_
          simp only [Act.put, List.setIfInBounds_toArray, List.set_cons_zero, List.set_cons_succ]
          refine take_run (i := 11) (some 146) rfl rfl (by kernel_rfl) (by kernel_rfl) (by kernel_rfl) (fun _ _ _ h => h) rfl (by assumption) (by intro w hSw; (try dsimp only at hSw); go_simp; (try with_reducible rfl)) ?_
          simp only [Act.put, List.setIfInBounds_toArray, List.set_cons_zero, List.set_cons_succ]
          refine take_run (i := 12) (some 147) rfl rfl (by kernel_rfl) (by kernel_rfl) (by kernel_rfl) (fun _ _ _ h => h) rfl (by assumption) (by intro w hSw; (try dsimp only at hSw); go_simp; (try with_reducible rfl)) ?_
          simp only [Act.put, List.setIfInBounds_toArray, List.set_cons_zero, List.set_cons_succ]
          refine take_run (i := 14) (some 149) rfl rfl (by kernel_rfl) (by kernel_rfl) (by kernel_rfl) (fun _ _ _ h => h) rfl (by assumption) (by intro w hSw; (try dsimp only at hSw); go_simp; (try with_reducible rfl)) ?_
          simp only [Act.put, List.setIfInBounds_toArray, List.set_cons_zero, List.set_cons_succ]
          refine wpAnyH_ready (rs := [13]) (by kernel_rfl) (by simp) ?_
          refine AllReadyH.cons rfl (fun K hK => ?_) AllReadyH.nil
          go_simp
          refine (HRV1.out _ hHeld.2.2.2.2.2.2).mono ?_
          rintro e w14 ⟨uz, rfl, huz, hmz⟩
          have hn := hHeld.2.2.2.2.2.2.trans' hmz
          have xq := HXB.out _ hn
          have yq := HYB.out _ hn
          clear hHeld
          refine hK.out _ _ (⟨by simpa using xq.cell 0, by simpa using xq.cell 1, by simpa using xq.cell 2, by simpa using yq.cell 0, by simpa using yq.cell 1, by simpa using yq.cell 2, hn⟩) (fun hHeld => ?_)
          clear hK K
          refine wpAnyH_ready (rs := [15]) (by kernel_rfl) (by simp) ?_
          refine AllReadyH.cons rfl (fun K hK => ?_) AllReadyH.nil
          go_simp
          refine (HRV2.out _ hHeld.2.2.2.2.2.2).mono ?_
          rintro e w15 ⟨uy, rfl, huy, hmz⟩
          have huz2 := huz.non hmz
          rw [← HEQ.out] at huy
          have hn := hHeld.2.2.2.2.2.2.trans' hmz
          have xq := HXB.out _ hn
          have yq := HYB.out _ hn
          clear hHeld
          refine hK.out _ _ (⟨by simpa using xq.cell 0, by simpa using xq.cell 1, by simpa using xq.cell 2, by simpa using yq.cell 0, by simpa using yq.cell 1, by simpa using yq.cell 2, hn⟩) (fun hHeld => ?_)
          clear hK K
          refine wpAnyH_ready (rs := [16]) (by kernel_rfl) (by simp) ?_
          refine AllReadyH.cons rfl (fun K hK => ?_) AllReadyH.nil
          go_simp
          refine (ref25_Same_v _ uz uy _ _ _ huz2 huy HSM.out.1 HSM.out.2).mono ?_
          rintro e w16 ⟨rfl, hmz⟩
          have hn := hHeld.2.2.2.2.2.2.trans' hmz
          have xq := HXB.out _ hn
          have yq := HYB.out _ hn
          clear hHeld
          refine hK.out _ _ (⟨by simpa using xq.cell 0, by simpa using xq.cell 1, by simpa using xq.cell 2, by simpa using yq.cell 0, by simpa using yq.cell 1, by simpa using yq.cell 2, hn⟩) (fun hHeld => ?_)
          clear hK K
          refine take_run (i := 17) (some 152) rfl rfl (by kernel_rfl) (by kernel_rfl) (by kernel_rfl) (fun _ _ _ h => h) rfl (by assumption) (by intro w hSw; (try dsimp only at hSw); go_simp; (try with_reducible rfl)) ?_
          simp only [Act.put, List.setIfInBounds_toArray, List.set_cons_zero, List.set_cons_succ]
          refine take_run (i := 18) (some 153) rfl rfl (by kernel_rfl) (by kernel_rfl) (by kernel_rfl) (fun _ _ _ h => h) rfl (by assumption) (by intro w hSw; (try dsimp only at hSw); go_simp; (try with_reducible rfl)) ?_
          simp only [Act.put, List.setIfInBounds_toArray, List.set_cons_zero, List.set_cons_succ]
          refine wpAnyH_ready (rs := [19]) (by kernel_rfl) (by simp) ?_
          refine AllReadyH.cons rfl (fun K hK => ?_) AllReadyH.nil
          go_simp
          refine (HEY2.out _ hHeld.2.2.2.2.2.2).mono ?_
          rintro e w17 ⟨rfl, hmz⟩
          have hn := hHeld.2.2.2.2.2.2.trans' hmz
          have xq := HXB.out _ hn
          have yq := HYB.out _ hn
          clear hHeld
          refine hK.out _ _ (⟨by simpa using xq.cell 0, by simpa using xq.cell 1, by simpa using xq.cell 2, by simpa using yq.cell 0, by simpa using yq.cell 1, by simpa using yq.cell 2, hn⟩) (fun hHeld => ?_)
          clear hK K
          refine take_run (i := 20) (some 155) rfl rfl (by kernel_rfl) (by kernel_rfl) (by kernel_rfl) (fun _ _ _ h => h) rfl (by assumption) (by intro w hSw; (try dsimp only at hSw); go_simp; (try with_reducible rfl)) ?_
          simp only [Act.put, List.setIfInBounds_toArray, List.set_cons_zero, List.set_cons_succ]
          refine take_run (i := 21) (some 4) rfl rfl (by kernel_rfl) (by kernel_rfl) (by kernel_rfl) (fun _ _ _ h => h) rfl (by assumption) (by intro w hSw; (try dsimp only at hSw); go_simp; (try with_reducible rfl)) ?_
          simp only [Act.put, List.setIfInBounds_toArray, List.set_cons_zero, List.set_cons_succ]
          refine wpAnyH_done (by kernel_rfl) ?_ _
          have MZ := Lib.hid (HM11.out.trans' hHeld.2.2.2.2.2.2)
          clear hHeld
          go_wp2
          go_ret
          exact ⟨rfl, MZ.out⟩
end Go.Proofs.YtdclfdinhdaadaaGreatDoor
