/- Package window: the contract of Apply at a command that may be. -/
import Derived.Test.YtdclfdinhdaadaaGreatDoorWinNoG
import Derived.Test.YtdclfdinhdaadaaGreatDoorSettleG
import Derived.Deep.Cut
import Derived.Deep.CutRange
namespace Go.Proofs.YtdclfdinhdaadaaGreatDoor
open Go.RowKit

/-- what a command does to all but the application: the function that 'does' answers, and its contract -/
theorem win_do (g B : Nat) (ix ac v : Int) (p s : Value) (cs : List Cf) (c : Cm) (hfew : cs.length ≤ 64) (hok : CfsOk cs) (hix : 1 ≤ ix ∧ ix ≤ 1000000) (hlate : ∀ x ∈ cs, x.from_ < ix + 4) :
    ∃ F : FuncId, doF g c.kind = .func (.func F) #[.pointer (some ⟨g, 0, none⟩)] #[] ∧ (∀ (args : Array Value) (W : World), (callFunc F args).run Tryz.prog W = .ok (.enter F args) W) ∧ ∀ w, WinB w B g ix ac v p s cs → B ≤ w.heap.size → Calls Tryz.prog F #[.pointer (some ⟨g, 0, none⟩), c.v] w fun e w' => e = .returned (.tuple #[]) ∧ WinB w' B g ix (if c.kind = 6 ∧ ac = 0 then ix else ac) v p s (cchg cs ix c) ∧ Mod (One g) w w' := by
  unfold doF
  by_cases hk : c.kind = 7 ∨ c.kind = 8
  · refine ⟨95, by rw [if_pos hk], fun _ _ => by kernel_rfl, fun w hw hB => ?_⟩
    refine (win_member g B ix ac v p s cs c w hw hB hfew hok hix hlate hk).mono ?_
    rintro e w' ⟨rfl, h1, h2⟩
    rw [if_neg (fun h => by rcases hk with hk | hk <;> rw [hk] at h <;> exact absurd h.1 (by decide))]
    exact ⟨rfl, h1, h2⟩
  · have hcc : cchg cs ix c = cs := by unfold cchg; rw [if_neg hk]
    rw [hcc]
    by_cases h6 : c.kind = 6
    · refine ⟨96, by rw [if_neg hk, if_pos h6], fun _ _ => by kernel_rfl, fun w hw hB => ?_⟩
      refine (win_activate g B ix ac v p s cs c w hw).mono ?_
      rintro e w' ⟨rfl, h1, h2⟩
      have e1 : (if c.kind = 6 ∧ ac = 0 then ix else ac) = if ac = 0 then ix else ac := by simp [h6]
      rw [e1]
      exact ⟨rfl, h1, h2⟩
    · refine ⟨97, by rw [if_neg hk, if_neg h6], fun _ _ => by kernel_rfl, fun w hw hB => ?_⟩
      refine (win_other g c w).mono ?_
      rintro e w' ⟨rfl, hm⟩
      rw [if_neg (fun h => h6 h.1)]
      exact ⟨rfl, hw.non hm, hm.non⟩

set_option maxRecDepth 100000 in
set_option maxHeartbeats 8000000 in
theorem window_Apply_yes (m : Im) (c : Cm) (A0 A1 A2 : Option Addr) (n0 c0 n1 c1 n2 c2 : Nat) (R0 R1 R2 : Nat → Prop) (w : World) (h0 : Confs w R0 A0 n0 m.confs) (h1 : Reads w R1 3 A1 n1 (pcs m.st.pairs)) (h2 : Reads w R2 8 A2 n2 (ecs m.st.sess)) (hrun : m.Run) (hix : m.index ≤ 100000) (hT : T8 w) (hc : c.Ok) :
    Calls Tryz.prog 19 #[imv m.index m.active (.slice A0 n0 c0) m.st.schema (.slice A1 n1 c1) (.slice A2 n2 c2), c.v] w fun e w' => ∃ u, e = .returned (.tuple #[u, (wapply m c).2.v, .int .i64 0]) ∧ ImV (fun k => w.heap.size ≤ k) w' u (wapply m c).1 ∧ Mod Non w w' := by
  have hok := hrun.ok
  have HWC := Lib.hid (fun w' (h : Mod Non w w') => window_Check m A0 A1 A2 n0 c0 n1 c1 n2 c2 R0 R1 R2 w' (h0.non h) (h1.mod h fun _ _ _ h => h) (h2.mod h fun _ _ _ h => h) hok (hT.non h))
  have HCC := Lib.hid (fun w' (h : Mod Non w w') => cmd_Check_err c w' (hT.non h))
  rw [ckErr_zero.2 hc] at HCC
  have HCL := Lib.hid (fun w' (h : Mod Non w w') => window_Clone m A0 A1 A2 n0 c0 n1 c1 n2 c2 R0 R1 R2 w' (h0.non h) (h1.mod h fun _ _ _ h => h) (h2.mod h fun _ _ _ h => h) hok)
  obtain ⟨wm, hwm⟩ : ∃ wm, wm = wapply m c := ⟨_, rfl⟩
  rw [← hwm]
  have hlate := cs_late hok.confs hok.index.1 fun c hc => (hrun.tail c hc).2
  obtain ⟨k1, k2, k3⟩ := cchg_ok (c := c) hok.confs ⟨hok.index.1, by omega⟩ hlate
  have hi0 : 0 ≤ m.index := hok.index.1
  have hlen := hrun.few
  have hok' := hok
  obtain ⟨ix, ac, cs, ⟨v, ps, ss⟩⟩ := m
  simp only at hix HWC HCL hlate k1 k2 k3 hi0 hlen
  have HDO := Lib.hid (fun g Bb p s => win_do g Bb (ix + 1) ac v p s cs c (by omega) hok'.confs ⟨by omega, by omega⟩ (fun x hx => by have := hlate x hx; omega))
  have HAP := Lib.hid (fun w' B1 B2 k1 d1 k2 d2 (h1 : Reads w' (fun _ => True) 3 B1 k1 (pcs ps)) (h2 : Reads w' (fun _ => True) 8 B2 k2 (ecs ss)) (hT : T8 w') => app_Apply ⟨v, ps, ss⟩ c B1 B2 k1 d1 k2 d2 _ _ w' h1 h2 hok'.st hc hT)
  have HTR := Lib.hid (fun w' B k d R (h : Confs w' R B k (cchg cs (ix + 1) c)) (hd : k ≤ d) => conf_Trim B k d R (cchg cs (ix + 1) c) (ix + 2) w' h hd (by have := h.len; omega) k1 (by omega))
  obtain ⟨ap, hap⟩ : ∃ ap, ap = applyP ⟨v, ps, ss⟩ c := ⟨_, rfl⟩
  obtain ⟨ac2, hac2⟩ : ∃ ac2, ac2 = if c.kind = 6 ∧ ac = 0 then ix + 1 else ac := ⟨_, rfl⟩
  obtain ⟨cs2, hcs2⟩ : ∃ cs2, cs2 = cchg cs (ix + 1) c := ⟨_, rfl⟩
  have HWM : Hid (wm = (⟨ix + 1, ac2, trim cs2 (ix + 2), ap.1⟩, ap.2)) := by show _ = _; rw [hwm, hap, hac2, hcs2]; rfl
  simp only [← hac2, ← hcs2] at HDO
  rw [← hcs2] at HTR
  simp only [← hap] at HAP
  obtain ⟨⟨v2, ps2, ss2⟩, ⟨xa, xb, xc, xd, xe, xf⟩⟩ := ap
  simp only at HAP
  have hT0 := Lib.hid hT
  obtain ⟨kind, client, seq, key, val, old, node⟩ := c
  simp only at HDO HCC HAP
  have m1 := ((((Mod.refl Non w).alloc (.cells (icells ix ac (.slice A0 n0 c0) v (.slice A1 n1 c1) (.slice A2 n2 c2)) 53)).alloc (.cells #[.int .i64 kind, .int .i64 client, .int .i64 seq, .string key, .string val, .string old, .int .i64 node] 33)).alloc (.cells (icells 0 0 (.slice none 0 0) 0 (.slice none 0 0) (.slice none 0 0)) 53)).alloc (.cells #[.int .i64 0, .int .i64 0, .int .i64 0, .bool false, .string ⟨#[]⟩, .int .i64 0] 57)
  have p1 := (((Blk.new w 53 (icells ix ac (.slice A0 n0 c0) v (.slice A1 n1 c1) (.slice A2 n2 c2))).alloc (.cells #[.int .i64 kind, .int .i64 client, .int .i64 seq, .string key, .string val, .string old, .int .i64 node] 33)).alloc (.cells (icells 0 0 (.slice none 0 0) 0 (.slice none 0 0) (.slice none 0 0)) 53)).alloc (.cells #[.int .i64 0, .int .i64 0, .int .i64 0, .bool false, .string ⟨#[]⟩, .int .i64 0] 57)
  have d1 : Blk _ (w.heap.size + 1) _ _ := ((Blk.new1 w (.cells (icells ix ac (.slice A0 n0 c0) v (.slice A1 n1 c1) (.slice A2 n2 c2)) 53) 33 #[.int .i64 kind, .int .i64 client, .int .i64 seq, .string key, .string val, .string old, .int .i64 node]).alloc (.cells (icells 0 0 (.slice none 0 0) 0 (.slice none 0 0) (.slice none 0 0)) 53)).alloc (.cells #[.int .i64 0, .int .i64 0, .int .i64 0, .bool false, .string ⟨#[]⟩, .int .i64 0] 57)
  have z1 : Blk _ (w.heap.size + 1 + 1) _ _ := (Blk.new2 w (.cells (icells ix ac (.slice A0 n0 c0) v (.slice A1 n1 c1) (.slice A2 n2 c2)) 53) (.cells #[.int .i64 kind, .int .i64 client, .int .i64 seq, .string key, .string val, .string old, .int .i64 node] 33) 53 (icells 0 0 (.slice none 0 0) 0 (.slice none 0 0) (.slice none 0 0))).alloc (.cells #[.int .i64 0, .int .i64 0, .int .i64 0, .bool false, .string ⟨#[]⟩, .int .i64 0] 57)
  have a1 : Blk _ (w.heap.size + 1 + 1 + 1) _ _ := Blk.new3 w (.cells (icells ix ac (.slice A0 n0 c0) v (.slice A1 n1 c1) (.slice A2 n2 c2)) 53) (.cells #[.int .i64 kind, .int .i64 client, .int .i64 seq, .string key, .string val, .string old, .int .i64 node] 33) (.cells (icells 0 0 (.slice none 0 0) 0 (.slice none 0 0) (.slice none 0 0)) 53) 57 #[.int .i64 0, .int .i64 0, .int .i64 0, .bool false, .string ⟨#[]⟩, .int .i64 0]
  have M1 := Lib.hid m1
  have P1 := Lib.hid p1
  have D1 := Lib.hid d1
  have Z1 := Lib.hid z1
  have A1' := Lib.hid a1
  have hix' : ix < 4294967292 := by omega
  have q1 : IntKind.i64.wrap (ix + 1) = ix + 1 := by rw [IntKind.wrap_i64]; omega
  have q2 : IntKind.i64.wrap (ix + 1 + 1) = ix + 2 := by rw [IntKind.wrap_i64]; omega
  clear hwm hap hac2 hcs2 hlate k1 k2 k3 hlen hc hok hok' hrun h0 h1 h2 hT m1 p1 d1 z1 a1
  go_enter Tryz.func19, Tryz.ntmps19
  go_wp2_with fail
  refine (HWC.out _ M1.out).mono ?_
  rintro e w1 ⟨rfl, hm1⟩
  have M2 := Lib.hid (M1.out.trans' hm1)
  have p2 := P1.out.mod hm1 (fun h => h)
  have d2 := D1.out.mod hm1 (fun h => h)
  have P2 := Lib.hid p2
  have D2 := Lib.hid d2
  have Z2 := Lib.hid (Z1.out.mod hm1 (fun h => h))
  have A2' := Lib.hid (A1'.out.mod hm1 (fun h => h))
  have e0 := p2.cell 0
  simp at e0
  have g0 := d2.cell 0
  have g1 := d2.cell 1
  have g2 := d2.cell 2
  have g3 := d2.cell 3
  have g4 := d2.cell 4
  have g5 := d2.cell 5
  have g6 := d2.cell 6
  simp at g0 g1 g2 g3 g4 g5 g6
  clear hm1 M1 P1 D1 Z1 A1' HWC p2 d2
  go_wp2_with fail
  refine (HCC.out _ M2.out).mono ?_
  rintro e w2 ⟨rfl, hm2⟩
  have M3 := Lib.hid (M2.out.trans' hm2)
  have p3 := P2.out.mod hm2 (fun h => h)
  have D3 := Lib.hid (D2.out.mod hm2 (fun h => h))
  have Z3 := Lib.hid (Z2.out.mod hm2 (fun h => h))
  have A3' := Lib.hid (A2'.out.mod hm2 (fun h => h))
  clear hm2 M2 P2 D2 Z2 A2' HCC e0 g0 g1 g2 g3 g4 g5 g6
  have e0 := p3.cell 0
  have e1 := p3.cell 1
  have e2 := p3.cell 2
  have e3 := p3.cell 3
  have e4 := p3.cell 4
  have e5 := p3.cell 5
  simp at e0 e1 e2 e3 e4 e5
  clear p3
  go_wp2_with fail
  refine (HCL.out _ M3.out).mono ?_
  rintro e w3 ⟨B0, k0, d0, B1, k1, d1, B2, k2, d2, rfl, hC, hkd, hP, hS, hm3⟩
  have M4 := Lib.hid (M3.out.trans' hm3)
  have d4 := D3.out.mod hm3 (fun h => h)
  have D4 := Lib.hid d4
  have Z4 := Lib.hid (Z3.out.mod hm3 (fun h => h))
  have A4' := Lib.hid (A3'.out.mod hm3 (fun h => h))
  have hlo : w.heap.size + 1 + 1 + 1 < w3.heap.size := A4'.out.lt
  have hlo1 : w.heap.size + 1 < w3.heap.size := by omega
  have hlo0 : w.heap.size + 1 + 1 + 1 < w2.heap.size := A3'.out.lt
  have hl23 : w2.heap.size ≤ w3.heap.size := hm3.size
  have g0 := d4.cell 0
  have g1 := d4.cell 1
  have g2 := d4.cell 2
  have g3 := d4.cell 3
  have g4 := d4.cell 4
  have g5 := d4.cell 5
  have g6 := d4.cell 6
  simp at g0 g1 g2 g3 g4 g5 g6
  clear hm3 M3 D3 Z3 A3' HCL e0 e1 e2 e3 e4 e5 d4
  obtain ⟨F, hF1, hEN, hF2⟩ := HDO.out w3.heap.size w2.heap.size (.slice B1 k1 d1) (.slice B2 k2 d2)
  have HDS : Hid (∀ w', Calls Tryz.prog 52 #[.pointer (some ⟨w3.heap.size, 0, none⟩), .int .i64 kind] w' fun e w'' => e = .returned (.func (.func F) #[.pointer (some ⟨w3.heap.size, 0, none⟩)] #[]) ∧ w' = w'') := by
    intro w'
    have := win_does w3.heap.size kind w'
    rw [hF1] at this
    exact this
  have HF2 := Lib.hid hF2
  obtain ⟨W4, hW4⟩ : ∃ W4, W4 = w3.alloc (.cells (icells (ix + 1) ac (.slice B0 k0 d0) v (.slice B1 k1 d1) (.slice B2 k2 d2)) 98) := ⟨_, rfl⟩
  have m4 : Mod Non w3 W4 := by rw [hW4]; exact (Mod.refl _ _).alloc _
  have HWB : Hid (WinB W4 w2.heap.size w3.heap.size (ix + 1) ac v (.slice B1 k1 d1) (.slice B2 k2 d2) cs) := by
    refine ⟨B0, k0, d0, by rw [hW4]; exact Blk.new _ _ _, ?_, hkd⟩
    exact (hC.more fun k hk h => ⟨h, by omega⟩).non m4
  have HW4 := Lib.hid hW4
  have HM4 := Lib.hid m4
  have HP3 := Lib.hid (hP.more (R' := fun k => w.heap.size ≤ k ∧ k < w3.heap.size) fun k hk h => ⟨by have h : w2.heap.size ≤ k := h; omega, hk⟩)
  have HS3 := Lib.hid (hS.more (R' := fun k => w.heap.size ≤ k ∧ k < w3.heap.size) fun k hk h => ⟨by have h : w2.heap.size ≤ k := h; omega, hk⟩)
  clear hW4 hF1 hF2 HDO hC hkd hP hS m4
  go_wp2_with fail
  refine (HDS.out _).mono ?_
  rintro e w4 ⟨rfl, rfl⟩
  go_wp2_with fail
  rw [← HW4.out]
  refine (HF2.out _ HWB.out (by have := HM4.out.size; omega)).mono ?_
  rintro e w5 ⟨rfl, ⟨B9, k9, d9, b5, hC5, hkd5⟩, hm5⟩
  have hm35 : Mod Non w3 w5 := HM4.out.trans hm5 fun i hi h => by unfold One at h; omega
  have M5 := Lib.hid (M4.out.trans' hm35)
  have BG5 := Lib.hid b5
  have Z5 := Lib.hid (Z4.out.mod hm35 (fun h => h))
  have A5' := Lib.hid (A4'.out.mod hm35 (fun h => h))
  have d5 := D4.out.mod hm35 (fun h => h)
  have HC5 := Lib.hid hC5
  have HP5 := Lib.hid ((HP3.out.mod hm35 fun _ _ _ h => h).more (R' := fun k => w.heap.size ≤ k ∧ k ≠ w3.heap.size) fun k _ h => ⟨h.1, by have := h.2; omega⟩)
  have HS5 := Lib.hid ((HS3.out.mod hm35 fun _ _ _ h => h).more (R' := fun k => w.heap.size ≤ k ∧ k ≠ w3.heap.size) fun k _ h => ⟨h.1, by have := h.2; omega⟩)
  have hlg := b5.lt
  have hlg1 : w.heap.size + 1 < w5.heap.size := by omega
  have hlg2 : w.heap.size + 1 < w5.heap.size + 1 := by omega
  have hlg3 : w3.heap.size < w5.heap.size + 1 := by omega
  have e0 := b5.cell 0
  have e1 := b5.cell 1
  have e2 := b5.cell 2
  have e3 := b5.cell 3
  have e4 := b5.cell 4
  have e5 := b5.cell 5
  simp at e0 e1 e2 e3 e4 e5
  clear g0 g1 g2 g3 g4 g5 g6
  have g0 := d5.cell 0
  have g1 := d5.cell 1
  have g2 := d5.cell 2
  have g3 := d5.cell 3
  have g4 := d5.cell 4
  have g5 := d5.cell 5
  have g6 := d5.cell 6
  simp at g0 g1 g2 g3 g4 g5 g6
  have HAP5 := Lib.hid (fun w' (h : Mod Non w5 w') => HAP.out w' B1 B2 k1 d1 k2 d2 ((HP5.out.mod h fun _ _ _ h => h).more fun _ _ _ => trivial) ((HS5.out.mod h fun _ _ _ h => h).more fun _ _ _ => trivial) (hT0.out.non (M5.out.trans' h)))
  clear hm5 hm35 b5 d5 hC5 M4 Z4 A4' D4 HP3 HS3 HDS HF2 HWB HW4 HM4 hEN HAP
  go_wp2_with fail
  go_cut [12, 13, 14] from 64 to 99 (fun s a r wx => ∃ S An w6 H E1 m1 f1 E2 m2 f2, s = .pointer (some ⟨S, 0, none⟩) ∧ a = .pointer (some ⟨An, 0, none⟩) ∧ r = .int .i64 0 ∧ Settled w5 w6 wx H S An 25 57 #[.int .i64 v2, .slice E1 m1 f1, .slice E2 m2 f2] #[.int .i64 xa, .int .i64 xb, .int .i64 xc, .bool xd, .string xe, .int .i64 xf] ∧ Reads w6 (fun k => H ≤ k) 3 E1 m1 (pcs ps2) ∧ Reads w6 (fun k => H ≤ k) 8 E2 m2 (ecs ss2))
  case first =>
    go_region_law (go_simp; go_at_call 42; refine (HAP5.out _ (by first | exact (Mod.refl _ _).drew | exact ((Mod.refl _ _).alloc _).drew | exact (((Mod.refl _ _).alloc _).alloc _).drew)).mono ?_; rintro e w6 ⟨u6, rfl, ⟨E1, m1, f1, E2, m2, f2, rfl, r61, r62⟩, hm6⟩; have h56 := hm6.size; simp only [World.size_alloc, World.size_drew] at h56; first | (have bs := ((Blk.new w5 25 #[.int .i64 0, .slice none 0 0, .slice none 0 0]).drew).mod hm6 (fun h => h); have bsc0 := bs.cell 0; have bsf0 := bs.frozen 0; have bsc1 := bs.cell 1; have bsf1 := bs.frozen 1; have bsc2 := bs.cell 2; have bsf2 := bs.frozen 2; have bsl := bs.lt; simp at bsc0 bsc1 bsc2) | (have ba := ((Blk.new w5 57 #[.int .i64 0, .int .i64 0, .int .i64 0, .bool false, .string ⟨#[]⟩, .int .i64 0]).drew).mod hm6 (fun h => h); have bac0 := ba.cell 0; have baf0 := ba.frozen 0; have bac1 := ba.cell 1; have baf1 := ba.frozen 1; have bac2 := ba.cell 2; have baf2 := ba.frozen 2; have bac3 := ba.cell 3; have baf3 := ba.frozen 3; have bac4 := ba.cell 4; have baf4 := ba.frozen 4; have bac5 := ba.cell 5; have baf5 := ba.frozen 5; have bal := ba.lt; simp at bac0 bac1 bac2 bac3 bac4 bac5) | ((have bs := (((Blk.new w5 25 #[.int .i64 0, .slice none 0 0, .slice none 0 0]).alloc (.cells #[.int .i64 0, .int .i64 0, .int .i64 0, .bool false, .string ⟨#[]⟩, .int .i64 0] 57)).drew).mod hm6 (fun h => h); have bsc0 := bs.cell 0; have bsf0 := bs.frozen 0; have bsc1 := bs.cell 1; have bsf1 := bs.frozen 1; have bsc2 := bs.cell 2; have bsf2 := bs.frozen 2; have bsl := bs.lt; simp at bsc0 bsc1 bsc2); (have ba := ((Blk.new1 w5 (.cells #[.int .i64 0, .slice none 0 0, .slice none 0 0] 25) 57 #[.int .i64 0, .int .i64 0, .int .i64 0, .bool false, .string ⟨#[]⟩, .int .i64 0]).drew).mod hm6 (fun h => h); have bac0 := ba.cell 0; have baf0 := ba.frozen 0; have bac1 := ba.cell 1; have baf1 := ba.frozen 1; have bac2 := ba.cell 2; have baf2 := ba.frozen 2; have bac3 := ba.cell 3; have baf3 := ba.frozen 3; have bac4 := ba.cell 4; have baf4 := ba.frozen 4; have bac5 := ba.cell 5; have baf5 := ba.frozen 5; have bal := ba.lt; simp at bac0 bac1 bac2 bac3 bac4 bac5)) | ((have bs := ((Blk.new1 w5 (.cells #[.int .i64 0, .int .i64 0, .int .i64 0, .bool false, .string ⟨#[]⟩, .int .i64 0] 57) 25 #[.int .i64 0, .slice none 0 0, .slice none 0 0]).drew).mod hm6 (fun h => h); have bsc0 := bs.cell 0; have bsf0 := bs.frozen 0; have bsc1 := bs.cell 1; have bsf1 := bs.frozen 1; have bsc2 := bs.cell 2; have bsf2 := bs.frozen 2; have bsl := bs.lt; simp at bsc0 bsc1 bsc2); (have ba := (((Blk.new w5 57 #[.int .i64 0, .int .i64 0, .int .i64 0, .bool false, .string ⟨#[]⟩, .int .i64 0]).alloc (.cells #[.int .i64 0, .slice none 0 0, .slice none 0 0] 25)).drew).mod hm6 (fun h => h); have bac0 := ba.cell 0; have baf0 := ba.frozen 0; have bac1 := ba.cell 1; have baf1 := ba.frozen 1; have bac2 := ba.cell 2; have baf2 := ba.frozen 2; have bac3 := ba.cell 3; have baf3 := ba.frozen 3; have bac4 := ba.cell 4; have baf4 := ba.frozen 4; have bac5 := ba.cell 5; have baf5 := ba.frozen 5; have bal := ba.lt; simp at bac0 bac1 bac2 bac3 bac4 bac5)) | skip)
    all_goals (try go_wp2_with fail)
    all_goals go_meet
    all_goals first
      | (have hq : Mod Non w5.drew w6 := by with_reducible exact hm6); (with_reducible exact ⟨_, _, w6, _, E1, m1, f1, E2, m2, f2, rfl, rfl, rfl, settle1_3 hm6, r61, r62⟩)
      | (have hq : Mod Non w5.drew w6 := by with_reducible exact hm6); (with_reducible exact ⟨_, _, w6, _, E1, m1, f1, E2, m2, f2, rfl, rfl, rfl, settle2_3 hm6, r61, r62⟩)
      | (have hq : Mod Non (w5.alloc (.cells #[.int .i64 0, .slice none 0 0, .slice none 0 0] 25)).drew w6 := by with_reducible exact hm6); (with_reducible exact ⟨_, _, w6, _, E1, m1, f1, E2, m2, f2, rfl, rfl, rfl, settle3_3 hm6, r61, r62⟩)
      | (have hq : Mod Non ((w5.alloc (.cells #[.int .i64 0, .slice none 0 0, .slice none 0 0] 25)).alloc (.cells #[.int .i64 0, .int .i64 0, .int .i64 0, .bool false, .string ⟨#[]⟩, .int .i64 0] 57)).drew w6 := by with_reducible exact hm6); (with_reducible exact ⟨_, _, w6, _, E1, m1, f1, E2, m2, f2, rfl, rfl, rfl, settle4_3 hm6, r61, r62⟩)
      | (have hq : Mod Non (w5.alloc (.cells #[.int .i64 0, .int .i64 0, .int .i64 0, .bool false, .string ⟨#[]⟩, .int .i64 0] 57)).drew w6 := by with_reducible exact hm6); (with_reducible exact ⟨_, _, w6, _, E1, m1, f1, E2, m2, f2, rfl, rfl, rfl, settle5_3 hm6, r61, r62⟩)
      | (have hq : Mod Non ((w5.alloc (.cells #[.int .i64 0, .int .i64 0, .int .i64 0, .bool false, .string ⟨#[]⟩, .int .i64 0] 57)).alloc (.cells #[.int .i64 0, .slice none 0 0, .slice none 0 0] 25)).drew w6 := by with_reducible exact hm6); (with_reducible exact ⟨_, _, w6, _, E1, m1, f1, E2, m2, f2, rfl, rfl, rfl, settle6_3 hm6, r61, r62⟩)
  case rest =>
    obtain ⟨S, An, w6, H6, E1, m1, f1, E2, m2, f2, rfl, rfl, rfl, hst, r61, r62⟩ := hcut
    have bs := hst.bs
    have bg := BG5.out.mod hst.mod (fun h => h)
    have Z6 := Lib.hid (Z5.out.mod hst.mod (fun h => h))
    have A6' := Lib.hid (A5'.out.mod hst.mod (fun h => h))
    have HC6 := Lib.hid (HC5.out.non hst.mod)
    have M6 := Lib.hid (M5.out.trans' hst.mod)
    have x0 := bs.cell 0
    have x1 := bs.cell 1
    have x2 := bs.cell 2
    simp at x0 x1 x2
    have y0 := bg.cell 0
    have y1 := bg.cell 1
    have y2 := bg.cell 2
    have y3 := bg.cell 3
    have y4 := bg.cell 4
    have y5 := bg.cell 5
    simp at y0 y1 y2 y3 y4 y5
    have fz0 := bg.frozen 0
    have fz1 := bg.frozen 1
    have fz2 := bg.frozen 2
    have fz3 := bg.frozen 3
    have fz4 := bg.frozen 4
    have fz5 := bg.frozen 5
    have hm7 := (((Mod.refl (One w3.heap.size) wc).setOne (i := 3) (.int .i64 v2)).setOne (i := 4) (.slice E1 m1 f1)).setOne (i := 5) (.slice E2 m2 f2)
    have bg7 : Blk _ w3.heap.size 98 (icells (ix + 1) ac2 (.slice B9 k9 d9) v2 (.slice E1 m1 f1) (.slice E2 m2 f2)) := ((bg.set_ 3 (.int .i64 v2)).set_ 4 (.slice E1 m1 f1)).set_ 5 (.slice E2 m2 f2)
    have z7 := Z6.out.mod hm7 (fun h => by unfold One at h; omega)
    have a7 := A6'.out.mod hm7 (fun h => by unfold One at h; omega)
    have c7 := HC6.out.mod hm7 (fun k _ h e => h.2 e)
    have q1' := (hst.reads r61).mod hm7 (fun k _ h e => by have h : w5.heap.size ≤ k ∧ k ≠ S ∧ k ≠ An := h; unfold One at e; omega)
    have q2' := (hst.reads r62).mod hm7 (fun k _ h e => by have h : w5.heap.size ≤ k ∧ k ≠ S ∧ k ≠ An := h; unfold One at e; omega)
    have ba7 := hst.ba.mod hm7 (fun h => by have := hst.a; unfold One at h; omega)
    have m7 := (((M6.out.setNew (g := w3.heap.size) (by omega) 3 (.int .i64 v2)).setNew (g := w3.heap.size) (by omega) 4 (.slice E1 m1 f1)).setNew (g := w3.heap.size) (by omega) 5 (.slice E2 m2 f2))
    obtain ⟨W7, hW7⟩ : ∃ W7, W7 = ((wc.setCell ⟨w3.heap.size, 3, none⟩ (.int .i64 v2)).setCell ⟨w3.heap.size, 4, none⟩ (.slice E1 m1 f1)).setCell ⟨w3.heap.size, 5, none⟩ (.slice E2 m2 f2) := ⟨_, rfl⟩
    rw [← hW7] at bg7 z7 a7 c7 q1' q2' ba7 m7
    have HW7 := Lib.hid hW7
    have BG7 := Lib.hid bg7
    have Z7 := Lib.hid z7
    have A7' := Lib.hid a7
    have HC7 := Lib.hid c7
    have Q1 := Lib.hid q1'
    have Q2 := Lib.hid q2'
    have BA7 := Lib.hid ba7
    have M7 := Lib.hid m7
    have hS5 := hst.s
    have hA5 := hst.a
    have t0 := bg7.cell 0
    have t2 := bg7.cell 2
    simp at t0 t2
    clear hst r61 r62 hm7 bg7 z7 a7 c7 q1' q2' ba7 m7 hW7 bg bs BG5 Z5 A5' HC5 M5 Z6 A6' HC6 M6 HP5 HS5 e0 e1 e2 e3 e4 e5 g0 g1 g2 g3 g4 g5 g6
    go_wp2_with fail
    rw [← HW7.out]
    clear x0 x1 x2 y0 y1 y2 y3 y4 y5 fz0 fz1 fz2 fz3 fz4 fz5
    go_cut [] from 79 to 99 (fun wx => ∃ B k d, Blk wx w3.heap.size 98 (icells (ix + 1) ac2 (.slice B k d) v2 (.slice E1 m1 f1) (.slice E2 m2 f2)) ∧ Confs wx (fun k => w2.heap.size ≤ k ∧ k ≠ w3.heap.size) B k (trim cs2 (ix + 2)) ∧ Mod (One w3.heap.size) W7 wx)
    case first =>
      go_region_law (go_simp; go_at_call 53; refine (HTR.out _ B9 k9 d9 _ (HC7.out.non ((Mod.refl _ _).drew)) hkd5).mono ?_; rintro e w8 ⟨v8, rfl, ho8, hm8⟩; have bg8 := BG7.out.drew.mod hm8 (fun h => h); have g82 : w8.cell? ⟨w3.heap.size, 2, none⟩ = some (.slice B9 k9 d9) := bg8.cell 2; have f82 := bg8.frozen 2; obtain ⟨n8, hn8⟩ : ∃ n8, n8 = (trim cs2 (ix + 2)).length := ⟨_, rfl⟩; obtain ⟨A8, c8, he8, hc8⟩ := ho8.len; rw [← hn8] at he8 hc8; have HN8 := Lib.hid hn8; clear hn8; subst he8)
      all_goals (try go_wp2_with fail)
      all_goals go_meet
      all_goals
        refine ⟨A8, n8, c8, bg8.set_ 2 _, ?_, (hm8.undrew.non).setOne _⟩
        have hcf := ho8.confs
        refine (hcf.more (R' := fun k => w2.heap.size ≤ k ∧ k ≠ w3.heap.size) fun j _ hj => ?_).mod (Mod.one _ w3.heap.size 2 _) fun j _ hj h => hj.2 h
        have hj : W7.heap.size ≤ j := hj
        have h1 := BG7.out.lt
        have h2 := M7.out.size
        omega
    case rest =>
      obtain ⟨B, k, d, bg, hcf, hmc⟩ := hcut
      have BG := Lib.hid bg
      have z8 := Z7.out.mod hmc (fun h => by unfold One at h; omega)
      have a8 := A7'.out.mod hmc (fun h => by unfold One at h; omega)
      have ba8 := BA7.out.mod hmc (fun h => by unfold One at h; omega)
      have HCF := Lib.hid hcf
      have Q18 := Lib.hid (Q1.out.mod hmc fun k _ h e => by have h : w5.heap.size ≤ k ∧ k ≠ S ∧ k ≠ An := h; unfold One at e; omega)
      have Q28 := Lib.hid (Q2.out.mod hmc fun k _ h e => by have h : w5.heap.size ≤ k ∧ k ≠ S ∧ k ≠ An := h; unfold One at e; omega)
      have M8 := Lib.hid (M7.out.trans hmc fun k hk h => by unfold One at h; omega)
      have x0 := bg.cell 0
      have x1 := bg.cell 1
      have x2 := bg.cell 2
      have x3 := bg.cell 3
      have x4 := bg.cell 4
      have x5 := bg.cell 5
      simp at x0 x1 x2 x3 x4 x5
      have y0 := ba8.cell 0
      have y1 := ba8.cell 1
      have y2 := ba8.cell 2
      have y3 := ba8.cell 3
      have y4 := ba8.cell 4
      have y5 := ba8.cell 5
      simp at y0 y1 y2 y3 y4 y5
      have u_0 := z8.cell 0
      have u_1 := z8.cell 1
      have u_2 := z8.cell 2
      have u_3 := z8.cell 3
      have u_4 := z8.cell 4
      have u_5 := z8.cell 5
      simp at u_0 u_1 u_2 u_3 u_4 u_5
      have v_0 := a8.cell 0
      have v_1 := a8.cell 1
      have v_2 := a8.cell 2
      have v_3 := a8.cell 3
      have v_4 := a8.cell 4
      have v_5 := a8.cell 5
      simp at v_0 v_1 v_2 v_3 v_4 v_5
      have p0 := z8.frozen 0
      have p1 := z8.frozen 1
      have p2 := z8.frozen 2
      have p3 := z8.frozen 3
      have p4 := z8.frozen 4
      have p5 := z8.frozen 5
      have r0 := a8.frozen 0
      have r1 := a8.frozen 1
      have r2 := a8.frozen 2
      have r3 := a8.frozen 3
      have r4 := a8.frozen 4
      have r5 := a8.frozen 5
      have hF := fill12 z8 a8 (by omega) (.int .i64 (ix + 1)) (.int .i64 ac2) (.slice B k d) (.int .i64 v2) (.slice E1 m1 f1) (.slice E2 m2 f2) (.int .i64 xa) (.int .i64 xb) (.int .i64 xc) (.bool xd) (.string xe) (.int .i64 xf)
      have HF := Lib.hid hF
      have HF' := Lib.hid (fill12 a8 z8 (by omega) (.int .i64 xa) (.int .i64 xb) (.int .i64 xc) (.bool xd) (.string xe) (.int .i64 xf) (.int .i64 (ix + 1)) (.int .i64 ac2) (.slice B k d) (.int .i64 v2) (.slice E1 m1 f1) (.slice E2 m2 f2))
      clear hF bg z8 a8 ba8 hcf hmc t0 t2 HTR HAP5 BG7 Z7 A7' HC7 Q1 Q2 BA7 HW7
      go_wp2_with fail
      go_region
      go_wp2_with fail
      refine bodyPost_ret (results_row_row_tmp rfl _ _ (w.heap.size + 1 + 1) 53 (icells (ix + 1) ac2 (.slice B k d) v2 (.slice E1 m1 f1) (.slice E2 m2 f2)) (0, 0) _ (w.heap.size + 1 + 1 + 1) 57 #[.int .i64 xa, .int .i64 xb, .int .i64 xc, .bool xd, .string xe, .int .i64 xf] (0, 0) _ rfl HF.out.1.drew Tryz.underlying53 rfl (by kernel_rfl) rfl HF.out.2.1.drew Tryz.underlying57 rfl (by kernel_rfl)) rfl ?_
      rw [HWM.out]
      have hFm := HF.out.2.2.2.drew
      refine ⟨_, rfl, ⟨B, k, d, E1, m1, f1, E2, m2, f2, rfl, ?_, ?_, ?_⟩, (HF.out.2.2.1 w (by omega) (by omega) M8.out).drew⟩
      · exact ((HCF.out.more (R' := fun j => w.heap.size + 1 + 1 + 1 < j) fun j _ hj => by have hj := hj.1; omega).mod hFm fun j _ hj h => by have hj : w.heap.size + 1 + 1 + 1 < j := hj; rcases h with h | h <;> omega).more fun j _ hj => by have hj : w.heap.size + 1 + 1 + 1 < j := hj; omega
      · exact (Q18.out.mod hFm fun j _ hj h => by have hj := hj.1; rcases h with h | h <;> omega).more fun j _ hj => by have hj := hj.1; omega
      · exact (Q28.out.mod hFm fun j _ hj h => by have hj := hj.1; rcases h with h | h <;> omega).more fun j _ hj => by have hj := hj.1; omega
end Go.Proofs.YtdclfdinhdaadaaGreatDoor
