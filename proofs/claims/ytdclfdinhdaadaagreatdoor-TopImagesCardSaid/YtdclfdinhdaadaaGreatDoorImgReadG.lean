/- Package image: the contract of read at the bytes of an image. -/
import Derived.Test.YtdclfdinhdaadaaGreatDoorImgConfsG
import Derived.Test.YtdclfdinhdaadaaGreatDoorWinDoG
namespace Go.Proofs.YtdclfdinhdaadaaGreatDoor
open Go.RowKit

theorem Blk.non' {w w' : World} {g : Nat} {t : TypeId} {cs : Array Value} (h : Blk w g t cs) (hm : Mod Non w w') : Blk w' g t cs := h.mod hm fun h => h

set_option maxRecDepth 100000 in
set_option maxHeartbeats 4000000 in
theorem image_read1 (ix ac : Int) (cs : List Cf) (ps : List Pa) (ss : List Se) (g a : Nat) (l : List UInt8) (w : World) (hr : Rd w g l a) (hd : l.drop a = vbytes ix.toNat ++ (vbytes cs.length ++ (cencs cs ++ (vbytes (senc ⟨1, ps, ss⟩).length ++ (senc ⟨1, ps, ss⟩ ++ []))))) (hok : Im.Ok ⟨ix, ac, cs, ⟨1, ps, ss⟩⟩) (hT : T8 w) (hg2 : 2 ≤ g) :
    Calls Tryz.prog 61 #[.pointer (some ⟨g, 0, none⟩), .int .i64 1] w fun e w' => ∃ u, e = .returned (.tuple #[u, .int .i64 0]) ∧ ImV (fun k => w.heap.size ≤ k) w' u ⟨ix, ac, cs, ⟨1, ps, ss⟩⟩ ∧ Mod (One g) w w' := by
  obtain ⟨i1, i2⟩ := hok.index
  obtain ⟨a1, a2⟩ := hok.active
  have hsc := hok.schema
  have hkc := hok.confs
  have hfew := hok.few
  have hst := hok.st
  simp only at i1 i2 a1 a2 hsc hkc hfew hst
  have hac : ac = 0 := by split at hsc; cases hsc; omega
  subst hac
  have hsl := senc_length hst
  obtain ⟨f1, hd1⟩ := at_num hd (by omega)
  have hd2 := hd1
  have hd3 := drop_next hd2
  have hd4 := drop_next hd3
  obtain ⟨f5, hd5⟩ := at_num hd4 (by omega)
  obtain ⟨se, hse⟩ : ∃ se, se = senc ⟨1, ps, ss⟩ := ⟨_, rfl⟩
  rw [← hse] at f5 hd4 hd5 hd2 hd1 hd hsl
  have hse1 : 1 ≤ se.length := by
    have := vbytes_pos ((1 : Int)).toNat
    rw [hse]; unfold senc; simp only [List.length_append]; omega
  have hlen := congrArg List.length hd5
  rw [List.length_drop] at hlen
  simp only [List.append_nil] at hlen hd5
  obtain ⟨t1, ht1⟩ : ∃ t1, t1 = (vbytes ix.toNat).length := ⟨_, rfl⟩
  obtain ⟨t2, ht2⟩ : ∃ t2, t2 = 0 := ⟨_, rfl⟩
  obtain ⟨t3, ht3⟩ : ∃ t3, t3 = (vbytes cs.length).length := ⟨_, rfl⟩
  obtain ⟨t4, ht4⟩ : ∃ t4, t4 = (cencs cs).length := ⟨_, rfl⟩
  obtain ⟨t5, ht5⟩ : ∃ t5, t5 = (vbytes se.length).length := ⟨_, rfl⟩
  obtain ⟨sl, hsl'⟩ : ∃ sl, sl = se.length := ⟨_, rfl⟩
  obtain ⟨xi, hxi⟩ : ∃ xi : Nat, xi = ix.toNat := ⟨_, rfl⟩
  have hxii : (xi : Int) = ix := by omega
  obtain ⟨xa, hxa⟩ : ∃ xa : Nat, xa = (0 : Int).toNat := ⟨_, rfl⟩
  have hxai : (xa : Int) = 0 := by omega
  have hal := hr.len.1
  simp only [← ht1, ← ht3, ← ht4, ← ht5] at f1 f5 hd2 hd5 hlen
  simp only [← hsl', ← hxi] at f1 f5 hlen
  have hvp := vbytes_pos ix.toNat
  have HF1 := Lib.hid f1
  have HF5 := Lib.hid f5
  have HD2 : Hid (l.drop (a + t1) = vbytes cs.length ++ (cencs cs ++ (vbytes se.length ++ (se ++ [])))) := hd2
  have HD5 : Hid (l.drop (a + t1 + t3 + t4 + t5) = se) := hd5
  have hfit : a + t1 + t3 + t4 + t5 + sl ≤ l.length := by omega
  have HEND : Hid (a + t1 + t3 + t4 + t5 + sl = l.length) := by show _ = _; omega
  have HCO : Hid (∀ c ∈ cs, MemOk c.mem ∧ 0 ≤ c.from_ ∧ c.from_ ≤ 4294967296) := fun c hc => ⟨(hkc.each c hc).1, by have := from_pos hkc c hc; omega, (hkc.each c hc).2⟩
  have HSE := Lib.hid hse
  have HSL : Hid (sl = se.length) := hsl'
  have HT34 : Hid (t3 = (vbytes cs.length).length ∧ t4 = (cencs cs).length) := ⟨ht3, ht4⟩
  have HOK := Lib.hid hok
  have HST := Lib.hid hst
  have HT := Lib.hid hT
  have hsl2 : sl ≤ 7300 := by omega
  have hgl := hr.lt
  have z0 := Blk.new w 53 (icells 0 0 (.slice none 0 0) 0 (.slice none 0 0) (.slice none 0 0))
  have m0 := (Mod.refl Non w).alloc (.cells (icells 0 0 (.slice none 0 0) 0 (.slice none 0 0) (.slice none 0 0)) 53)
  have hr0 := hr.non m0
  have hT2 := hT.1
  clear hd hd1 hd2 hd3 hd4 hd5 f1 f5 hlen ht1 ht2 ht3 ht4 ht5 hxi hxa hsc hkc hfew hst hok hsl hse hsl' hr hal hvp hT
  go_enter Tryz.func61, Tryz.ntmps61
  go_wp2_with fail
  refine (rd_Number g a xi t1 l 9223372036854775807 _ hr0 HF1.out (by omega)).mono ?_
  rintro e w1 ⟨rfl, hr1, hm1⟩
  rw [hxii]
  have Z1 := Lib.hid (z0.mod hm1 (fun h => by unfold One at h; omega))
  have M1 := Lib.hid (m0.non.trans' hm1)
  have hs1 := hm1.size
  rw [World.size_alloc] at hs1
  have b1 := Blk.new w1 53 (icells ix 0 (.slice none 0 0) 0 (.slice none 0 0) (.slice none 0 0))
  have hr1' := hr1.non ((Mod.refl Non w1).alloc (.cells (icells ix 0 (.slice none 0 0) 0 (.slice none 0 0) (.slice none 0 0)) 53))
  have M1' := Lib.hid (M1.out.alloc (.cells (icells ix 0 (.slice none 0 0) 0 (.slice none 0 0) (.slice none 0 0)) 53))
  have Z1' := Lib.hid (Z1.out.alloc (.cells (icells ix 0 (.slice none 0 0) 0 (.slice none 0 0) (.slice none 0 0)) 53))
  have hgm : ¬ w1.heap.size = g := by have := hr1.lt; omega
  clear hr0 hm1 z0 m0 hr1 M1 Z1 hxii
  have HZ3 := Z1'
  have HM3 := M1'
  have HB3 := Lib.hid b1
  obtain ⟨W3, hW3⟩ : ∃ W3, W3 = w1.alloc (.cells (icells ix 0 (.slice none 0 0) 0 (.slice none 0 0) (.slice none 0 0)) 53) := ⟨_, rfl⟩
  rw [← hW3] at hr1' HZ3 HM3 HB3
  have HW3 := Lib.hid hW3
  have hCF := image_confs g (a + t1) l _ cs W3 hr1' HD2.out HCO.out HOK.out.few
  rw [hW3] at hCF
  have HCF := Lib.hid hCF
  clear b1 M1' Z1' hr1' hW3 hCF hxai
  go_wp2_with fail
  refine HCF.out.mono ?_
  rintro e w4 ⟨v4, rfl, ho4, hr4, hm4⟩
  rw [← HW3.out] at ho4 hm4
  rw [← HT34.out.1, ← HT34.out.2] at hr4
  have hsW := hm4.size
  have hb3l := HB3.out.lt
  have b4 := HB3.out.mod hm4 (fun h => hgm h)
  have Z4 := Lib.hid (HZ3.out.mod hm4 (fun h => by unfold One at h; omega))
  have M4 := Lib.hid (HM3.out.trans' hm4)
  obtain ⟨n4, hn4⟩ : ∃ n4, n4 = cs.length := ⟨_, rfl⟩
  obtain ⟨A4, c4, he4, hc4⟩ := ho4.len
  rw [← hn4] at he4 hc4
  subst he4
  have c42 := b4.cell 2
  have f42 := b4.frozen 2
  simp at c42
  have hmo := Mod.one w4 w1.heap.size 2 (.slice A4 n4 c4)
  have hr5 := hr4.mod hmo (fun k hk h => by have := hr4.lt; unfold One at h; omega)
  have HZ5 := Lib.hid (Z4.out.mod hmo (fun h => by unfold One at h; omega))
  have HM5 := Lib.hid (M4.out.setNew (by omega) 2 (.slice A4 n4 c4) : Mod (One g) w (w4.setCell ⟨w1.heap.size, 2, none⟩ (.slice A4 n4 c4)))
  have HB5 : Hid (Blk (w4.setCell ⟨w1.heap.size, 2, none⟩ (.slice A4 n4 c4)) w1.heap.size 53 (icells ix 0 (.slice A4 n4 c4) 0 (.slice none 0 0) (.slice none 0 0))) := b4.set_ 2 _
  have HC5 := Lib.hid ((ho4.confs.more (R' := fun k => w1.heap.size + 1 ≤ k) fun k _ h => by have h : W3.heap.size ≤ k := h; omega).mod hmo fun k _ h e => by have h : w1.heap.size + 1 ≤ k := h; unfold One at e; omega)
  have hRW := rd_Raw g _ sl t5 l 32768 _ hr5 HF5.out (by omega) hfit
  have HRW := Lib.hid hRW
  clear ho4 hr4 hm4 b4 Z4 M4 hn4 hmo hr5 hRW HCF
  go_wp2_with fail
  refine HRW.out.mono ?_
  rintro e w6 ⟨v6, rfl, ho6, hr6, hm6⟩
  rw [HD5.out, List.take_of_length_le (by have := HSL.out; omega)] at ho6
  rw [HEND.out] at hr6
  have HB6 := Lib.hid (HB5.out.mod hm6 (fun h => hgm h))
  have HZ6 := Lib.hid (HZ5.out.mod hm6 (fun h => by unfold One at h; omega))
  have HC6 := Lib.hid (HC5.out.mod hm6 (fun k hk h e => by have h : w1.heap.size + 1 ≤ k := h; unfold One at e; omega))
  have HM6 := Lib.hid (HM5.out.trans' hm6)
  obtain ⟨A6, n6, c6, rfl, hn6, hc6⟩ := ho6.form
  have HO6 := Lib.hid ho6
  have hn6' : n6 ≤ 7300 := by have := hn6.out; have := HSL.out; omega
  clear ho6 hm6 HB5 HZ5 HC5 HM5 hn6 HRW
  go_wp2_with fail
  refine (rd_Done g l w6 hr6).mono ?_
  rintro e w7 ⟨rfl, hm7⟩
  have HB7 := Lib.hid (HB6.out.non' hm7)
  have HZ7 := Lib.hid (HZ6.out.non' hm7)
  have HC7 := Lib.hid (HC6.out.non hm7)
  have HM7 := Lib.hid (HM6.out.trans' hm7.non)
  have hO7 := HO6.out.non hm7
  have hGT := snaptwo_Get 1 (.inl rfl) ps ss A6 n6 c6 _ w7 (by have := hO7.reads; rw [HSE.out] at this; exact this) HST.out (HT.out.one HM7.out hg2) (by omega)
  have HGT := Lib.hid hGT
  clear hm7 hr6 HB6 HZ6 HC6 HM6 hO7 HO6 hGT
  go_wp2_with fail
  refine HGT.out.mono ?_
  rintro e w8 ⟨v1, v2, rfl, ho1, ho2, hm8⟩
  rw [show ((1 : Nat) : Int) = 1 from rfl]
  obtain ⟨B1, k1, d1, rfl, _, _⟩ := ho1.form
  obtain ⟨B2, k2, d2, rfl, _, _⟩ := ho2.form
  have b8 := HB7.out.non' hm8
  have z8 := HZ7.out.non' hm8
  have c8 := HC7.out.non hm8
  have r1 := ho1.reads.more (R' := fun k => w7.heap.size ≤ k) fun k _ h => h.1
  have r2 := ho2.reads.more (R' := fun k => w7.heap.size ≤ k) fun k _ h => h.1
  have M8 := Lib.hid (HM7.out.trans' hm8.non)
  have hl7 := HB7.out.lt
  have hl8 := hm8.size
  have hm3 := (((Mod.refl (One w1.heap.size) w8).setOne (i := 3) (.int .i64 1)).setOne (i := 4) (.slice B1 k1 d1)).setOne (i := 5) (.slice B2 k2 d2)
  have b9 : Blk _ w1.heap.size 53 (icells ix 0 (.slice A4 n4 c4) 1 (.slice B1 k1 d1) (.slice B2 k2 d2)) := ((b8.set_ 3 (.int .i64 1)).set_ 4 (.slice B1 k1 d1)).set_ 5 (.slice B2 k2 d2)
  have z9 := z8.mod hm3 (fun h => by unfold One at h; omega)
  have c9 := c8.mod hm3 (fun k _ h e => by have h : w1.heap.size + 1 ≤ k := h; unfold One at e; omega)
  have q1 := r1.mod hm3 (fun k _ h e => by have h : w7.heap.size ≤ k := h; unfold One at e; omega)
  have q2 := r2.mod hm3 (fun k _ h e => by have h : w7.heap.size ≤ k := h; unfold One at e; omega)
  have M9 := (((M8.out.setNew (g := w1.heap.size) (by omega) 3 (.int .i64 1)).setNew (g := w1.heap.size) (by omega) 4 (.slice B1 k1 d1)).setNew (g := w1.heap.size) (by omega) 5 (.slice B2 k2 d2))
  obtain ⟨W9, hW9⟩ : ∃ W9, W9 = ((w8.setCell ⟨w1.heap.size, 3, none⟩ (.int .i64 1)).setCell ⟨w1.heap.size, 4, none⟩ (.slice B1 k1 d1)).setCell ⟨w1.heap.size, 5, none⟩ (.slice B2 k2 d2) := ⟨_, rfl⟩
  rw [← hW9] at b9 z9 c9 q1 q2 M9
  have ms := (Mod.refl Non W9).alloc (.cells #[.int .i64 1, .slice B1 k1 d1, .slice B2 k2 d2] 25)
  have HWC := Lib.hid (window_Check ⟨ix, 0, cs, ⟨1, ps, ss⟩⟩ A4 B1 B2 n4 c4 k1 d1 k2 d2 _ _ _ _ (c9.non ms) (q1.mod ms fun _ _ _ h => h) (q2.mod ms fun _ _ _ h => h) HOK.out (HT.out.one (M9.trans' ms.non) hg2))
  have HB9 := Lib.hid (b9.non' ms)
  have HZ9 := Lib.hid (z9.non' ms)
  have HC9 := Lib.hid (c9.non ms)
  have HQ1 := Lib.hid (q1.mod ms fun _ _ _ h => h)
  have HQ2 := Lib.hid (q2.mod ms fun _ _ _ h => h)
  have HM9 := Lib.hid (M9.trans' ms.non)
  have HW9 := Lib.hid hW9
  have e0 := b8.cell 0
  have e1 := b8.cell 1
  have e2 := b8.cell 2
  have e3 := b8.cell 3
  have e4 := b8.cell 4
  have e5 := b8.cell 5
  simp at e0 e1 e2 e3 e4 e5
  have f0 := b8.frozen 0
  have f1 := b8.frozen 1
  have f2 := b8.frozen 2
  have f3 := b8.frozen 3
  have f4 := b8.frozen 4
  have f5 := b8.frozen 5
  have hl9 : w1.heap.size < w8.heap.size := by omega
  have hl10 : w1.heap.size ≠ w8.heap.size := by omega
  clear hm8 ho1 ho2 b8 z8 c8 r1 r2 hm3 b9 z9 c9 q1 q2 M9 ms hW9 M8 HB7 HZ7 HC7 HM7 HGT
  go_wp2_with fail
  rw [← HW9.out]
  refine HWC.out.mono ?_
  rintro e w10 ⟨rfl, hm10⟩
  have b10 := HB9.out.non' hm10
  have z10 := HZ9.out.non' hm10
  have HC10 := Lib.hid (HC9.out.non hm10)
  have HQ1' := Lib.hid (HQ1.out.mod hm10 fun _ _ _ h => h)
  have HQ2' := Lib.hid (HQ2.out.mod hm10 fun _ _ _ h => h)
  have HM10 := Lib.hid (HM9.out.trans' hm10.non)
  have hF := ((((((Mod.refl (One w.heap.size) w10).setOne (i := 0) (.int .i64 ix)).setOne (i := 1) (.int .i64 0)).setOne (i := 2) (.slice A4 n4 c4)).setOne (i := 3) (.int .i64 1)).setOne (i := 4) (.slice B1 k1 d1)).setOne (i := 5) (.slice B2 k2 d2)
  have zz := (((((z10.set_ 0 (.int .i64 ix)).set_ 1 (.int .i64 0)).set_ 2 (.slice A4 n4 c4)).set_ 3 (.int .i64 1)).set_ 4 (.slice B1 k1 d1)).set_ 5 (.slice B2 k2 d2)
  have HF := Lib.hid hF
  have HZZ := Lib.hid zz
  clear e0 e1 e2 e3 e4 e5 f0 f1 f2 f3 f4 f5 hl9 hl10
  have e0 := b10.cell 0
  have e1 := b10.cell 1
  have e2 := b10.cell 2
  have e3 := b10.cell 3
  have e4 := b10.cell 4
  have e5 := b10.cell 5
  simp at e0 e1 e2 e3 e4 e5
  have y0 := z10.cell 0
  have y1 := z10.cell 1
  have y2 := z10.cell 2
  have y3 := z10.cell 3
  have y4 := z10.cell 4
  have y5 := z10.cell 5
  simp at y0 y1 y2 y3 y4 y5
  have f0 := z10.frozen 0
  have f1 := z10.frozen 1
  have f2 := z10.frozen 2
  have f3 := z10.frozen 3
  have f4 := z10.frozen 4
  have f5 := z10.frozen 5
  clear hF zz b10 z10 hm10 HB9 HZ9 HC9 HQ1 HQ2 HM9 HW9 HWC
  go_wp2_with fail
  refine bodyPost_ret (results_row_tmp rfl _ _ w.heap.size 53 (icells ix 0 (.slice A4 n4 c4) 1 (.slice B1 k1 d1) (.slice B2 k2 d2)) (0, 0) _ rfl HZZ.out Tryz.underlying53 rfl (by kernel_rfl)) rfl ?_
  refine ⟨_, rfl, ⟨A4, n4, c4, B1, k1, d1, B2, k2, d2, rfl, ?_, ?_, ?_⟩, HM10.out.trans HF.out fun i hi h => by unfold One at h; omega⟩
  · exact (HC10.out.mod HF.out fun k _ h e => by have h : w1.heap.size + 1 ≤ k := h; unfold One at e; omega).more fun k _ h => by have h : w1.heap.size + 1 ≤ k := h; omega
  · exact (HQ1'.out.mod HF.out fun k _ h e => by have h : w7.heap.size ≤ k := h; unfold One at e; omega).more fun k _ h => by have h : w7.heap.size ≤ k := h; omega
  · exact (HQ2'.out.mod HF.out fun k _ h e => by have h : w7.heap.size ≤ k := h; unfold One at e; omega).more fun k _ h => by have h : w7.heap.size ≤ k := h; omega

set_option maxRecDepth 100000 in
set_option maxHeartbeats 4000000 in
theorem image_read2 (ix ac : Int) (cs : List Cf) (ps : List Pa) (ss : List Se) (g a : Nat) (l : List UInt8) (w : World) (hr : Rd w g l a) (hd : l.drop a = vbytes ix.toNat ++ (vbytes ac.toNat ++ (vbytes cs.length ++ (cencs cs ++ (vbytes (senc ⟨2, ps, ss⟩).length ++ (senc ⟨2, ps, ss⟩ ++ [])))))) (hok : Im.Ok ⟨ix, ac, cs, ⟨2, ps, ss⟩⟩) (hT : T8 w) (hg2 : 2 ≤ g) :
    Calls Tryz.prog 61 #[.pointer (some ⟨g, 0, none⟩), .int .i64 2] w fun e w' => ∃ u, e = .returned (.tuple #[u, .int .i64 0]) ∧ ImV (fun k => w.heap.size ≤ k) w' u ⟨ix, ac, cs, ⟨2, ps, ss⟩⟩ ∧ Mod (One g) w w' := by
  obtain ⟨i1, i2⟩ := hok.index
  obtain ⟨a1, a2⟩ := hok.active
  have hsc := hok.schema
  have hkc := hok.confs
  have hfew := hok.few
  have hst := hok.st
  simp only at i1 i2 a1 a2 hsc hkc hfew hst
  have hsl := senc_length hst
  obtain ⟨f1, hd1⟩ := at_num hd (by omega)
  obtain ⟨f2, hd2⟩ := at_num hd1 (by omega)
  have hd3 := drop_next hd2
  have hd4 := drop_next hd3
  obtain ⟨f5, hd5⟩ := at_num hd4 (by omega)
  obtain ⟨se, hse⟩ : ∃ se, se = senc ⟨2, ps, ss⟩ := ⟨_, rfl⟩
  rw [← hse] at f5 hd4 hd5 hd2 hd1 hd hsl
  have hse1 : 1 ≤ se.length := by
    have := vbytes_pos ((2 : Int)).toNat
    rw [hse]; unfold senc; simp only [List.length_append]; omega
  have hlen := congrArg List.length hd5
  rw [List.length_drop] at hlen
  simp only [List.append_nil] at hlen hd5
  obtain ⟨t1, ht1⟩ : ∃ t1, t1 = (vbytes ix.toNat).length := ⟨_, rfl⟩
  obtain ⟨t2, ht2⟩ : ∃ t2, t2 = (vbytes ac.toNat).length := ⟨_, rfl⟩
  obtain ⟨t3, ht3⟩ : ∃ t3, t3 = (vbytes cs.length).length := ⟨_, rfl⟩
  obtain ⟨t4, ht4⟩ : ∃ t4, t4 = (cencs cs).length := ⟨_, rfl⟩
  obtain ⟨t5, ht5⟩ : ∃ t5, t5 = (vbytes se.length).length := ⟨_, rfl⟩
  obtain ⟨sl, hsl'⟩ : ∃ sl, sl = se.length := ⟨_, rfl⟩
  obtain ⟨xi, hxi⟩ : ∃ xi : Nat, xi = ix.toNat := ⟨_, rfl⟩
  have hxii : (xi : Int) = ix := by omega
  obtain ⟨xa, hxa⟩ : ∃ xa : Nat, xa = ac.toNat := ⟨_, rfl⟩
  have hxai : (xa : Int) = ac := by omega
  have hal := hr.len.1
  simp only [← ht1, ← ht2, ← ht3, ← ht4, ← ht5] at f1 f2 f5 hd2 hd5 hlen
  simp only [← hsl', ← hxi, ← hxa] at f1 f2 f5 hlen
  have hvp := vbytes_pos ix.toNat
  have HF1 := Lib.hid f1
  have HF2 := Lib.hid f2
  have HF5 := Lib.hid f5
  have HD2 : Hid (l.drop (a + t1 + t2) = vbytes cs.length ++ (cencs cs ++ (vbytes se.length ++ (se ++ [])))) := hd2
  have HD5 : Hid (l.drop (a + t1 + t2 + t3 + t4 + t5) = se) := hd5
  have hfit : a + t1 + t2 + t3 + t4 + t5 + sl ≤ l.length := by omega
  have HEND : Hid (a + t1 + t2 + t3 + t4 + t5 + sl = l.length) := by show _ = _; omega
  have HCO : Hid (∀ c ∈ cs, MemOk c.mem ∧ 0 ≤ c.from_ ∧ c.from_ ≤ 4294967296) := fun c hc => ⟨(hkc.each c hc).1, by have := from_pos hkc c hc; omega, (hkc.each c hc).2⟩
  have HSE := Lib.hid hse
  have HSL : Hid (sl = se.length) := hsl'
  have HT34 : Hid (t3 = (vbytes cs.length).length ∧ t4 = (cencs cs).length) := ⟨ht3, ht4⟩
  have HOK := Lib.hid hok
  have HST := Lib.hid hst
  have HT := Lib.hid hT
  have hsl2 : sl ≤ 7300 := by omega
  have hgl := hr.lt
  have z0 := Blk.new w 53 (icells 0 0 (.slice none 0 0) 0 (.slice none 0 0) (.slice none 0 0))
  have m0 := (Mod.refl Non w).alloc (.cells (icells 0 0 (.slice none 0 0) 0 (.slice none 0 0) (.slice none 0 0)) 53)
  have hr0 := hr.non m0
  have hT2 := hT.1
  clear hd hd1 hd2 hd3 hd4 hd5 f1 f5 hlen ht1 ht2 ht3 ht4 ht5 hxi hxa hsc hkc hfew hst hok hsl hse hsl' hr hal hvp hT f2
  go_enter Tryz.func61, Tryz.ntmps61
  go_wp2_with fail
  refine (rd_Number g a xi t1 l 9223372036854775807 _ hr0 HF1.out (by omega)).mono ?_
  rintro e w1 ⟨rfl, hr1, hm1⟩
  rw [hxii]
  have Z1 := Lib.hid (z0.mod hm1 (fun h => by unfold One at h; omega))
  have M1 := Lib.hid (m0.non.trans' hm1)
  have hs1 := hm1.size
  rw [World.size_alloc] at hs1
  have b1 := Blk.new w1 53 (icells ix 0 (.slice none 0 0) 0 (.slice none 0 0) (.slice none 0 0))
  have hr1' := hr1.non ((Mod.refl Non w1).alloc (.cells (icells ix 0 (.slice none 0 0) 0 (.slice none 0 0) (.slice none 0 0)) 53))
  have M1' := Lib.hid (M1.out.alloc (.cells (icells ix 0 (.slice none 0 0) 0 (.slice none 0 0) (.slice none 0 0)) 53))
  have Z1' := Lib.hid (Z1.out.alloc (.cells (icells ix 0 (.slice none 0 0) 0 (.slice none 0 0) (.slice none 0 0)) 53))
  have hgm : ¬ w1.heap.size = g := by have := hr1.lt; omega
  clear hr0 hm1 z0 m0 hr1 M1 Z1 hxii
  go_wp2_with fail
  refine (rd_Number g (a + t1) xa t2 l 9223372036854775807 _ hr1' HF2.out (by omega)).mono ?_
  rintro e w2 ⟨rfl, hr2, hm2⟩
  rw [hxai]
  have b2 := b1.mod hm2 (fun h => hgm h)
  have Z2 := Lib.hid (Z1'.out.mod hm2 (fun h => by unfold One at h; omega))
  have M2 := Lib.hid (M1'.out.trans' hm2)
  have c21 := b2.cell 1
  have f21 := b2.frozen 1
  simp at c21
  have b3 := b2.set_ 1 (.int .i64 ac)
  have hmo := Mod.one w2 w1.heap.size 1 (.int .i64 ac)
  have hr3 := hr2.mod hmo (fun k hk h => by have := hr2.lt; unfold One at h; omega)
  have HZ3 := Lib.hid (Z2.out.mod hmo (fun h => by unfold One at h; omega))
  have HM3 := Lib.hid (M2.out.setNew (by omega) 1 (.int .i64 ac) : Mod (One g) w (w2.setCell ⟨w1.heap.size, 1, none⟩ (.int .i64 ac)))
  have HB3 : Hid (Blk (w2.setCell ⟨w1.heap.size, 1, none⟩ (.int .i64 ac)) w1.heap.size 53 (icells ix ac (.slice none 0 0) 0 (.slice none 0 0) (.slice none 0 0))) := b3
  obtain ⟨W3, hW3⟩ : ∃ W3, W3 = w2.setCell ⟨w1.heap.size, 1, none⟩ (.int .i64 ac) := ⟨_, rfl⟩
  rw [← hW3] at hr3 HZ3 HM3 HB3
  have HW3 := Lib.hid hW3
  have hCF := image_confs g (a + t1 + t2) l _ cs W3 hr3 HD2.out HCO.out HOK.out.few
  rw [hW3] at hCF
  have HCF := Lib.hid hCF
  clear hr1' hm2 b1 Z1' M1' b2 hr2 Z2 M2 b3 hmo hr3 hW3 hCF hxai
  go_wp2_with fail
  refine HCF.out.mono ?_
  rintro e w4 ⟨v4, rfl, ho4, hr4, hm4⟩
  rw [← HW3.out] at ho4 hm4
  rw [← HT34.out.1, ← HT34.out.2] at hr4
  have hsW := hm4.size
  have hb3l := HB3.out.lt
  have b4 := HB3.out.mod hm4 (fun h => hgm h)
  have Z4 := Lib.hid (HZ3.out.mod hm4 (fun h => by unfold One at h; omega))
  have M4 := Lib.hid (HM3.out.trans' hm4)
  obtain ⟨n4, hn4⟩ : ∃ n4, n4 = cs.length := ⟨_, rfl⟩
  obtain ⟨A4, c4, he4, hc4⟩ := ho4.len
  rw [← hn4] at he4 hc4
  subst he4
  have c42 := b4.cell 2
  have f42 := b4.frozen 2
  simp at c42
  have hmo := Mod.one w4 w1.heap.size 2 (.slice A4 n4 c4)
  have hr5 := hr4.mod hmo (fun k hk h => by have := hr4.lt; unfold One at h; omega)
  have HZ5 := Lib.hid (Z4.out.mod hmo (fun h => by unfold One at h; omega))
  have HM5 := Lib.hid (M4.out.setNew (by omega) 2 (.slice A4 n4 c4) : Mod (One g) w (w4.setCell ⟨w1.heap.size, 2, none⟩ (.slice A4 n4 c4)))
  have HB5 : Hid (Blk (w4.setCell ⟨w1.heap.size, 2, none⟩ (.slice A4 n4 c4)) w1.heap.size 53 (icells ix ac (.slice A4 n4 c4) 0 (.slice none 0 0) (.slice none 0 0))) := b4.set_ 2 _
  have HC5 := Lib.hid ((ho4.confs.more (R' := fun k => w1.heap.size + 1 ≤ k) fun k _ h => by have h : W3.heap.size ≤ k := h; omega).mod hmo fun k _ h e => by have h : w1.heap.size + 1 ≤ k := h; unfold One at e; omega)
  have hRW := rd_Raw g _ sl t5 l 32768 _ hr5 HF5.out (by omega) hfit
  have HRW := Lib.hid hRW
  clear ho4 hr4 hm4 b4 Z4 M4 hn4 hmo hr5 hRW HCF
  go_wp2_with fail
  refine HRW.out.mono ?_
  rintro e w6 ⟨v6, rfl, ho6, hr6, hm6⟩
  rw [HD5.out, List.take_of_length_le (by have := HSL.out; omega)] at ho6
  rw [HEND.out] at hr6
  have HB6 := Lib.hid (HB5.out.mod hm6 (fun h => hgm h))
  have HZ6 := Lib.hid (HZ5.out.mod hm6 (fun h => by unfold One at h; omega))
  have HC6 := Lib.hid (HC5.out.mod hm6 (fun k hk h e => by have h : w1.heap.size + 1 ≤ k := h; unfold One at e; omega))
  have HM6 := Lib.hid (HM5.out.trans' hm6)
  obtain ⟨A6, n6, c6, rfl, hn6, hc6⟩ := ho6.form
  have HO6 := Lib.hid ho6
  have hn6' : n6 ≤ 7300 := by have := hn6.out; have := HSL.out; omega
  clear ho6 hm6 HB5 HZ5 HC5 HM5 hn6 HRW
  go_wp2_with fail
  refine (rd_Done g l w6 hr6).mono ?_
  rintro e w7 ⟨rfl, hm7⟩
  have HB7 := Lib.hid (HB6.out.non' hm7)
  have HZ7 := Lib.hid (HZ6.out.non' hm7)
  have HC7 := Lib.hid (HC6.out.non hm7)
  have HM7 := Lib.hid (HM6.out.trans' hm7.non)
  have hO7 := HO6.out.non hm7
  have hGT := snaptwo_Get 2 (.inr rfl) ps ss A6 n6 c6 _ w7 (by have := hO7.reads; rw [HSE.out] at this; exact this) HST.out (HT.out.one HM7.out hg2) (by omega)
  have HGT := Lib.hid hGT
  clear hm7 hr6 HB6 HZ6 HC6 HM6 hO7 HO6 hGT
  go_wp2_with fail
  refine HGT.out.mono ?_
  rintro e w8 ⟨v1, v2, rfl, ho1, ho2, hm8⟩
  rw [show ((2 : Nat) : Int) = 2 from rfl]
  obtain ⟨B1, k1, d1, rfl, _, _⟩ := ho1.form
  obtain ⟨B2, k2, d2, rfl, _, _⟩ := ho2.form
  have b8 := HB7.out.non' hm8
  have z8 := HZ7.out.non' hm8
  have c8 := HC7.out.non hm8
  have r1 := ho1.reads.more (R' := fun k => w7.heap.size ≤ k) fun k _ h => h.1
  have r2 := ho2.reads.more (R' := fun k => w7.heap.size ≤ k) fun k _ h => h.1
  have M8 := Lib.hid (HM7.out.trans' hm8.non)
  have hl7 := HB7.out.lt
  have hl8 := hm8.size
  have hm3 := (((Mod.refl (One w1.heap.size) w8).setOne (i := 3) (.int .i64 2)).setOne (i := 4) (.slice B1 k1 d1)).setOne (i := 5) (.slice B2 k2 d2)
  have b9 : Blk _ w1.heap.size 53 (icells ix ac (.slice A4 n4 c4) 2 (.slice B1 k1 d1) (.slice B2 k2 d2)) := ((b8.set_ 3 (.int .i64 2)).set_ 4 (.slice B1 k1 d1)).set_ 5 (.slice B2 k2 d2)
  have z9 := z8.mod hm3 (fun h => by unfold One at h; omega)
  have c9 := c8.mod hm3 (fun k _ h e => by have h : w1.heap.size + 1 ≤ k := h; unfold One at e; omega)
  have q1 := r1.mod hm3 (fun k _ h e => by have h : w7.heap.size ≤ k := h; unfold One at e; omega)
  have q2 := r2.mod hm3 (fun k _ h e => by have h : w7.heap.size ≤ k := h; unfold One at e; omega)
  have M9 := (((M8.out.setNew (g := w1.heap.size) (by omega) 3 (.int .i64 2)).setNew (g := w1.heap.size) (by omega) 4 (.slice B1 k1 d1)).setNew (g := w1.heap.size) (by omega) 5 (.slice B2 k2 d2))
  obtain ⟨W9, hW9⟩ : ∃ W9, W9 = ((w8.setCell ⟨w1.heap.size, 3, none⟩ (.int .i64 2)).setCell ⟨w1.heap.size, 4, none⟩ (.slice B1 k1 d1)).setCell ⟨w1.heap.size, 5, none⟩ (.slice B2 k2 d2) := ⟨_, rfl⟩
  rw [← hW9] at b9 z9 c9 q1 q2 M9
  have ms := (Mod.refl Non W9).alloc (.cells #[.int .i64 2, .slice B1 k1 d1, .slice B2 k2 d2] 25)
  have HWC := Lib.hid (window_Check ⟨ix, ac, cs, ⟨2, ps, ss⟩⟩ A4 B1 B2 n4 c4 k1 d1 k2 d2 _ _ _ _ (c9.non ms) (q1.mod ms fun _ _ _ h => h) (q2.mod ms fun _ _ _ h => h) HOK.out (HT.out.one (M9.trans' ms.non) hg2))
  have HB9 := Lib.hid (b9.non' ms)
  have HZ9 := Lib.hid (z9.non' ms)
  have HC9 := Lib.hid (c9.non ms)
  have HQ1 := Lib.hid (q1.mod ms fun _ _ _ h => h)
  have HQ2 := Lib.hid (q2.mod ms fun _ _ _ h => h)
  have HM9 := Lib.hid (M9.trans' ms.non)
  have HW9 := Lib.hid hW9
  have e0 := b8.cell 0
  have e1 := b8.cell 1
  have e2 := b8.cell 2
  have e3 := b8.cell 3
  have e4 := b8.cell 4
  have e5 := b8.cell 5
  simp at e0 e1 e2 e3 e4 e5
  have f0 := b8.frozen 0
  have f1 := b8.frozen 1
  have f2 := b8.frozen 2
  have f3 := b8.frozen 3
  have f4 := b8.frozen 4
  have f5 := b8.frozen 5
  have hl9 : w1.heap.size < w8.heap.size := by omega
  have hl10 : w1.heap.size ≠ w8.heap.size := by omega
  clear hm8 ho1 ho2 b8 z8 c8 r1 r2 hm3 b9 z9 c9 q1 q2 M9 ms hW9 M8 HB7 HZ7 HC7 HM7 HGT
  go_wp2_with fail
  rw [← HW9.out]
  refine HWC.out.mono ?_
  rintro e w10 ⟨rfl, hm10⟩
  have b10 := HB9.out.non' hm10
  have z10 := HZ9.out.non' hm10
  have HC10 := Lib.hid (HC9.out.non hm10)
  have HQ1' := Lib.hid (HQ1.out.mod hm10 fun _ _ _ h => h)
  have HQ2' := Lib.hid (HQ2.out.mod hm10 fun _ _ _ h => h)
  have HM10 := Lib.hid (HM9.out.trans' hm10.non)
  have hF := ((((((Mod.refl (One w.heap.size) w10).setOne (i := 0) (.int .i64 ix)).setOne (i := 1) (.int .i64 ac)).setOne (i := 2) (.slice A4 n4 c4)).setOne (i := 3) (.int .i64 2)).setOne (i := 4) (.slice B1 k1 d1)).setOne (i := 5) (.slice B2 k2 d2)
  have zz := (((((z10.set_ 0 (.int .i64 ix)).set_ 1 (.int .i64 ac)).set_ 2 (.slice A4 n4 c4)).set_ 3 (.int .i64 2)).set_ 4 (.slice B1 k1 d1)).set_ 5 (.slice B2 k2 d2)
  have HF := Lib.hid hF
  have HZZ := Lib.hid zz
  clear e0 e1 e2 e3 e4 e5 f0 f1 f2 f3 f4 f5 hl9 hl10
  have e0 := b10.cell 0
  have e1 := b10.cell 1
  have e2 := b10.cell 2
  have e3 := b10.cell 3
  have e4 := b10.cell 4
  have e5 := b10.cell 5
  simp at e0 e1 e2 e3 e4 e5
  have y0 := z10.cell 0
  have y1 := z10.cell 1
  have y2 := z10.cell 2
  have y3 := z10.cell 3
  have y4 := z10.cell 4
  have y5 := z10.cell 5
  simp at y0 y1 y2 y3 y4 y5
  have f0 := z10.frozen 0
  have f1 := z10.frozen 1
  have f2 := z10.frozen 2
  have f3 := z10.frozen 3
  have f4 := z10.frozen 4
  have f5 := z10.frozen 5
  clear hF zz b10 z10 hm10 HB9 HZ9 HC9 HQ1 HQ2 HM9 HW9 HWC
  go_wp2_with fail
  refine bodyPost_ret (results_row_tmp rfl _ _ w.heap.size 53 (icells ix ac (.slice A4 n4 c4) 2 (.slice B1 k1 d1) (.slice B2 k2 d2)) (0, 0) _ rfl HZZ.out Tryz.underlying53 rfl (by kernel_rfl)) rfl ?_
  refine ⟨_, rfl, ⟨A4, n4, c4, B1, k1, d1, B2, k2, d2, rfl, ?_, ?_, ?_⟩, HM10.out.trans HF.out fun i hi h => by unfold One at h; omega⟩
  · exact (HC10.out.mod HF.out fun k _ h e => by have h : w1.heap.size + 1 ≤ k := h; unfold One at e; omega).more fun k _ h => by have h : w1.heap.size + 1 ≤ k := h; omega
  · exact (HQ1'.out.mod HF.out fun k _ h e => by have h : w7.heap.size ≤ k := h; unfold One at e; omega).more fun k _ h => by have h : w7.heap.size ≤ k := h; omega
  · exact (HQ2'.out.mod HF.out fun k _ h e => by have h : w7.heap.size ≤ k := h; unfold One at e; omega).more fun k _ h => by have h : w7.heap.size ≤ k := h; omega
end Go.Proofs.YtdclfdinhdaadaaGreatDoor
