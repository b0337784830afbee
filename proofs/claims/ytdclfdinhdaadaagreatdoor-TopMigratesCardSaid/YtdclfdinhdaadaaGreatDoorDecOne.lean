/- Package snapone: what reads a pair, a session, lists of them. -/
import Derived.Test.YtdclfdinhdaadaaGreatDoorSnapEnc2
namespace Go.Proofs.YtdclfdinhdaadaaGreatDoor
open Go.RowKit

/-- a text's bytes are at a place -/
theorem at_str {l r : List UInt8} {a : Nat} {s : ByteArray} (h : l.drop a = vbytes s.size ++ (s.data.toList ++ r)) (ha : a ≤ l.length) (hs : s.size ≤ 10000000) :
    gscan 0 0 (l.drop a) = .ok (s.size, (vbytes s.size).length) ∧ (⟨((l.drop (a + (vbytes s.size).length)).take s.size).toArray⟩ : ByteArray) = s ∧ a + (vbytes s.size).length + s.size ≤ l.length ∧ l.drop (a + (vbytes s.size).length + s.size) = r := by
  obtain ⟨h1, h2⟩ := at_num h (by omega)
  have hsz : s.data.toList.length = s.size := by simp
  have hlen := congrArg List.length h
  rw [List.length_drop, List.length_append, List.length_append, hsz] at hlen
  have h3 : (l.drop (a + (vbytes s.size).length)).take s.size = s.data.toList := by rw [h2, ← hsz, List.take_left' rfl]
  refine ⟨h1, by rw [h3], by omega, ?_⟩
  rw [← List.drop_drop, h2, ← hsz, List.drop_left' rfl]

theorem rd_str (g a : Nat) (l r : List UInt8) (s : ByteArray) (most : Int) (w : World) (hr : Rd w g l a) (h : l.drop a = vbytes s.size ++ (s.data.toList ++ r)) (hm : (s.size : Int) ≤ most) (hs : s.size ≤ 10000000) :
    Calls Tryz.prog 79 #[.pointer (some ⟨g, 0, none⟩), .int .i64 most] w fun e w' => e = .returned (.string s) ∧ Rd w' g l (a + (vbytes s.size).length + s.size) ∧ Mod (One g) w w' := by
  obtain ⟨h1, h2, h3, _⟩ := at_str h hr.len.1 hs
  have := rd_Text g a s.size (vbytes s.size).length l most w hr h1 hm h3
  rwa [h2] at this

theorem Mod.setNew {S : Nat → Prop} {a w : World} (h : Mod S a w) {g : Nat} (hg : a.heap.size ≤ g) (i : Nat) (u : Value) : Mod S a (w.setCell ⟨g, i, none⟩ u) :=
  h.setCell (p := ⟨g, i, none⟩) (fun h => absurd h (Nat.not_lt.2 hg)) u

set_option maxHeartbeats 1000000 in
theorem one_pair (g a H : Nat) (l r : List UInt8) (p : Pa) (w : World) (hr : Rd w g l a) (h : l.drop a = penc 1 p ++ r) (hp : p.Ok) (h0 : p.rev = 0) (hb : Blk w H 80 #[.pointer (some ⟨g, 0, none⟩)]) (hgH : g < H) :
    Calls Tryz.prog 78 #[.pointer (some ⟨H, 0, none⟩)] w fun e w' => e = .returned p.v ∧ Rd w' g l (a + (penc 1 p).length) ∧ Mod (One g) w w' := by
  obtain ⟨key, val, rv⟩ := p
  obtain ⟨k1, k2⟩ := hp
  have k1 := (keyB_size k1).2
  have k2 := valB_size k2
  simp only at h0 k1 k2
  subst h0
  have hx : l.drop a = vbytes key.size ++ (key.data.toList ++ (vbytes val.size ++ (val.data.toList ++ r))) := by rw [h]; simp [penc]
  have hy := (at_str hx hr.len.1 (by omega)).2.2.2
  have HE : Hid (a + (vbytes key.size).length + key.size + (vbytes val.size).length + val.size = a + (penc 1 ⟨key, val, 0⟩).length) := by
    show _ = _
    simp [penc]
    omega
  have HX := Lib.hid hx
  have HY := Lib.hid hy
  clear hx hy h
  have hz0 : Mod Non w (w.alloc (.cells #[.string ⟨#[]⟩, .string ⟨#[]⟩, .int .i64 0] 42)) := (Mod.refl _ _).alloc _
  have hr0 := hr.non hz0
  have b0 := hb.mod hz0 (fun h => h)
  have z0 := Blk.new w 42 #[.string ⟨#[]⟩, .string ⟨#[]⟩, .int .i64 0]
  have x0 := b0.cell 0
  simp at x0
  have hHl := hb.lt
  go_enter Tryz.func78, Tryz.ntmps78
  go_wp2_with fail
  refine (rd_str g a l _ key _ _ hr0 HX.out (by omega) (by omega)).mono ?_
  rintro e w1 ⟨rfl, hr1, hm1⟩
  have b1 := b0.mod hm1 (by unfold One; omega)
  have z1 := z0.mod hm1 (by unfold One; omega)
  have x1 := b1.cell 0
  simp at x1
  clear hr0 b0 z0 x0
  go_wp2_with fail
  refine (rd_str g _ l r val _ _ hr1 HY.out (by omega) (by omega)).mono ?_
  rintro e w2 ⟨rfl, hr2, hm2⟩
  have z2 := z1.mod hm2 (by unfold One; omega)
  have f0 := z2.frozen 0
  have f1 := z2.frozen 1
  have f2 := z2.frozen 2
  have c0 := z2.cell 0
  have c1 := z2.cell 1
  have c2 := z2.cell 2
  simp at c0 c1 c2
  rw [HE.out] at hr2
  have HM := Lib.hid (hz0.non.trans' (hm1.trans' hm2))
  clear hm1 hm2 hr1 b1 z1 x1 hz0
  go_wp2
  have z5 := ((z2.set_ 0 (.string key)).set_ 1 (.string val)).set_ 2 (.int .i64 0)
  refine bodyPost_ret (results_row rfl _ _ w.heap.size 42 #[.string key, .string val, .int .i64 0] (0, 0) _ rfl z5 Tryz.underlying42 rfl (by kernel_rfl)) rfl ?_
  exact ⟨rfl, ((hr2.far (by omega) _).far (by omega) _).far (by omega) _, ((HM.out.setCell (p := ⟨w.heap.size, 0, none⟩) (fun h => absurd h (Nat.lt_irrefl _)) _).setCell (p := ⟨w.heap.size, 1, none⟩) (fun h => absurd h (Nat.lt_irrefl _)) _).setCell (p := ⟨w.heap.size, 2, none⟩) (fun h => absurd h (Nat.lt_irrefl _)) _⟩

set_option maxRecDepth 100000 in
set_option maxHeartbeats 1000000 in
theorem one_sess (g a H : Nat) (l r : List UInt8) (x : Se) (w : World) (hr : Rd w g l a) (h : l.drop a = xenc 1 x ++ r) (hx : x.last.Ok) (h0 : x.last.rev = 0) (hc : x.last.client = x.client) (hs : x.last.seq = x.seq) (hb : Blk w H 80 #[.pointer (some ⟨g, 0, none⟩)]) (hgH : g < H) :
    Calls Tryz.prog 81 #[.pointer (some ⟨H, 0, none⟩)] w fun e w' => e = .returned x.v ∧ Rd w' g l (a + (xenc 1 x).length) ∧ Mod (One g) w w' := by
  obtain ⟨cl, sq, ⟨lc, ls, le, lf, lv, lr⟩⟩ := x
  simp only at h0 hc hs hx
  subst hc hs
  have HX := Lib.hid h
  have HN := Lib.hid hx
  have H0 := Lib.hid h0
  clear h hx h0
  have hz0 : Mod Non w (w.alloc (.cells #[.int .i64 0, .int .i64 0, .int .i64 0, .int .i64 0, .int .i64 0, .bool false, .string ⟨#[]⟩, .int .i64 0] 68)) := (Mod.refl _ _).alloc _
  have hr0 := hr.non hz0
  have b0 := hb.mod hz0 (fun h => h)
  have z0 := Blk.new w 68 #[.int .i64 0, .int .i64 0, .int .i64 0, .int .i64 0, .int .i64 0, .bool false, .string ⟨#[]⟩, .int .i64 0]
  have x0 := b0.cell 0
  simp at x0
  have hHl := hb.lt
  go_enter Tryz.func81, Tryz.ntmps81
  go_wp2_with fail
  refine (answer_Get g a l r 1 ⟨lc, ls, le, lf, lv, lr⟩ _ HN.out hr0 HX.out (fun _ => H0.out)).mono ?_
  rintro e w1 ⟨rfl, hr1, hm1⟩
  have z1 := z0.mod hm1 (by unfold One; omega)
  have z2 := z1.alloc (.cells #[.int .i64 lc, .int .i64 ls, .int .i64 le, .bool lf, .string lv, .int .i64 lr] 57)
  have HM := Lib.hid ((hz0.non.trans' hm1).alloc (.cells #[.int .i64 lc, .int .i64 ls, .int .i64 le, .bool lf, .string lv, .int .i64 lr] 57))
  have hr2 := hr1.non ((Mod.refl Non w1).alloc (.cells #[.int .i64 lc, .int .i64 ls, .int .i64 le, .bool lf, .string lv, .int .i64 lr] 57))
  have f0 := z2.frozen 0
  have f1 := z2.frozen 1
  have f2 := z2.frozen 2
  have f3 := z2.frozen 3
  have f4 := z2.frozen 4
  have f5 := z2.frozen 5
  have f6 := z2.frozen 6
  have f7 := z2.frozen 7
  have c0 := z2.cell 0
  have c1 := z2.cell 1
  have c2 := z2.cell 2
  have c3 := z2.cell 3
  have c4 := z2.cell 4
  have c5 := z2.cell 5
  have c6 := z2.cell 6
  have c7 := z2.cell 7
  simp at c0 c1 c2 c3 c4 c5 c6 c7
  clear hm1 hr0 b0 z0 x0 hz0
  go_wp2
  have z5 := ((((((((z2.set_ 0 (.int .i64 lc)).set_ 1 (.int .i64 ls)).set_ 2 (.int .i64 lc)).set_ 3 (.int .i64 ls)).set_ 4 (.int .i64 le)).set_ 5 (.bool lf)).set_ 6 (.string lv)).set_ 7 (.int .i64 lr))
  refine bodyPost_ret (results_row rfl _ _ w.heap.size 68 #[.int .i64 lc, .int .i64 ls, .int .i64 lc, .int .i64 ls, .int .i64 le, .bool lf, .string lv, .int .i64 lr] (0, 0) _ rfl z5 Tryz.underlying68 rfl (by kernel_rfl)) rfl ?_
  exact ⟨rfl, ((((((((hr2.far (by omega) _).far (by omega) _).far (by omega) _).far (by omega) _).far (by omega) _).far (by omega) _).far (by omega) _).far (by omega) _), ((((((((HM.out.setNew (Nat.le_refl _) _ _).setNew (Nat.le_refl _) _ _).setNew (Nat.le_refl _) _ _).setNew (Nat.le_refl _) _ _).setNew (Nat.le_refl _) _ _).setNew (Nat.le_refl _) _ _).setNew (Nat.le_refl _) _ _).setNew (Nat.le_refl _) _ _)⟩
end Go.Proofs.YtdclfdinhdaadaaGreatDoor
