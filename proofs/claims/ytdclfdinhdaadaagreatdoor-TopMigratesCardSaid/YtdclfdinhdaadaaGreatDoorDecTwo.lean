/- Package snaptwo: what reads a pair, a session into a state. -/
import Derived.Test.YtdclfdinhdaadaaGreatDoorDecode1
namespace Go.Proofs.YtdclfdinhdaadaaGreatDoor
open Go.RowKit

/-- what a round may turn: the reader, the state, what lies at B or above -/
def Trd (g SB B : Nat) : Nat → Prop := fun k => k = g ∨ k = SB ∨ B ≤ k

/-- a round's memory: the reader at a, the state's two rows, a row of the round's own, one variable at P0 -/
structure DI (w : World) (g : Nat) (l : List UInt8) (H SB B : Nat) (v1 v2 v : Value) (e : TypeId) (sz n : Nat) (xs : List Value) (P0 : Nat) (T : TypeId) (W : World) (a : Nat) (cs : Array Value) : Prop where
  rd : Rd W g l a
  b : Blk W H 80 #[.pointer (some ⟨g, 0, none⟩)]
  s : Blk W SB 25 #[.int .i64 2, v1, v2]
  o : W.ownsRow B e sz v n xs
  p : Blk W P0 T cs
  m : Mod (Trd g SB B) w W
  c1 : g < H
  c2 : H < SB
  c3 : SB < B
  c4 : B ≤ w.heap.size
  c5 : w.heap.size ≤ P0
  c6 : ∀ k, v.ownBlock = some k → B ≤ k ∧ k < w.heap.size
section
variable {w W W' : World} {g H SB B sz n P0 a a' : Nat} {l : List UInt8} {v1 v2 v : Value} {e T : TypeId} {xs : List Value} {cs : Array Value}
theorem DI.call (h : DI w g l H SB B v1 v2 v e sz n xs P0 T W a cs) (hr : Rd W' g l a') (hm : Mod (One g) W W') : DI w g l H SB B v1 v2 v e sz n xs P0 T W' a' cs where
  rd := hr
  b := h.b.mod hm (by have := h.c1; unfold One; omega)
  s := h.s.mod hm (by have := h.c1; have := h.c2; unfold One; omega)
  o := own_mod h.o hm fun k hk e => by have := h.c6 k hk; have := h.c1; have := h.c2; have := h.c3; unfold One at e; omega
  p := h.p.mod hm (by have := h.c1; have := h.c2; have := h.c3; have := h.c4; have := h.c5; unfold One; omega)
  m := h.m.trans hm fun i _ e => Or.inl e
  c1 := h.c1
  c2 := h.c2
  c3 := h.c3
  c4 := h.c4
  c5 := h.c5
  c6 := h.c6
theorem DI.store (h : DI w g l H SB B v1 v2 v e sz n xs P0 T W a cs) (i : Nat) (u : Value) : DI w g l H SB B v1 v2 v e sz n xs P0 T (W.setCell ⟨P0, i, none⟩ u) a (cs.setIfInBounds i u) :=
  have hm := Mod.one W P0 i u
  { rd := h.rd.mod hm fun k hk e => by have := h.c1; have := h.c2; have := h.c3; have := h.c4; have := h.c5; unfold One at e; omega
    b := h.b.mod hm (by have := h.c2; have := h.c3; have := h.c4; have := h.c5; unfold One; omega)
    s := h.s.mod hm (by have := h.c3; have := h.c4; have := h.c5; unfold One; omega)
    o := own_mod h.o hm fun k hk e => by have := h.c6 k hk; have := h.c5; unfold One at e; omega
    p := h.p.set_ i u
    m := h.m.setNew h.c5 i u
    c1 := h.c1
    c2 := h.c2
    c3 := h.c3
    c4 := h.c4
    c5 := h.c5
    c6 := h.c6 }
theorem DI.start (hr : Rd W g l a) (hb : Blk W H 80 #[.pointer (some ⟨g, 0, none⟩)]) (hs : Blk W SB 25 #[.int .i64 2, v1, v2]) (ho : W.ownsRow B e sz v n xs) (hm : Mod (One g) w W)
    (c1 : g < H) (c2 : H < SB) (c3 : SB < B) (c4 : B ≤ w.heap.size) (c6 : ∀ k, v.ownBlock = some k → B ≤ k ∧ k < w.heap.size) (T : TypeId) (cs : Array Value) : DI w g l H SB B v1 v2 v e sz n xs W.heap.size T (W.alloc (.cells cs T)) a cs :=
  have a1 := (Mod.refl Non W).alloc (.cells cs T)
  { rd := hr.non a1
    b := hb.mod a1 (fun h => h)
    s := hs.mod a1 (fun h => h)
    o := own_non ho a1
    p := Blk.new W T cs
    m := (hm.mono fun _ _ h => Or.inl h).trans' a1.non
    c1 := c1
    c2 := c2
    c3 := c3
    c4 := c4
    c5 := hm.size
    c6 := c6 }
end

set_option maxRecDepth 100000 in
set_option maxHeartbeats 1000000 in
theorem two_pair (g a H SB B : Nat) (l r : List UInt8) (p : Pa) (xs : List Pa) (v1 v2 : Value) (w : World) (hr : Rd w g l a) (h : l.drop a = penc 2 p ++ r) (hp : p.Ok) (h0 : 1 ≤ p.rev ∧ p.rev ≤ 4294967296) (hb : Blk w H 80 #[.pointer (some ⟨g, 0, none⟩)])
    (hs : Blk w SB 25 #[.int .i64 2, v1, v2]) (ho : OwnP w B v1 xs) (hgH : g < H) (hgS : H < SB) (hSB : SB < B) (hB : B ≤ w.heap.size) (hlen : xs.length ≤ 100000) :
    Calls Tryz.prog 85 #[.pointer (some ⟨H, 0, none⟩), .pointer (some ⟨SB, 0, none⟩)] w fun e w' => e = .returned (.tuple #[]) ∧ Rd w' g l (a + (penc 2 p).length) ∧ (∃ v1', Blk w' SB 25 #[.int .i64 2, v1', v2] ∧ OwnP w' B v1' (xs ++ [p])) ∧ Mod (Trd g SB B) w w' := by
  obtain ⟨key, val, rv⟩ := p
  obtain ⟨k1, k2⟩ := hp
  have q1 := (keyB_size k1).2
  have q2 := valB_size k2
  simp only at h0 q1 q2
  obtain ⟨rv, rfl⟩ : ∃ n : Nat, rv = n := ⟨rv.toNat, by omega⟩
  have hx : l.drop a = vbytes key.size ++ (key.data.toList ++ (vbytes rv ++ (vbytes val.size ++ (val.data.toList ++ r)))) := by rw [h]; simp [penc]
  have hy := (at_str hx hr.len.1 (by omega)).2.2.2
  obtain ⟨hy1, hz⟩ := at_num hy (by omega)
  have HE : Hid (a + (vbytes key.size).length + key.size + (vbytes rv).length + (vbytes val.size).length + val.size = a + (penc 2 ⟨key, val, rv⟩).length) := by
    show _ = _
    simp [penc]
    omega
  have HX := Lib.hid hx
  have HY := Lib.hid hy1
  have HZ := Lib.hid hz
  clear hx hy hy1 hz h k1 k2
  obtain ⟨A1, m1, c1, rfl, hx1, hc1⟩ := ho.form
  have hown := World.ownsRow.lt ho
  have x0 := hb.cell 0
  simp at x0
  have hHl := hb.lt
  have hSl := hs.lt
  go_enter Tryz.func85, Tryz.ntmps85
  go_wp2_with fail
  refine (rd_str g a l _ key _ _ hr HX.out (by omega) (by omega)).mono ?_
  rintro e w1 ⟨rfl, hr1, hm1⟩
  have hz1 := hm1.size
  have b1 := hb.mod hm1 (by unfold One; omega)
  have s1 := hs.mod hm1 (by unfold One; omega)
  have o1 := OwnP.mod ho hm1 (fun g2 hg h => by have := (World.ownsRow.lt ho g2 hg).1; unfold One at h; omega)
  have D1 := DI.start hr1 b1 s1 o1 hm1 hgH hgS hSB hB hown 42 #[.string key, .string ⟨#[]⟩, .int .i64 0]
  have hb1 := b1.lt
  have hs1 := s1.lt
  have hg1 := hr1.lt
  have x1 := D1.b.cell 0
  simp only [List.getElem?_toArray, List.getElem?_cons_zero] at x1
  obtain ⟨P0, hP⟩ : ∃ P0, P0 = w1.heap.size := ⟨_, rfl⟩
  rw [← hP] at D1 hb1 hs1 hg1
  have HP := Lib.hid hP
  clear hP hm1 hr1 hb hs ho x0 hr b1 s1 o1
  go_wp2_with fail
  rw [← HP.out]
  refine (rd_Number g _ rv _ l _ _ D1.rd HY.out (by omega)).mono ?_
  rintro e w2 ⟨rfl, hr2, hm2⟩
  have D2 := (D1.call hr2 hm2).store 2 (.int .i64 rv)
  have hm2s := hm2.size
  rw [World.size_alloc, ← HP.out] at hm2s
  have x2 := D2.b.cell 0
  simp only [List.getElem?_toArray, List.getElem?_cons_zero] at x2
  have y2 := (D1.call hr2 hm2).p.cell 2
  have z2 := (D1.call hr2 hm2).p.frozen 2
  simp at y2
  clear D1 hr2 hm2 x1
  go_wp2_with fail
  generalize w2.setCell ⟨P0, 2, none⟩ (.int .i64 rv) = w3 at D2 x2 ⊢
  refine (rd_str g _ l _ val _ _ D2.rd HZ.out (by omega) (by omega)).mono ?_
  rintro e w4 ⟨rfl, hr4, hm4⟩
  have D4 := D2.call hr4 hm4
  have y4 := D4.p.cell 1
  have z4 := D4.p.frozen 1
  have u4 := D4.p.cell 0
  have u42 := D4.p.cell 2
  have D5 := D4.store 1 (.string val)
  have D6 := D5.rd
  have s4 := D5.s.cell 1
  have p5 := D5.p
  have w4l := D4.p.lt
  simp at y4 u4 u42 s4
  clear hr4 hm4 D2 x2 y2 z2
  have hBl : B ≤ (w4.setCell ⟨P0, 1, none⟩ (.string val)).heap.size := by have := D5.c5; simp [World.setCell]; omega
  have D5o : OwnP (w4.setCell ⟨P0, 1, none⟩ (.string val)) B (.slice A1 m1 c1) xs := D5.o
  rw [HE.out] at D6
  go_wp2_with (at_builtin; refine wpList_append_Pa rfl (.tmp 13) (.tmp 15) rfl B _ xs rfl D5o ⟨key, val, (rv : Int)⟩ w4.heap.size (by simp [World.setCell]) rfl hlen hBl ?_
               intro v6 w6 hown6 hm6
               obtain ⟨A6, m6, c6, rfl, hx6, hc6⟩ := hown6.form
               have s6 := D5.s.mod hm6 (fun h => by have := hown _ h; omega)
               have y6 := s6.cell 1
               have z6 := s6.frozen 1
               simp at y6)
  go_end0
  have hl6 := World.ownsRow.lt hown6
  refine ⟨rfl, (D6.mod hm6 fun k hk h => by have := hown k h; omega).far (by omega) _, ⟨_, s6.set_ 1 (.slice A6 m6 c6), OwnP.mod hown6 (Mod.one w6 SB 1 _) fun k hk h => by have := hl6 k hk; unfold One at h; omega⟩, ?_⟩
  exact (D5.m.trans hm6 fun i hi h => Or.inr (Or.inr (hown i h).1)).setCell (p := ⟨SB, 1, none⟩) (fun _ => Or.inr (Or.inl rfl)) _

set_option maxRecDepth 100000 in
set_option maxHeartbeats 1000000 in
theorem two_sess (g a H SB B : Nat) (l r : List UInt8) (x : Se) (xs : List Se) (v1 v2 : Value) (w : World) (hr : Rd w g l a) (h : l.drop a = xenc 2 x ++ r) (hx : x.last.Ok) (hc : x.last.client = x.client) (hsq : x.last.seq = x.seq) (hb : Blk w H 80 #[.pointer (some ⟨g, 0, none⟩)])
    (hs : Blk w SB 25 #[.int .i64 2, v1, v2]) (ho : OwnE w B v2 xs) (hgH : g < H) (hgS : H < SB) (hSB : SB < B) (hB : B ≤ w.heap.size) (hlen : xs.length ≤ 100000) :
    Calls Tryz.prog 86 #[.pointer (some ⟨H, 0, none⟩), .pointer (some ⟨SB, 0, none⟩)] w fun e w' => e = .returned (.tuple #[]) ∧ Rd w' g l (a + (xenc 2 x).length) ∧ (∃ v2', Blk w' SB 25 #[.int .i64 2, v1, v2'] ∧ OwnE w' B v2' (xs ++ [x])) ∧ Mod (Trd g SB B) w w' := by
  obtain ⟨cl, sq, ⟨lc, ls, le, lf, lv, lr⟩⟩ := x
  simp only at hc hsq hx
  subst hc hsq
  have HX := Lib.hid h
  have HN := Lib.hid hx
  clear h hx
  obtain ⟨A2, m2, c2, rfl, hx1, hc1⟩ := ho.form
  have hown := World.ownsRow.lt ho
  have x0 := hb.cell 0
  simp at x0
  have hHl := hb.lt
  have hSl := hs.lt
  go_enter Tryz.func86, Tryz.ntmps86
  go_wp2_with fail
  refine (answer_Get g a l r 2 ⟨lc, ls, le, lf, lv, lr⟩ _ HN.out hr HX.out (fun h => absurd h (by decide))).mono ?_
  rintro e w1 ⟨rfl, hr1, hm1⟩
  have hz1 := hm1.size
  have b1 := hb.mod hm1 (by unfold One; omega)
  have s1 := hs.mod hm1 (by unfold One; omega)
  have o1 := OwnE.mod ho hm1 (fun g2 hg h => by have := (World.ownsRow.lt ho g2 hg).1; unfold One at h; omega)
  have D1 := DI.start hr1 b1 s1 o1 hm1 hgH hgS hSB hB hown 57 #[.int .i64 lc, .int .i64 ls, .int .i64 le, .bool lf, .string lv, .int .i64 lr]
  have hb1 := b1.lt
  have hs1 := s1.lt
  have hg1 := hr1.lt
  have D6 : Rd _ g l (a + (xenc 2 ⟨lc, ls, ⟨lc, ls, le, lf, lv, lr⟩⟩).length) := D1.rd
  have s4 := D1.s.cell 2
  simp only [List.getElem?_toArray, List.getElem?_cons_zero, List.getElem?_cons_succ] at s4
  have D5o : OwnE _ B (.slice A2 m2 c2) xs := D1.o
  have hBl : B ≤ (w1.alloc (.cells #[.int .i64 lc, .int .i64 ls, .int .i64 le, .bool lf, .string lv, .int .i64 lr] 57)).heap.size := by simp; omega
  clear hm1 hr1 hb hs ho x0 hr b1 s1 o1
  go_wp2_with (at_builtin; refine wpList_append_Se rfl (.tmp 6) (.tmp 13) rfl B _ xs rfl D5o ⟨lc, ls, ⟨lc, ls, le, lf, lv, lr⟩⟩ (w1.heap.size + 1) (by simp) rfl hlen hBl ?_
               intro v6 w6 hown6 hm6
               obtain ⟨A6, m6, c6, rfl, hx6, hc6⟩ := hown6.form
               have s6 := D1.s.mod hm6 (fun h => by have := hown _ h; omega)
               have y6 := s6.cell 2
               have z6 := s6.frozen 2
               simp at y6)
  go_end0
  have hl6 := World.ownsRow.lt hown6
  refine ⟨rfl, (D6.mod hm6 fun k hk h => by have := hown k h; omega).far (by omega) _, ⟨_, s6.set_ 2 (.slice A6 m6 c6), OwnE.mod hown6 (Mod.one w6 SB 2 _) fun k hk h => by have := hl6 k hk; unfold One at h; omega⟩, ?_⟩
  exact (D1.m.trans hm6 fun i hi h => Or.inr (Or.inr (hown i h).1)).setCell (p := ⟨SB, 2, none⟩) (fun _ => Or.inr (Or.inl rfl)) _
end Go.Proofs.YtdclfdinhdaadaaGreatDoor
