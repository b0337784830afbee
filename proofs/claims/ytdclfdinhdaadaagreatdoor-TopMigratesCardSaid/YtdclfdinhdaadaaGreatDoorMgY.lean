/- Package snaptwo: what reads a pair, a session into a state. -/
import Derived.Test.YtdclfdinhdaadaaGreatDoorMgX
namespace Go.Proofs.YtdclfdinhdaadaaGreatDoor
open Go.RowKit

/-- what a round may turn: the reader, the state, what lies at B or above -/
def Trd (g SB B : Nat) : Nat → Prop := fun k => k = g ∨ k = SB ∨ B ≤ k

/-- a round's memory: the reader at a, the state's two rows, a row of the round's own, one variable at P0 -/
structure DI (w : World) (g : Nat) (l : List UInt8) (H SB B : Nat) (v1 v2 v : Value) (e : TypeId) (sz n : Nat) (xs : List Value) (P0 : Nat) (T : TypeId) (W : World) (a : Nat) (cs : Array Value) : Prop where
  rd : Rd W g l a
  b : Blk W H 80 #[.pointer (some ⟨g, 0, none⟩)]
  s : Blk W SB 25 #[.int .i64 2, v1, v2]
  o : W.ownsRow B e sz v n xs
  p : Blk W P0 T cs
  m : Mod (Trd g SB B) w W
  c1 : g < H
  c2 : H < SB
  c3 : SB < B
  c4 : B ≤ w.heap.size
  c5 : w.heap.size ≤ P0
  c6 : ∀ k, v.ownBlock = some k → B ≤ k ∧ k < w.heap.size
section
variable {w W W' : World} {g H SB B sz n P0 a a' : Nat} {l : List UInt8} {v1 v2 v : Value} {e T : TypeId} {xs : List Value} {cs : Array Value}
theorem DI.call (h : DI w g l H SB B v1 v2 v e sz n xs P0 T W a cs) (hr : Rd W' g l a') (hm : Mod (One g) W W') : DI w g l H SB B v1 v2 v e sz n xs P0 T W' a' cs where
  rd := hr
  b := h.b.mod hm (by have := h.c1; unfold One; omega)
  s := h.s.mod hm (by have := h.c1; have := h.c2; unfold One; omega)
  o := own_mod h.o hm fun k hk e => by have := h.c6 k hk; have := h.c1; have := h.c2; have := h.c3; unfold One at e; omega
  p := h.p.mod hm (by have := h.c1; have := h.c2; have := h.c3; have := h.c4; have := h.c5; unfold One; omega)
  m := h.m.trans hm fun i _ e => Or.inl e
  c1 := h.c1
  c2 := h.c2
  c3 := h.c3
  c4 := h.c4
  c5 := h.c5
  c6 := h.c6
theorem DI.store (h : DI w g l H SB B v1 v2 v e sz n xs P0 T W a cs) (i : Nat) (u : Value) : DI w g l H SB B v1 v2 v e sz n xs P0 T (W.setCell ⟨P0, i, none⟩ u) a (cs.setIfInBounds i u) :=
  have hm := Mod.one W P0 i u
  { rd := h.rd.mod hm fun k hk e => by have := h.c1; have := h.c2; have := h.c3; have := h.c4; have := h.c5; unfold One at e; omega
    b := h.b.mod hm (by have := h.c2; have := h.c3; have := h.c4; have := h.c5; unfold One; omega)
    s := h.s.mod hm (by have := h.c3; have := h.c4; have := h.c5; unfold One; omega)
    o := own_mod h.o hm fun k hk e => by have := h.c6 k hk; have := h.c5; unfold One at e; omega
    p := h.p.set_ i u
    m := h.m.setNew h.c5 i u
    c1 := h.c1
    c2 := h.c2
    c3 := h.c3
    c4 := h.c4
    c5 := h.c5
    c6 := h.c6 }
theorem DI.start (hr : Rd W g l a) (hb : Blk W H 80 #[.pointer (some ⟨g, 0, none⟩)]) (hs : Blk W SB 25 #[.int .i64 2, v1, v2]) (ho : W.ownsRow B e sz v n xs) (hm : Mod (One g) w W)
    (c1 : g < H) (c2 : H < SB) (c3 : SB < B) (c4 : B ≤ w.heap.size) (c6 : ∀ k, v.ownBlock = some k → B ≤ k ∧ k < w.heap.size) (T : TypeId) (cs : Array Value) : DI w g l H SB B v1 v2 v e sz n xs W.heap.size T (W.alloc (.cells cs T)) a cs :=
  have a1 := (Mod.refl Non W).alloc (.cells cs T)
  { rd := hr.non a1
    b := hb.mod a1 (fun h => h)
    s := hs.mod a1 (fun h => h)
    o := own_non ho a1
    p := Blk.new W T cs
    m := (hm.mono fun _ _ h => Or.inl h).trans' a1.non
    c1 := c1
    c2 := c2
    c3 := c3
    c4 := c4
    c5 := hm.size
    c6 := c6 }
end

set_option maxRecDepth 100000 in
set_option maxHeartbeats 1000000 in
theorem two_pair (g a H SB B : Nat) (l r : List UInt8) (p : Pa) (xs : List Pa) (v1 v2 : Value) (w : World) (hr : Rd w g l a) (h : l.drop a = penc 2 p ++ r) (hp : p.Ok) (h0 : 1 ≤ p.rev ∧ p.rev ≤ 4294967296) (hb : Blk w H 80 #[.pointer (some ⟨g, 0, none⟩)])
    (hs : Blk w SB 25 #[.int .i64 2, v1, v2]) (ho : OwnP w B v1 xs) (hgH : g < H) (hgS : H < SB) (hSB : SB < B) (hB : B ≤ w.heap.size) (hlen : xs.length ≤ 100000) :
    Calls Tryz.prog 85 #[.pointer (some ⟨H, 0, none⟩), .pointer (some ⟨SB, 0, none⟩)] w fun e w' => e = .returned (.tuple #[]) ∧ Rd w' g l (a + (penc 2 p).length) ∧ (∃ v1', Blk w' SB 25 #[.int .i64 2, v1', v2] ∧ OwnP w' B v1' (xs ++ [p])) ∧ Mod (Trd g SB B) w w' := by
  obtain ⟨key, val, rv⟩ := p
  obtain ⟨k1, k2⟩ := hp
  have q1 := (keyB_size k1).2
  have q2 := valB_size k2
  simp only at h0 q1 q2
  obtain ⟨rv, rfl⟩ : ∃ n : Nat, rv = n := ⟨rv.toNat, by omega⟩
  have hx : l.drop a = vbytes key.size ++ (key.data.toList ++ (vbytes rv ++ (vbytes val.size ++ (val.data.toList ++ r)))) := by rw [h]; simp [penc]
  have hy := (at_str hx hr.len.1 (by omega)).2.2.2
  obtain ⟨hy1, hz⟩ := at_num hy (by omega)
  have HE : Hid (a + (vbytes key.size).length + key.size + (vbytes rv).length + (vbytes val.size).length + val.size = a + (penc 2 ⟨key, val, rv⟩).length) := by
    show _ = _
    simp [penc]
    omega
  have HX := Lib.hid hx
  have HY := Lib.hid hy1
  have HZ := Lib.hid hz
  clear hx hy hy1 hz h k1 k2
  obtain ⟨A1, m1, c1, rfl, hx1, hc1⟩ := ho.form
  have hown := World.ownsRow.lt ho
  have x0 := hb.cell 0
  simp at x0
  have hHl := hb.lt
  have hSl := hs.lt
  go_enter Tryz.func85, Tryz.ntmps85
  go_wp2_with fail
  refine (rd_str g a l _ key _ _ hr HX.out (by omega) (by omega)).mono ?_
  rintro e w1 ⟨rfl, hr1, hm1⟩
  have hz1 := hm1.size
  have b1 := hb.mod hm1 (by unfold One; omega)
  have s1 := hs.mod hm1 (by unfold One; omega)
  have o1 := OwnP.mod ho hm1 (fun g2 hg h => by have := (World.ownsRow.lt ho g2 hg).1; unfold One at h; omega)
  have D1 := DI.start hr1 b1 s1 o1 hm1 hgH hgS hSB hB hown 42 #[.string key, .string ⟨#[]⟩, .int .i64 0]
  have hb1 := b1.lt
  have hs1 := s1.lt
  have hg1 := hr1.lt
  have x1 := D1.b.cell 0
  simp only [List.getElem?_toArray, List.getElem?_cons_zero] at x1
  obtain ⟨P0, hP⟩ : ∃ P0, P0 = w1.heap.size := ⟨_, rfl⟩
  rw [← hP] at D1 hb1 hs1 hg1
  have HP := Lib.hid hP
  clear hP hm1 hr1 hb hs ho x0 hr b1 s1 o1
  go_wp2_with fail
  rw [← HP.out]
  refine (rd_Number g _ rv _ l _ _ D1.rd HY.out (by omega)).mono ?_
  rintro e w2 ⟨rfl, hr2, hm2⟩
  have D2 := (D1.call hr2 hm2).store 2 (.int .i64 rv)
  have hm2s := hm2.size
  rw [World.size_alloc, ← HP.out] at hm2s
  have x2 := D2.b.cell 0
  simp only [List.getElem?_toArray, List.getElem?_cons_zero] at x2
  have y2 := (D1.call hr2 hm2).p.cell 2
  have z2 := (D1.call hr2 hm2).p.frozen 2
  simp at y2
  clear D1 hr2 hm2 x1
  go_wp2_with fail
  generalize w2.setCell ⟨P0, 2, none⟩ (.int .i64 rv) = w3 at D2 x2 ⊢
  refine (rd_str g _ l _ val _ _ D2.rd HZ.out (by omega) (by omega)).mono ?_
  rintro e w4 ⟨rfl, hr4, hm4⟩
  have D4 := D2.call hr4 hm4
  have y4 := D4.p.cell 1
  have z4 := D4.p.frozen 1
  have u4 := D4.p.cell 0
  have u42 := D4.p.cell 2
  have D5 := D4.store 1 (.string val)
  have D6 := D5.rd
  have s4 := D5.s.cell 1
  have p5 := D5.p
  have w4l := D4.p.lt
  simp at y4 u4 u42 s4
  clear hr4 hm4 D2 x2 y2 z2
  have hBl : B ≤ (w4.setCell ⟨P0, 1, none⟩ (.string val)).heap.size := by have := D5.c5; simp [World.setCell]; omega
  have D5o : OwnP (w4.setCell ⟨P0, 1, none⟩ (.string val)) B (.slice A1 m1 c1) xs := D5.o
  rw [HE.out] at D6
  go_wp2_with (at_builtin; refine wpList_append_Pa rfl (.tmp 13) (.tmp 15) rfl B _ xs rfl D5o ⟨key, val, (rv : Int)⟩ w4.heap.size (by simp [World.setCell]) rfl hlen hBl ?_
               intro v6 w6 hown6 hm6
               obtain ⟨A6, m6, c6, rfl, hx6, hc6⟩ := hown6.form
               have s6 := D5.s.mod hm6 (fun h => by have := hown _ h; omega)
               have y6 := s6.cell 1
               have z6 := s6.frozen 1
               simp at y6)
  go_end0
  have hl6 := World.ownsRow.lt hown6
  refine ⟨rfl, (D6.mod hm6 fun k hk h => by have := hown k h; omega).far (by omega) _, ⟨_, s6.set_ 1 (.slice A6 m6 c6), OwnP.mod hown6 (Mod.one w6 SB 1 _) fun k hk h => by have := hl6 k hk; unfold One at h; omega⟩, ?_⟩
  exact (D5.m.trans hm6 fun i hi h => Or.inr (Or.inr (hown i h).1)).setCell (p := ⟨SB, 1, none⟩) (fun _ => Or.inr (Or.inl rfl)) _

set_option maxRecDepth 100000 in
set_option maxHeartbeats 1000000 in
theorem two_sess (g a H SB B : Nat) (l r : List UInt8) (x : Se) (xs : List Se) (v1 v2 : Value) (w : World) (hr : Rd w g l a) (h : l.drop a = xenc 2 x ++ r) (hx : x.last.Ok) (hc : x.last.client = x.client) (hsq : x.last.seq = x.seq) (hb : Blk w H 80 #[.pointer (some ⟨g, 0, none⟩)])
    (hs : Blk w SB 25 #[.int .i64 2, v1, v2]) (ho : OwnE w B v2 xs) (hgH : g < H) (hgS : H < SB) (hSB : SB < B) (hB : B ≤ w.heap.size) (hlen : xs.length ≤ 100000) :
    Calls Tryz.prog 86 #[.pointer (some ⟨H, 0, none⟩), .pointer (some ⟨SB, 0, none⟩)] w fun e w' => e = .returned (.tuple #[]) ∧ Rd w' g l (a + (xenc 2 x).length) ∧ (∃ v2', Blk w' SB 25 #[.int .i64 2, v1, v2'] ∧ OwnE w' B v2' (xs ++ [x])) ∧ Mod (Trd g SB B) w w' := by
  obtain ⟨cl, sq, ⟨lc, ls, le, lf, lv, lr⟩⟩ := x
  simp only at hc hsq hx
  subst hc hsq
  have HX := Lib.hid h
  have HN := Lib.hid hx
  clear h hx
  obtain ⟨A2, m2, c2, rfl, hx1, hc1⟩ := ho.form
  have hown := World.ownsRow.lt ho
  have x0 := hb.cell 0
  simp at x0
  have hHl := hb.lt
  have hSl := hs.lt
  go_enter Tryz.func86, Tryz.ntmps86
  go_wp2_with fail
  refine (answer_Get g a l r 2 ⟨lc, ls, le, lf, lv, lr⟩ _ HN.out hr HX.out (fun h => absurd h (by decide))).mono ?_
  rintro e w1 ⟨rfl, hr1, hm1⟩
  have hz1 := hm1.size
  have b1 := hb.mod hm1 (by unfold One; omega)
  have s1 := hs.mod hm1 (by unfold One; omega)
  have o1 := OwnE.mod ho hm1 (fun g2 hg h => by have := (World.ownsRow.lt ho g2 hg).1; unfold One at h; omega)
  have D1 := DI.start hr1 b1 s1 o1 hm1 hgH hgS hSB hB hown 57 #[.int .i64 lc, .int .i64 ls, .int .i64 le, .bool lf, .string lv, .int .i64 lr]
  have hb1 := b1.lt
  have hs1 := s1.lt
  have hg1 := hr1.lt
  have D6 : Rd _ g l (a + (xenc 2 ⟨lc, ls, ⟨lc, ls, le, lf, lv, lr⟩⟩).length) := D1.rd
  have s4 := D1.s.cell 2
  simp only [List.getElem?_toArray, List.getElem?_cons_zero, List.getElem?_cons_succ] at s4
  have D5o : OwnE _ B (.slice A2 m2 c2) xs := D1.o
  have hBl : B ≤ (w1.alloc (.cells #[.int .i64 lc, .int .i64 ls, .int .i64 le, .bool lf, .string lv, .int .i64 lr] 57)).heap.size := by simp; omega
  clear hm1 hr1 hb hs ho x0 hr b1 s1 o1
  go_wp2_with (at_builtin; refine wpList_append_Se rfl (.tmp 6) (.tmp 13) rfl B _ xs rfl D5o ⟨lc, ls, ⟨lc, ls, le, lf, lv, lr⟩⟩ (w1.heap.size + 1) (by simp) rfl hlen hBl ?_
               intro v6 w6 hown6 hm6
               obtain ⟨A6, m6, c6, rfl, hx6, hc6⟩ := hown6.form
               have s6 := D1.s.mod hm6 (fun h => by have := hown _ h; omega)
               have y6 := s6.cell 2
               have z6 := s6.frozen 2
               simp at y6)
  go_end0
  have hl6 := World.ownsRow.lt hown6
  refine ⟨rfl, (D6.mod hm6 fun k hk h => by have := hown k h; omega).far (by omega) _, ⟨_, s6.set_ 2 (.slice A6 m6 c6), OwnE.mod hown6 (Mod.one w6 SB 2 _) fun k hk h => by have := hl6 k hk; unfold One at h; omega⟩, ?_⟩
  exact (D1.m.trans hm6 fun i hi h => Or.inr (Or.inr (hown i h).1)).setCell (p := ⟨SB, 2, none⟩) (fun _ => Or.inr (Or.inl rfl)) _
end Go.Proofs.YtdclfdinhdaadaaGreatDoor

/- Package snaptwo: times, at pairs and at sessions. -/
namespace Go.Proofs.YtdclfdinhdaadaaGreatDoor
open Go.RowKit

set_option maxRecDepth 100000 in
set_option maxHeartbeats 1000000 in
theorem two_times_Pa (g a H SB B : Nat) (l r : List UInt8) (xs : List Pa) (v2 : Value) (w : World) (hr : Rd w g l a) (h : l.drop a = vbytes xs.length ++ (xs.flatMap (penc 2) ++ r)) (hx : ∀ x ∈ xs, x.Ok ∧ 1 ≤ x.rev ∧ x.rev ≤ 4294967296) (hn : xs.length ≤ 64) (hb : Blk w H 80 #[.pointer (some ⟨g, 0, none⟩)])
    (hs : Blk w SB 25 #[.int .i64 2, .slice none 0 0, v2]) (hgH : g < H) (hgS : H < SB) (hSB : SB < B) (hB : B ≤ w.heap.size) :
    Calls Tryz.prog 84 #[.pointer (some ⟨g, 0, none⟩), .int .i64 64, .func (.func 85) #[] #[.pointer (some ⟨H, 0, none⟩), .pointer (some ⟨SB, 0, none⟩)]] w fun e w' => e = .returned (.tuple #[]) ∧ Rd w' g l (a + (vbytes xs.length).length + (xs.flatMap (penc 2)).length) ∧ (∃ v, Blk w' SB 25 #[.int .i64 2, v, v2] ∧ OwnP w' B v xs) ∧ Mod (Trd g SB B) w w' := by
  obtain ⟨h1, h2⟩ := at_num h (by omega)
  have hlen := congrArg List.length h
  rw [List.length_drop, List.length_append, List.length_append] at hlen
  have hge := flat_ge (penc 2) xs fun x _ => Nat.le_trans (by omega) (penc_two (v := 2) (p := x))
  have hal := hr.len.1
  have hvp := vbytes_pos xs.length
  have hv : a + (vbytes xs.length).length + xs.length ≤ l.length := by omega
  obtain ⟨n, hnn⟩ : ∃ n, n = xs.length := ⟨_, rfl⟩
  obtain ⟨t, ht⟩ : ∃ t, t = (vbytes xs.length).length := ⟨_, rfl⟩
  rw [← ht] at h1 h2 hv ⊢
  rw [← hnn] at h1 hv hn
  have HN := Lib.hid hnn
  have H1 := Lib.hid h1
  have H2 := Lib.hid h2
  have HX := Lib.hid hx
  have HV := Lib.hid hv
  have hgl := hr.lt
  have hHl := hb.lt
  clear h h1 h2 hlen hge hal hnn ht hv hvp hx
  go_enter Tryz.func84, Tryz.ntmps84
  go_wp2_with fail
  refine (rd_Count g a n t l 64 w hr H1.out (by omega) HV.out).mono ?_
  rintro e w1 ⟨rfl, hr1, hm1⟩
  have b1 := hb.mod hm1 (by unfold One; omega)
  have s1 := hs.mod hm1 (by unfold One; omega)
  have hm1' : Mod (Trd g SB B) w w1 := hm1.mono fun k _ h => Or.inl h
  clear hm1
  go_wp2_with fail
  go_loopw [9] (fun i wr => ∃ k : Nat, k ≤ n ∧ i = .int .i64 k ∧ (∃ v, Blk wr SB 25 #[.int .i64 2, v, v2] ∧ OwnP wr B v (xs.take k)) ∧ Rd wr g l (a + t + ((xs.take k).flatMap (penc 2)).length) ∧ Mod (Trd g SB B) w wr) (fun i _ => n - (intOf i).toNat)
  case atStart => exact ⟨0, by omega, rfl, ⟨_, s1, OwnP.nil _ _⟩, by simpa using hr1, hm1'⟩
  case round =>
    obtain ⟨k, hk, rfl, ⟨v, hsv, ho⟩, hrd, hm⟩ := hrel
    clear hr1 hm1' b1 s1
    by_cases hlt : k < n
    · have hkq : k < xs.length := by have := HN.out; omega
      obtain ⟨x, hxk⟩ : ∃ x, xs[k]? = some x := ⟨xs[k], by simp [hkq]⟩
      have hdr := flat_at (f := penc 2) H2.out hxk
      have hxo := HX.out _ (List.mem_of_getElem? hxk)
      have hkn : (k : Int) < n := by omega
      have bk := hb.mod hm (by unfold Trd; omega)
      have HXK := Lib.hid hxk
      have HDR := Lib.hid hdr
      have HXO := Lib.hid hxo
      have HM := Lib.hid hm
      have HSV := Lib.hid hsv
      have HBK := Lib.hid bk
      have hsz := hm.size
      have hlk : (xs.take k).length ≤ 100000 := by rw [List.length_take]; omega
      clear hxk hdr hxo hm hsv bk
      go_wp2_with fail
      refine (two_pair g _ H SB B l _ x (xs.take k) v v2 _ hrd HDR.out HXO.out.1 HXO.out.2 HBK.out HSV.out ho hgH hgS hSB (Nat.le_trans hB hsz) hlk).mono ?_
      rintro e w3 ⟨rfl, hr3, ⟨v3, hs3, ho3⟩, hm3⟩
      have hm5 := HM.out.trans' hm3
      have ho5 : OwnP w3 B v3 (xs.take (k + 1)) := by
        obtain ⟨q1, q2⟩ := List.getElem?_eq_some_iff.1 HXK.out
        rw [List.take_succ_eq_append_getElem q1, q2]
        exact ho3
      have hr5 : Rd w3 g l (a + t + ((xs.take (k + 1)).flatMap (penc 2)).length) := by
        rw [flat_take (penc 2) xs HXK.out, List.length_append, ← Nat.add_assoc]
        exact hr3
      have HM5 := Lib.hid hm5
      have HO5 := Lib.hid ho5
      have HR5 := Lib.hid hr5
      have HS5 := Lib.hid hs3
      clear ho hrd hr3 ho3 hm3 hs3 hm5 ho5 hr5
      go_wp2
      go_roundw
      case rel => exact ⟨k + 1, by omega, by go_num, ⟨_, HS5.out, HO5.out⟩, by simpa only [List.length_flatMap] using HR5.out, HM5.out⟩
      case measure => simp [intOf]; omega
    · have hkn : ¬ (k : Int) < n := by omega
      have hkm : k = n := by omega
      subst hkm
      rw [List.take_of_length_le (by have := HN.out; omega)] at ho hrd
      have HO := Lib.hid ho
      have HR := Lib.hid hrd
      have HM := Lib.hid hm
      have HS := Lib.hid hsv
      clear ho hrd hm hsv
      go_wp2
      go_end0
      exact ⟨rfl, by simpa only [List.length_flatMap] using HR.out, ⟨_, HS.out, HO.out⟩, HM.out⟩


set_option maxRecDepth 100000 in
set_option maxHeartbeats 1000000 in
theorem two_times_Se (g a H SB B : Nat) (l r : List UInt8) (xs : List Se) (v1 : Value) (w : World) (hr : Rd w g l a) (h : l.drop a = vbytes xs.length ++ (xs.flatMap (xenc 2) ++ r)) (hx : ∀ x ∈ xs, x.last.Ok ∧ x.last.client = x.client ∧ x.last.seq = x.seq) (hn : xs.length ≤ 8) (hb : Blk w H 80 #[.pointer (some ⟨g, 0, none⟩)])
    (hs : Blk w SB 25 #[.int .i64 2, v1, .slice none 0 0]) (hgH : g < H) (hgS : H < SB) (hSB : SB < B) (hB : B ≤ w.heap.size) :
    Calls Tryz.prog 84 #[.pointer (some ⟨g, 0, none⟩), .int .i64 8, .func (.func 86) #[] #[.pointer (some ⟨H, 0, none⟩), .pointer (some ⟨SB, 0, none⟩)]] w fun e w' => e = .returned (.tuple #[]) ∧ Rd w' g l (a + (vbytes xs.length).length + (xs.flatMap (xenc 2)).length) ∧ (∃ v, Blk w' SB 25 #[.int .i64 2, v1, v] ∧ OwnE w' B v xs) ∧ Mod (Trd g SB B) w w' := by
  obtain ⟨h1, h2⟩ := at_num h (by omega)
  have hlen := congrArg List.length h
  rw [List.length_drop, List.length_append, List.length_append] at hlen
  have hge := flat_ge (xenc 2) xs fun x _ => xenc_pos 2 x
  have hal := hr.len.1
  have hvp := vbytes_pos xs.length
  have hv : a + (vbytes xs.length).length + xs.length ≤ l.length := by omega
  obtain ⟨n, hnn⟩ : ∃ n, n = xs.length := ⟨_, rfl⟩
  obtain ⟨t, ht⟩ : ∃ t, t = (vbytes xs.length).length := ⟨_, rfl⟩
  rw [← ht] at h1 h2 hv ⊢
  rw [← hnn] at h1 hv hn
  have HN := Lib.hid hnn
  have H1 := Lib.hid h1
  have H2 := Lib.hid h2
  have HX := Lib.hid hx
  have HV := Lib.hid hv
  have hgl := hr.lt
  have hHl := hb.lt
  clear h h1 h2 hlen hge hal hnn ht hv hvp hx
  go_enter Tryz.func84, Tryz.ntmps84
  go_wp2_with fail
  refine (rd_Count g a n t l 8 w hr H1.out (by omega) HV.out).mono ?_
  rintro e w1 ⟨rfl, hr1, hm1⟩
  have b1 := hb.mod hm1 (by unfold One; omega)
  have s1 := hs.mod hm1 (by unfold One; omega)
  have hm1' : Mod (Trd g SB B) w w1 := hm1.mono fun k _ h => Or.inl h
  clear hm1
  go_wp2_with fail
  go_loopw [9] (fun i wr => ∃ k : Nat, k ≤ n ∧ i = .int .i64 k ∧ (∃ v, Blk wr SB 25 #[.int .i64 2, v1, v] ∧ OwnE wr B v (xs.take k)) ∧ Rd wr g l (a + t + ((xs.take k).flatMap (xenc 2)).length) ∧ Mod (Trd g SB B) w wr) (fun i _ => n - (intOf i).toNat)
  case atStart => exact ⟨0, by omega, rfl, ⟨_, s1, OwnE.nil _ _⟩, by simpa using hr1, hm1'⟩
  case round =>
    obtain ⟨k, hk, rfl, ⟨v, hsv, ho⟩, hrd, hm⟩ := hrel
    clear hr1 hm1' b1 s1
    by_cases hlt : k < n
    · have hkq : k < xs.length := by have := HN.out; omega
      obtain ⟨x, hxk⟩ : ∃ x, xs[k]? = some x := ⟨xs[k], by simp [hkq]⟩
      have hdr := flat_at (f := xenc 2) H2.out hxk
      have hxo := HX.out _ (List.mem_of_getElem? hxk)
      have hkn : (k : Int) < n := by omega
      have bk := hb.mod hm (by unfold Trd; omega)
      have HXK := Lib.hid hxk
      have HDR := Lib.hid hdr
      have HXO := Lib.hid hxo
      have HM := Lib.hid hm
      have HSV := Lib.hid hsv
      have HBK := Lib.hid bk
      have hsz := hm.size
      have hlk : (xs.take k).length ≤ 100000 := by rw [List.length_take]; omega
      clear hxk hdr hxo hm hsv bk
      go_wp2_with fail
      refine (two_sess g _ H SB B l _ x (xs.take k) v1 v _ hrd HDR.out HXO.out.1 HXO.out.2.1 HXO.out.2.2 HBK.out HSV.out ho hgH hgS hSB (Nat.le_trans hB hsz) hlk).mono ?_
      rintro e w3 ⟨rfl, hr3, ⟨v3, hs3, ho3⟩, hm3⟩
      have hm5 := HM.out.trans' hm3
      have ho5 : OwnE w3 B v3 (xs.take (k + 1)) := by
        obtain ⟨q1, q2⟩ := List.getElem?_eq_some_iff.1 HXK.out
        rw [List.take_succ_eq_append_getElem q1, q2]
        exact ho3
      have hr5 : Rd w3 g l (a + t + ((xs.take (k + 1)).flatMap (xenc 2)).length) := by
        rw [flat_take (xenc 2) xs HXK.out, List.length_append, ← Nat.add_assoc]
        exact hr3
      have HM5 := Lib.hid hm5
      have HO5 := Lib.hid ho5
      have HR5 := Lib.hid hr5
      have HS5 := Lib.hid hs3
      clear ho hrd hr3 ho3 hm3 hs3 hm5 ho5 hr5
      go_wp2
      go_roundw
      case rel => exact ⟨k + 1, by omega, by go_num, ⟨_, HS5.out, HO5.out⟩, by simpa only [List.length_flatMap] using HR5.out, HM5.out⟩
      case measure => simp [intOf]; omega
    · have hkn : ¬ (k : Int) < n := by omega
      have hkm : k = n := by omega
      subst hkm
      rw [List.take_of_length_le (by have := HN.out; omega)] at ho hrd
      have HO := Lib.hid ho
      have HR := Lib.hid hrd
      have HM := Lib.hid hm
      have HS := Lib.hid hsv
      clear ho hrd hm hsv
      go_wp2
      go_end0
      exact ⟨rfl, by simpa only [List.length_flatMap] using HR.out, ⟨_, HS.out, HO.out⟩, HM.out⟩

end Go.Proofs.YtdclfdinhdaadaaGreatDoor

/- Package snaptwo: the contracts of first and Decode at the bytes of a state. -/
namespace Go.Proofs.YtdclfdinhdaadaaGreatDoor
open Go.RowKit

theorem two_first (l : List UInt8) (v t0 : Nat) (A : Option Addr) (n c : Nat) (R : Nat → Prop) (w : World) (hr : Reads w R 1 A n (vbs l)) (h1 : gscan 0 0 (l.drop 0) = .ok (v, t0)) (hv : v ≤ 2) (hn : n ≤ 10000000) :
    Calls Tryz.prog 39 #[.slice A n c] w fun e w' => ∃ g, e = .returned (.tuple #[.pointer (some ⟨g, 0, none⟩), .int .i64 v, .int .i64 0]) ∧ w.heap.size ≤ g ∧ Rd w' g l (0 + t0) ∧ Mod Non w w' := by
  have H1 := Lib.hid h1
  clear h1
  go_enter Tryz.func39, Tryz.ntmps39
  go_wp2_with fail
  refine (rd_New A n c R l _ hr hn).mono ?_
  rintro e w1 ⟨g, rfl, hg, hr1, hm1⟩
  go_wp2_with fail
  refine (rd_Number g 0 v t0 l 2 _ hr1 H1.out (by omega)).mono ?_
  rintro e w3 ⟨rfl, hr3, hm3⟩
  have hm03 := hm1.trans hm3 (fun i hi h => by unfold One at h; omega)
  clear hm1 hm3 hr1
  go_wp2_with fail
  refine (rd_Err g _ l _ hr3).mono ?_
  rintro e w4 ⟨rfl, rfl⟩
  go_wp2
  go_ret3
  exact ⟨g, rfl, hg, hr3, hm03⟩

set_option maxRecDepth 100000 in
set_option maxHeartbeats 1000000 in
theorem snaptwo_Decode (ps : List Pa) (ss : List Se) (A : Option Addr) (n c : Nat) (R : Nat → Prop) (w : World) (hr : Reads w R 1 A n (vbs (senc ⟨2, ps, ss⟩))) (hok : St.Ok ⟨2, ps, ss⟩) (hT : T8 w) (hn : n ≤ 10000000) :
    Calls Tryz.prog 40 #[.slice A n c] w fun e w' => ∃ v1 v2, e = .returned (.tuple #[stv 2 v1 v2, .int .i64 0]) ∧ OwnP w' w.heap.size v1 ps ∧ OwnE w' w.heap.size v2 ss ∧ Mod Non w w' := by
  have hl0 : (senc ⟨2, ps, ss⟩).drop 0 = vbytes 2 ++ (vbytes ps.length ++ (ps.flatMap (penc 2) ++ (vbytes ss.length ++ (ss.flatMap (xenc 2) ++ [])))) := senc_at _
  obtain ⟨h1, hl1⟩ := at_num (n := 2) hl0 (by omega)
  have hl2 := drop_next (drop_next hl1)
  have hl3 := congrArg List.length hl0
  have hps : ps.length ≤ 64 := hok.pairs.few
  have hss : ss.length ≤ 8 := ses_few hok.sess
  have HE : Hid (0 + (vbytes 2).length + (vbytes ps.length).length + (ps.flatMap (penc 2)).length + (vbytes ss.length).length + (ss.flatMap (xenc 2)).length = (senc ⟨2, ps, ss⟩).length) := by
    show _ = _
    rw [List.drop_zero] at hl3
    rw [hl3]
    simp only [List.length_append, List.length_nil]
    omega
  obtain ⟨l, hl⟩ : ∃ l, l = senc ⟨2, ps, ss⟩ := ⟨_, rfl⟩
  rw [← hl] at hr h1 hl1 hl2 HE
  obtain ⟨t0, ht0⟩ : ∃ t0, t0 = (vbytes 2).length := ⟨_, rfl⟩
  rw [← ht0] at h1 hl1 hl2 HE
  have H1 := Lib.hid h1
  have HL1 := Lib.hid hl1
  have HL2 := Lib.hid hl2
  have HOK := Lib.hid hok
  have OKP : Hid (∀ x ∈ ps, x.Ok ∧ 1 ≤ x.rev ∧ x.rev ≤ 4294967296) := fun p hp => by simpa using hok.pairs.each p hp
  have OKE : Hid (∀ x ∈ ss, x.last.Ok ∧ x.last.client = x.client ∧ x.last.seq = x.seq) := fun x hx => ⟨(hok.sess.each x hx).2.2.1, (hok.sess.each x hx).1, (hok.sess.each x hx).2.1⟩
  clear h1 hl1 hl2 hl0 hl3 hl ht0 hok
  have hm0 := (Mod.refl Non w).alloc (.cells #[.int .i64 0, .slice none 0 0, .slice none 0 0] 25)
  have z0 := Blk.new w 25 #[.int .i64 0, .slice none 0 0, .slice none 0 0]
  go_enter Tryz.func40, Tryz.ntmps40
  go_wp2_with fail
  refine (two_first l 2 t0 A n c R _ (hr.mod hm0 fun _ _ _ h => h) H1.out (by omega) hn).mono ?_
  rintro e w1 ⟨g, rfl, hg, hr1, hm1⟩
  have z1 := z0.mod hm1 (fun h => h)
  have hz1 := z1.lt
  have hm01 := hm0.trans' hm1
  have hgl := hr1.lt
  rw [World.size_alloc] at hg
  have hm2 := (Mod.refl Non w1).alloc (.cells #[.pointer (some ⟨g, 0, none⟩)] 80)
  have b2 := Blk.new w1 80 #[.pointer (some ⟨g, 0, none⟩)]
  have hr2 := hr1.non hm2
  have z2 := z1.mod hm2 (fun h => h)
  have hm02 := hm01.trans' hm2
  have hm3 := (Mod.refl Non (w1.alloc (.cells #[.pointer (some ⟨g, 0, none⟩)] 80))).alloc (.cells #[.int .i64 2, .slice none 0 0, .slice none 0 0] 25)
  have s3 := Blk.new (w1.alloc (.cells #[.pointer (some ⟨g, 0, none⟩)] 80)) 25 #[.int .i64 2, .slice none 0 0, .slice none 0 0]
  have hr3 := hr2.non hm3
  have z3 := z2.mod hm3 (fun h => h)
  have b3 := b2.mod hm3 (fun h => h)
  have hm03 := hm02.trans' hm3
  rw [World.size_alloc] at s3
  clear hm0 z0 hm1 z1 hm01 hr1 hm2 hm02 hr2 z2 b2 hm3
  go_wp2_with fail
  refine (two_times_Pa g _ w1.heap.size (w1.heap.size + 1) (w1.heap.size + 2) l _ ps _ _ hr3 HL1.out OKP.out hps b3 s3 hgl (by omega) (by omega) (by simp)).mono ?_
  rintro e w5 ⟨rfl, hr5, ⟨v1, s5, ho5⟩, hm5⟩
  obtain ⟨A1, m1, c1, rfl, hx1, hc1⟩ := ho5.form
  have b5 := b3.mod hm5 (by unfold Trd; omega)
  have z5 := z3.mod hm5 (by unfold Trd; omega)
  have x5 := b5.cell 0
  simp at x5
  have hm05 := hm03.trans hm5 (fun i hi h => by unfold Trd at h; omega)
  have hl5 := s5.lt
  clear hm5 b3 z3 s3 hr3 hm03
  go_wp2_with fail
  refine (two_times_Se g _ w1.heap.size (w1.heap.size + 1) w5.heap.size l [] ss _ _ hr5 HL2.out OKE.out hss b5 s5 hgl (by omega) hl5 (Nat.le_refl _)).mono ?_
  rintro e w7 ⟨rfl, hr7, ⟨v2, s7, ho7⟩, hm7⟩
  obtain ⟨A2, m2, c2, rfl, hx2, hc2⟩ := ho7.form
  rw [HE.out] at hr7
  have b7 := b5.mod hm7 (by unfold Trd; omega)
  have z7 := z5.mod hm7 (by unfold Trd; omega)
  have hp7 := OwnP.mod ho5 hm7 (fun k hk h => by have := World.ownsRow.lt ho5 k hk; unfold Trd at h; omega)
  have x7 := b7.cell 0
  simp at x7
  have hm07 := hm05.trans hm7 (fun i hi h => by unfold Trd at h; omega)
  have hl57 := hm05.size
  clear hm7 b5 z5 s5 hr5 hm05 x5 ho5
  go_wp2_with fail
  refine (rd_Done g l w7 hr7).mono ?_
  rintro e w9 ⟨rfl, hm9⟩
  have s9 := s7.mod hm9 (fun h => h)
  have z9 := z7.mod hm9 (fun h => h)
  have hp9 := hp7.non hm9
  have ho9 := ho7.non hm9
  have hm09 := hm07.trans' hm9
  have e0 := s9.cell 0
  have e1 := s9.cell 1
  have e2 := s9.cell 2
  simp at e0 e1 e2
  clear x7 hm9 s7 z7 b7 hr7 hp7 ho7 hm07
  go_wp2_with fail
  refine (migr_Check ⟨2, ps, ss⟩ A1 A2 m1 c1 m2 c2 _ _ _ hp9.reads ho9.reads HOK.out (hT.non hm09)).mono ?_
  rintro e w10 ⟨rfl, hm10⟩
  have s10 := s9.mod hm10 (fun h => h)
  have z10 := z9.mod hm10 (fun h => h)
  have hp10 := hp9.non hm10
  have ho10 := ho9.non hm10
  have hm010 := hm09.trans' hm10
  have e0 := s10.cell 0
  have e1 := s10.cell 1
  have e2 := s10.cell 2
  have c0 := z10.cell 0
  have c1' := z10.cell 1
  have c2' := z10.cell 2
  have f0 := z10.frozen 0
  have f1 := z10.frozen 1
  have f2 := z10.frozen 2
  simp at e0 e1 e2 c0 c1' c2'
  clear hm10 s9 z9 hp9 ho9 hm09
  go_wp2_with fail
  have r5 : Blk (((w10.setCell ⟨w.heap.size, 0, none⟩ (.int .i64 2)).setCell ⟨w.heap.size, 1, none⟩ (.slice A1 m1 c1)).setCell ⟨w.heap.size, 2, none⟩ (.slice A2 m2 c2)) w.heap.size 25 #[.int .i64 2, (.slice A1 m1 c1), (.slice A2 m2 c2)] := ((z10.set_ 0 (.int .i64 2)).set_ 1 (.slice A1 m1 c1)).set_ 2 (.slice A2 m2 c2)
  have hm5 : Mod (One w.heap.size) w10 (((w10.setCell ⟨w.heap.size, 0, none⟩ (.int .i64 2)).setCell ⟨w.heap.size, 1, none⟩ (.slice A1 m1 c1)).setCell ⟨w.heap.size, 2, none⟩ (.slice A2 m2 c2)) := (((Mod.refl _ _).setOne _).setOne _).setOne _
  refine bodyPost_ret (results_row_tmp rfl _ _ w.heap.size 25 #[.int .i64 2, (.slice A1 m1 c1), (.slice A2 m2 c2)] (0, 0) _ rfl r5 Tryz.underlying25 rfl (by kernel_rfl)) rfl ?_
  refine ⟨_, _, rfl, ?_, ?_, hm010.trans hm5 fun i hi h => by unfold One at h; omega⟩
  · exact OwnP.below (OwnP.mod hp10 hm5 fun g2 hg h => by have := (World.ownsRow.lt hp10 g2 hg).1; unfold One at h; omega) (by omega)
  · exact OwnE.below (OwnE.mod ho10 hm5 fun g2 hg h => by have := (World.ownsRow.lt ho10 g2 hg).1; unfold One at h; omega) (by omega)
end Go.Proofs.YtdclfdinhdaadaaGreatDoor

/- Package snaptwo: the contracts of Get and Migrate. -/
namespace Go.Proofs.YtdclfdinhdaadaaGreatDoor
open Go.RowKit

theorem ok_up {ps : List Pa} {ss : List Se} (h : St.Ok ⟨1, ps, ss⟩) : St.Ok ⟨2, rev 1 ps, ss⟩ :=
  ⟨.inr rfl, rev_up h.pairs, h.sess, h.few, fun h => absurd h (show ¬ (2 : Int) = 1 by decide)⟩

set_option maxRecDepth 100000 in
set_option maxHeartbeats 1000000 in
theorem snaptwo_Get (v : Nat) (hv : v = 1 ∨ v = 2) (ps : List Pa) (ss : List Se) (A : Option Addr) (n c : Nat) (R : Nat → Prop) (w : World) (hr : Reads w R 1 A n (vbs (senc ⟨v, ps, ss⟩))) (hok : St.Ok ⟨v, ps, ss⟩) (hT : T8 w) (hn : n ≤ 10000000) :
    Calls Tryz.prog 13 #[.slice A n c] w fun e w' => ∃ v1 v2, e = .returned (.tuple #[stv v v1 v2, .int .i64 0]) ∧ OwnP w' w.heap.size v1 ps ∧ OwnE w' w.heap.size v2 ss ∧ Mod Non w w' := by
  have hl0 : (senc ⟨v, ps, ss⟩).drop 0 = vbytes v ++ (vbytes ps.length ++ (ps.flatMap (penc v) ++ (vbytes ss.length ++ (ss.flatMap (xenc v) ++ [])))) := senc_at ⟨v, ps, ss⟩
  obtain ⟨h1, _⟩ := at_num hl0 (by omega)
  have H1 := Lib.hid h1
  clear h1 hl0
  have hm0 := (Mod.refl Non w).alloc (.cells #[.int .i64 0, .slice none 0 0, .slice none 0 0] 25)
  have z0 := Blk.new w 25 #[.int .i64 0, .slice none 0 0, .slice none 0 0]
  rcases hv with rfl | rfl
  all_goals
    go_enter Tryz.func13, Tryz.ntmps13
    go_wp2_with fail
    refine (two_first _ _ _ A n c R _ (hr.mod hm0 fun _ _ _ h => h) H1.out (by omega) hn).mono ?_
    rintro e w1 ⟨g, rfl, hg, hr1, hm1⟩
    have z1 := z0.mod hm1 (fun h => h)
    have hm01 := hm0.trans' hm1
    have hr1 := hr.mod hm01 fun _ _ _ h => h
    clear hm1 hm0 z0 hg
    go_wp2_with fail
    first
      | refine (snapone_Decode ps ss A n c R _ hr1 hok (hT.non hm01) hn).mono ?_
      | refine (snaptwo_Decode ps ss A n c R _ hr1 hok (hT.non hm01) hn).mono ?_
    rintro e w2 ⟨v1, v2, rfl, ho1, ho2, hm2⟩
    have hz := hm01.size
    have hzz := z1.lt
    have z2 := z1.mod hm2 (fun h => h)
    have hm02 := hm01.trans' hm2
    obtain ⟨A1, m1, c1, rfl, hx1, hc1⟩ := ho1.form
    obtain ⟨A2, m2, c2, rfl, hx2, hc2⟩ := ho2.form
    have c0 := z2.cell 0
    have c1' := z2.cell 1
    have c2' := z2.cell 2
    have f0 := z2.frozen 0
    have f1 := z2.frozen 1
    have f2 := z2.frozen 2
    simp at c0 c1' c2'
    clear hm2 hm01 hr1 z1
    go_wp2_with fail
  · have r5 : Blk (((w2.setCell ⟨w.heap.size, 0, none⟩ (.int .i64 1)).setCell ⟨w.heap.size, 1, none⟩ (.slice A1 m1 c1)).setCell ⟨w.heap.size, 2, none⟩ (.slice A2 m2 c2)) w.heap.size 25 #[.int .i64 1, (.slice A1 m1 c1), (.slice A2 m2 c2)] := ((z2.set_ 0 (.int .i64 1)).set_ 1 (.slice A1 m1 c1)).set_ 2 (.slice A2 m2 c2)
    have hm5 : Mod (One w.heap.size) w2 (((w2.setCell ⟨w.heap.size, 0, none⟩ (.int .i64 1)).setCell ⟨w.heap.size, 1, none⟩ (.slice A1 m1 c1)).setCell ⟨w.heap.size, 2, none⟩ (.slice A2 m2 c2)) := (((Mod.refl _ _).setOne _).setOne _).setOne _
    refine bodyPost_ret (results_row_tmp rfl _ _ w.heap.size 25 #[.int .i64 1, (.slice A1 m1 c1), (.slice A2 m2 c2)] (0, 0) _ rfl r5 Tryz.underlying25 rfl (by kernel_rfl)) rfl ?_
    refine ⟨_, _, rfl, ?_, ?_, hm02.trans hm5 fun i hi h => by unfold One at h; omega⟩
    · exact OwnP.below (OwnP.mod ho1 hm5 fun g2 hg h => by have := (World.ownsRow.lt ho1 g2 hg).1; unfold One at h; omega) hz
    · exact OwnE.below (OwnE.mod ho2 hm5 fun g2 hg h => by have := (World.ownsRow.lt ho2 g2 hg).1; unfold One at h; omega) hz
  · have r5 : Blk (((w2.setCell ⟨w.heap.size, 0, none⟩ (.int .i64 2)).setCell ⟨w.heap.size, 1, none⟩ (.slice A1 m1 c1)).setCell ⟨w.heap.size, 2, none⟩ (.slice A2 m2 c2)) w.heap.size 25 #[.int .i64 2, (.slice A1 m1 c1), (.slice A2 m2 c2)] := ((z2.set_ 0 (.int .i64 2)).set_ 1 (.slice A1 m1 c1)).set_ 2 (.slice A2 m2 c2)
    have hm5 : Mod (One w.heap.size) w2 (((w2.setCell ⟨w.heap.size, 0, none⟩ (.int .i64 2)).setCell ⟨w.heap.size, 1, none⟩ (.slice A1 m1 c1)).setCell ⟨w.heap.size, 2, none⟩ (.slice A2 m2 c2)) := (((Mod.refl _ _).setOne _).setOne _).setOne _
    refine bodyPost_ret (results_row_tmp rfl _ _ w.heap.size 25 #[.int .i64 2, (.slice A1 m1 c1), (.slice A2 m2 c2)] (0, 0) _ rfl r5 Tryz.underlying25 rfl (by kernel_rfl)) rfl ?_
    refine ⟨_, _, rfl, ?_, ?_, hm02.trans hm5 fun i hi h => by unfold One at h; omega⟩
    · exact OwnP.below (OwnP.mod ho1 hm5 fun g2 hg h => by have := (World.ownsRow.lt ho1 g2 hg).1; unfold One at h; omega) hz
    · exact OwnE.below (OwnE.mod ho2 hm5 fun g2 hg h => by have := (World.ownsRow.lt ho2 g2 hg).1; unfold One at h; omega) hz

set_option maxRecDepth 100000 in
set_option maxHeartbeats 1000000 in
theorem snaptwo_Migrate (ps : List Pa) (ss : List Se) (A : Option Addr) (n c : Nat) (R : Nat → Prop) (w : World) (hr : Reads w R 1 A n (vbs (senc ⟨1, ps, ss⟩))) (hok : St.Ok ⟨1, ps, ss⟩) (hT : T8 w) (hn : n ≤ 10000000) :
    Calls Tryz.prog 12 #[.slice A n c] w fun e w' => ∃ v, e = .returned (.tuple #[v, .int .i64 0]) ∧ OwnB w' w.heap.size v (senc ⟨2, rev 1 ps, ss⟩) ∧ Mod Non w w' := by
  go_enter Tryz.func12, Tryz.ntmps12
  go_wp2_with fail
  refine (snapone_Decode ps ss A n c R _ hr hok hT hn).mono ?_
  rintro e w1 ⟨v1, v2, rfl, ho1, ho2, hm1⟩
  obtain ⟨A1, m1, c1, rfl, hx1, hc1⟩ := ho1.form
  obtain ⟨A2, m2, c2, rfl, hx2, hc2⟩ := ho2.form
  have a1 := (Mod.refl Non w1).alloc (.cells #[.int .i64 1, .slice A1 m1 c1, .slice A2 m2 c2] 25)
  have hm2 := hm1.trans' a1
  go_wp2_with fail
  refine (migr_Up ps ss A1 A2 m1 c1 m2 c2 _ _ _ (ho1.non a1).reads (ho2.non a1).reads hok (hT.non hm2)).mono ?_
  rintro e w3 ⟨g1, g2, rfl, ho3, ho4, hm3⟩
  have hm03 := hm2.trans' hm3
  have a3 := (Mod.refl Non w3).alloc (.cells #[.int .i64 2, .slice (some ⟨g1, 0, none⟩) m1 m1, .slice (some ⟨g2, 0, none⟩) m2 m2] 25)
  have hm4 := hm03.trans' a3
  have hok2 := ok_up hok
  clear hm1 hm2 hm3 hm03 a1 ho1 ho2
  go_wp2_with fail
  refine (snaptwo_Encode (rev 1 ps) ss (some ⟨g1, 0, none⟩) (some ⟨g2, 0, none⟩) m1 m1 m2 m2 _ _ _ (ho3.non a3).reads (ho4.non a3).reads hok2 (hT.non hm4)).mono ?_
  rintro e w5 ⟨v, rfl, ho5, hm5⟩
  go_wp2
  go_ret2
  exact ⟨v, rfl, ho5.below hm4.size, hm4.trans' hm5⟩
end Go.Proofs.YtdclfdinhdaadaaGreatDoor
