/- The walk of FrameCut. -/
import Derived.Test.YtlkifobajdafpaaDoorFrameNexts
import Derived.Test.YtlkifobajdafpaaDoorCutPlain
namespace Go.Proofs.YtlkifobajdafpaaDoor
open Go.RowKit

theorem cut_edge (A : Option Addr) (n c : Nat) (k : Int) (w : World) (hT : Tab w) (h : 30 < n) :
    Calls Tryd.prog 6 #[.slice A n c, .int .i64 k] w fun e w' => e = .returned (.bool true) ∧ Mod Non w w' := by
  have h1 : (30 : Int) < n := by omega
  clear h
  go_enter Tryd.func6, Tryd.ntmps6
  go_wp2_with fail
  refine (law03_awake _ hT).mono ?_
  rintro e w1 ⟨rfl, hm⟩
  go_wp2
  go_ret
  exact ⟨rfl, hm⟩

theorem OwnB.form1 {w : World} {B : Nat} {v : Value} {l : List UInt8} (h : OwnB w B v l) (hn : 0 < l.length) : ∃ g c m, v = .slice (some ⟨g, 0, none⟩) m c ∧ m = l.length ∧ m ≤ c ∧ (c : Int) ≤ 9223372036854775807 ∧ B ≤ g := by
  rcases h.2 with ⟨_, h0⟩ | ⟨g, cap, cur, rfl, hb, _, hc, hm, _⟩
  · omega
  · exact ⟨g, cap, l.length, rfl, rfl, hc, by simp only [maxLen] at hm; omega, hb⟩

theorem fbytes_small {l : List UInt8} (h : l.length ≤ 300) : l.length + 5 ≤ (fbytes l).length ∧ (fbytes l).length ≤ 320 := by
  have h1 := vbytes_nine (n := l.length) (by omega)
  have h2 := vbytes_pos l.length
  rw [fbytes_length]; omega

/-- what is there behind some rounds of FrameCut -/
structure CutRel (w : World) (T : Nat → Prop) (k : Int) (j : Nat) (Ab Aw : Option Addr) (nb cb nw cw a : Nat) (bs : List UInt8) (ws : List Value) (wants : List (List UInt8)) (wr : World) : Prop where
  own : OwnB wr w.heap.size (.slice Ab nb cb) bs
  len : bs.length = nb ∧ nb ≤ j * 320 ∧ nb ≤ cb ∧ (cb : Int) ≤ 9223372036854775807
  wan : OwnS wr w.heap.size (.slice Aw nw cw) ws
  row : RowsB wr T ws wants
  cnt : wants.length ≤ j ∧ ∀ x ∈ wants, x.length ≤ 1000000
  inv : 0 ≤ k → CutInv k.toNat bs wants a
  mod : Mod Non w wr

set_option maxRecDepth 100000 in
set_option maxHeartbeats 4000000 in
theorem cut_in (A : Option Addr) (n c : Nat) (k : Int) (R T : Nat → Prop) (vs : List Value) (ls : List (List UInt8)) (w : World) (hr : Reads w R 1 A n vs) (hb : RowsB w T vs ls) (hT : Tab w) (hn : n ≤ 30) (hTT : ∀ b, T b → b < w.heap.size) :
    Calls Tryd.prog 6 #[.slice A n c, .int .i64 k] w fun e w' => e = .returned (.bool true) ∧ Mod Non w w' := by
  have h1 : ¬ (30 : Int) < n := by omega
  have hvn : Hid (vs.length = n) := by have := hr.1; show _ = _; omega
  have hvl : Hid (vs.length = ls.length) := hb.1
  go_enter Tryd.func6, Tryd.ntmps6
  go_wp2
  go_loopw [5, 6, 7, 8] (fun b want at_ i wr => ∃ (j : Nat) (Ab Aw : Option Addr) (nb cb nw cw a : Nat) (bs : List UInt8) (ws : List Value) (wants : List (List UInt8)),
      j ≤ n ∧ i = .int .i64 j ∧ b = .slice Ab nb cb ∧ want = .slice Aw nw cw ∧ at_ = .int .i64 a ∧ CutRel w T k j Ab Aw nb cb nw cw a bs ws wants wr) (fun _ _ _ i _ => n - (intOf i).toNat)
  case atStart => exact ⟨0, none, none, 0, 0, 0, 0, 0, [], [], [], by omega, rfl, rfl, rfl, rfl, ⟨OwnB.nil _ _, by simp, OwnS.nil _ _, RowsB.nil, by simp, fun _ => CutInv.start _, Mod.refl _ _⟩⟩
  case round =>
    obtain ⟨j, Ab, Aw, nb, cb, nw, cw, a, bs, ws, wants, hj, rfl, rfl, rfl, rfl, hI⟩ := hrel
    have hTr : Hid (Tab wr) := hT.non hI.mod
    by_cases hlt : j < n
    · have h2 := hr.mod hI.mod (fun _ _ _ h => h)
      obtain ⟨bk, off, hA, _, _, hc1⟩ := h2.row (by omega) (by rw [hvn.out]; omega)
      have hv1 : j < vs.length := by rw [hvn.out]; exact hlt
      have hl1 : j < ls.length := by rw [← hvl.out]; exact hv1
      obtain ⟨X, nx, cx, ex, hnc, rx⟩ := (hb.mod hI.mod fun _ _ _ h => h).2 j _ _ (List.getElem?_eq_getElem hv1) (List.getElem?_eq_getElem hl1)
      have c1 := hc1 j _ (List.getElem?_eq_getElem hv1)
      rw [ex] at c1
      obtain ⟨x, hx⟩ : ∃ x, x = ls[j] := ⟨_, rfl⟩
      rw [← hx] at rx
      have hxl : Hid (x.length = nx) := by have := rx.1; rw [vbs_length, Nat.mul_one] at this; exact this
      have HX := Lib.hid hx
      clear hx hc1 h2 ex
      subst hA
      have hjn : (j : Int) < n := by omega
      have HI := Lib.hid hI
      clear hI
      by_cases hbig : 300 < nx
      · have hbig' : (300 : Int) < nx := by omega
        go_wp2_with fail
        refine (law03_awake _ hTr.out).mono ?_
        rintro e w1 ⟨rfl, hm⟩
        go_wp2
        go_ret
        exact ⟨rfl, HI.out.mod.trans' hm⟩
      · have hbig' : ¬ (300 : Int) < nx := by omega
        by_cases hz : nx = 0
        · have hz' : ((nx : Int) == 0) = true := by simp [hz]
          clear hz
          go_wp2
          go_roundw
          case rel =>
            have hI := HI.out
            exact ⟨j + 1, Ab, Aw, nb, cb, nw, cw, a, bs, ws, wants, by omega, by go_num, rfl, rfl, rfl, ⟨hI.own, by have := hI.len; omega, hI.wan, hI.row, ⟨by have := hI.cnt; omega, hI.cnt.2⟩, hI.inv, hI.mod⟩⟩
          case measure => simp [intOf]; omega
        · have hz' : ((nx : Int) == 0) = false := by simp; omega
          have hnb : nb ≤ 100000 := by have := HI.out.len; omega
          have hbl : Hid (bs.length = nb) := HI.out.len.1
          go_wp2_with fail
          refine (frame_Add_yes Ab X nb cb nx cx _ _ bs x wr HI.out.own.reads rx (by omega) (by omega) hnb hTr.out).mono ?_
          rintro e w1 ⟨v1, rfl, hown1, hm1⟩
          obtain ⟨g1, c1', m1, rfl, hml, hmc, hmcap, _⟩ := hown1.form1 (by rw [List.length_append]; have := fbytes_small (l := x) (by rw [hxl.out]; omega); omega)
          have hgr : nb + 5 ≤ m1 ∧ m1 ≤ nb + 320 := by
            have := fbytes_small (l := x) (by rw [hxl.out]; omega)
            rw [hml, List.length_append, hbl.out]; omega
          have hlt1 : ¬ (m1 : Int) ≤ (nb : Int) := by omega
          have hmx : (m1 : Int) ≤ 200000 := by omega
          have HM := Lib.hid hml
          have hI1 : Hid (OwnS w1 w.heap.size (.slice Aw nw cw) ws ∧ RowsB w1 T ws wants ∧ Mod Non w w1 ∧ OwnB w1 w.heap.size (.slice (some ⟨g1, 0, none⟩) m1 c1') (bs ++ fbytes x)) :=
            ⟨HI.out.wan.non hm1, HI.out.row.mod hm1 fun _ _ _ h => h, HI.out.mod.trans' hm1, hown1.below HI.out.mod.size⟩
          have hx1 : Hid (1 ≤ x.length ∧ x.length ≤ 300) := by rw [hxl.out]; show _ ∧ _; omega
          clear hml hown1
          have hc2 : w1.cell? ⟨bk, off + j, none⟩ = some (.slice X nx cx) := (hm1.cell (p := ⟨bk, off + j, none⟩) (World.block_lt_of_cell? wr _ c1) fun h => h).trans c1
          have hrx : Hid (x ∈ ls) := by show _ ∈ _; rw [HX.out]; exact List.getElem_mem hl1
          have hwl : ws.length ≤ 1000000 := by have := HI.out.row.1; have := HI.out.cnt.1; omega
          have hsz : w.heap.size ≤ w1.heap.size := hI1.out.2.2.1.size
          have hxc : Hid (nx ≤ cx ∧ Reads w1 T 1 X nx (vbs x)) := ⟨hnc, rx.mod hm1 fun _ _ _ h => h⟩
          clear hm1 rx hnc
          by_cases hcut : (m1 : Int) ≤ k
          · go_wp2_with (at_builtin; refine wpList_append_row rfl (.tmp 59) (.tmp 64) rfl w.heap.size (.slice Aw nw cw) ws rfl hI1.out.1 X nx cx _ rfl rfl hwl hsz ?_; intro v3 w3 hown3 hm3)
            obtain ⟨A3, n3, c3, rfl, _, _⟩ := hown3.form
            have HO3 := Lib.hid hown3
            have HM3 := Lib.hid hm3
            clear hown3 hm3
            go_wp2
            go_roundw
            case rel =>
              have hI := HI.out
              obtain ⟨i1, i2, i3, i4⟩ := hI1.out
              have hle : ∀ g, (Value.slice Aw nw cw).ownBlock = some g → w.heap.size ≤ g := fun g hg => (World.ownsRow.lt i1 g hg).1
              have row3 := (i2.snoc hxc.out.1 hxc.out.2).mod HM3.out fun b _ hb h => by have := hle b h; have := hTT b hb; omega
              exact ⟨j + 1, _, A3, m1, c1', n3, c3, m1, bs ++ fbytes x, _, wants ++ [x], by omega, by go_num, rfl, rfl, rfl, ⟨i4.mod HM3.out fun g hg h => own_apart i1 i4 (by decide) g h hg, by have := hI.len; have := HM.out; omega, HO3.out, row3,
                ⟨by rw [List.length_append]; have := hI.cnt; simp; omega, fun y hy => (List.mem_append.1 hy).elim (hI.cnt.2 y) fun h => by simp at h; subst h; have := hx1.out; omega⟩,
                fun h0 => by rw [HM.out]; exact (hI.inv h0).whole hx1.out.1 (by have := hx1.out; omega) (by rw [← HM.out]; omega), i1.modNon i3 HM3.out⟩⟩
            case measure => simp [intOf]; omega
          · go_wp2
            go_roundw
            case rel =>
              have hI := HI.out
              obtain ⟨i1, i2, i3, i4⟩ := hI1.out
              exact ⟨j + 1, _, Aw, m1, c1', nw, cw, a, bs ++ fbytes x, ws, wants, by omega, by go_num, rfl, rfl, rfl, ⟨i4, by have := hI.len; have := HM.out; omega, i1, i2, ⟨by have := hI.cnt; omega, hI.cnt.2⟩,
                fun h0 => (hI.inv h0).part hx1.out.1 (by have := hx1.out; omega) (by rw [← HM.out]; omega), i3⟩⟩
            case measure => simp [intOf]; omega
    · have hjn : ¬ (j : Int) < n := by omega
      have hnb := hI.len
      have HI := Lib.hid hI
      clear hI
      by_cases h0 : k < 0
      · go_wp2_with fail
        refine (law03_awake _ hTr.out).mono ?_
        rintro e w1 ⟨rfl, hm⟩
        go_wp2
        go_ret
        exact ⟨rfl, HI.out.mod.trans' hm⟩
      · obtain ⟨m, rfl⟩ : ∃ m : Nat, k = m := ⟨k.toNat, by omega⟩
        by_cases h3 : nb < m
        · have h3' : (nb : Int) < m := by omega
          go_wp2_with fail
          refine (law03_awake _ hTr.out).mono ?_
          rintro e w1 ⟨rfl, hm⟩
          go_wp2
          go_ret
          exact ⟨rfl, HI.out.mod.trans' hm⟩
        · have h3' : ¬ (nb : Int) < m := by omega
          have h4 : m ≤ cb := by omega
          have hd := (HI.out.inv (by omega)).done (n := m) (by have := HI.out.len; omega)
          have HD := Lib.hid hd
          have hrd : Hid (Reads wr (fun b => w.heap.size ≤ b ∧ some b = (Value.slice Ab nb cb).ownBlock) 1 Ab m (vbs (bs.take m))) := by
            have := HI.out.own.reads.take (k := m) (by omega)
            rw [Nat.mul_one] at this
            have e : vbs (bs.take m) = (vbs bs).take m := by simp [vbs, List.map_take]
            show Reads _ _ _ _ _ _
            rw [e]; exact this
          have hcb : (cb : Int) ≤ 9223372036854775807 := hnb.2.2.2
          have hmx : m ≤ 1000000 := by omega
          clear hd h3
          go_wp2_with fail
          refine (frame_Scan Ab m cb _ (bs.take m) wr hrd.out h4 hcb hmx hTr.out).mono ?_
          rintro e w1 ⟨A3, n3, c3, vs3, rfl, hown3, hrow3, hm3⟩
          have hl3 := hown3.len hrow3 (by rw [List.length_take]; omega)
          rw [HD.out] at hrow3
          rw [HD.out]
          have hN1 := HI.out.mod.trans' hm3
          go_wp2_with fail
          refine (ref_Lists A3 Aw n3 nw c3 cw _ _ _ _ vs3 ws _ _ w1 hown3.reads (HI.out.wan.non hm3).reads hrow3.rows (HI.out.row.mod hm3 fun _ _ _ h => h) hl3 HI.out.cnt.2).mono ?_
          rintro e w2 ⟨rfl, hm2⟩
          rw [sameL_yes rfl]
          have hN2 := hN1.trans' hm2
          go_wp2_with fail
          refine (law03_awake _ (hT.non hN2)).mono ?_
          rintro e w3 ⟨rfl, hm3'⟩
          go_wp2
          go_ret
          exact ⟨rfl, hN2.trans' hm3'⟩
end Go.Proofs.YtlkifobajdafpaaDoor
