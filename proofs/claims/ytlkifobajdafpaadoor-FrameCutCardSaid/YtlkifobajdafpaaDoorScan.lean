/- The contract of frame.Scan: a range over the function that frame.whole hands back. -/
import Derived.Test.YtlkifobajdafpaaDoorRefLists
import Derived.Test.YtlkifobajdafpaaDoorRangeLaw
import Derived.RangeFuncBox
import Derived.RangeFuncLeaves
import Derived.Shelf.Abstract
import Derived.OwnWalkIn
import Derived.TacticsInMore
import Derived.LoopNIn
import Derived.LoopIn
namespace Go.Proofs.YtlkifobajdafpaaDoor
open Go.RowKit Go.Shelf
attribute [local go_sem] Oper.semAt_some

theorem frame_whole (A : Option Addr) (len cap : Nat) (w : World) :
    Calls Tryd.prog 28 #[.slice A len cap] w fun e w' => e = .returned (.func (.func 32) #[] #[.pointer (some ⟨w.heap.size, 0, none⟩)]) ∧ w' = w.alloc (.cells #[.slice A len cap] 22) := by
  go_enter Tryd.func28, Tryd.ntmps28
  go_wp2
  go_ret
  exact ⟨rfl, rfl⟩

/-- Nothing has turned but blocks beyond B, and at B: a row of slices, a number, a slice (boxed variables of Scan). -/
structure ScanInv (w : World) (B len cap : Nat) (A : Option Addr) (l : List UInt8) (a : Nat) (ls : List (List UInt8)) (W : World) : Prop where
  le : a ≤ len ∧ ls.length ≤ a
  row : ∃ v vs, Boxed W B 34 v ∧ OwnS W (B + 3) v vs ∧ RowsO W (B + 3) vs ls
  at_ : Boxed W (B + 1) 3 (.int .i64 a)
  arg : Boxed W (B + 2) 22 (.slice A len cap)
  mod : Mod (fun k => B ≤ k) w W
  sz : B = w.heap.size
  so : ls ++ (scanK l a).1 = (scanK l 0).1 ∧ (scanK l a).2 = (scanK l 0).2

/-- Nothing turns in it but for new blocks. -/
theorem ScanInv.non {w W W' : World} {B len cap a : Nat} {A : Option Addr} {l : List UInt8} {ls : List (List UInt8)} (h : ScanInv w B len cap A l a ls W) (hm : Mod Non W W') : ScanInv w B len cap A l a ls W' := by
  obtain ⟨v, vs, h1, h2, h3⟩ := h.row
  have box : ∀ {b t v}, Boxed W b t v → Boxed W' b t v := fun hb => Blk.mod hb hm fun h => h
  exact ⟨h.le, ⟨v, vs, box h1, h2.non hm, h3.non hm⟩, box h.at_, box h.arg, h.mod.trans hm fun _ _ h => h.elim, h.sz, h.so⟩

/-- whole$1: the frames, one by one, for a loop body that goes on. -/
theorem whole1 (n : Nat) (L : Nat) (A : Option Addr) (len cap : Nat) (l : List UInt8) (w : World) (B : Nat) (R : Nat → Prop) (hr : Reads w R 1 A len (vbs l)) (hc : len ≤ cap) (hcap : (cap : Int) ≤ 9223372036854775807) (hmax : len ≤ 1000000) (hT : Tab w)
    (J : Nat → List (List UInt8) → World → Prop)
    (hJI : ∀ a ls W, J a ls W → ScanInv w B len cap A l a ls W) (hJn : ∀ a ls W W', J a ls W → Mod Non W W' → J a ls W')
    (hY : ∀ a k ls body v W, J a ls W → nextK l a = .ok (body, k) → OwnB W (B + 3) v body → YieldAt Fence.wide n Tryd.prog L #[.int .i64 k, v] W fun e W' => e = .returned (.bool true) ∧ J k (ls ++ [body]) W')
    (W : World) (h0 : J 0 [] W) :
    CallsIn Fence.wide (n + 1) Tryd.prog 32 #[.func (.yield L) #[] #[], .pointer (some ⟨B + 2, 0, none⟩)] W fun e W' => (∃ v, e = .returned v) ∧ J (scanK l 0).2 (scanK l 0).1 W' := by
  refine callsIn_of_wp Tryd.func32 rfl trivial ?_ rfl
  simp only [Tryd.ntmps32, List.size_toArray, List.length_cons, List.length_nil, Nat.reduceAdd, Nat.reduceSub, Array.replicate_succ, Array.replicate_zero, List.push_toArray, List.append_toArray, List.nil_append, List.cons_append]
  gi_wp2
  gi_loopw [3] (fun i wr => ∃ (a : Nat) (ls : List (List UInt8)), i = .int .i64 a ∧ J a ls wr) (fun i _ => len - (intOf i).toNat)
  case atStart => exact ⟨0, [], rfl, h0⟩
  case round =>
    obtain ⟨a, ls, rfl, hJ⟩ := hrel
    have hI := hJI a ls wr hJ
    have hsz := hI.sz
    have hT0 := hT.1
    have hrr : Hid (Reads wr (fun k => k < w.heap.size) 1 A len (vbs l)) := hr.here.mod hI.mod (fun k _ hk h => by omega)
    have hTr : Hid (Tab wr) := hT.mod hI.mod (by omega)
    have ha1 : (a : Int) ≤ len := by have := hI.le.1; omega
    have ha2 : (len : Int) ≤ 1000000 := by omega
    have hcell := hI.arg.cell
    have HB : Hid (B + 3 ≤ wr.heap.size) := by have h1 := hI.arg.lt; show _ ≤ _; omega
    have hso := Lib.hid hI.so
    clear hI hsz hT0
    have HJ := Lib.hid hJ
    clear hJ
    rcases hx : nextK l a with e | ⟨body, k⟩
    · have e1 := errne (nextK_err hx).1
      have HX := Lib.hid hx
      clear hx
      gi_wp2_with (refine ⟨trivial, ?_⟩; gi_at_call 12; refine (callsIn_wide.2 (frame_Next_err' A len cap a _ l wr hrr.out hc hcap (by omega) hTr.out e HX.out)).mono ?_; rintro x w1 ⟨rfl, hm1⟩)
      refine ⟨fun _ h => (by cases h), ?_⟩
      gi_wp2
      refine bodyPost_ret (results_none rfl _ _ _) rfl ?_
      have h1 := hso.out
      rw [scanK_err HX.out] at h1
      refine ⟨⟨_, rfl⟩, ?_⟩
      rw [← h1.1, ← h1.2, List.append_nil]
      exact hJn _ _ _ _ HJ.out hm1
    · have HX := Lib.hid hx
      clear hx
      gi_wp2_with (refine ⟨trivial, ?_⟩; gi_at_call 12; refine (callsIn_wide.2 (frame_Next_ok' A len cap a _ l wr hrr.out hc hcap (by omega) hTr.out body k HX.out)).mono ?_; rintro x w1 ⟨v2, rfl, hown2, hm1⟩; obtain ⟨fn, tmps, assign, body', hy, hR⟩ := hY a k ls body v2 w1 (hJn _ _ _ _ HJ.out hm1) HX.out (hown2.below HB.out))
      refine hR.mono ?_
      rintro e W3 ⟨rfl, hJ3⟩
      have hk := (nextK_ok HX.out).1
      have hk2 := (hJI _ _ _ hJ3).le.1
      gi_wp2
      go_roundw
      case rel => exact ⟨k, ls ++ [body], rfl, hJ3⟩
      case measure => simp [intOf]; omega

theorem ScanInv.put {w W : World} {B len cap a : Nat} {A : Option Addr} {l : List UInt8} {ls : List (List UInt8)} (h : ScanInv w B len cap A l a ls W) {L : Nat} {o : Obj} (o' : Obj) (hL : W.heap[L]? = some o) (ho : o.isCells = false) (hB : B ≤ L) : ScanInv w B len cap A l a ls (W.putObj L o') := by
  obtain ⟨v, vs, h1, h2, h3⟩ := h.row
  have box : ∀ {b t v}, Boxed W b t v → Boxed (W.putObj L o') b t v := fun hb => hb.kept (grownBy_putObj' W L o') (fun e => by
    injection e with e; subst e
    rw [show W.heap[_]? = _ from hb] at hL; cases hL; cases ho)
  exact ⟨h.le, ⟨v, vs, box h1, ownsRow_putObj h2 o' hL ho, h3.1, fun i v l hv hl => ownsRow_putObj (h3.2 i v l hv hl) o' hL ho⟩, box h.at_, box h.arg, h.mod.trans' (Mod.of_grown (grownBy_putObj' W L o') fun k e _ => by injection e with e; omega), h.sz, h.so⟩

/-- What the body of Scan's loop leaves. -/
theorem ScanInv.step {w W w1 : World} {B len cap a k : Nat} {A : Option Addr} {l body : List UInt8} {ls : List (List UInt8)} (h : ScanInv w B len cap A l a ls W) {v0 u v' : Value} {vs : List Value} {tmp : Obj}
    (hb : Boxed W B 34 v0) (hr : OwnS W (B + 3) v0 vs) (ho : RowsO W (B + 3) vs ls) (hbo : OwnB W (B + 3) u body) (hx : nextK l a = .ok (body, k)) (hll : l.length = len)
    (hown' : w1.ownsRow (B + 3) 22 1 v' (vs.length + 1) (vs ++ [u])) (hgrow : (W.alloc tmp).grownBy w1 v0.ownBlock) :
    (Boxed w1 B 34 v0 ∧ Boxed w1 (B + 1) 3 (.int .i64 a)) ∧ KeepsOthers W ((w1.setCell ⟨B, 0, none⟩ v').setCell ⟨B + 1, 0, none⟩ (.int .i64 k)) ∧
    ScanInv w B len cap A l k (ls ++ [body]) ((w1.setCell ⟨B, 0, none⟩ v').setCell ⟨B + 1, 0, none⟩ (.int .i64 k)) := by
  have hk := nextK_ok hx
  have hle := h.le
  have hsz := h.sz
  have hv0 : ∀ g, v0.ownBlock = some g → B + 3 ≤ g := fun g hg => (World.ownsRow.lt hr g hg).1
  have hv' : ∀ g, v'.ownBlock = some g → B + 3 ≤ g := fun g hg => (World.ownsRow.lt hown' g hg).1
  have m1 : Mod (fun g => v0.ownBlock = some g) W w1 := ((Mod.refl Non W).alloc tmp).non.trans (mod_of_grown hgrow) fun _ _ h => h
  have box : ∀ {b t v}, Boxed W b t v → b < B + 3 → Boxed w1 b t v := fun hx hlt => Blk.mod hx m1 fun e => by have := hv0 _ e; omega
  have bB := box hb (by omega)
  have bA := box h.at_ (by omega)
  have bG := box h.arg (by omega)
  have bA2 : Boxed (w1.setCell ⟨B, 0, none⟩ v') (B + 1) 3 (.int .i64 a) := Blk.far bA (p := ⟨B, 0, none⟩) (by simp) v'
  have own : ∀ {x : Value} {m : List UInt8}, OwnB W (B + 3) x m → OwnB ((w1.setCell ⟨B, 0, none⟩ v').setCell ⟨B + 1, 0, none⟩ (.int .i64 k)) (B + 3) x m := by
    intro x m hx
    have hlx : ∀ g, x.ownBlock = some g → B + 3 ≤ g := fun g hg => (World.ownsRow.lt hx g hg).1
    have h1 : OwnB w1 (B + 3) x m := hx.mod m1 fun g hg h => own_apart hx hr (by decide) g hg h
    exact (h1.mod (Mod.one w1 B 0 v') fun g hg e => by have := hlx g hg; simp only [One] at e; omega).mod (Mod.one _ (B + 1) 0 _) fun g hg e => by have := hlx g hg; simp only [One] at e; omega
  refine ⟨⟨bB, bA⟩, ?_, ⟨⟨by omega, by rw [List.length_append]; simp; omega⟩, ⟨v', vs ++ [u], ?_, ?_, ?_⟩, Boxed.set _ bA2, ?_, ?_, hsz, ?_⟩⟩
  · refine (((KeepsOthers.alloc W tmp).trans (KeepsOthers.of_grownBy hgrow fun j o ej hj => ?_)).trans (KeepsOthers.setCell _ _ _)).trans (KeepsOthers.setCell _ _ _)
    rcases (World.ownsRow.alloc hr tmp).2 with ⟨rfl, _⟩ | ⟨g, cap, cur, rfl, _, hgb, _⟩
    · simp [Value.ownBlock] at ej
    · obtain rfl : g = j := by simpa [Value.ownBlock] using ej
      rw [hgb] at hj; cases hj; rfl
  · exact Blk.far (Boxed.set v' bB) (p := ⟨B + 1, 0, none⟩) (by simp) _
  · have h1 : OwnS w1 (B + 3) v' (vs ++ [u]) := by unfold OwnS; rw [List.length_append]; exact hown'
    exact own_mod (own_mod h1 (Mod.one w1 B 0 v') fun g hg e => by have := hv' g hg; simp only [One] at e; omega) (Mod.one _ (B + 1) 0 _) fun g hg e => by have := hv' g hg; simp only [One] at e; omega
  · exact RowsO.snoc ⟨ho.1, fun i v l hv hl => own (ho.2 i v l hv hl)⟩ (own hbo)
  · exact Blk.far (Blk.far bG (p := ⟨B, 0, none⟩) (by simp) v') (p := ⟨B + 1, 0, none⟩) (by simp) _
  · refine ((h.mod.trans m1 fun i hi e => by have := hv0 i e; omega).setCell (p := ⟨B, 0, none⟩) (fun _ => Nat.le_refl _) v').setCell (p := ⟨B + 1, 0, none⟩) (fun _ => Nat.le_succ _) _
  · have := h.so
    rw [scanK_ok hx] at this
    exact ⟨by rw [← this.1]; simp, this.2⟩

set_option maxRecDepth 100000 in
set_option maxHeartbeats 2000000 in
theorem frame_Scan (A : Option Addr) (len cap : Nat) (R : Nat → Prop) (l : List UInt8) (w : World) (hr : Reads w R 1 A len (vbs l)) (hc : len ≤ cap) (hcap : (cap : Int) ≤ 9223372036854775807) (hmax : len ≤ 1000000) (hT : Tab w) :
    Calls Tryd.prog 14 #[.slice A len cap] w fun x w' => ∃ A' n c vs, x = .returned (.tuple #[.slice A' n c, .int .i64 (scanK l 0).2]) ∧ OwnS w' w.heap.size (.slice A' n c) vs ∧ RowsO w' w.heap.size vs (scanK l 0).1 ∧ Mod Non w w' := by
  have hll : Hid (l.length = len) := by have := hr.1; rw [vbs_length, Nat.mul_one] at this; exact this
  have HR := Lib.hid hr
  have HC := Lib.hid hc
  clear hr hc
  obtain ⟨i0, hi, hz0, hz1, hz2⟩ := info_parts bss_info
  refine (callsIn_wide (n := 5)).1 ?_
  refine callsIn_of_wp_marks Tryd.func14 rfl trivial ?_ rfl
  simp only [Tryd.ntmps14, List.size_toArray, List.length_cons, List.length_nil, Nat.reduceAdd, Nat.reduceSub, Array.replicate_succ, Array.replicate_zero, List.push_toArray, List.append_toArray, List.nil_append, List.cons_append]
  gi_wp2_with (refine ⟨trivial, ?_⟩; gi_at_call 28; refine (callsIn_wide.2 (frame_whole A len cap _)).mono ?_; rintro e w' ⟨rfl, rfl⟩)
  obtain ⟨B, hB⟩ : ∃ B, w.heap.size = B := ⟨_, rfl⟩
  have b0 : Boxed (((w.alloc (.cells #[.slice none 0 0] 34)).alloc (.cells #[.int .i64 0] 3)).alloc (.cells #[.slice A len cap] 22)) B 34 (.slice none 0 0) := by rw [← hB]; exact ((Boxed.new w _ _).alloc _).alloc _
  have b1 : Boxed (((w.alloc (.cells #[.slice none 0 0] 34)).alloc (.cells #[.int .i64 0] 3)).alloc (.cells #[.slice A len cap] 22)) (B + 1) 3 (.int .i64 (0 : Nat)) := by
    have := Boxed.new (w.alloc (.cells #[.slice none 0 0] 34)) 3 (.int .i64 0)
    rw [World.size_alloc, hB] at this
    exact this.alloc _
  have b2 : Boxed (((w.alloc (.cells #[.slice none 0 0] 34)).alloc (.cells #[.int .i64 0] 3)).alloc (.cells #[.slice A len cap] 22)) (B + 2) 22 (.slice A len cap) := by
    have := Boxed.new ((w.alloc (.cells #[.slice none 0 0] 34)).alloc (.cells #[.int .i64 0] 3)) 22 (.slice A len cap)
    rw [World.size_alloc, World.size_alloc, hB] at this
    exact this
  have hm0 : Mod Non w (((w.alloc (.cells #[.slice none 0 0] 34)).alloc (.cells #[.int .i64 0] 3)).alloc (.cells #[.slice A len cap] 22)) := (((Mod.refl _ _).alloc _).alloc _).alloc _
  have hs0 : (((w.alloc (.cells #[.slice none 0 0] 34)).alloc (.cells #[.int .i64 0] 3)).alloc (.cells #[.slice A len cap] 22)).heap.size = B + 3 := by simp [hB]
  rw [hB]
  generalize hW0 : ((w.alloc (.cells #[.slice none 0 0] 34)).alloc (.cells #[.int .i64 0] 3)).alloc (.cells #[.slice A len cap] 22) = W0 at *
  clear hW0
  refine range_law (n := 3) (σ := Nat × List (List UInt8)) (α := Nat × Option Addr × Nat × Nat) 32 #[.pointer (some ⟨B + 2, 0, none⟩)] rfl (enters_of Tryd.func32 (by kernel_rfl) rfl)
    (fun s W => ScanInv w B len cap A l s.1 s.2 W) (0, []) ⟨⟨by omega, by simp⟩, ⟨_, [], b0, OwnS.nil _ _, RowsO.nil⟩, b1, b2, hm0.non, hB.symm, rfl, rfl⟩
    (fun s W W' h hm => h.non hm) (fun s W L o o' h hL ho hl => h.put o' hL ho (by omega))
    (fun s x W s' => ∃ body, nextK l s.1 = .ok (body, x.1) ∧ OwnB W (B + 3) (.slice x.2.1 x.2.2.1 x.2.2.2) body ∧ s' = (x.1, s.2 ++ [body]))
    (fun s x s' W L o o' ⟨body, h1, h2, h3⟩ hL ho => ⟨body, h1, ownsRow_putObj h2 o' hL ho, h3⟩)
    (fun x => #[.int .i64 (x.1 : Int), .slice x.2.1 x.2.2.1 x.2.2.2]) (fun _ => rfl)
    (fun x => { tmps := #[.slice A len cap, undef, .slice none 0 0, .int .i64 0, .pointer (some ⟨B, 0, none⟩), .pointer (some ⟨B + 1, 0, none⟩), .int .i64 (x.1 : Int), .slice x.2.1 x.2.2.1 x.2.2.2, .slice A len cap, .func (.func 32) #[] #[.pointer (some ⟨B + 1 + 1, 0, none⟩)], .int .i64 (x.1 : Int), .slice x.2.1 x.2.2.1 x.2.2.2, undef, undef, undef, undef, undef, undef, undef], defers := [] }) ?assign ?body (fun s => s = ((scanK l 0).2, (scanK l 0).1)) ?iter ?done
  case assign =>
    intro L x W K hK
    gi_wp2
    exact hK
  case iter =>
    intro L J hJI hJn hY W h0
    refine (whole1 3 L A len cap l w B R HR.out HC.out hcap hmax hT (fun a ls W => J (a, ls) W) (fun a ls W h => hJI _ _ h) (fun a ls W W' h hm => hJn _ _ _ h hm) ?_ W h0).mono fun e W' ⟨h1, h2⟩ => ⟨h1, _, rfl, h2⟩
    intro a k ls body v W hj hx ho
    obtain ⟨A3, n3, c3, rfl, _, _⟩ := ho.form
    exact hY (a, ls) (k, A3, n3, c3) (k, ls ++ [body]) W hj ⟨body, hx, ho, rfl⟩
  case body =>
    rintro L ⟨a, ls⟩ ⟨k, A3, n3, c3⟩ s' W hI ⟨body, hx, ho, rfl⟩
    obtain ⟨v, vs, hb, hr, hos⟩ := hI.row
    have hc := hb.cell
    have hvl : vs.length ≤ 1000000 := by have h1 := hI.le; have h2 := hos.1; simp only at h1 h2; omega
    have hsz := Lib.hid hI.arg.lt
    have HI := Lib.hid hI
    have HX := Lib.hid hx
    clear hI hx
    gi_wp2_with (gi_at_builtin; refine wpListIn_append_own _ rfl _ _ 34 rfl (B + 3) 22 i0 (.slice none 0 0) 1 24 Tryd.underlying34 hi hz0 hz1 hz2 rfl (by decide) _ _ _ rfl (World.ownsRow.alloc hr _) ⟨W.heap.size, 0, none⟩ 1 1 [.slice A3 n3 c3] rfl rfl (cell_one_new _ _ _) (by simp [Value.oneCell']) (by unfold maxLen; omega) (by omega) (by have := hsz.out; simp; omega) ?_; intro v' w1 hown' hgrow _; obtain ⟨g', cap', rfl⟩ := ownsRow_succ hown'; obtain ⟨⟨hv1, hv2⟩, hst⟩ := HI.out.step hb hr hos ho HX.out hll.out hown' hgrow; have hc1 := hv1.cell; have hf1 := hv1.frozen; have hc2 := hv2.cell; have hf2 := hv2.frozen; have HST := Lib.hid hst; clear hst hv1 hv2 hown' hgrow)
    exact HST.out
  case done =>
    rintro s W rfl hI hK
    obtain ⟨v, vs, hb, hr, hos⟩ := hI.row
    have hc := hb.cell
    have hc2 := hI.at_.cell
    have HI := Lib.hid hI
    have HK := Lib.hid hK
    clear hI hK
    gi_wp2
    gi_region
    gi_wp2
    have hKd : W.drew.heap[B + 3]? = some (.deferred (some [])) := by rw [← hs0]; exact HK.out
    refine ⟨by simp, .inl ⟨_, _, rfl, run_takeDeferred (ds := []) hKd, ?_⟩⟩
    refine ⟨_, results_tmp2 rfl _ _ _, ?_⟩
    have hq : Mod Non W W.drew := (Mod.refl _ _).drew
    have hI2 := (HI.out.non hq).put (.deferred none) hKd rfl (by omega)
    have hr2 : OwnS (W.drew.putObj (B + 3) (.deferred none)) (B + 3) v vs := ownsRow_putObj (hr.non hq) _ hKd rfl
    have hos2 : RowsO (W.drew.putObj (B + 3) (.deferred none)) (B + 3) vs (scanK l 0).1 := ⟨hos.1, fun i v l hv hl => ownsRow_putObj ((hos.non hq).2 i v l hv hl) _ hKd rfl⟩
    obtain ⟨A4, n4, c4, rfl, _, _⟩ := hr2.form
    exact ⟨A4, n4, c4, vs, rfl, hr2.below (by omega), hos2.below (by omega), hI2.mod.mono fun k hk hB => by omega⟩
end Go.Proofs.YtlkifobajdafpaaDoor
