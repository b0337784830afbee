/- Package window: what a command does to all but the application: does, member, activate, other. -/
import Derived.Test.YtdclfdinhdaadaaGreatDoorMgS
import Derived.Test.YtdclfdinhdaadaaGreatDoorWinCloneG
namespace Go.Proofs.YtdclfdinhdaadaaGreatDoor
open Go.RowKit

/-- the cells of an image -/
abbrev icells (ix ac : Int) (c : Value) (v : Int) (p s : Value) : Array Value := #[.int .i64 ix, .int .i64 ac, c, .int .i64 v, p, s]

/-- block g is an image, its confs apart -/
def WinB (w : World) (B g : Nat) (ix ac v : Int) (p s : Value) (cs : List Cf) : Prop :=
  ∃ A n c, Blk w g 98 (icells ix ac (.slice A n c) v p s) ∧ Confs w (fun k => B ≤ k ∧ k ≠ g) A n cs ∧ n ≤ c

theorem win_other (g : Nat) (c : Cm) (w : World) :
    Calls Tryz.prog 97 #[.pointer (some ⟨g, 0, none⟩), c.v] w fun e w' => e = .returned (.tuple #[]) ∧ Mod Non w w' := by
  obtain ⟨kind, client, seq, key, val, old, node⟩ := c
  go_enter Tryz.func97, Tryz.ntmps97
  go_wp2
  go_end0
  exact ⟨rfl, (Mod.refl _ _).alloc _⟩

theorem WinB.mod {w w' : World} {B g : Nat} {S : Nat → Prop} {ix ac v : Int} {p s : Value} {cs : List Cf} (h : WinB w B g ix ac v p s cs) (hm : Mod S w w') (hg : ¬ S g) (hS : ∀ k, k < w.heap.size → B ≤ k → k ≠ g → ¬ S k) : WinB w' B g ix ac v p s cs := by
  obtain ⟨A, n, c, h1, h2, h3⟩ := h
  exact ⟨A, n, c, h1.mod hm hg, h2.mod hm fun k hk hr => hS k hk hr.1 hr.2, h3⟩
theorem WinB.non {w w' : World} {B g : Nat} {ix ac v : Int} {p s : Value} {cs : List Cf} (h : WinB w B g ix ac v p s cs) (hm : Mod Non w w') : WinB w' B g ix ac v p s cs := h.mod hm (fun h => h) fun _ _ _ _ h => h

theorem win_activate (g B : Nat) (ix ac v : Int) (p s : Value) (cs : List Cf) (c : Cm) (w : World) (h : WinB w B g ix ac v p s cs) :
    Calls Tryz.prog 96 #[.pointer (some ⟨g, 0, none⟩), c.v] w fun e w' => e = .returned (.tuple #[]) ∧ WinB w' B g ix (if ac = 0 then ix else ac) v p s cs ∧ Mod (One g) w w' := by
  obtain ⟨A, n, k, hb, hr, hnk⟩ := h
  obtain ⟨kind, client, seq, key, val, old, node⟩ := c
  have hgl := hb.lt
  have mc := (Mod.refl Non w).alloc (.cells #[.int .i64 kind, .int .i64 client, .int .i64 seq, .string key, .string val, .string old, .int .i64 node] 33)
  have b1 := hb.mod mc (fun h => h)
  have HR := Lib.hid (hr.non mc)
  have HB1 := Lib.hid b1
  have MC := Lib.hid mc
  have e0 := hb.cell 0
  have e1 := hb.cell 1
  have f1 := hb.frozen 1
  simp at e0 e1
  have HB0 := Lib.hid hb
  have HR0 := Lib.hid hr
  clear hb hr mc b1
  by_cases h0 : ac = 0
  · subst h0
    rw [if_pos rfl]
    go_enter Tryz.func96, Tryz.ntmps96
    go_wp2
    go_end0
    exact ⟨rfl, ⟨A, n, k, (HB0.out.set_ 1 _).alloc _, (HR0.out.mod (Mod.one _ g 1 _) fun j _ hj h => hj.2 h).non ((Mod.refl Non _).alloc _), hnk⟩, (((Mod.refl _ _).setOne _).alloc _)⟩
  · rw [if_neg h0]
    have h0' : (ac == 0) = false := by simp [h0]
    clear h0
    go_enter Tryz.func96, Tryz.ntmps96
    go_wp2
    go_end0
    exact ⟨rfl, ⟨A, n, k, HB1.out, HR.out, hnk⟩, MC.out.non⟩

set_option maxRecDepth 100000 in
set_option maxHeartbeats 2000000 in
theorem win_member (g B : Nat) (ix ac v : Int) (p s : Value) (cs : List Cf) (c : Cm) (w : World) (h : WinB w B g ix ac v p s cs) (hB : B ≤ w.heap.size) (hfew : cs.length ≤ 64) (hok : CfsOk cs) (hix : 1 ≤ ix ∧ ix ≤ 1000000) (hlate : ∀ x ∈ cs, x.from_ < ix + 4) (hk : c.kind = 7 ∨ c.kind = 8) :
    Calls Tryz.prog 95 #[.pointer (some ⟨g, 0, none⟩), c.v] w fun e w' => e = .returned (.tuple #[]) ∧ WinB w' B g ix ac v p s (cchg cs ix c) ∧ Mod (One g) w w' := by
  obtain ⟨A, n, k, hb, hr, hnk⟩ := h
  have hgl := hb.lt
  have mc := (Mod.refl Non w).alloc (.cells c.cells.toArray 33)
  have b1 := hb.mod mc (fun h => h)
  have hr1 := hr.non mc
  have hn := hr1.len
  have hcc : Hid (cchg cs ix c = match chg (lastMem cs) c.kind c.node with | some l => cs ++ [⟨ix + 4, l⟩] | none => cs) := by show _ = _; unfold cchg; rw [if_pos hk]; rfl
  obtain ⟨cc, hcce⟩ : ∃ cc, cc = cchg cs ix c := ⟨_, rfl⟩
  rw [← hcce] at hcc ⊢
  have MC := Lib.hid mc
  have HR := Lib.hid hr1
  have e0 := hb.cell 0
  have e2 := hb.cell 2
  simp at e0 e2
  have HB1 := Lib.hid b1
  cases hch : chg (lastMem cs) c.kind c.node with
  | none =>
    rw [hch] at hcc
    have HCH := Lib.hid (fun w' (h : Mod Non _ w') => conf_Change_no A n k _ cs ix c.kind c.node w' (hr1.non h) (by omega) hok hix hk hch)
    obtain ⟨kind, client, seq, key, val, old, node⟩ := c
    simp only at HCH
    clear hb hr mc b1 hr1 hok hlate hk hch hcce hn hfew hix
    go_enter Tryz.func95, Tryz.ntmps95
    go_wp2_with fail
    go_region_with (go_at_call 126; refine (HCH.out _ ((Mod.refl _ _).drew)).mono ?_; rintro e w2 ⟨rfl, hm2⟩)
    all_goals
      go_wp2
      go_end0
      rw [hcc.out]
      exact ⟨rfl, ⟨A, n, k, HB1.out.drew.mod hm2 (fun h => h), HR.out.non hm2.undrew, hnk⟩, (MC.out.trans' hm2.undrew).non⟩
  | some l' =>
    rw [hch] at hcc
    have HCH := Lib.hid (fun w' (h : Mod Non _ w') => conf_Change_yes A n k _ cs l' ix c.kind c.node w' (hr1.non h) (by omega) hok hix hk hlate hch)
    obtain ⟨kind, client, seq, key, val, old, node⟩ := c
    simp only at HCH
    clear hb hr mc b1 hr1 hok hlate hk hch hcce hn hfew hix
    go_enter Tryz.func95, Tryz.ntmps95
    go_wp2_with fail
    go_region_law (go_simp; go_at_call 126; refine (HCH.out _ ((Mod.refl _ _).drew)).mono ?_; rintro e w2 ⟨v2, rfl, ho2, hm2⟩; have hb2 := HB1.out.drew.mod hm2 (fun h => h); have g2 : w2.cell? ⟨g, 2, none⟩ = some (.slice A n k) := hb2.cell 2; have f22 := hb2.frozen 2; obtain ⟨n2, hn2⟩ : ∃ n2, n2 = (cs ++ [(⟨ix + 4, l'⟩ : Cf)]).length := ⟨_, rfl⟩; obtain ⟨A2, c2, he2, hc2⟩ := ho2.len; rw [← hn2] at he2 hc2; have HN2 := Lib.hid hn2; clear hn2; subst he2)
    all_goals
      have HO2 := Lib.hid ho2
      have HB2 := Lib.hid hb2
      have HM2 := Lib.hid (MC.out.trans' hm2.undrew)
      clear ho2 hb2 hm2
      go_wp2
      go_end0
      rw [hcc.out]
      have hcf := HO2.out.confs
      refine ⟨rfl, ⟨A2, n2, c2, HB2.out.set_ 2 _, (hcf.more fun j _ hj => ?_).mod (Mod.one _ g 2 _) fun j _ hj h => hj.2 h, hc2⟩, HM2.out.non.setOne _⟩
      have hj : _ ≤ j := hj
      simp at hj
      omega

/-- what 'does' answers -/
def doF (g : Nat) (k : Int) : Value := if k = 7 ∨ k = 8 then .func (.func 95) #[.pointer (some ⟨g, 0, none⟩)] #[] else if k = 6 then .func (.func 96) #[.pointer (some ⟨g, 0, none⟩)] #[] else .func (.func 97) #[.pointer (some ⟨g, 0, none⟩)] #[]
theorem win_does (g : Nat) (k : Int) (w : World) :
    Calls Tryz.prog 52 #[.pointer (some ⟨g, 0, none⟩), .int .i64 k] w fun e w' => e = .returned (doF g k) ∧ w = w' := by
  unfold doF
  by_cases h7 : k = 7
  · subst h7
    rw [if_pos (.inl rfl)]
    go_enter Tryz.func52, Tryz.ntmps52
    go_wp2
    go_ret
    exact ⟨rfl, rfl⟩
  by_cases h8 : k = 8
  · subst h8
    rw [if_pos (.inr rfl)]
    go_enter Tryz.func52, Tryz.ntmps52
    go_wp2
    go_ret
    exact ⟨rfl, rfl⟩
  rw [if_neg (by omega)]
  by_cases h6 : k = 6
  · subst h6
    rw [if_pos rfl]
    go_enter Tryz.func52, Tryz.ntmps52
    go_wp2
    go_ret
    exact ⟨rfl, rfl⟩
  rw [if_neg h6]
  have h7' : (k == 7) = false := by simp [h7]
  have h8' : (k == 8) = false := by simp [h8]
  have h6' : (k == 6) = false := by simp [h6]
  go_enter Tryz.func52, Tryz.ntmps52
  go_wp2
  go_ret
  exact ⟨rfl, rfl⟩
end Go.Proofs.YtdclfdinhdaadaaGreatDoor
