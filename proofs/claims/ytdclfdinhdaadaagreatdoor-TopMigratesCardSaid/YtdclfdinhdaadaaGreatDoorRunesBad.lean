/- Package runes: the contracts of Bad, Whole, Key, Val. The two tables of the library's decoder are asked for. -/
import Derived.Test.YtdclfdinhdaadaaGreatDoorRunesAll
import Derived.Test.YtdclfdinhdaadaaGreatDoorShelf
import Derived.RangeFuncRecord
import Derived.Lib.RuneCountTail
namespace Go.Proofs.YtdclfdinhdaadaaGreatDoor
open Go.RowKit

/-- The two tables of the library's decoder lie in the first two blocks. -/
def T8 (w : World) : Prop := 2 ≤ w.heap.size ∧ Lib.Utf8Tabs 0 1 w
theorem T8.mod {S : Nat → Prop} {w w' : World} (h : T8 w) (hm : Mod S w w') (hS : ∀ k, k < 2 → ¬ S k) : T8 w' :=
  ⟨Nat.le_trans h.1 hm.size, fun c hc => (hm.cell (p := ⟨0, c, none⟩) (by have := h.1; simp only; omega) (hS 0 (by omega))).trans (h.2.1 c hc),
    fun i hi => ⟨(hm.cell (p := ⟨1, 2 * i, none⟩) (by have := h.1; simp only; omega) (hS 1 (by omega))).trans (h.2.2 i hi).1, (hm.cell (p := ⟨1, 2 * i + 1, none⟩) (by have := h.1; simp only; omega) (hS 1 (by omega))).trans (h.2.2 i hi).2⟩⟩
theorem T8.non {w w' : World} (h : T8 w) (hm : Mod Non w w') : T8 w' := h.mod hm fun _ _ h => h
theorem T8.one {w w' : World} {g : Nat} (h : T8 w) (hm : Mod (One g) w w') (hg : 2 ≤ g) : T8 w' := h.mod hm fun k hk e => by simp only [One] at e; omega

theorem decode_tail (s : ByteArray) (p : Nat) : Utf8.decode (s.extract p s.size) 0 = Utf8.decode s p := by
  rw [Lib.decode_at, Lib.decode_at, Lib.tail_get!, Lib.tail_get!, Lib.tail_get!, Lib.tail_get!]
  have hl : (s.extract p s.size).size = s.size - p := by simp
  rw [hl]; rfl

/-- Block k is a walk over the text s, at pos. -/
def It (w : World) (k : Nat) (s : ByteArray) (pos : Nat) : Prop := w.heap[k]? = some (.stringIter s pos)
theorem It.next {P : Program} {w : World} {k pos : Nat} {s : ByteArray} (h : It w k s pos) (ty : TypeId) (hp : pos < s.size) :
    (Instr.next (.pointer (some ⟨k, 0, none⟩)) true ty).run P w = .ok (.tuple #[.bool true, .int .i64 pos, .int .i32 (Utf8.decode s pos).1]) (w.putObj k (.stringIter s (pos + (Utf8.decode s pos).2))) := by
  unfold It at h
  simp only [Instr.next, getObj, setObj, Sem.run_bind, Sem.run, h, Result.andThen, hp, if_true]
  simp [goInt, World.putObj]
theorem It.stop {P : Program} {w : World} {k pos : Nat} {s : ByteArray} (h : It w k s pos) (ty : TypeId) (hp : ¬ pos < s.size) :
    (Instr.next (.pointer (some ⟨k, 0, none⟩)) true ty).run P w = .ok (.tuple #[.bool false]) w := by
  unfold It at h
  simp [Instr.next, getObj, Sem.run, h, hp]
theorem It.put {w : World} {k pos : Nat} {s : ByteArray} (h : It w k s pos) (pos' : Nat) : It (w.putObj k (.stringIter s pos')) k s pos' := World.putObj_heap_same (Array.getElem?_eq_some_iff.1 h).1
theorem It.non {w w' : World} {k pos : Nat} {s : ByteArray} (h : It w k s pos) (hm : Mod Non w w') : It w' k s pos := (hm.block k (Array.getElem?_eq_some_iff.1 h).1 fun h => h).trans h
theorem It.pos {w : World} {k pos : Nat} {s : ByteArray} (h : It w k s pos) : w.iterPos k = pos := by unfold It at h; simp [World.iterPos, h]
theorem mod_put {a w : World} {k : Nat} (o : Obj) (h : Mod Non a w) (hk : a.heap.size ≤ k) : Mod Non a (w.putObj k o) :=
  ⟨h.os, h.tape, h.output, by simpa [World.putObj] using h.size, fun i hi hn => (World.putObj_heap_other (by omega)).trans (h.block i hi hn)⟩

def BadPost (s : ByteArray) (e : Ending) : Prop := ∃ k : Int, e = .returned (.int .i64 k) ∧ decide (k < 0) = wholeB s

set_option maxRecDepth 100000 in
set_option maxHeartbeats 1000000 in
theorem runes_Bad (s : ByteArray) (w : World) (hT : T8 w) :
    Calls Tryz.prog 149 #[.string s] w fun e w' => BadPost s e ∧ Mod Non w w' := by
  obtain ⟨q, HQ⟩ : ∃ q, Hid (wholeB s = q) := ⟨_, rfl⟩
  go_enter Tryz.func149, Tryz.ntmps149
  go_wp2
  go_loopw [] (fun wr => ∃ (pos b : Nat), It wr w.heap.size s pos ∧ ((rlFrom s b pos).all fun x => !badR x) = q ∧ s.size ≤ pos + b ∧ Mod Non w wr) (fun wr => s.size - wr.iterPos w.heap.size)
  case atStart => exact ⟨0, s.size, World.iter_heap _ _ _, HQ.out, by omega, mod_iter _ _ _⟩
  case round =>
    obtain ⟨pos, b, hit, hc, hb, hm⟩ := hrel
    have HC := Lib.hid hc
    have hpos := Lib.hid hit.pos
    clear hc
    by_cases hp : pos < s.size
    · have hwd := width_pos s pos
      have hst : Hid (∀ f, rlFrom s (f + 1) pos = Utf8.decode s pos :: rlFrom s f (pos + (Utf8.decode s pos).2)) := fun f => rlFrom_step s f pos hp
      have hnx := fun ty => hit.next (P := Tryz.prog) ty hp
      have hdt := decode_tail s pos
      have hxs : ¬ (s.extract pos s.size).size = 0 := by simp; omega
      have hdg : Lib.decodeGo (s.extract pos s.size) = Utf8.decode s pos := by unfold Lib.decodeGo; rw [if_neg hxs, hdt]
      obtain ⟨r, hr⟩ : ∃ r, (Utf8.decode s pos).1 = r := ⟨_, rfl⟩
      obtain ⟨k, hk⟩ : ∃ k, (Utf8.decode s pos).2 = k := ⟨_, rfl⟩
      rw [hr, hk] at hnx
      rw [hk] at hwd
      have HR := Lib.hid hr
      have HK := Lib.hid hk
      obtain ⟨W1, hW1⟩ : ∃ W1, wr.putObj w.heap.size (.stringIter s (pos + k)) = W1 := ⟨_, rfl⟩
      have hit1 : It W1 w.heap.size s (pos + k) := by rw [← hW1]; exact hit.put _
      have hm1 : Mod Non w W1 := by rw [← hW1]; exact mod_put _ hm (Nat.le_refl _)
      rw [hW1] at hnx
      have HD := Lib.hid hdg
      clear hr hk hW1 hdt hxs hdg hm hit
      by_cases hr5 : r = 65533
      · subst hr5
        have hsl : (pos : Int) ≤ (s.size : Int) := by omega
        have hp0 : (0 : Int) ≤ (pos : Int) := by omega
        have C := Tryz.utf8_DecodeRuneInString (s.extract pos s.size) W1 (hT.non hm1).2
        rw [HD.out, HR.out, HK.out] at C
        have HCC := Lib.hid C
        clear C
        by_cases hk1 : k = 1
        · subst hk1
          go_wp2_with fail
          refine HCC.out.mono ?_
          rintro e w2 ⟨rfl, hb2⟩
          have hm2 : Mod Non W1 w2 := Mod.of_below' hb2
          go_wp2
          go_ret
          refine ⟨⟨pos, rfl, ?_⟩, hm1.trans' hm2⟩
          have h0 : decide ((pos : Int) < 0) = false := by simp
          rw [h0, HQ.out, ← HC.out]
          cases b with
          | zero => omega
          | succ b =>
            rw [hst.out, List.all_cons]
            have : badR (Utf8.decode s pos) = true := by unfold badR; rw [HR.out, HK.out]; rfl
            rw [this]; rfl
        · have hk1' : ((k : Int) == 1) = false := by simp; omega
          go_wp2_with fail
          refine HCC.out.mono ?_
          rintro e w2 ⟨rfl, hb2⟩
          have hm2 : Mod Non W1 w2 := Mod.of_below' hb2
          have hit2 := hit1.non hm2
          have hm12 := hm1.trans' hm2
          clear hm1 hm2 hb2 hit1
          go_wp2
          go_roundw
          case rel =>
            cases b with
            | zero => omega
            | succ b =>
              refine ⟨pos + k, b, hit2, ?_, by omega, hm12⟩
              rw [← HC.out, hst.out, List.all_cons, HK.out]
              have : badR (Utf8.decode s pos) = false := by unfold badR; rw [HR.out, HK.out]; simp [hk1]
              rw [this]; rfl
          case measure => rw [hit2.pos, hpos.out]; omega
      · have e1 : ((r : Int) != 65533) = true := by simp; omega
        go_wp2
        go_roundw
        case rel =>
          cases b with
          | zero => omega
          | succ b =>
            refine ⟨pos + k, b, hit1, ?_, by omega, hm1⟩
            rw [← HC.out, hst.out, List.all_cons, HK.out]
            have : badR (Utf8.decode s pos) = false := by unfold badR; rw [HR.out]; simp [hr5]
            rw [this]; rfl
        case measure => rw [hit1.pos, hpos.out]; omega
    · have hnx := fun ty => hit.stop (P := Tryz.prog) ty hp
      go_wp2
      go_ret
      refine ⟨⟨-1, rfl, ?_⟩, hm⟩
      rw [HQ.out, ← HC.out, rlFrom_end s b pos hp]; rfl

theorem runes_Whole (s : ByteArray) (w : World) (hT : T8 w) :
    Calls Tryz.prog 133 #[.string s] w fun e w' => e = .returned (.bool (wholeB s)) ∧ Mod Non w w' := by
  go_enter Tryz.func133, Tryz.ntmps133
  go_wp2_with fail
  refine (runes_Bad s w hT).mono ?_
  rintro e w1 ⟨⟨k, rfl, hk⟩, hm⟩
  have HK := Lib.hid hk
  clear hk
  go_wp2
  go_ret
  exact ⟨by rw [← HK.out]; rfl, hm⟩

theorem runes_Key (s : ByteArray) (w : World) (hT : T8 w) :
    Calls Tryz.prog 108 #[.string s] w fun e w' => e = .returned (.bool (keyB s)) ∧ Mod Non w w' := by
  by_cases h0 : s.size = 0
  · have hne : s.toList.isEmpty = true := by
      rw [Lib.toList_data]
      have : s.data.toList = [] := List.eq_nil_of_length_eq_zero (by simpa using h0)
      rw [this]; rfl
    have HF : Hid (keyB s = false) := by show _ = _; unfold keyB; simp [h0]
    have hne2 : s.toList = [] := by simpa using hne
    clear h0
    go_enter Tryz.func108, Tryz.ntmps108
    go_wp2
    go_ret
    exact ⟨by rw [HF.out]; rfl, Mod.refl _ _⟩
  · have hne : s.toList.isEmpty = false := by
      rw [Lib.toList_data]
      cases hl : s.data.toList with
      | nil => exfalso; apply h0; have := congrArg List.length hl; simpa using this
      | cons a r => rfl
    have hne2 : ¬ s.toList = [] := by intro h; rw [h] at hne; cases hne
    by_cases h24 : s.size ≤ 24
    · have h24' : (s.size : Int) ≤ 24 := by omega
      obtain ⟨x, hx⟩ : ∃ x, wholeB s = x := ⟨_, rfl⟩
      have h1 : 1 ≤ s.size := by omega
      have HF : Hid (keyB s = (x && (rl s).all fun y => plainR y.1)) := by
        show _ = _
        unfold keyB
        rw [hx, decide_eq_true h1, decide_eq_true h24]; rfl
      have HX := Lib.hid hx
      clear h0 hx
      cases x
      · go_enter Tryz.func108, Tryz.ntmps108
        go_wp2_with fail
        refine (runes_Whole s w hT).mono ?_
        rintro e w1 ⟨rfl, hm1⟩
        rw [HX.out]
        go_wp2
        go_ret
        exact ⟨by rw [HF.out]; rfl, hm1⟩
      · obtain ⟨y, hy⟩ : ∃ y, ((rl s).all fun y => plainR y.1) = y := ⟨_, rfl⟩
        have HY := Lib.hid hy
        clear hy
        go_enter Tryz.func108, Tryz.ntmps108
        go_wp2_with fail
        refine (runes_Whole s w hT).mono ?_
        rintro e w1 ⟨rfl, hm1⟩
        rw [HX.out]
        go_wp2_with fail
        refine (runes_all_plain s w1).mono ?_
        rintro e w2 ⟨rfl, hm2⟩
        rw [HY.out]
        go_wp2
        go_ret
        exact ⟨by rw [HF.out, HY.out]; rfl, hm1.trans' hm2⟩
    · have h24' : ¬ (s.size : Int) ≤ 24 := by omega
      have HF : Hid (keyB s = false) := by show _ = _; unfold keyB; simp [h24]
      clear h0 h24
      go_enter Tryz.func108, Tryz.ntmps108
      go_wp2
      go_ret
      exact ⟨by rw [HF.out]; rfl, Mod.refl _ _⟩

theorem runes_Val (s : ByteArray) (w : World) (hT : T8 w) :
    Calls Tryz.prog 109 #[.string s] w fun e w' => e = .returned (.bool (valB s)) ∧ Mod Non w w' := by
  by_cases h24 : s.size ≤ 48
  · have h24' : (s.size : Int) ≤ 48 := by omega
    obtain ⟨x, hx⟩ : ∃ x, wholeB s = x := ⟨_, rfl⟩
    have HF : Hid (valB s = (x && (rl s).all fun y => valR y.1)) := by show _ = _; unfold valB; rw [hx]; simp [h24]
    have HX := Lib.hid hx
    clear hx h24
    cases x
    · go_enter Tryz.func109, Tryz.ntmps109
      go_wp2_with fail
      refine (runes_Whole s w hT).mono ?_
      rintro e w1 ⟨rfl, hm1⟩
      rw [HX.out]
      go_wp2
      go_ret
      exact ⟨by rw [HF.out]; rfl, hm1⟩
    · obtain ⟨y, hy⟩ : ∃ y, ((rl s).all fun y => valR y.1) = y := ⟨_, rfl⟩
      have HY := Lib.hid hy
      clear hy
      go_enter Tryz.func109, Tryz.ntmps109
      go_wp2_with fail
      refine (runes_Whole s w hT).mono ?_
      rintro e w1 ⟨rfl, hm1⟩
      rw [HX.out]
      go_wp2_with fail
      refine (runes_all_val s w1).mono ?_
      rintro e w2 ⟨rfl, hm2⟩
      rw [HY.out]
      go_wp2
      go_ret
      exact ⟨by rw [HF.out, HY.out]; rfl, hm1.trans' hm2⟩
  · have h24' : ¬ (s.size : Int) ≤ 48 := by omega
    have HF : Hid (valB s = false) := by show _ = _; unfold valB; simp [h24]
    clear h24
    go_enter Tryz.func109, Tryz.ntmps109
    go_wp2
    go_ret
    exact ⟨by rw [HF.out]; rfl, Mod.refl _ _⟩
end Go.Proofs.YtdclfdinhdaadaaGreatDoor
