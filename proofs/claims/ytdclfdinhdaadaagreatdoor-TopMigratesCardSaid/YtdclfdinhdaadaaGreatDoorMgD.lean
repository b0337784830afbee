/- Texts as runes, in plain Lean over the model's own decoding. No program in sight. -/
import Derived.Test.YtdclfdinhdaadaaGreatDoorMgA
import Derived.Lib.RuneCount
import Derived.Lib.TrimU
import Derived.Test.YtdclfdinhdaadaaGreatDoorShelf
import Derived.RangeFuncRecord
import Derived.Lib.RuneCountTail
namespace Go.Proofs.YtdclfdinhdaadaaGreatDoor

/-- the runes of a text from a place on, each with how many bytes it has -/
def rlFrom (s : ByteArray) : Nat → Nat → List (Nat × Nat)
  | 0, _ => []
  | f + 1, pos => if pos < s.size then Utf8.decode s pos :: rlFrom s f (pos + (Utf8.decode s pos).2) else []
def rl (s : ByteArray) : List (Nat × Nat) := rlFrom s s.size 0

def badR (x : Nat × Nat) : Bool := x.1 == 65533 && x.2 == 1
def plainR (r : Nat) : Bool :=
  (decide (97 ≤ r) && decide (r ≤ 122)) || (decide (65 ≤ r) && decide (r ≤ 90)) || (decide (48 ≤ r) && decide (r ≤ 57)) || r == 45 || r == 95 || r == 46 || r == 58 || (decide (161 ≤ r) && r != 65533)
def valR (r : Nat) : Bool := decide (32 ≤ r) && r != 127
def wholeB (s : ByteArray) : Bool := (rl s).all fun x => !badR x
def keyB (s : ByteArray) : Bool := decide (1 ≤ s.size) && decide (s.size ≤ 24) && wholeB s && (rl s).all fun x => plainR x.1
def valB (s : ByteArray) : Bool := decide (s.size ≤ 48) && wholeB s && (rl s).all fun x => valR x.1

theorem rlFrom_end (s : ByteArray) (f pos : Nat) (h : ¬ pos < s.size) : rlFrom s f pos = [] := by cases f <;> simp [rlFrom, h]
theorem rlFrom_step (s : ByteArray) (f pos : Nat) (h : pos < s.size) : rlFrom s (f + 1) pos = Utf8.decode s pos :: rlFrom s f (pos + (Utf8.decode s pos).2) := by simp [rlFrom, h]
theorem width_pos (s : ByteArray) (pos : Nat) : 1 ≤ (Utf8.decode s pos).2 := Lib.width_pos s pos
theorem rune_le (s : ByteArray) (pos : Nat) : (Utf8.decode s pos).1 ≤ 1114111 := Lib.rune_le s pos

theorem mod_iter (w : World) (s : ByteArray) (pos : Nat) : Mod Non w (w.iter s pos) := by
  unfold World.iter
  exact (Mod.refl _ _).alloc _
end Go.Proofs.YtdclfdinhdaadaaGreatDoor

/- Package runes: the contracts of Plain, Val$1, all. -/
namespace Go.Proofs.YtdclfdinhdaadaaGreatDoor
open Go.RowKit

theorem ret_bool {a b : Bool} (h : a = b) : Ending.returned (.bool a) = .returned (.bool b) := by rw [h]
theorem i32_le {r : Nat} (h : r ≤ 1114111) : (r : Int) ≤ 1114111 := by omega

set_option maxHeartbeats 1000000 in
theorem runes_Plain (r : Nat) (w : World) :
    Calls Tryz.prog 135 #[.int .i32 r] w fun e w' => e = .returned (.bool (plainR r)) ∧ w = w' := by
  have HP : Hid (plainR r = ((decide (97 ≤ r) && decide (r ≤ 122)) || (decide (65 ≤ r) && decide (r ≤ 90)) || (decide (48 ≤ r) && decide (r ≤ 57)) || r == 45 || r == 95 || r == 46 || r == 58 || (decide (161 ≤ r) && r != 65533))) := rfl
  go_enter Tryz.func135, Tryz.ntmps135
  go_wp2
  all_goals
    go_ret
    refine ⟨ret_bool ?_, rfl⟩
    rw [HP.out, Bool.eq_iff_iff]
    simp_all
    try omega

theorem runes_Val1 (r : Nat) (w : World) :
    Calls Tryz.prog 136 #[.int .i32 r] w fun e w' => e = .returned (.bool (valR r)) ∧ w = w' := by
  go_enter Tryz.func136, Tryz.ntmps136
  go_wp2
  all_goals
    go_ret
    refine ⟨ret_bool ?_, rfl⟩
    unfold valR
    rw [Bool.eq_iff_iff]
    simp_all
    try omega

set_option maxHeartbeats 1000000 in
theorem runes_all_plain (s : ByteArray) (w : World) :
    Calls Tryz.prog 134 #[.string s, .func (.func 135) #[] #[]] w fun e w' => e = .returned (.bool ((rl s).all fun x => plainR x.1)) ∧ Mod Non w w' := by
  obtain ⟨q, HQ⟩ : ∃ q, Hid (((rl s).all fun x => plainR x.1) = q) := ⟨_, rfl⟩
  rw [HQ.out]
  go_enter Tryz.func134, Tryz.ntmps134
  go_wp2
  go_loopw [] (fun w' => ∃ (pos b : Nat), w' = w.iter s pos ∧ ((rlFrom s b pos).all fun x => plainR x.1) = q ∧ s.size ≤ pos + b) (fun w' => s.size - w'.iterPos w.heap.size)
  case atStart => exact ⟨0, s.size, rfl, HQ.out, by omega⟩
  case round =>
    obtain ⟨pos, b, rfl, hc, hb⟩ := hrel
    have HC := Lib.hid hc
    clear hc
    by_cases hp : pos < s.size
    · have hnx : ∀ ty, (Instr.next (.pointer (some ⟨w.heap.size, 0, none⟩)) true ty).run Tryz.prog (w.iter s pos) = _ := fun ty => run_next_any w s pos ty hp
      have hwd := width_pos s pos
      have hst : Hid (∀ f, rlFrom s (f + 1) pos = Utf8.decode s pos :: rlFrom s f (pos + (Utf8.decode s pos).2)) := fun f => rlFrom_step s f pos hp
      obtain ⟨r, hr⟩ : ∃ r, (Utf8.decode s pos).1 = r := ⟨_, rfl⟩
      obtain ⟨k, hk⟩ : ∃ k, (Utf8.decode s pos).2 = k := ⟨_, rfl⟩
      rw [hr, hk] at hnx
      rw [hk] at hwd
      have HR := Lib.hid hr
      have HK := Lib.hid hk
      clear hr hk
      obtain ⟨y, hy⟩ : ∃ y, plainR r = y := ⟨_, rfl⟩
      have HY := Lib.hid hy
      clear hy
      cases y
      · go_wp2_with fail
        refine (runes_Plain r _).mono ?_
        rintro e w1 ⟨rfl, rfl⟩
        rw [HY.out]
        go_wp2
        go_ret
        refine ⟨ret_bool ?_, mod_iter _ _ _⟩
        rw [← HC.out]
        cases b with
        | zero => omega
        | succ b => rw [hst.out, List.all_cons, HR.out, HY.out]; rfl
      · go_wp2_with fail
        refine (runes_Plain r _).mono ?_
        rintro e w1 ⟨rfl, rfl⟩
        rw [HY.out]
        go_wp2
        go_roundw
        case rel =>
          cases b with
          | zero => omega
          | succ b =>
            refine ⟨pos + k, b, rfl, ?_, by omega⟩
            rw [← HC.out, hst.out, List.all_cons, HR.out, HY.out, HK.out]; rfl
        case measure => simp; omega
    · have hnx : ∀ ty, (Instr.next (.pointer (some ⟨w.heap.size, 0, none⟩)) true ty).run Tryz.prog (w.iter s pos) = _ := fun ty => run_next_end w s pos ty hp
      go_wp2
      go_ret
      refine ⟨ret_bool ?_, mod_iter _ _ _⟩
      rw [← HC.out, rlFrom_end s b pos hp]; rfl

set_option maxHeartbeats 1000000 in
theorem runes_all_val (s : ByteArray) (w : World) :
    Calls Tryz.prog 134 #[.string s, .func (.func 136) #[] #[]] w fun e w' => e = .returned (.bool ((rl s).all fun x => valR x.1)) ∧ Mod Non w w' := by
  obtain ⟨q, HQ⟩ : ∃ q, Hid (((rl s).all fun x => valR x.1) = q) := ⟨_, rfl⟩
  rw [HQ.out]
  go_enter Tryz.func134, Tryz.ntmps134
  go_wp2
  go_loopw [] (fun w' => ∃ (pos b : Nat), w' = w.iter s pos ∧ ((rlFrom s b pos).all fun x => valR x.1) = q ∧ s.size ≤ pos + b) (fun w' => s.size - w'.iterPos w.heap.size)
  case atStart => exact ⟨0, s.size, rfl, HQ.out, by omega⟩
  case round =>
    obtain ⟨pos, b, rfl, hc, hb⟩ := hrel
    have HC := Lib.hid hc
    clear hc
    by_cases hp : pos < s.size
    · have hnx : ∀ ty, (Instr.next (.pointer (some ⟨w.heap.size, 0, none⟩)) true ty).run Tryz.prog (w.iter s pos) = _ := fun ty => run_next_any w s pos ty hp
      have hwd := width_pos s pos
      have hst : Hid (∀ f, rlFrom s (f + 1) pos = Utf8.decode s pos :: rlFrom s f (pos + (Utf8.decode s pos).2)) := fun f => rlFrom_step s f pos hp
      obtain ⟨r, hr⟩ : ∃ r, (Utf8.decode s pos).1 = r := ⟨_, rfl⟩
      obtain ⟨k, hk⟩ : ∃ k, (Utf8.decode s pos).2 = k := ⟨_, rfl⟩
      rw [hr, hk] at hnx
      rw [hk] at hwd
      have HR := Lib.hid hr
      have HK := Lib.hid hk
      clear hr hk
      obtain ⟨y, hy⟩ : ∃ y, valR r = y := ⟨_, rfl⟩
      have HY := Lib.hid hy
      clear hy
      cases y
      · go_wp2_with fail
        refine (runes_Val1 r _).mono ?_
        rintro e w1 ⟨rfl, rfl⟩
        rw [HY.out]
        go_wp2
        go_ret
        refine ⟨ret_bool ?_, mod_iter _ _ _⟩
        rw [← HC.out]
        cases b with
        | zero => omega
        | succ b => rw [hst.out, List.all_cons, HR.out, HY.out]; rfl
      · go_wp2_with fail
        refine (runes_Val1 r _).mono ?_
        rintro e w1 ⟨rfl, rfl⟩
        rw [HY.out]
        go_wp2
        go_roundw
        case rel =>
          cases b with
          | zero => omega
          | succ b =>
            refine ⟨pos + k, b, rfl, ?_, by omega⟩
            rw [← HC.out, hst.out, List.all_cons, HR.out, HY.out, HK.out]; rfl
        case measure => simp; omega
    · have hnx : ∀ ty, (Instr.next (.pointer (some ⟨w.heap.size, 0, none⟩)) true ty).run Tryz.prog (w.iter s pos) = _ := fun ty => run_next_end w s pos ty hp
      go_wp2
      go_ret
      refine ⟨ret_bool ?_, mod_iter _ _ _⟩
      rw [← HC.out, rlFrom_end s b pos hp]; rfl
end Go.Proofs.YtdclfdinhdaadaaGreatDoor

/- Package runes: the contracts of Bad, Whole, Key, Val. The two tables of the library's decoder are asked for. -/
namespace Go.Proofs.YtdclfdinhdaadaaGreatDoor
open Go.RowKit

/-- The two tables of the library's decoder lie in the first two blocks. -/
def T8 (w : World) : Prop := 2 ≤ w.heap.size ∧ Lib.Utf8Tabs 0 1 w
theorem T8.mod {S : Nat → Prop} {w w' : World} (h : T8 w) (hm : Mod S w w') (hS : ∀ k, k < 2 → ¬ S k) : T8 w' :=
  ⟨Nat.le_trans h.1 hm.size, fun c hc => (hm.cell (p := ⟨0, c, none⟩) (by have := h.1; simp only; omega) (hS 0 (by omega))).trans (h.2.1 c hc),
    fun i hi => ⟨(hm.cell (p := ⟨1, 2 * i, none⟩) (by have := h.1; simp only; omega) (hS 1 (by omega))).trans (h.2.2 i hi).1, (hm.cell (p := ⟨1, 2 * i + 1, none⟩) (by have := h.1; simp only; omega) (hS 1 (by omega))).trans (h.2.2 i hi).2⟩⟩
theorem T8.non {w w' : World} (h : T8 w) (hm : Mod Non w w') : T8 w' := h.mod hm fun _ _ h => h
theorem T8.one {w w' : World} {g : Nat} (h : T8 w) (hm : Mod (One g) w w') (hg : 2 ≤ g) : T8 w' := h.mod hm fun k hk e => by simp only [One] at e; omega

theorem decode_tail (s : ByteArray) (p : Nat) : Utf8.decode (s.extract p s.size) 0 = Utf8.decode s p := by
  rw [Lib.decode_at, Lib.decode_at, Lib.tail_get!, Lib.tail_get!, Lib.tail_get!, Lib.tail_get!]
  have hl : (s.extract p s.size).size = s.size - p := by simp
  rw [hl]; rfl

/-- Block k is a walk over the text s, at pos. -/
def It (w : World) (k : Nat) (s : ByteArray) (pos : Nat) : Prop := w.heap[k]? = some (.stringIter s pos)
theorem It.next {P : Program} {w : World} {k pos : Nat} {s : ByteArray} (h : It w k s pos) (ty : TypeId) (hp : pos < s.size) :
    (Instr.next (.pointer (some ⟨k, 0, none⟩)) true ty).run P w = .ok (.tuple #[.bool true, .int .i64 pos, .int .i32 (Utf8.decode s pos).1]) (w.putObj k (.stringIter s (pos + (Utf8.decode s pos).2))) := by
  unfold It at h
  simp only [Instr.next, getObj, setObj, Sem.run_bind, Sem.run, h, Result.andThen, hp, if_true]
  simp [goInt, World.putObj]
theorem It.stop {P : Program} {w : World} {k pos : Nat} {s : ByteArray} (h : It w k s pos) (ty : TypeId) (hp : ¬ pos < s.size) :
    (Instr.next (.pointer (some ⟨k, 0, none⟩)) true ty).run P w = .ok (.tuple #[.bool false]) w := by
  unfold It at h
  simp [Instr.next, getObj, Sem.run, h, hp]
theorem It.put {w : World} {k pos : Nat} {s : ByteArray} (h : It w k s pos) (pos' : Nat) : It (w.putObj k (.stringIter s pos')) k s pos' := World.putObj_heap_same (Array.getElem?_eq_some_iff.1 h).1
theorem It.non {w w' : World} {k pos : Nat} {s : ByteArray} (h : It w k s pos) (hm : Mod Non w w') : It w' k s pos := (hm.block k (Array.getElem?_eq_some_iff.1 h).1 fun h => h).trans h
theorem It.pos {w : World} {k pos : Nat} {s : ByteArray} (h : It w k s pos) : w.iterPos k = pos := by unfold It at h; simp [World.iterPos, h]
theorem mod_put {a w : World} {k : Nat} (o : Obj) (h : Mod Non a w) (hk : a.heap.size ≤ k) : Mod Non a (w.putObj k o) :=
  ⟨h.os, h.tape, h.output, by simpa [World.putObj] using h.size, fun i hi hn => (World.putObj_heap_other (by omega)).trans (h.block i hi hn)⟩

def BadPost (s : ByteArray) (e : Ending) : Prop := ∃ k : Int, e = .returned (.int .i64 k) ∧ decide (k < 0) = wholeB s

set_option maxRecDepth 100000 in
set_option maxHeartbeats 1000000 in
theorem runes_Bad (s : ByteArray) (w : World) (hT : T8 w) :
    Calls Tryz.prog 149 #[.string s] w fun e w' => BadPost s e ∧ Mod Non w w' := by
  obtain ⟨q, HQ⟩ : ∃ q, Hid (wholeB s = q) := ⟨_, rfl⟩
  go_enter Tryz.func149, Tryz.ntmps149
  go_wp2
  go_loopw [] (fun wr => ∃ (pos b : Nat), It wr w.heap.size s pos ∧ ((rlFrom s b pos).all fun x => !badR x) = q ∧ s.size ≤ pos + b ∧ Mod Non w wr) (fun wr => s.size - wr.iterPos w.heap.size)
  case atStart => exact ⟨0, s.size, World.iter_heap _ _ _, HQ.out, by omega, mod_iter _ _ _⟩
  case round =>
    obtain ⟨pos, b, hit, hc, hb, hm⟩ := hrel
    have HC := Lib.hid hc
    have hpos := Lib.hid hit.pos
    clear hc
    by_cases hp : pos < s.size
    · have hwd := width_pos s pos
      have hst : Hid (∀ f, rlFrom s (f + 1) pos = Utf8.decode s pos :: rlFrom s f (pos + (Utf8.decode s pos).2)) := fun f => rlFrom_step s f pos hp
      have hnx := fun ty => hit.next (P := Tryz.prog) ty hp
      have hdt := decode_tail s pos
      have hxs : ¬ (s.extract pos s.size).size = 0 := by simp; omega
      have hdg : Lib.decodeGo (s.extract pos s.size) = Utf8.decode s pos := by unfold Lib.decodeGo; rw [if_neg hxs, hdt]
      obtain ⟨r, hr⟩ : ∃ r, (Utf8.decode s pos).1 = r := ⟨_, rfl⟩
      obtain ⟨k, hk⟩ : ∃ k, (Utf8.decode s pos).2 = k := ⟨_, rfl⟩
      rw [hr, hk] at hnx
      rw [hk] at hwd
      have HR := Lib.hid hr
      have HK := Lib.hid hk
      obtain ⟨W1, hW1⟩ : ∃ W1, wr.putObj w.heap.size (.stringIter s (pos + k)) = W1 := ⟨_, rfl⟩
      have hit1 : It W1 w.heap.size s (pos + k) := by rw [← hW1]; exact hit.put _
      have hm1 : Mod Non w W1 := by rw [← hW1]; exact mod_put _ hm (Nat.le_refl _)
      rw [hW1] at hnx
      have HD := Lib.hid hdg
      clear hr hk hW1 hdt hxs hdg hm hit
      by_cases hr5 : r = 65533
      · subst hr5
        have hsl : (pos : Int) ≤ (s.size : Int) := by omega
        have hp0 : (0 : Int) ≤ (pos : Int) := by omega
        have C := Tryz.utf8_DecodeRuneInString (s.extract pos s.size) W1 (hT.non hm1).2
        rw [HD.out, HR.out, HK.out] at C
        have HCC := Lib.hid C
        clear C
        by_cases hk1 : k = 1
        · subst hk1
          go_wp2_with fail
          refine HCC.out.mono ?_
          rintro e w2 ⟨rfl, hb2⟩
          have hm2 : Mod Non W1 w2 := Mod.of_below' hb2
          go_wp2
          go_ret
          refine ⟨⟨pos, rfl, ?_⟩, hm1.trans' hm2⟩
          have h0 : decide ((pos : Int) < 0) = false := by simp
          rw [h0, HQ.out, ← HC.out]
          cases b with
          | zero => omega
          | succ b =>
            rw [hst.out, List.all_cons]
            have : badR (Utf8.decode s pos) = true := by unfold badR; rw [HR.out, HK.out]; rfl
            rw [this]; rfl
        · have hk1' : ((k : Int) == 1) = false := by simp; omega
          go_wp2_with fail
          refine HCC.out.mono ?_
          rintro e w2 ⟨rfl, hb2⟩
          have hm2 : Mod Non W1 w2 := Mod.of_below' hb2
          have hit2 := hit1.non hm2
          have hm12 := hm1.trans' hm2
          clear hm1 hm2 hb2 hit1
          go_wp2
          go_roundw
          case rel =>
            cases b with
            | zero => omega
            | succ b =>
              refine ⟨pos + k, b, hit2, ?_, by omega, hm12⟩
              rw [← HC.out, hst.out, List.all_cons, HK.out]
              have : badR (Utf8.decode s pos) = false := by unfold badR; rw [HR.out, HK.out]; simp [hk1]
              rw [this]; rfl
          case measure => rw [hit2.pos, hpos.out]; omega
      · have e1 : ((r : Int) != 65533) = true := by simp; omega
        go_wp2
        go_roundw
        case rel =>
          cases b with
          | zero => omega
          | succ b =>
            refine ⟨pos + k, b, hit1, ?_, by omega, hm1⟩
            rw [← HC.out, hst.out, List.all_cons, HK.out]
            have : badR (Utf8.decode s pos) = false := by unfold badR; rw [HR.out]; simp [hr5]
            rw [this]; rfl
        case measure => rw [hit1.pos, hpos.out]; omega
    · have hnx := fun ty => hit.stop (P := Tryz.prog) ty hp
      go_wp2
      go_ret
      refine ⟨⟨-1, rfl, ?_⟩, hm⟩
      rw [HQ.out, ← HC.out, rlFrom_end s b pos hp]; rfl

theorem runes_Whole (s : ByteArray) (w : World) (hT : T8 w) :
    Calls Tryz.prog 133 #[.string s] w fun e w' => e = .returned (.bool (wholeB s)) ∧ Mod Non w w' := by
  go_enter Tryz.func133, Tryz.ntmps133
  go_wp2_with fail
  refine (runes_Bad s w hT).mono ?_
  rintro e w1 ⟨⟨k, rfl, hk⟩, hm⟩
  have HK := Lib.hid hk
  clear hk
  go_wp2
  go_ret
  exact ⟨by rw [← HK.out]; rfl, hm⟩

theorem runes_Key (s : ByteArray) (w : World) (hT : T8 w) :
    Calls Tryz.prog 108 #[.string s] w fun e w' => e = .returned (.bool (keyB s)) ∧ Mod Non w w' := by
  by_cases h0 : s.size = 0
  · have hne : s.toList.isEmpty = true := by
      rw [Lib.toList_data]
      have : s.data.toList = [] := List.eq_nil_of_length_eq_zero (by simpa using h0)
      rw [this]; rfl
    have HF : Hid (keyB s = false) := by show _ = _; unfold keyB; simp [h0]
    have hne2 : s.toList = [] := by simpa using hne
    clear h0
    go_enter Tryz.func108, Tryz.ntmps108
    go_wp2
    go_ret
    exact ⟨by rw [HF.out]; rfl, Mod.refl _ _⟩
  · have hne : s.toList.isEmpty = false := by
      rw [Lib.toList_data]
      cases hl : s.data.toList with
      | nil => exfalso; apply h0; have := congrArg List.length hl; simpa using this
      | cons a r => rfl
    have hne2 : ¬ s.toList = [] := by intro h; rw [h] at hne; cases hne
    by_cases h24 : s.size ≤ 24
    · have h24' : (s.size : Int) ≤ 24 := by omega
      obtain ⟨x, hx⟩ : ∃ x, wholeB s = x := ⟨_, rfl⟩
      have h1 : 1 ≤ s.size := by omega
      have HF : Hid (keyB s = (x && (rl s).all fun y => plainR y.1)) := by
        show _ = _
        unfold keyB
        rw [hx, decide_eq_true h1, decide_eq_true h24]; rfl
      have HX := Lib.hid hx
      clear h0 hx
      cases x
      · go_enter Tryz.func108, Tryz.ntmps108
        go_wp2_with fail
        refine (runes_Whole s w hT).mono ?_
        rintro e w1 ⟨rfl, hm1⟩
        rw [HX.out]
        go_wp2
        go_ret
        exact ⟨by rw [HF.out]; rfl, hm1⟩
      · obtain ⟨y, hy⟩ : ∃ y, ((rl s).all fun y => plainR y.1) = y := ⟨_, rfl⟩
        have HY := Lib.hid hy
        clear hy
        go_enter Tryz.func108, Tryz.ntmps108
        go_wp2_with fail
        refine (runes_Whole s w hT).mono ?_
        rintro e w1 ⟨rfl, hm1⟩
        rw [HX.out]
        go_wp2_with fail
        refine (runes_all_plain s w1).mono ?_
        rintro e w2 ⟨rfl, hm2⟩
        rw [HY.out]
        go_wp2
        go_ret
        exact ⟨by rw [HF.out, HY.out]; rfl, hm1.trans' hm2⟩
    · have h24' : ¬ (s.size : Int) ≤ 24 := by omega
      have HF : Hid (keyB s = false) := by show _ = _; unfold keyB; simp [h24]
      clear h0 h24
      go_enter Tryz.func108, Tryz.ntmps108
      go_wp2
      go_ret
      exact ⟨by rw [HF.out]; rfl, Mod.refl _ _⟩

theorem runes_Val (s : ByteArray) (w : World) (hT : T8 w) :
    Calls Tryz.prog 109 #[.string s] w fun e w' => e = .returned (.bool (valB s)) ∧ Mod Non w w' := by
  by_cases h24 : s.size ≤ 48
  · have h24' : (s.size : Int) ≤ 48 := by omega
    obtain ⟨x, hx⟩ : ∃ x, wholeB s = x := ⟨_, rfl⟩
    have HF : Hid (valB s = (x && (rl s).all fun y => valR y.1)) := by show _ = _; unfold valB; rw [hx]; simp [h24]
    have HX := Lib.hid hx
    clear hx h24
    cases x
    · go_enter Tryz.func109, Tryz.ntmps109
      go_wp2_with fail
      refine (runes_Whole s w hT).mono ?_
      rintro e w1 ⟨rfl, hm1⟩
      rw [HX.out]
      go_wp2
      go_ret
      exact ⟨by rw [HF.out]; rfl, hm1⟩
    · obtain ⟨y, hy⟩ : ∃ y, ((rl s).all fun y => valR y.1) = y := ⟨_, rfl⟩
      have HY := Lib.hid hy
      clear hy
      go_enter Tryz.func109, Tryz.ntmps109
      go_wp2_with fail
      refine (runes_Whole s w hT).mono ?_
      rintro e w1 ⟨rfl, hm1⟩
      rw [HX.out]
      go_wp2_with fail
      refine (runes_all_val s w1).mono ?_
      rintro e w2 ⟨rfl, hm2⟩
      rw [HY.out]
      go_wp2
      go_ret
      exact ⟨by rw [HF.out, HY.out]; rfl, hm1.trans' hm2⟩
  · have h24' : ¬ (s.size : Int) ≤ 48 := by omega
    have HF : Hid (valB s = false) := by show _ = _; unfold valB; simp [h24]
    clear h24
    go_enter Tryz.func109, Tryz.ntmps109
    go_wp2
    go_ret
    exact ⟨by rw [HF.out]; rfl, Mod.refl _ _⟩
end Go.Proofs.YtdclfdinhdaadaaGreatDoor

/- Package answer: the contract of Check where all is well. -/
namespace Go.Proofs.YtdclfdinhdaadaaGreatDoor
open Go.RowKit

/-- an answer that may be -/
def An.May (a : An) : Prop := a.Ok ∧ valB a.val = true

theorem answer_within (n lo hi : Int) (w : World) (h1 : lo ≤ n) (h2 : n ≤ hi) :
    Calls Tryz.prog 132 #[.int .i64 n, .int .i64 lo, .int .i64 hi] w fun e w' => e = .returned (.bool true) ∧ w = w' := by
  go_enter Tryz.func132, Tryz.ntmps132
  go_wp2
  go_ret
  exact ⟨ret_bool (by simp), rfl⟩

set_option maxHeartbeats 1000000 in
theorem answer_Check (a : An) (w : World) (ha : a.May) (hT : T8 w) :
    Calls Tryz.prog 106 #[a.v] w fun e w' => e = .returned (.int .i64 0) ∧ Mod Non w w' := by
  obtain ⟨⟨h1, h2, h3, h4, h5⟩, h6⟩ := ha
  obtain ⟨cl, sq, er, fd, vl, rv⟩ := a
  simp only at h1 h2 h3 h4 h5 h6
  have hT1 : T8 (w.alloc (.cells #[.int .i64 cl, .int .i64 sq, .int .i64 er, .bool fd, .string vl, .int .i64 rv] 57)) := hT.non ((Mod.refl _ _).alloc _)
  have g1 := Lib.hid h1
  have g2 := Lib.hid h2
  have g3 := Lib.hid h3
  have g5 := Lib.hid h5
  clear h1 h2 h3 h4 h5
  go_enter Tryz.func106, Tryz.ntmps106
  go_wp2_with fail
  refine (answer_within cl 1 8 _ g1.out.1 g1.out.2).mono ?_
  rintro e w1 ⟨rfl, rfl⟩
  go_wp2_with fail
  refine (answer_within sq 1 4294967296 _ g2.out.1 g2.out.2).mono ?_
  rintro e w1 ⟨rfl, rfl⟩
  go_wp2_with fail
  refine (answer_within er 0 17 _ g3.out.1 g3.out.2).mono ?_
  rintro e w1 ⟨rfl, rfl⟩
  go_wp2_with fail
  refine (answer_within rv 0 4294967296 _ g5.out.1 g5.out.2).mono ?_
  rintro e w1 ⟨rfl, rfl⟩
  go_wp2_with fail
  refine (runes_Val vl _ hT1).mono ?_
  rintro e w1 ⟨rfl, hm1⟩
  rw [h6]
  go_wp2
  go_ret
  exact ⟨rfl, ((Mod.refl _ _).alloc _).trans' hm1⟩
end Go.Proofs.YtdclfdinhdaadaaGreatDoor
