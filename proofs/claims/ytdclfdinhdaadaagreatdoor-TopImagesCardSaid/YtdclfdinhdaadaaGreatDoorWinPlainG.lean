/- What a command makes of an image, in plain Lean: members with a change, confs, the image; what may be stays so. No program in sight. -/
import Derived.Test.YtdclfdinhdaadaaGreatDoorMgE
import Derived.Test.YtdclfdinhdaadaaGreatDoorMgW
namespace Go.Proofs.YtdclfdinhdaadaaGreatDoor
open Go.RowKit

/-- how many are less -/
def below (l : List Int) (y : Int) : Nat := l.countP (· < y)
theorem below_split (l : List Int) (y : Int) (h : l.Pairwise fun a b => a < b) : (∀ a ∈ l.take (below l y), a < y) ∧ (∀ a ∈ l.drop (below l y), y ≤ a) := by
  induction l with
  | nil => simp [below]
  | cons a l ih =>
    rw [List.pairwise_cons] at h
    obtain ⟨i1, i2⟩ := ih h.2
    unfold below at i1 i2 ⊢
    by_cases ha : a < y
    · rw [List.countP_cons_of_pos (by simpa using ha)]
      refine ⟨fun b hb => ?_, fun b hb => i2 b hb⟩
      rw [List.take_succ_cons] at hb
      rcases List.mem_cons.1 hb with rfl | hb
      · exact ha
      · exact i1 b hb
    · have h0 : l.countP (· < y) = 0 := List.countP_eq_zero.2 fun b hb => by have := h.1 b hb; simp; omega
      rw [List.countP_cons_of_neg (by simpa using ha), h0]
      refine ⟨fun b hb => by simp at hb, fun b hb => ?_⟩
      rcases List.mem_cons.1 hb with rfl | hb
      · omega
      · have := h.1 b hb; omega
theorem below_le (l : List Int) (y : Int) : below l y ≤ l.length := List.countP_le_length
theorem below_lt {l : List Int} {y : Int} (h : l.Pairwise fun a b => a < b) (hy : y ∈ l) : below l y < l.length := by
  rcases Nat.lt_or_ge (below l y) l.length with h1 | h1
  · exact h1
  · have := (below_split l y h).1 y (by rw [List.take_of_length_le h1]; exact hy)
    omega
/-- members with one more -/
def madd (l : List Int) (y : Int) : List Int := l.take (below l y) ++ y :: l.drop (below l y)
/-- members with one less -/
def mdrop (l : List Int) (y : Int) : List Int := l.take (below l y) ++ l.drop (below l y + 1)
theorem madd_ok {l : List Int} {y : Int} (h : MemOk l) (hy : ¬ y ∈ l) (h1 : 1 ≤ y ∧ y ≤ 9) : MemOk (madd l y) := by
  obtain ⟨s1, s2⟩ := below_split l y h.rise
  have s3 : ∀ a ∈ l.drop (below l y), y < a := fun a ha => by
    have := s2 a ha
    have h2 : a ≠ y := fun e => hy (e ▸ List.mem_of_mem_drop ha)
    omega
  refine ⟨by simp [madd]; omega, fun x hx => ?_, ?_⟩
  · unfold madd at hx
    rcases List.mem_append.1 hx with hx | hx
    · exact h.each x (List.mem_of_mem_take hx)
    · rcases List.mem_cons.1 hx with rfl | hx
      · exact h1
      · exact h.each x (List.mem_of_mem_drop hx)
  · unfold madd
    rw [List.pairwise_append, List.pairwise_cons]
    refine ⟨h.rise.sublist (List.take_sublist _ _), ⟨s3, h.rise.sublist (List.drop_sublist _ _)⟩, fun a ha b hb => ?_⟩
    rcases List.mem_cons.1 hb with rfl | hb
    · exact s1 a ha
    · have := s1 a ha; have := s3 b hb; omega
theorem mdrop_ok {l : List Int} {y : Int} (h : MemOk l) (hl : 1 < l.length) : MemOk (mdrop l y) := by
  have hle := below_le l y
  have hsub : (mdrop l y).Sublist l := by
    have h1 : (l.drop (below l y + 1)).Sublist (l.drop (below l y)) := by
      rw [← List.drop_drop]; exact List.drop_sublist _ _
    have h2 := List.Sublist.append (List.Sublist.refl (l.take (below l y))) h1
    rw [List.take_append_drop] at h2
    exact h2
  refine ⟨by simp [mdrop]; omega, fun x hx => h.each x (hsub.subset hx), h.rise.sublist hsub⟩

/-- members with a change; none: it may not be -/
def chg (l : List Int) (kind y : Int) : Option (List Int) :=
  if kind = 7 then (if y ∈ l ∨ y < 1 ∨ 9 < y then none else some (madd l y))
  else (if y ∈ l ∧ 1 < l.length then some (mdrop l y) else none)
theorem chg_ok {l l' : List Int} {kind y : Int} (h : MemOk l) (hc : chg l kind y = some l') : MemOk l' := by
  unfold chg at hc
  split at hc
  · split at hc
    · cases hc
    · next hn => injection hc with hc; subst hc; exact madd_ok h (fun hy => hn (.inl hy)) (by omega)
  · split at hc
    · next hy => injection hc with hc; subst hc; exact mdrop_ok h hy.2
    · cases hc

def lastMem (cs : List Cf) : List Int := match cs.getLast? with | some c => c.mem | none => []
/-- confs behind a command at an index -/
def cchg (cs : List Cf) (ix : Int) (c : Cm) : List Cf :=
  if c.kind = 7 ∨ c.kind = 8 then (match chg (lastMem cs) c.kind c.node with | some l => cs ++ [⟨ix + 4, l⟩] | none => cs) else cs
/-- an image behind a command, and the answer -/
def wapply (m : Im) (c : Cm) : Im × An :=
  (⟨m.index + 1, if c.kind = 6 ∧ m.active = 0 then m.index + 1 else m.active, trim (cchg m.confs (m.index + 1) c) (m.index + 2), (applyP m.st c).1⟩, (applyP m.st c).2)

/-- an image that comes of commands -/
structure Im.Run (m : Im) : Prop where
  ok : m.Ok
  tail : ∀ c ∈ m.confs.tail, m.index + 1 < c.from_ ∧ c.from_ ≤ m.index + 4

theorem rise_few : ∀ (l : List Cf) (a b : Int), (∀ c ∈ l, a < c.from_ ∧ c.from_ ≤ b) → l.Pairwise (fun x y => x.from_ < y.from_) → a ≤ b → (l.length : Int) ≤ b - a := by
  intro l
  induction l with
  | nil => intro a b _ _ h; simp; omega
  | cons c l ih =>
    intro a b h1 h2 h3
    rw [List.pairwise_cons] at h2
    have hc := h1 c (by simp)
    have := ih c.from_ b (fun d hd => ⟨h2.1 d hd, (h1 d (by simp [hd])).2⟩) h2.2 hc.2
    rw [List.length_cons]
    omega
theorem tail_rise {cs : List Cf} (h : cs.Pairwise fun a b => a.from_ < b.from_) : cs.tail.Pairwise fun a b => a.from_ < b.from_ := h.sublist (List.tail_sublist _)
theorem cs_few {cs : List Cf} {a : Int} (h : cs.Pairwise fun a b => a.from_ < b.from_) (ht : ∀ c ∈ cs.tail, a + 1 < c.from_ ∧ c.from_ ≤ a + 4) : cs.length ≤ 4 := by
  have h1 := rise_few cs.tail (a + 1) (a + 4) ht (tail_rise h) (by omega)
  have h2 : cs.length ≤ cs.tail.length + 1 := by cases cs <;> simp
  omega
theorem Im.Run.few {m : Im} (h : m.Run) : m.confs.length ≤ 4 := cs_few h.ok.confs.rise h.tail

theorem cs_late {cs : List Cf} (h : CfsOk cs) {a : Int} (ha : 0 ≤ a) (ht : ∀ c ∈ cs.tail, c.from_ ≤ a + 4) : ∀ c ∈ cs, c.from_ ≤ a + 4 := by
  intro c hc
  obtain ⟨c0, h0, h1⟩ := h.first
  cases cs with
  | nil => simp at hc
  | cons d cs =>
    simp at h0
    subst h0
    rcases List.mem_cons.1 hc with rfl | hc
    · omega
    · exact ht c hc
theorem lastMem_ok {cs : List Cf} (h : CfsOk cs) : MemOk (lastMem cs) := by
  obtain ⟨c0, h0, _⟩ := h.first
  unfold lastMem
  cases hl : cs.getLast? with
  | none =>
    rw [List.getLast?_eq_none_iff] at hl
    subst hl
    simp at h0
  | some c => exact (h.each c (List.mem_of_getLast? hl)).1
theorem cchg_ok {cs : List Cf} {a : Int} {c : Cm} (h : CfsOk cs) (ha : 0 ≤ a ∧ a ≤ 1000000) (ht : ∀ x ∈ cs, x.from_ ≤ a + 4) : CfsOk (cchg cs (a + 1) c) ∧ (cchg cs (a + 1) c).length ≤ cs.length + 1 ∧ ∀ x ∈ cchg cs (a + 1) c, x.from_ ≤ a + 5 := by
  have hno : CfsOk cs ∧ cs.length ≤ cs.length + 1 ∧ ∀ x ∈ cs, x.from_ ≤ a + 5 := ⟨h, by omega, fun x hx => by have := ht x hx; omega⟩
  unfold cchg
  split
  · cases hc : chg (lastMem cs) c.kind c.node with
    | none => exact hno
    | some l =>
      have hl := chg_ok (lastMem_ok h) hc
      obtain ⟨c0, h0, h1⟩ := h.first
      refine ⟨⟨⟨c0, ?_, h1⟩, ?_, ?_⟩, by simp, ?_⟩
      · have := (List.getElem?_eq_some_iff.1 h0).1
        simp only []
        rw [List.getElem?_append_left this]
        exact h0
      · intro x hx
        rcases List.mem_append.1 hx with hx | hx
        · exact h.each x hx
        · simp at hx
          subst hx
          exact ⟨hl, by show a + 1 + 4 ≤ _; omega⟩
      · simp only []
        rw [List.pairwise_append]
        refine ⟨h.rise, by simp, fun x hx y hy => ?_⟩
        simp at hy
        subst hy
        have := ht x hx
        show x.from_ < a + 1 + 4
        omega
      · intro x hx
        rcases List.mem_append.1 hx with hx | hx
        · have := ht x hx; omega
        · simp at hx
          subst hx
          show a + 1 + 4 ≤ _
          omega
  · exact hno

theorem lastLe_max (cs : List Cf) (ix : Int) : ∀ (k i : Nat) (c : Cf), i < k → cs[i]? = some c → c.from_ ≤ ix → (i : Int) ≤ lastLe cs ix k := by
  intro k
  induction k with
  | zero => intro i c h; omega
  | succ k ih =>
    intro i c hi hc hle
    by_cases hk : i = k
    · subst hk
      rw [lastLe_step ix hc, if_pos hle]
      omega
    · have h1 := ih i c (by omega) hc hle
      rw [lastLe]
      revert h1
      generalize lastLe cs ix k = q
      intro h1
      split <;> omega
theorem trim_tail {cs : List Cf} (h : CfsOk cs) (ix : Int) : ∀ c ∈ (trim cs ix).tail, ix < c.from_ ∧ c ∈ cs := by
  have hlt := lastLe_lt cs ix cs.length
  obtain ⟨p, hp⟩ : ∃ p, p = (lastLe cs ix cs.length).toNat := ⟨_, rfl⟩
  obtain ⟨c0, h0, _⟩ := h.first
  have hl := (List.getElem?_eq_some_iff.1 h0).1
  have hpl : p < cs.length := by omega
  unfold trim
  rw [← hp, List.drop_eq_getElem_cons hpl]
  intro c hc
  simp only [List.tail_cons] at hc
  refine ⟨?_, List.mem_of_mem_drop hc⟩
  obtain ⟨i, hi⟩ := List.getElem?_of_mem hc
  rw [List.getElem?_drop] at hi
  rcases Int.lt_or_le ix c.from_ with h1 | h1
  · exact h1
  · have h2 := lastLe_max cs ix cs.length (p + 1 + i) c (List.getElem?_eq_some_iff.1 hi).1 hi h1
    omega
theorem trim_length (cs : List Cf) (ix : Int) : (trim cs ix).length ≤ cs.length := by
  unfold trim
  split
  · next c r hd =>
    have := congrArg List.length hd
    rw [List.length_drop] at this
    simp at this ⊢
    omega
  · simp

theorem clientP_schema (s : St) (c : Cm) : (clientP s c).1.schema = s.schema := by
  unfold clientP
  split
  · rfl
  · split
    · rfl
    · split <;> rfl
theorem applyP_schema (s : St) (c : Cm) : (applyP s c).1.schema = if c.kind = 6 ∧ s.schema = 1 then 2 else s.schema := by
  unfold applyP
  split
  · next ho =>
    rw [clientP_schema, if_neg]
    intro h6
    rw [h6.1] at ho
    cases ho
  · split <;> rfl

theorem wapply_run {m : Im} {c : Cm} (h : m.Run) (hc : c.Ok) (hix : m.index ≤ 1000000) : (wapply m c).1.Run := by
  obtain ⟨⟨⟨i1, i2⟩, ⟨a1, a2⟩, kcs, _, kst, ksch⟩, ht⟩ := h
  have hlate := cs_late kcs i1 fun c hc => (ht c hc).2
  obtain ⟨k1, k2, k3⟩ := cchg_ok (c := c) kcs ⟨i1, hix⟩ hlate
  have htr := trim_ok k1 (m.index + 2)
  have htt := trim_tail k1 (m.index + 2)
  have htail : ∀ x ∈ (wapply m c).1.confs.tail, (wapply m c).1.index + 1 < x.from_ ∧ x.from_ ≤ (wapply m c).1.index + 4 := by
    intro x hx
    obtain ⟨t1, t2⟩ := htt x hx
    have := k3 x t2
    show m.index + 1 + 1 < x.from_ ∧ x.from_ ≤ m.index + 1 + 4
    omega
  refine ⟨⟨?_, ?_, htr, ?_, applyP_ok kst hc, ?_⟩, htail⟩
  · show 0 ≤ m.index + 1 ∧ m.index + 1 ≤ 4294967296
    omega
  · show 0 ≤ (if c.kind = 6 ∧ m.active = 0 then m.index + 1 else m.active) ∧ (if c.kind = 6 ∧ m.active = 0 then m.index + 1 else m.active) ≤ m.index + 1
    split <;> omega
  · have := cs_few htr.rise htail
    show (trim (cchg m.confs (m.index + 1) c) (m.index + 2)).length ≤ 64
    have h2 : (wapply m c).1.confs = trim (cchg m.confs (m.index + 1) c) (m.index + 2) := rfl
    omega
  · show (applyP m.st c).1.schema = if 0 < (if c.kind = 6 ∧ m.active = 0 then m.index + 1 else m.active) then 2 else 1
    rw [applyP_schema, ksch]
    by_cases h6 : c.kind = 6 <;> by_cases h0 : m.active = 0
    · simp [h6, h0]; omega
    · have : 0 < m.active := by omega
      simp [h0, this]
    · simp [h6, h0]
    · have : 0 < m.active := by omega
      simp [h0, this]
theorem im0_run {l : List Int} (h : MemOk l) : (im0 l).Run := ⟨im0_ok h, fun c hc => by simp [im0] at hc⟩
end Go.Proofs.YtdclfdinhdaadaaGreatDoor
