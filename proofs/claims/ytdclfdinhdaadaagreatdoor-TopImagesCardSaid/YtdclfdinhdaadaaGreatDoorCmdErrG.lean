/- Package cmd: the contract of Check at whatever command. -/
import Derived.Test.YtdclfdinhdaadaaGreatDoorCmdCheckG
import Derived.Test.YtdclfdinhdaadaaGreatDoorMgR
namespace Go.Proofs.YtdclfdinhdaadaaGreatDoor
open Go.RowKit

/-- a field is right -/
def PtOk (c : Cm) : Nat → Prop
  | 0 => if ownB c.kind = true then 1 ≤ c.client ∧ c.client ≤ 8 else c.client = 0
  | 1 => if ownB c.kind = true then 1 ≤ c.seq ∧ c.seq ≤ 4294967296 else c.seq = 0
  | 2 => if ownB c.kind = true then keyB c.key = true else c.key.toList = []
  | 3 => if c.kind = 5 then valB c.old = true else c.old.toList = []
  | 4 => if c.kind = 2 ∨ c.kind = 5 then valB c.val = true else c.val.toList = []
  | _ => if c.kind = 7 ∨ c.kind = 8 then 1 ≤ c.node ∧ c.node ≤ 9 else c.node = 0
theorem pt_ok {c : Cm} (hk : 1 ≤ c.kind ∧ c.kind ≤ 8) (h : ∀ j, j < 6 → PtOk c j) : c.Ok := by
  have h0 : (if ownB c.kind = true then 1 ≤ c.client ∧ c.client ≤ 8 else c.client = 0) := h 0 (by omega)
  have h1 : (if ownB c.kind = true then 1 ≤ c.seq ∧ c.seq ≤ 4294967296 else c.seq = 0) := h 1 (by omega)
  have h2 : (if ownB c.kind = true then keyB c.key = true else c.key.toList = []) := h 2 (by omega)
  refine ⟨hk, fun ho => ?_, fun ho => ?_, h 4 (by omega), h 3 (by omega), h 5 (by omega)⟩
  · rw [if_pos ho] at h0 h1 h2
    exact ⟨h0, h1, h2⟩
  · rw [if_neg (by rw [ho]; decide)] at h0 h1 h2
    exact ⟨h0, h1, h2⟩
/-- what number or text answers of a field -/
def pa (c : Cm) : Nat → Bool
  | 0 => if ownB c.kind = true then decide (1 ≤ c.client) && decide (c.client ≤ 8) else true
  | 1 => if ownB c.kind = true then decide (1 ≤ c.seq) && decide (c.seq ≤ 4294967296) else true
  | 2 => if ownB c.kind = true then keyB c.key else true
  | 3 => if c.kind = 5 then valB c.old else true
  | 4 => if c.kind = 2 ∨ c.kind = 5 then valB c.val else true
  | _ => if c.kind = 7 ∨ c.kind = 8 then decide (1 ≤ c.node) && decide (c.node ≤ 9) else true
def pb (c : Cm) : Nat → Bool
  | 0 => if ownB c.kind = true then true else c.client == 0
  | 1 => if ownB c.kind = true then true else c.seq == 0
  | 2 => if ownB c.kind = true then true else c.key.toList.isEmpty
  | 3 => if c.kind = 5 then true else c.old.toList.isEmpty
  | 4 => if c.kind = 2 ∨ c.kind = 5 then true else c.val.toList.isEmpty
  | _ => if c.kind = 7 ∨ c.kind = 8 then true else c.node == 0
def rflag (A : Nat → Bool) : Nat → Bool
  | 0 => true
  | k + 1 => rflag A k && (if k < 2 ∨ k = 5 then A k else true)
def tflag (A : Nat → Bool) : Nat → Bool
  | 0 => true
  | k + 1 => tflag A k && (if k < 2 ∨ k = 5 then true else A k)
def fflag (B : Nat → Bool) : Nat → Bool
  | 0 => true
  | k + 1 => fflag B k && B k
def ckOf (r t f : Bool) : Int := if r = false then 6 else if t = false then 7 else if f = false then 3 else 0
/-- what Check answers -/
def ckErr (c : Cm) : Int := if fknown c.kind = true then ckOf (rflag (pa c) 6) (tflag (pa c) 6) (fflag (pb c) 6) else 5
theorem pt_of {c : Cm} (j : Nat) (hj : j < 6) : (pa c j = true ∧ pb c j = true) ↔ PtOk c j := by
  have : j = 0 ∨ j = 1 ∨ j = 2 ∨ j = 3 ∨ j = 4 ∨ j = 5 := by omega
  rcases this with rfl | rfl | rfl | rfl | rfl | rfl <;> (simp only [pa, pb, PtOk]; split <;> simp)
theorem pt_of_ok {c : Cm} (h : c.Ok) (j : Nat) (hj : j < 6) : PtOk c j := by
  have : j = 0 ∨ j = 1 ∨ j = 2 ∨ j = 3 ∨ j = 4 ∨ j = 5 := by omega
  rcases this with rfl | rfl | rfl | rfl | rfl | rfl
  · simp only [PtOk]; split
    · next ho => exact (h.own ho).1
    · next ho => exact (h.non (by simpa using ho)).1
  · simp only [PtOk]; split
    · next ho => exact (h.own ho).2.1
    · next ho => exact (h.non (by simpa using ho)).2.1
  · simp only [PtOk]; split
    · next ho => exact (h.own ho).2.2
    · next ho => exact (h.non (by simpa using ho)).2.2
  · exact h.old
  · exact h.val
  · exact h.node
theorem ck_flags {A B : Nat → Bool} : ckOf (rflag A 6) (tflag A 6) (fflag B 6) = 0 ↔ ∀ j, j < 6 → A j = true ∧ B j = true := by
  have hA : (rflag A 6 = true ∧ tflag A 6 = true) ↔ ∀ j, j < 6 → A j = true := by
    simp [rflag, tflag]
    constructor
    · rintro ⟨⟨⟨h0, h1⟩, h5⟩, ⟨h2, h3⟩, h4⟩ j hj
      have : j = 0 ∨ j = 1 ∨ j = 2 ∨ j = 3 ∨ j = 4 ∨ j = 5 := by omega
      rcases this with rfl | rfl | rfl | rfl | rfl | rfl <;> assumption
    · intro h
      simp [h]
  have hB : fflag B 6 = true ↔ ∀ j, j < 6 → B j = true := by
    simp [fflag]
    constructor
    · rintro ⟨⟨⟨⟨⟨h0, h1⟩, h2⟩, h3⟩, h4⟩, h5⟩ j hj
      have : j = 0 ∨ j = 1 ∨ j = 2 ∨ j = 3 ∨ j = 4 ∨ j = 5 := by omega
      rcases this with rfl | rfl | rfl | rfl | rfl | rfl <;> assumption
    · intro h
      simp [h]
  constructor
  · intro h
    unfold ckOf at h
    split at h
    · cases h
    · split at h
      · cases h
      · split at h
        · cases h
        · next h1 h2 h3 =>
          have h1' := hA.1 ⟨by simpa using h1, by simpa using h2⟩
          have h3' := hB.1 (by simpa using h3)
          exact fun j hj => ⟨h1' j hj, h3' j hj⟩
  · intro h
    have h1 := hA.2 fun j hj => (h j hj).1
    have h2 := hB.2 fun j hj => (h j hj).2
    rw [h1.1, h1.2, h2]
    rfl
theorem fknown_iff {k : Int} : fknown k = true ↔ 1 ≤ k ∧ k ≤ 8 := by unfold fknown; simp; omega
theorem ckErr_zero {c : Cm} : ckErr c = 0 ↔ c.Ok := by
  unfold ckErr
  constructor
  · intro h
    split at h
    · next hk => exact pt_ok (fknown_iff.1 hk) fun j hj => (pt_of j hj).1 (ck_flags.1 h j hj)
    · cases h
  · intro h
    rw [if_pos (fknown_iff.2 h.kind)]
    exact ck_flags.2 fun j hj => (pt_of j hj).2 (pt_of_ok h j hj)

theorem pt_1 (c : Cm) (hk : 1 ≤ c.kind ∧ c.kind ≤ 8) (g : Nat) (w : World) (hb : Blk w g 33 c.cells.toArray) : Calls Tryz.prog 93 #[part1, .pointer (some ⟨g, 0, none⟩), .int .i64 (fbits c.kind)] w fun e w' => e = .returned (.tuple #[.bool (pa c 0), .bool (pb c 0)]) ∧ Mod Non w w' := by
  have hc := hb.cell 1
  have hg := hb.lt
  have hk8 : c.kind = 1 ∨ c.kind = 2 ∨ c.kind = 3 ∨ c.kind = 4 ∨ c.kind = 5 ∨ c.kind = 6 ∨ c.kind = 7 ∨ c.kind = 8 := by omega
  obtain ⟨kind, client, seq, key, val, old, node⟩ := c
  simp only at hk8
  have hc' : w.cell? ⟨g, 1, none⟩ = some (.int .i64 client) := by rw [hc]; rfl
  rcases hk8 with rfl | rfl | rfl | rfl | rfl | rfl | rfl | rfl
  · refine (number1_off 0 client g w (by decide) hc' hg).mono ?_
    rintro e w' ⟨rfl, hm⟩
    exact ⟨rfl, hm⟩
  · refine (number1_on 11 client g w (by decide) hc' hg).mono ?_
    rintro e w' ⟨rfl, hm⟩
    exact ⟨rfl, hm⟩
  · refine (number1_on 3 client g w (by decide) hc' hg).mono ?_
    rintro e w' ⟨rfl, hm⟩
    exact ⟨rfl, hm⟩
  · refine (number1_on 3 client g w (by decide) hc' hg).mono ?_
    rintro e w' ⟨rfl, hm⟩
    exact ⟨rfl, hm⟩
  · refine (number1_on 15 client g w (by decide) hc' hg).mono ?_
    rintro e w' ⟨rfl, hm⟩
    exact ⟨rfl, hm⟩
  · refine (number1_off 0 client g w (by decide) hc' hg).mono ?_
    rintro e w' ⟨rfl, hm⟩
    exact ⟨rfl, hm⟩
  · refine (number1_off 16 client g w (by decide) hc' hg).mono ?_
    rintro e w' ⟨rfl, hm⟩
    exact ⟨rfl, hm⟩
  · refine (number1_off 16 client g w (by decide) hc' hg).mono ?_
    rintro e w' ⟨rfl, hm⟩
    exact ⟨rfl, hm⟩

theorem pt_2 (c : Cm) (hk : 1 ≤ c.kind ∧ c.kind ≤ 8) (g : Nat) (w : World) (hb : Blk w g 33 c.cells.toArray) : Calls Tryz.prog 93 #[part2, .pointer (some ⟨g, 0, none⟩), .int .i64 (fbits c.kind)] w fun e w' => e = .returned (.tuple #[.bool (pa c 1), .bool (pb c 1)]) ∧ Mod Non w w' := by
  have hc := hb.cell 2
  have hg := hb.lt
  have hk8 : c.kind = 1 ∨ c.kind = 2 ∨ c.kind = 3 ∨ c.kind = 4 ∨ c.kind = 5 ∨ c.kind = 6 ∨ c.kind = 7 ∨ c.kind = 8 := by omega
  obtain ⟨kind, client, seq, key, val, old, node⟩ := c
  simp only at hk8
  have hc' : w.cell? ⟨g, 2, none⟩ = some (.int .i64 seq) := by rw [hc]; rfl
  rcases hk8 with rfl | rfl | rfl | rfl | rfl | rfl | rfl | rfl
  · refine (number2_off 0 seq g w (by decide) hc' hg).mono ?_
    rintro e w' ⟨rfl, hm⟩
    exact ⟨rfl, hm⟩
  · refine (number2_on 11 seq g w (by decide) hc' hg).mono ?_
    rintro e w' ⟨rfl, hm⟩
    exact ⟨rfl, hm⟩
  · refine (number2_on 3 seq g w (by decide) hc' hg).mono ?_
    rintro e w' ⟨rfl, hm⟩
    exact ⟨rfl, hm⟩
  · refine (number2_on 3 seq g w (by decide) hc' hg).mono ?_
    rintro e w' ⟨rfl, hm⟩
    exact ⟨rfl, hm⟩
  · refine (number2_on 15 seq g w (by decide) hc' hg).mono ?_
    rintro e w' ⟨rfl, hm⟩
    exact ⟨rfl, hm⟩
  · refine (number2_off 0 seq g w (by decide) hc' hg).mono ?_
    rintro e w' ⟨rfl, hm⟩
    exact ⟨rfl, hm⟩
  · refine (number2_off 16 seq g w (by decide) hc' hg).mono ?_
    rintro e w' ⟨rfl, hm⟩
    exact ⟨rfl, hm⟩
  · refine (number2_off 16 seq g w (by decide) hc' hg).mono ?_
    rintro e w' ⟨rfl, hm⟩
    exact ⟨rfl, hm⟩

theorem pt_3 (c : Cm) (hk : 1 ≤ c.kind ∧ c.kind ≤ 8) (g : Nat) (w : World) (hb : Blk w g 33 c.cells.toArray) (hT : T8 w) : Calls Tryz.prog 94 #[part3, .pointer (some ⟨g, 0, none⟩), .int .i64 (fbits c.kind)] w fun e w' => e = .returned (.tuple #[.bool (pa c 2), .bool (pb c 2)]) ∧ Mod Non w w' := by
  have hc := hb.cell 3
  have hg := hb.lt
  have hk8 : c.kind = 1 ∨ c.kind = 2 ∨ c.kind = 3 ∨ c.kind = 4 ∨ c.kind = 5 ∨ c.kind = 6 ∨ c.kind = 7 ∨ c.kind = 8 := by omega
  obtain ⟨kind, client, seq, key, val, old, node⟩ := c
  simp only at hk8
  have hc' : w.cell? ⟨g, 3, none⟩ = some (.string key) := by rw [hc]; rfl
  rcases hk8 with rfl | rfl | rfl | rfl | rfl | rfl | rfl | rfl
  · refine (text3_off 0 key g w (by decide) hc' hg).mono ?_
    rintro e w' ⟨rfl, hm⟩
    exact ⟨rfl, hm⟩
  · refine (text3_on 11 key g w (by decide) hc' hg hT).mono ?_
    rintro e w' ⟨rfl, hm⟩
    exact ⟨rfl, hm⟩
  · refine (text3_on 3 key g w (by decide) hc' hg hT).mono ?_
    rintro e w' ⟨rfl, hm⟩
    exact ⟨rfl, hm⟩
  · refine (text3_on 3 key g w (by decide) hc' hg hT).mono ?_
    rintro e w' ⟨rfl, hm⟩
    exact ⟨rfl, hm⟩
  · refine (text3_on 15 key g w (by decide) hc' hg hT).mono ?_
    rintro e w' ⟨rfl, hm⟩
    exact ⟨rfl, hm⟩
  · refine (text3_off 0 key g w (by decide) hc' hg).mono ?_
    rintro e w' ⟨rfl, hm⟩
    exact ⟨rfl, hm⟩
  · refine (text3_off 16 key g w (by decide) hc' hg).mono ?_
    rintro e w' ⟨rfl, hm⟩
    exact ⟨rfl, hm⟩
  · refine (text3_off 16 key g w (by decide) hc' hg).mono ?_
    rintro e w' ⟨rfl, hm⟩
    exact ⟨rfl, hm⟩

theorem pt_4 (c : Cm) (hk : 1 ≤ c.kind ∧ c.kind ≤ 8) (g : Nat) (w : World) (hb : Blk w g 33 c.cells.toArray) (hT : T8 w) : Calls Tryz.prog 94 #[part4, .pointer (some ⟨g, 0, none⟩), .int .i64 (fbits c.kind)] w fun e w' => e = .returned (.tuple #[.bool (pa c 3), .bool (pb c 3)]) ∧ Mod Non w w' := by
  have hc := hb.cell 5
  have hg := hb.lt
  have hk8 : c.kind = 1 ∨ c.kind = 2 ∨ c.kind = 3 ∨ c.kind = 4 ∨ c.kind = 5 ∨ c.kind = 6 ∨ c.kind = 7 ∨ c.kind = 8 := by omega
  obtain ⟨kind, client, seq, key, val, old, node⟩ := c
  simp only at hk8
  have hc' : w.cell? ⟨g, 5, none⟩ = some (.string old) := by rw [hc]; rfl
  rcases hk8 with rfl | rfl | rfl | rfl | rfl | rfl | rfl | rfl
  · refine (text4_off 0 old g w (by decide) hc' hg).mono ?_
    rintro e w' ⟨rfl, hm⟩
    exact ⟨rfl, hm⟩
  · refine (text4_off 11 old g w (by decide) hc' hg).mono ?_
    rintro e w' ⟨rfl, hm⟩
    exact ⟨rfl, hm⟩
  · refine (text4_off 3 old g w (by decide) hc' hg).mono ?_
    rintro e w' ⟨rfl, hm⟩
    exact ⟨rfl, hm⟩
  · refine (text4_off 3 old g w (by decide) hc' hg).mono ?_
    rintro e w' ⟨rfl, hm⟩
    exact ⟨rfl, hm⟩
  · refine (text4_on 15 old g w (by decide) hc' hg hT).mono ?_
    rintro e w' ⟨rfl, hm⟩
    exact ⟨rfl, hm⟩
  · refine (text4_off 0 old g w (by decide) hc' hg).mono ?_
    rintro e w' ⟨rfl, hm⟩
    exact ⟨rfl, hm⟩
  · refine (text4_off 16 old g w (by decide) hc' hg).mono ?_
    rintro e w' ⟨rfl, hm⟩
    exact ⟨rfl, hm⟩
  · refine (text4_off 16 old g w (by decide) hc' hg).mono ?_
    rintro e w' ⟨rfl, hm⟩
    exact ⟨rfl, hm⟩

theorem pt_5 (c : Cm) (hk : 1 ≤ c.kind ∧ c.kind ≤ 8) (g : Nat) (w : World) (hb : Blk w g 33 c.cells.toArray) (hT : T8 w) : Calls Tryz.prog 94 #[part5, .pointer (some ⟨g, 0, none⟩), .int .i64 (fbits c.kind)] w fun e w' => e = .returned (.tuple #[.bool (pa c 4), .bool (pb c 4)]) ∧ Mod Non w w' := by
  have hc := hb.cell 4
  have hg := hb.lt
  have hk8 : c.kind = 1 ∨ c.kind = 2 ∨ c.kind = 3 ∨ c.kind = 4 ∨ c.kind = 5 ∨ c.kind = 6 ∨ c.kind = 7 ∨ c.kind = 8 := by omega
  obtain ⟨kind, client, seq, key, val, old, node⟩ := c
  simp only at hk8
  have hc' : w.cell? ⟨g, 4, none⟩ = some (.string val) := by rw [hc]; rfl
  rcases hk8 with rfl | rfl | rfl | rfl | rfl | rfl | rfl | rfl
  · refine (text5_off 0 val g w (by decide) hc' hg).mono ?_
    rintro e w' ⟨rfl, hm⟩
    exact ⟨rfl, hm⟩
  · refine (text5_on 11 val g w (by decide) hc' hg hT).mono ?_
    rintro e w' ⟨rfl, hm⟩
    exact ⟨rfl, hm⟩
  · refine (text5_off 3 val g w (by decide) hc' hg).mono ?_
    rintro e w' ⟨rfl, hm⟩
    exact ⟨rfl, hm⟩
  · refine (text5_off 3 val g w (by decide) hc' hg).mono ?_
    rintro e w' ⟨rfl, hm⟩
    exact ⟨rfl, hm⟩
  · refine (text5_on 15 val g w (by decide) hc' hg hT).mono ?_
    rintro e w' ⟨rfl, hm⟩
    exact ⟨rfl, hm⟩
  · refine (text5_off 0 val g w (by decide) hc' hg).mono ?_
    rintro e w' ⟨rfl, hm⟩
    exact ⟨rfl, hm⟩
  · refine (text5_off 16 val g w (by decide) hc' hg).mono ?_
    rintro e w' ⟨rfl, hm⟩
    exact ⟨rfl, hm⟩
  · refine (text5_off 16 val g w (by decide) hc' hg).mono ?_
    rintro e w' ⟨rfl, hm⟩
    exact ⟨rfl, hm⟩

theorem pt_6 (c : Cm) (hk : 1 ≤ c.kind ∧ c.kind ≤ 8) (g : Nat) (w : World) (hb : Blk w g 33 c.cells.toArray) : Calls Tryz.prog 93 #[part6, .pointer (some ⟨g, 0, none⟩), .int .i64 (fbits c.kind)] w fun e w' => e = .returned (.tuple #[.bool (pa c 5), .bool (pb c 5)]) ∧ Mod Non w w' := by
  have hc := hb.cell 6
  have hg := hb.lt
  have hk8 : c.kind = 1 ∨ c.kind = 2 ∨ c.kind = 3 ∨ c.kind = 4 ∨ c.kind = 5 ∨ c.kind = 6 ∨ c.kind = 7 ∨ c.kind = 8 := by omega
  obtain ⟨kind, client, seq, key, val, old, node⟩ := c
  simp only at hk8
  have hc' : w.cell? ⟨g, 6, none⟩ = some (.int .i64 node) := by rw [hc]; rfl
  rcases hk8 with rfl | rfl | rfl | rfl | rfl | rfl | rfl | rfl
  · refine (number6_off 0 node g w (by decide) hc' hg).mono ?_
    rintro e w' ⟨rfl, hm⟩
    exact ⟨rfl, hm⟩
  · refine (number6_off 11 node g w (by decide) hc' hg).mono ?_
    rintro e w' ⟨rfl, hm⟩
    exact ⟨rfl, hm⟩
  · refine (number6_off 3 node g w (by decide) hc' hg).mono ?_
    rintro e w' ⟨rfl, hm⟩
    exact ⟨rfl, hm⟩
  · refine (number6_off 3 node g w (by decide) hc' hg).mono ?_
    rintro e w' ⟨rfl, hm⟩
    exact ⟨rfl, hm⟩
  · refine (number6_off 15 node g w (by decide) hc' hg).mono ?_
    rintro e w' ⟨rfl, hm⟩
    exact ⟨rfl, hm⟩
  · refine (number6_off 0 node g w (by decide) hc' hg).mono ?_
    rintro e w' ⟨rfl, hm⟩
    exact ⟨rfl, hm⟩
  · refine (number6_on 16 node g w (by decide) hc' hg).mono ?_
    rintro e w' ⟨rfl, hm⟩
    exact ⟨rfl, hm⟩
  · refine (number6_on 16 node g w (by decide) hc' hg).mono ?_
    rintro e w' ⟨rfl, hm⟩
    exact ⟨rfl, hm⟩

set_option maxRecDepth 100000 in
set_option maxHeartbeats 16000000 in
theorem cmd_Check_err (c : Cm) (w : World) (hT : T8 w) : Calls Tryz.prog 50 #[c.v] w fun e w' => e = .returned (.int .i64 (ckErr c)) ∧ Mod Non w w' := by
  obtain ⟨E, hE⟩ : ∃ E, E = ckErr c := ⟨_, rfl⟩
  rw [← hE]
  have hf := cmd_fields c.kind
  have b0 := Blk.new w 33 c.cells.toArray
  have m0 := (Mod.refl Non w).alloc (.cells c.cells.toArray 33)
  by_cases hk : 1 ≤ c.kind ∧ c.kind ≤ 8
  case neg =>
    have hkn : fknown c.kind = false := by unfold fknown; simp; omega
    have HEE : Hid (E = 5) := by rw [hE]; unfold ckErr; rw [hkn]; rfl
    rw [hkn] at hf
    have HF := Lib.hid hf
    clear hf hk hkn b0 hE
    obtain ⟨kind, client, seq, key, val, old, node⟩ := c
    go_enter Tryz.func50, Tryz.ntmps50
    go_wp2_with fail
    refine (HF.out _).mono ?_
    rintro e w1 ⟨rfl, rfl⟩
    go_wp2
    go_ret
    exact ⟨by rw [HEE.out]; rfl, m0⟩
  have hkn : fknown c.kind = true := by
    have : c.kind = 1 ∨ c.kind = 2 ∨ c.kind = 3 ∨ c.kind = 4 ∨ c.kind = 5 ∨ c.kind = 6 ∨ c.kind = 7 ∨ c.kind = 8 := by omega
    rcases this with h | h | h | h | h | h | h | h <;> rw [h] <;> rfl
  rw [hkn] at hf
  have HCE : Hid (∀ r t f, r = rflag (pa c) 6 → t = tflag (pa c) 6 → f = fflag (pb c) 6 → E = ckOf r t f) := by
    rintro r t f rfl rfl rfl
    rw [hE]; unfold ckErr; rw [hkn]; rfl
  have P1 := Lib.hid (fun g W hb => pt_1 c hk g W hb)
  have P2 := Lib.hid (fun g W hb => pt_2 c hk g W hb)
  have P3 := Lib.hid (fun g W hb hT => pt_3 c hk g W hb hT)
  have P4 := Lib.hid (fun g W hb hT => pt_4 c hk g W hb hT)
  have P5 := Lib.hid (fun g W hb hT => pt_5 c hk g W hb hT)
  have P6 := Lib.hid (fun g W hb => pt_6 c hk g W hb)
  obtain ⟨f, hfb⟩ : ∃ f, f = fbits c.kind := ⟨_, rfl⟩
  rw [← hfb] at hf P1 P2 P3 P4 P5 P6
  have HF := Lib.hid hf
  have HKK := Lib.hid hk
  obtain ⟨PA, hPA⟩ : ∃ PA, PA = pa c := ⟨_, rfl⟩
  obtain ⟨PB, hPB⟩ : ∃ PB, PB = pb c := ⟨_, rfl⟩
  rw [← hPA, ← hPB] at P1 P2 P3 P4 P5 P6 HCE
  clear hf hk hkn hfb hPA hPB hE
  obtain ⟨kind, client, seq, key, val, old, node⟩ := c
  go_enter Tryz.func50, Tryz.ntmps50
  go_wp2_with fail
  refine (HF.out _).mono ?_
  rintro e w1 ⟨rfl, rfl⟩
  go_wp2_with fail
  refine (cmd_parts _).mono ?_
  rintro e w1 ⟨rfl, hw1⟩
  have b1 : Blk w1 w.heap.size 33 (Cm.cells ⟨kind, client, seq, key, val, old, node⟩).toArray := by rw [hw1]; exact b0.alloc _
  have p1 : Blk w1 (w.heap.size + 1) 138 pcells := by rw [hw1]; exact Blk.new1 w _ _ _
  have m1 : Mod Non w w1 := by rw [hw1]; exact m0.alloc _
  clear hw1 b0 m0
  have HB1 := Lib.hid b1
  have HP1 := Lib.hid p1
  have HM1 := Lib.hid m1
  clear b1 p1 m1
  go_wp2_with fail
  go_loopw [5, 6, 7, 24] (fun r t f2 i wr => ∃ (k : Nat) (rb tb fb : Bool), k ≤ 6 ∧ i = .int .i64 k ∧ r = .bool rb ∧ t = .bool tb ∧ f2 = .bool fb ∧ rb = rflag PA k ∧ tb = tflag PA k ∧ fb = fflag PB k ∧ Blk wr w.heap.size 33 (Cm.cells ⟨kind, client, seq, key, val, old, node⟩).toArray ∧ Blk wr (w.heap.size + 1) 138 pcells ∧ Mod Non w wr) (fun _ _ _ i _ => 6 - (intOf i).toNat)
  case atStart => exact ⟨0, true, true, true, by omega, rfl, rfl, rfl, rfl, rfl, rfl, rfl, HB1.out, HP1.out, HM1.out⟩
  case round =>
    obtain ⟨k, rb, tb, fb, hk, rfl, rfl, rfl, rfl, hR, hTT, hFF, b1, p1, m1⟩ := hrel
    clear HB1 HP1 HM1
    have HR := Lib.hid hR
    have HTT := Lib.hid hTT
    have HFF := Lib.hid hFF
    clear hR hTT hFF
    have hk6 : k = 0 ∨ k = 1 ∨ k = 2 ∨ k = 3 ∨ k = 4 ∨ k = 5 ∨ k = 6 := by omega
    clear hk
    rcases hk6 with rfl | rfl | rfl | rfl | rfl | rfl | rfl
    · have pc0 := p1.cell 0
      have pc1 := p1.cell 1
      have pc2 := p1.cell 2
      have pc3 := p1.cell 3
      simp [pcells] at pc0 pc1 pc2 pc3
      have hsA := store_any (wr.alloc (.cells #[.int .i64 1, .int .i64 8, .nilFunc, .nilFunc] 138)) wr.heap.size 2 (.nilFunc) .nilFunc rfl (by simp) (by simp)
      have hsB := store_any (wr.alloc (.cells #[.int .i64 1, .int .i64 8, .nilFunc, .nilFunc] 138)) wr.heap.size 3 (.func (.func 120) #[] #[]) .nilFunc rfl (by simp) (by simp)
      have ba := b1.alloc (.cells #[.int .i64 1, .int .i64 8, .nilFunc, .func (.func 120) #[] #[]] 138)
      have pa := p1.alloc (.cells #[.int .i64 1, .int .i64 8, .nilFunc, .func (.func 120) #[] #[]] 138)
      have ma := m1.alloc (.cells #[.int .i64 1, .int .i64 8, .nilFunc, .func (.func 120) #[] #[]] 138)
      have na := Blk.new wr 138 #[.int .i64 1, .int .i64 8, .nilFunc, .func (.func 120) #[] #[]]
      clear b1 p1 m1
      go_wp2_with fail
      obtain ⟨ya, hya⟩ : ∃ ya, ya = PA 0 := ⟨_, rfl⟩
      obtain ⟨yb, hyb⟩ : ∃ yb, yb = PB 0 := ⟨_, rfl⟩
      have hcall := P1.out _ _ ba
      rw [← hya, ← hyb] at hcall
      have HYA := Lib.hid hya
      have HYB := Lib.hid hyb
      clear hya hyb
      refine (hcall).mono ?_
      rintro e u1 ⟨rfl, hmu⟩
      have bu := ba.mod hmu (fun h => h)
      have pu := pa.mod hmu (fun h => h)
      have nu := na.mod hmu (fun h => h)
      have mu := ma.trans' hmu
      have nc0 := nu.cell 0
      have nc1 := nu.cell 1
      have nc2 := nu.cell 2
      have nc3 := nu.cell 3
      simp at nc0 nc1 nc2 nc3
      clear pc0 pc1 pc2 pc3 hsA hsB ba pa ma na hmu
      clear hcall
      go_wp2_with fail
      refine (text1_any f _ _).mono ?_
      rintro e u2 ⟨rfl, hmv⟩
      have b2 := bu.mod hmv (fun h => h)
      have p2 := pu.mod hmv (fun h => h)
      have m2 := mu.trans' hmv
      clear bu pu nu mu hmv nc0 nc1 nc2 nc3
      have HN1 : Hid ((rb && ya) = rflag PA 1) := by show _ = _; rw [HR.out, HYA.out]; rfl
      have HN2 : Hid ((tb && true) = tflag PA 1) := by show _ = _; rw [HTT.out]; rfl
      have HN3 : Hid ((fb && yb) = fflag PB 1) := by show _ = _; rw [HFF.out, HYB.out]; rfl
      cases rb <;> cases tb <;> cases fb <;> cases ya <;> cases yb
      all_goals
        go_wp2
        go_roundw
        case rel =>
          exact ⟨1, _, _, _, by omega, by go_num, rfl, rfl, rfl, HN1.out, HN2.out, HN3.out, b2, p2, m2⟩
        case measure => simp [intOf]
    · have pc0 := p1.cell 4
      have pc1 := p1.cell 5
      have pc2 := p1.cell 6
      have pc3 := p1.cell 7
      simp [pcells] at pc0 pc1 pc2 pc3
      have hsA := store_any (wr.alloc (.cells #[.int .i64 1, .int .i64 4294967296, .nilFunc, .nilFunc] 138)) wr.heap.size 2 (.nilFunc) .nilFunc rfl (by simp) (by simp)
      have hsB := store_any (wr.alloc (.cells #[.int .i64 1, .int .i64 4294967296, .nilFunc, .nilFunc] 138)) wr.heap.size 3 (.func (.func 121) #[] #[]) .nilFunc rfl (by simp) (by simp)
      have ba := b1.alloc (.cells #[.int .i64 1, .int .i64 4294967296, .nilFunc, .func (.func 121) #[] #[]] 138)
      have pa := p1.alloc (.cells #[.int .i64 1, .int .i64 4294967296, .nilFunc, .func (.func 121) #[] #[]] 138)
      have ma := m1.alloc (.cells #[.int .i64 1, .int .i64 4294967296, .nilFunc, .func (.func 121) #[] #[]] 138)
      have na := Blk.new wr 138 #[.int .i64 1, .int .i64 4294967296, .nilFunc, .func (.func 121) #[] #[]]
      clear b1 p1 m1
      go_wp2_with fail
      obtain ⟨ya, hya⟩ : ∃ ya, ya = PA 1 := ⟨_, rfl⟩
      obtain ⟨yb, hyb⟩ : ∃ yb, yb = PB 1 := ⟨_, rfl⟩
      have hcall := P2.out _ _ ba
      rw [← hya, ← hyb] at hcall
      have HYA := Lib.hid hya
      have HYB := Lib.hid hyb
      clear hya hyb
      refine (hcall).mono ?_
      rintro e u1 ⟨rfl, hmu⟩
      have bu := ba.mod hmu (fun h => h)
      have pu := pa.mod hmu (fun h => h)
      have nu := na.mod hmu (fun h => h)
      have mu := ma.trans' hmu
      have nc0 := nu.cell 0
      have nc1 := nu.cell 1
      have nc2 := nu.cell 2
      have nc3 := nu.cell 3
      simp at nc0 nc1 nc2 nc3
      clear pc0 pc1 pc2 pc3 hsA hsB ba pa ma na hmu
      clear hcall
      go_wp2_with fail
      refine (text2_any f _ _).mono ?_
      rintro e u2 ⟨rfl, hmv⟩
      have b2 := bu.mod hmv (fun h => h)
      have p2 := pu.mod hmv (fun h => h)
      have m2 := mu.trans' hmv
      clear bu pu nu mu hmv nc0 nc1 nc2 nc3
      have HN1 : Hid ((rb && ya) = rflag PA 2) := by show _ = _; rw [HR.out, HYA.out]; rfl
      have HN2 : Hid ((tb && true) = tflag PA 2) := by show _ = _; rw [HTT.out]; rfl
      have HN3 : Hid ((fb && yb) = fflag PB 2) := by show _ = _; rw [HFF.out, HYB.out]; rfl
      cases rb <;> cases tb <;> cases fb <;> cases ya <;> cases yb
      all_goals
        go_wp2
        go_roundw
        case rel =>
          exact ⟨2, _, _, _, by omega, by go_num, rfl, rfl, rfl, HN1.out, HN2.out, HN3.out, b2, p2, m2⟩
        case measure => simp [intOf]
    · have pc0 := p1.cell 8
      have pc1 := p1.cell 9
      have pc2 := p1.cell 10
      have pc3 := p1.cell 11
      simp [pcells] at pc0 pc1 pc2 pc3
      have hsA := store_any (wr.alloc (.cells #[.int .i64 2, .int .i64 0, .nilFunc, .nilFunc] 138)) wr.heap.size 2 (.func (.func 108) #[] #[]) .nilFunc rfl (by simp) (by simp)
      have hsB := store_any (wr.alloc (.cells #[.int .i64 2, .int .i64 0, .func (.func 108) #[] #[], .nilFunc] 138)) wr.heap.size 3 (.func (.func 122) #[] #[]) .nilFunc rfl (by simp) (by simp)
      have ba := b1.alloc (.cells #[.int .i64 2, .int .i64 0, .func (.func 108) #[] #[], .func (.func 122) #[] #[]] 138)
      have pa := p1.alloc (.cells #[.int .i64 2, .int .i64 0, .func (.func 108) #[] #[], .func (.func 122) #[] #[]] 138)
      have ma := m1.alloc (.cells #[.int .i64 2, .int .i64 0, .func (.func 108) #[] #[], .func (.func 122) #[] #[]] 138)
      have na := Blk.new wr 138 #[.int .i64 2, .int .i64 0, .func (.func 108) #[] #[], .func (.func 122) #[] #[]]
      clear b1 p1 m1
      go_wp2_with fail
      refine (number3_any f _ _).mono ?_
      rintro e u1 ⟨rfl, hmu⟩
      have bu := ba.mod hmu (fun h => h)
      have pu := pa.mod hmu (fun h => h)
      have nu := na.mod hmu (fun h => h)
      have mu := ma.trans' hmu
      have nc0 := nu.cell 0
      have nc1 := nu.cell 1
      have nc2 := nu.cell 2
      have nc3 := nu.cell 3
      simp at nc0 nc1 nc2 nc3
      clear pc0 pc1 pc2 pc3 hsA hsB ba pa ma na hmu
      go_wp2_with fail
      obtain ⟨ya, hya⟩ : ∃ ya, ya = PA 2 := ⟨_, rfl⟩
      obtain ⟨yb, hyb⟩ : ∃ yb, yb = PB 2 := ⟨_, rfl⟩
      have hcall := P3.out _ _ bu (hT.non mu)
      rw [← hya, ← hyb] at hcall
      have HYA := Lib.hid hya
      have HYB := Lib.hid hyb
      clear hya hyb
      refine (hcall).mono ?_
      rintro e u2 ⟨rfl, hmv⟩
      have b2 := bu.mod hmv (fun h => h)
      have p2 := pu.mod hmv (fun h => h)
      have m2 := mu.trans' hmv
      clear bu pu nu mu hmv nc0 nc1 nc2 nc3
      clear hcall
      have HN1 : Hid ((rb && true) = rflag PA 3) := by show _ = _; rw [HR.out]; rfl
      have HN2 : Hid ((tb && ya) = tflag PA 3) := by show _ = _; rw [HTT.out, HYA.out]; rfl
      have HN3 : Hid ((fb && yb) = fflag PB 3) := by show _ = _; rw [HFF.out, HYB.out]; rfl
      cases rb <;> cases tb <;> cases fb <;> cases ya <;> cases yb
      all_goals
        go_wp2
        go_roundw
        case rel =>
          exact ⟨3, _, _, _, by omega, by go_num, rfl, rfl, rfl, HN1.out, HN2.out, HN3.out, b2, p2, m2⟩
        case measure => simp [intOf]
    · have pc0 := p1.cell 12
      have pc1 := p1.cell 13
      have pc2 := p1.cell 14
      have pc3 := p1.cell 15
      simp [pcells] at pc0 pc1 pc2 pc3
      have hsA := store_any (wr.alloc (.cells #[.int .i64 4, .int .i64 0, .nilFunc, .nilFunc] 138)) wr.heap.size 2 (.func (.func 109) #[] #[]) .nilFunc rfl (by simp) (by simp)
      have hsB := store_any (wr.alloc (.cells #[.int .i64 4, .int .i64 0, .func (.func 109) #[] #[], .nilFunc] 138)) wr.heap.size 3 (.func (.func 123) #[] #[]) .nilFunc rfl (by simp) (by simp)
      have ba := b1.alloc (.cells #[.int .i64 4, .int .i64 0, .func (.func 109) #[] #[], .func (.func 123) #[] #[]] 138)
      have pa := p1.alloc (.cells #[.int .i64 4, .int .i64 0, .func (.func 109) #[] #[], .func (.func 123) #[] #[]] 138)
      have ma := m1.alloc (.cells #[.int .i64 4, .int .i64 0, .func (.func 109) #[] #[], .func (.func 123) #[] #[]] 138)
      have na := Blk.new wr 138 #[.int .i64 4, .int .i64 0, .func (.func 109) #[] #[], .func (.func 123) #[] #[]]
      clear b1 p1 m1
      go_wp2_with fail
      refine (number4_any f _ _).mono ?_
      rintro e u1 ⟨rfl, hmu⟩
      have bu := ba.mod hmu (fun h => h)
      have pu := pa.mod hmu (fun h => h)
      have nu := na.mod hmu (fun h => h)
      have mu := ma.trans' hmu
      have nc0 := nu.cell 0
      have nc1 := nu.cell 1
      have nc2 := nu.cell 2
      have nc3 := nu.cell 3
      simp at nc0 nc1 nc2 nc3
      clear pc0 pc1 pc2 pc3 hsA hsB ba pa ma na hmu
      go_wp2_with fail
      obtain ⟨ya, hya⟩ : ∃ ya, ya = PA 3 := ⟨_, rfl⟩
      obtain ⟨yb, hyb⟩ : ∃ yb, yb = PB 3 := ⟨_, rfl⟩
      have hcall := P4.out _ _ bu (hT.non mu)
      rw [← hya, ← hyb] at hcall
      have HYA := Lib.hid hya
      have HYB := Lib.hid hyb
      clear hya hyb
      refine (hcall).mono ?_
      rintro e u2 ⟨rfl, hmv⟩
      have b2 := bu.mod hmv (fun h => h)
      have p2 := pu.mod hmv (fun h => h)
      have m2 := mu.trans' hmv
      clear bu pu nu mu hmv nc0 nc1 nc2 nc3
      clear hcall
      have HN1 : Hid ((rb && true) = rflag PA 4) := by show _ = _; rw [HR.out]; rfl
      have HN2 : Hid ((tb && ya) = tflag PA 4) := by show _ = _; rw [HTT.out, HYA.out]; rfl
      have HN3 : Hid ((fb && yb) = fflag PB 4) := by show _ = _; rw [HFF.out, HYB.out]; rfl
      cases rb <;> cases tb <;> cases fb <;> cases ya <;> cases yb
      all_goals
        go_wp2
        go_roundw
        case rel =>
          exact ⟨4, _, _, _, by omega, by go_num, rfl, rfl, rfl, HN1.out, HN2.out, HN3.out, b2, p2, m2⟩
        case measure => simp [intOf]
    · have pc0 := p1.cell 16
      have pc1 := p1.cell 17
      have pc2 := p1.cell 18
      have pc3 := p1.cell 19
      simp [pcells] at pc0 pc1 pc2 pc3
      have hsA := store_any (wr.alloc (.cells #[.int .i64 8, .int .i64 0, .nilFunc, .nilFunc] 138)) wr.heap.size 2 (.func (.func 109) #[] #[]) .nilFunc rfl (by simp) (by simp)
      have hsB := store_any (wr.alloc (.cells #[.int .i64 8, .int .i64 0, .func (.func 109) #[] #[], .nilFunc] 138)) wr.heap.size 3 (.func (.func 124) #[] #[]) .nilFunc rfl (by simp) (by simp)
      have ba := b1.alloc (.cells #[.int .i64 8, .int .i64 0, .func (.func 109) #[] #[], .func (.func 124) #[] #[]] 138)
      have pa := p1.alloc (.cells #[.int .i64 8, .int .i64 0, .func (.func 109) #[] #[], .func (.func 124) #[] #[]] 138)
      have ma := m1.alloc (.cells #[.int .i64 8, .int .i64 0, .func (.func 109) #[] #[], .func (.func 124) #[] #[]] 138)
      have na := Blk.new wr 138 #[.int .i64 8, .int .i64 0, .func (.func 109) #[] #[], .func (.func 124) #[] #[]]
      clear b1 p1 m1
      go_wp2_with fail
      refine (number5_any f _ _).mono ?_
      rintro e u1 ⟨rfl, hmu⟩
      have bu := ba.mod hmu (fun h => h)
      have pu := pa.mod hmu (fun h => h)
      have nu := na.mod hmu (fun h => h)
      have mu := ma.trans' hmu
      have nc0 := nu.cell 0
      have nc1 := nu.cell 1
      have nc2 := nu.cell 2
      have nc3 := nu.cell 3
      simp at nc0 nc1 nc2 nc3
      clear pc0 pc1 pc2 pc3 hsA hsB ba pa ma na hmu
      go_wp2_with fail
      obtain ⟨ya, hya⟩ : ∃ ya, ya = PA 4 := ⟨_, rfl⟩
      obtain ⟨yb, hyb⟩ : ∃ yb, yb = PB 4 := ⟨_, rfl⟩
      have hcall := P5.out _ _ bu (hT.non mu)
      rw [← hya, ← hyb] at hcall
      have HYA := Lib.hid hya
      have HYB := Lib.hid hyb
      clear hya hyb
      refine (hcall).mono ?_
      rintro e u2 ⟨rfl, hmv⟩
      have b2 := bu.mod hmv (fun h => h)
      have p2 := pu.mod hmv (fun h => h)
      have m2 := mu.trans' hmv
      clear bu pu nu mu hmv nc0 nc1 nc2 nc3
      clear hcall
      have HN1 : Hid ((rb && true) = rflag PA 5) := by show _ = _; rw [HR.out]; rfl
      have HN2 : Hid ((tb && ya) = tflag PA 5) := by show _ = _; rw [HTT.out, HYA.out]; rfl
      have HN3 : Hid ((fb && yb) = fflag PB 5) := by show _ = _; rw [HFF.out, HYB.out]; rfl
      cases rb <;> cases tb <;> cases fb <;> cases ya <;> cases yb
      all_goals
        go_wp2
        go_roundw
        case rel =>
          exact ⟨5, _, _, _, by omega, by go_num, rfl, rfl, rfl, HN1.out, HN2.out, HN3.out, b2, p2, m2⟩
        case measure => simp [intOf]
    · have pc0 := p1.cell 20
      have pc1 := p1.cell 21
      have pc2 := p1.cell 22
      have pc3 := p1.cell 23
      simp [pcells] at pc0 pc1 pc2 pc3
      have hsA := store_any (wr.alloc (.cells #[.int .i64 16, .int .i64 9, .nilFunc, .nilFunc] 138)) wr.heap.size 2 (.nilFunc) .nilFunc rfl (by simp) (by simp)
      have hsB := store_any (wr.alloc (.cells #[.int .i64 16, .int .i64 9, .nilFunc, .nilFunc] 138)) wr.heap.size 3 (.func (.func 125) #[] #[]) .nilFunc rfl (by simp) (by simp)
      have ba := b1.alloc (.cells #[.int .i64 16, .int .i64 9, .nilFunc, .func (.func 125) #[] #[]] 138)
      have pa := p1.alloc (.cells #[.int .i64 16, .int .i64 9, .nilFunc, .func (.func 125) #[] #[]] 138)
      have ma := m1.alloc (.cells #[.int .i64 16, .int .i64 9, .nilFunc, .func (.func 125) #[] #[]] 138)
      have na := Blk.new wr 138 #[.int .i64 16, .int .i64 9, .nilFunc, .func (.func 125) #[] #[]]
      clear b1 p1 m1
      go_wp2_with fail
      obtain ⟨ya, hya⟩ : ∃ ya, ya = PA 5 := ⟨_, rfl⟩
      obtain ⟨yb, hyb⟩ : ∃ yb, yb = PB 5 := ⟨_, rfl⟩
      have hcall := P6.out _ _ ba
      rw [← hya, ← hyb] at hcall
      have HYA := Lib.hid hya
      have HYB := Lib.hid hyb
      clear hya hyb
      refine (hcall).mono ?_
      rintro e u1 ⟨rfl, hmu⟩
      have bu := ba.mod hmu (fun h => h)
      have pu := pa.mod hmu (fun h => h)
      have nu := na.mod hmu (fun h => h)
      have mu := ma.trans' hmu
      have nc0 := nu.cell 0
      have nc1 := nu.cell 1
      have nc2 := nu.cell 2
      have nc3 := nu.cell 3
      simp at nc0 nc1 nc2 nc3
      clear pc0 pc1 pc2 pc3 hsA hsB ba pa ma na hmu
      clear hcall
      go_wp2_with fail
      refine (text6_any f _ _).mono ?_
      rintro e u2 ⟨rfl, hmv⟩
      have b2 := bu.mod hmv (fun h => h)
      have p2 := pu.mod hmv (fun h => h)
      have m2 := mu.trans' hmv
      clear bu pu nu mu hmv nc0 nc1 nc2 nc3
      have HN1 : Hid ((rb && ya) = rflag PA 6) := by show _ = _; rw [HR.out, HYA.out]; rfl
      have HN2 : Hid ((tb && true) = tflag PA 6) := by show _ = _; rw [HTT.out]; rfl
      have HN3 : Hid ((fb && yb) = fflag PB 6) := by show _ = _; rw [HFF.out, HYB.out]; rfl
      cases rb <;> cases tb <;> cases fb <;> cases ya <;> cases yb
      all_goals
        go_wp2
        go_roundw
        case rel =>
          exact ⟨6, _, _, _, by omega, by go_num, rfl, rfl, rfl, HN1.out, HN2.out, HN3.out, b2, p2, m2⟩
        case measure => simp [intOf]
    · have HEE : Hid (E = ckOf rb tb fb) := HCE.out _ _ _ HR.out HTT.out HFF.out
      clear HR HTT HFF
      cases rb <;> cases tb <;> cases fb
      all_goals
        go_wp2
        go_ret
        exact ⟨by rw [HEE.out]; rfl, m1⟩
end Go.Proofs.YtdclfdinhdaadaaGreatDoor
