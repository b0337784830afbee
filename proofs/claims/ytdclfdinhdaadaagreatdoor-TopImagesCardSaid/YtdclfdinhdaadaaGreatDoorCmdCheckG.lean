/- Package cmd: the contracts of parts, Owned, and of Check where all is well. -/
import Derived.Test.YtdclfdinhdaadaaGreatDoorMgC
import Derived.Test.YtdclfdinhdaadaaGreatDoorMgF
namespace Go.Proofs.YtdclfdinhdaadaaGreatDoor
open Go.RowKit

def pcells : Array Value := #[.int .i64 1, .int .i64 8, .nilFunc, .func (.func 120) #[] #[], .int .i64 1, .int .i64 4294967296, .nilFunc, .func (.func 121) #[] #[],
  .int .i64 2, .int .i64 0, .func (.func 108) #[] #[], .func (.func 122) #[] #[], .int .i64 4, .int .i64 0, .func (.func 109) #[] #[], .func (.func 123) #[] #[],
  .int .i64 8, .int .i64 0, .func (.func 109) #[] #[], .func (.func 124) #[] #[], .int .i64 16, .int .i64 9, .nilFunc, .func (.func 125) #[] #[]]

theorem cmd_parts (w : World) : Calls Tryz.prog 92 #[] w fun e w' => e = .returned (.slice (some ⟨w.heap.size, 0, none⟩) 6 6) ∧ w' = w.alloc (.cells pcells 138) := by
  go_enter Tryz.func92, Tryz.ntmps92
  go_wp2
  go_ret
  exact ⟨rfl, rfl⟩

theorem store_any (W : World) (g i : Nat) (x v0 : Value) (h1 : x.oneCell' = true) (hc : W.cell? ⟨g, i, none⟩ = some v0) (hf : W.frozen? ⟨g, i, none⟩ = false) :
    (store ⟨g, i, none⟩ x).run Tryz.prog W = .ok () (W.setCell ⟨g, i, none⟩ x) := by
  rw [run_store Tryz.prog W _ _ _ h1, hc]
  simp [hf]

/-- a client's kind -/
def ownB (k : Int) : Bool := k == 2 || k == 3 || k == 4 || k == 5
theorem own_bits (k : Int) : (bits BinOp.and IntKind.i64 (fbits k) 1 != 0) = ownB k := by
  by_cases h2 : k = 2
  · subst h2; kernel_rfl
  by_cases h3 : k = 3
  · subst h3; kernel_rfl
  by_cases h4 : k = 4
  · subst h4; kernel_rfl
  by_cases h5 : k = 5
  · subst h5; kernel_rfl
  have e : ownB k = false := by unfold ownB; simp [h2, h3, h4, h5]
  rw [e]
  unfold fbits
  rw [if_neg h2, if_neg (by omega), if_neg h5]
  by_cases h7 : k = 7 ∨ k = 8
  · rw [if_pos h7]; exact (by kernel_rfl : (bits BinOp.and IntKind.i64 16 1 != 0) = false)
  · rw [if_neg h7]; exact (by kernel_rfl : (bits BinOp.and IntKind.i64 0 1 != 0) = false)

theorem cmd_Owned (c : Cm) (w : World) : Calls Tryz.prog 87 #[c.v] w fun e w' => e = .returned (.bool (ownB c.kind)) ∧ Mod Non w w' := by
  obtain ⟨kind, client, seq, key, val, old, node⟩ := c
  go_enter Tryz.func87, Tryz.ntmps87
  go_wp2_with fail
  refine (cmd_fields kind _).mono ?_
  rintro e w1 ⟨rfl, rfl⟩
  go_wp2
  go_ret
  exact ⟨by rw [← own_bits]; rfl, (Mod.refl _ _).alloc _⟩

/-- a command that may be -/
structure Cm.Ok (c : Cm) : Prop where
  kind : 1 ≤ c.kind ∧ c.kind ≤ 8
  own : ownB c.kind = true → (1 ≤ c.client ∧ c.client ≤ 8) ∧ (1 ≤ c.seq ∧ c.seq ≤ 4294967296) ∧ keyB c.key = true
  non : ownB c.kind = false → c.client = 0 ∧ c.seq = 0 ∧ c.key.toList = []
  val : if c.kind = 2 ∨ c.kind = 5 then valB c.val = true else c.val.toList = []
  old : if c.kind = 5 then valB c.old = true else c.old.toList = []
  node : if c.kind = 7 ∨ c.kind = 8 then 1 ≤ c.node ∧ c.node ≤ 9 else c.node = 0

theorem kinds {c : Cm} (h : c.Ok) : c.kind = 1 ∨ c.kind = 2 ∨ c.kind = 3 ∨ c.kind = 4 ∨ c.kind = 5 ∨ c.kind = 6 ∨ c.kind = 7 ∨ c.kind = 8 := by
  have := h.kind
  omega

theorem numberOk1 (c : Cm) (hok : c.Ok) (g : Nat) (w : World) (hb : Blk w g 33 c.cells.toArray) : Calls Tryz.prog 93 #[part1, .pointer (some ⟨g, 0, none⟩), .int .i64 (fbits c.kind)] w fun e w' => e = .returned (.tuple #[.bool true, .bool true]) ∧ Mod Non w w' := by
  have hc := hb.cell 1
  have hg := hb.lt
  have hk := kinds hok
  obtain ⟨kind, client, seq, key, val, old, node⟩ := c
  have h1 := hok.own
  have h2 := hok.non
  have h3 := hok.val
  have h4 := hok.old
  have h5 := hok.node
  simp only at hk h1 h2 h3 h4 h5
  have hc' : w.cell? ⟨g, 1, none⟩ = some (.int .i64 client) := by rw [hc]; rfl
  rcases hk with rfl | rfl | rfl | rfl | rfl | rfl | rfl | rfl
  · have hv : client = 0 := (h2 (by decide)).1
    refine (number1_off 0 client g w (by decide) hc' hg).mono ?_
    rintro e w' ⟨rfl, hm⟩
    exact ⟨by rw [hv]; rfl, hm⟩
  · have hv : 1 ≤ client ∧ client ≤ 8 := (h1 (by decide)).1
    refine (number1_on 11 client g w (by decide) hc' hg).mono ?_
    rintro e w' ⟨rfl, hm⟩
    exact ⟨by simp [hv.1, hv.2], hm⟩
  · have hv : 1 ≤ client ∧ client ≤ 8 := (h1 (by decide)).1
    refine (number1_on 3 client g w (by decide) hc' hg).mono ?_
    rintro e w' ⟨rfl, hm⟩
    exact ⟨by simp [hv.1, hv.2], hm⟩
  · have hv : 1 ≤ client ∧ client ≤ 8 := (h1 (by decide)).1
    refine (number1_on 3 client g w (by decide) hc' hg).mono ?_
    rintro e w' ⟨rfl, hm⟩
    exact ⟨by simp [hv.1, hv.2], hm⟩
  · have hv : 1 ≤ client ∧ client ≤ 8 := (h1 (by decide)).1
    refine (number1_on 15 client g w (by decide) hc' hg).mono ?_
    rintro e w' ⟨rfl, hm⟩
    exact ⟨by simp [hv.1, hv.2], hm⟩
  · have hv : client = 0 := (h2 (by decide)).1
    refine (number1_off 0 client g w (by decide) hc' hg).mono ?_
    rintro e w' ⟨rfl, hm⟩
    exact ⟨by rw [hv]; rfl, hm⟩
  · have hv : client = 0 := (h2 (by decide)).1
    refine (number1_off 16 client g w (by decide) hc' hg).mono ?_
    rintro e w' ⟨rfl, hm⟩
    exact ⟨by rw [hv]; rfl, hm⟩
  · have hv : client = 0 := (h2 (by decide)).1
    refine (number1_off 16 client g w (by decide) hc' hg).mono ?_
    rintro e w' ⟨rfl, hm⟩
    exact ⟨by rw [hv]; rfl, hm⟩

theorem textOk1 (c : Cm) (g : Nat) (w : World) : Calls Tryz.prog 94 #[part1, .pointer (some ⟨g, 0, none⟩), .int .i64 (fbits c.kind)] w fun e w' => e = .returned (.tuple #[.bool true, .bool true]) ∧ Mod Non w w' := text1_any _ g w

theorem numberOk2 (c : Cm) (hok : c.Ok) (g : Nat) (w : World) (hb : Blk w g 33 c.cells.toArray) : Calls Tryz.prog 93 #[part2, .pointer (some ⟨g, 0, none⟩), .int .i64 (fbits c.kind)] w fun e w' => e = .returned (.tuple #[.bool true, .bool true]) ∧ Mod Non w w' := by
  have hc := hb.cell 2
  have hg := hb.lt
  have hk := kinds hok
  obtain ⟨kind, client, seq, key, val, old, node⟩ := c
  have h1 := hok.own
  have h2 := hok.non
  have h3 := hok.val
  have h4 := hok.old
  have h5 := hok.node
  simp only at hk h1 h2 h3 h4 h5
  have hc' : w.cell? ⟨g, 2, none⟩ = some (.int .i64 seq) := by rw [hc]; rfl
  rcases hk with rfl | rfl | rfl | rfl | rfl | rfl | rfl | rfl
  · have hv : seq = 0 := (h2 (by decide)).2.1
    refine (number2_off 0 seq g w (by decide) hc' hg).mono ?_
    rintro e w' ⟨rfl, hm⟩
    exact ⟨by rw [hv]; rfl, hm⟩
  · have hv : 1 ≤ seq ∧ seq ≤ 4294967296 := (h1 (by decide)).2.1
    refine (number2_on 11 seq g w (by decide) hc' hg).mono ?_
    rintro e w' ⟨rfl, hm⟩
    exact ⟨by simp [hv.1, hv.2], hm⟩
  · have hv : 1 ≤ seq ∧ seq ≤ 4294967296 := (h1 (by decide)).2.1
    refine (number2_on 3 seq g w (by decide) hc' hg).mono ?_
    rintro e w' ⟨rfl, hm⟩
    exact ⟨by simp [hv.1, hv.2], hm⟩
  · have hv : 1 ≤ seq ∧ seq ≤ 4294967296 := (h1 (by decide)).2.1
    refine (number2_on 3 seq g w (by decide) hc' hg).mono ?_
    rintro e w' ⟨rfl, hm⟩
    exact ⟨by simp [hv.1, hv.2], hm⟩
  · have hv : 1 ≤ seq ∧ seq ≤ 4294967296 := (h1 (by decide)).2.1
    refine (number2_on 15 seq g w (by decide) hc' hg).mono ?_
    rintro e w' ⟨rfl, hm⟩
    exact ⟨by simp [hv.1, hv.2], hm⟩
  · have hv : seq = 0 := (h2 (by decide)).2.1
    refine (number2_off 0 seq g w (by decide) hc' hg).mono ?_
    rintro e w' ⟨rfl, hm⟩
    exact ⟨by rw [hv]; rfl, hm⟩
  · have hv : seq = 0 := (h2 (by decide)).2.1
    refine (number2_off 16 seq g w (by decide) hc' hg).mono ?_
    rintro e w' ⟨rfl, hm⟩
    exact ⟨by rw [hv]; rfl, hm⟩
  · have hv : seq = 0 := (h2 (by decide)).2.1
    refine (number2_off 16 seq g w (by decide) hc' hg).mono ?_
    rintro e w' ⟨rfl, hm⟩
    exact ⟨by rw [hv]; rfl, hm⟩

theorem textOk2 (c : Cm) (g : Nat) (w : World) : Calls Tryz.prog 94 #[part2, .pointer (some ⟨g, 0, none⟩), .int .i64 (fbits c.kind)] w fun e w' => e = .returned (.tuple #[.bool true, .bool true]) ∧ Mod Non w w' := text2_any _ g w

theorem numberOk3 (c : Cm) (g : Nat) (w : World) : Calls Tryz.prog 93 #[part3, .pointer (some ⟨g, 0, none⟩), .int .i64 (fbits c.kind)] w fun e w' => e = .returned (.tuple #[.bool true, .bool true]) ∧ Mod Non w w' := number3_any _ g w

theorem textOk3 (c : Cm) (hok : c.Ok) (g : Nat) (w : World) (hb : Blk w g 33 c.cells.toArray) (hT : T8 w) : Calls Tryz.prog 94 #[part3, .pointer (some ⟨g, 0, none⟩), .int .i64 (fbits c.kind)] w fun e w' => e = .returned (.tuple #[.bool true, .bool true]) ∧ Mod Non w w' := by
  have hc := hb.cell 3
  have hg := hb.lt
  have hk := kinds hok
  obtain ⟨kind, client, seq, key, val, old, node⟩ := c
  have h1 := hok.own
  have h2 := hok.non
  have h3 := hok.val
  have h4 := hok.old
  have h5 := hok.node
  simp only at hk h1 h2 h3 h4 h5
  have hc' : w.cell? ⟨g, 3, none⟩ = some (.string key) := by rw [hc]; rfl
  rcases hk with rfl | rfl | rfl | rfl | rfl | rfl | rfl | rfl
  · have hv : key.toList = [] := (h2 (by decide)).2.2
    refine (text3_off 0 key g w (by decide) hc' hg).mono ?_
    rintro e w' ⟨rfl, hm⟩
    exact ⟨by rw [hv]; rfl, hm⟩
  · have hv : keyB key = true := (h1 (by decide)).2.2
    refine (text3_on 11 key g w (by decide) hc' hg hT).mono ?_
    rintro e w' ⟨rfl, hm⟩
    exact ⟨by rw [hv], hm⟩
  · have hv : keyB key = true := (h1 (by decide)).2.2
    refine (text3_on 3 key g w (by decide) hc' hg hT).mono ?_
    rintro e w' ⟨rfl, hm⟩
    exact ⟨by rw [hv], hm⟩
  · have hv : keyB key = true := (h1 (by decide)).2.2
    refine (text3_on 3 key g w (by decide) hc' hg hT).mono ?_
    rintro e w' ⟨rfl, hm⟩
    exact ⟨by rw [hv], hm⟩
  · have hv : keyB key = true := (h1 (by decide)).2.2
    refine (text3_on 15 key g w (by decide) hc' hg hT).mono ?_
    rintro e w' ⟨rfl, hm⟩
    exact ⟨by rw [hv], hm⟩
  · have hv : key.toList = [] := (h2 (by decide)).2.2
    refine (text3_off 0 key g w (by decide) hc' hg).mono ?_
    rintro e w' ⟨rfl, hm⟩
    exact ⟨by rw [hv]; rfl, hm⟩
  · have hv : key.toList = [] := (h2 (by decide)).2.2
    refine (text3_off 16 key g w (by decide) hc' hg).mono ?_
    rintro e w' ⟨rfl, hm⟩
    exact ⟨by rw [hv]; rfl, hm⟩
  · have hv : key.toList = [] := (h2 (by decide)).2.2
    refine (text3_off 16 key g w (by decide) hc' hg).mono ?_
    rintro e w' ⟨rfl, hm⟩
    exact ⟨by rw [hv]; rfl, hm⟩

theorem numberOk4 (c : Cm) (g : Nat) (w : World) : Calls Tryz.prog 93 #[part4, .pointer (some ⟨g, 0, none⟩), .int .i64 (fbits c.kind)] w fun e w' => e = .returned (.tuple #[.bool true, .bool true]) ∧ Mod Non w w' := number4_any _ g w

theorem textOk4 (c : Cm) (hok : c.Ok) (g : Nat) (w : World) (hb : Blk w g 33 c.cells.toArray) (hT : T8 w) : Calls Tryz.prog 94 #[part4, .pointer (some ⟨g, 0, none⟩), .int .i64 (fbits c.kind)] w fun e w' => e = .returned (.tuple #[.bool true, .bool true]) ∧ Mod Non w w' := by
  have hc := hb.cell 5
  have hg := hb.lt
  have hk := kinds hok
  obtain ⟨kind, client, seq, key, val, old, node⟩ := c
  have h1 := hok.own
  have h2 := hok.non
  have h3 := hok.val
  have h4 := hok.old
  have h5 := hok.node
  simp only at hk h1 h2 h3 h4 h5
  have hc' : w.cell? ⟨g, 5, none⟩ = some (.string old) := by rw [hc]; rfl
  rcases hk with rfl | rfl | rfl | rfl | rfl | rfl | rfl | rfl
  · have hv : old.toList = [] := (by simpa using h4)
    refine (text4_off 0 old g w (by decide) hc' hg).mono ?_
    rintro e w' ⟨rfl, hm⟩
    exact ⟨by rw [hv]; rfl, hm⟩
  · have hv : old.toList = [] := (by simpa using h4)
    refine (text4_off 11 old g w (by decide) hc' hg).mono ?_
    rintro e w' ⟨rfl, hm⟩
    exact ⟨by rw [hv]; rfl, hm⟩
  · have hv : old.toList = [] := (by simpa using h4)
    refine (text4_off 3 old g w (by decide) hc' hg).mono ?_
    rintro e w' ⟨rfl, hm⟩
    exact ⟨by rw [hv]; rfl, hm⟩
  · have hv : old.toList = [] := (by simpa using h4)
    refine (text4_off 3 old g w (by decide) hc' hg).mono ?_
    rintro e w' ⟨rfl, hm⟩
    exact ⟨by rw [hv]; rfl, hm⟩
  · have hv : valB old = true := (by simpa using h4)
    refine (text4_on 15 old g w (by decide) hc' hg hT).mono ?_
    rintro e w' ⟨rfl, hm⟩
    exact ⟨by rw [hv], hm⟩
  · have hv : old.toList = [] := (by simpa using h4)
    refine (text4_off 0 old g w (by decide) hc' hg).mono ?_
    rintro e w' ⟨rfl, hm⟩
    exact ⟨by rw [hv]; rfl, hm⟩
  · have hv : old.toList = [] := (by simpa using h4)
    refine (text4_off 16 old g w (by decide) hc' hg).mono ?_
    rintro e w' ⟨rfl, hm⟩
    exact ⟨by rw [hv]; rfl, hm⟩
  · have hv : old.toList = [] := (by simpa using h4)
    refine (text4_off 16 old g w (by decide) hc' hg).mono ?_
    rintro e w' ⟨rfl, hm⟩
    exact ⟨by rw [hv]; rfl, hm⟩

theorem numberOk5 (c : Cm) (g : Nat) (w : World) : Calls Tryz.prog 93 #[part5, .pointer (some ⟨g, 0, none⟩), .int .i64 (fbits c.kind)] w fun e w' => e = .returned (.tuple #[.bool true, .bool true]) ∧ Mod Non w w' := number5_any _ g w

theorem textOk5 (c : Cm) (hok : c.Ok) (g : Nat) (w : World) (hb : Blk w g 33 c.cells.toArray) (hT : T8 w) : Calls Tryz.prog 94 #[part5, .pointer (some ⟨g, 0, none⟩), .int .i64 (fbits c.kind)] w fun e w' => e = .returned (.tuple #[.bool true, .bool true]) ∧ Mod Non w w' := by
  have hc := hb.cell 4
  have hg := hb.lt
  have hk := kinds hok
  obtain ⟨kind, client, seq, key, val, old, node⟩ := c
  have h1 := hok.own
  have h2 := hok.non
  have h3 := hok.val
  have h4 := hok.old
  have h5 := hok.node
  simp only at hk h1 h2 h3 h4 h5
  have hc' : w.cell? ⟨g, 4, none⟩ = some (.string val) := by rw [hc]; rfl
  rcases hk with rfl | rfl | rfl | rfl | rfl | rfl | rfl | rfl
  · have hv : val.toList = [] := (by simpa using h3)
    refine (text5_off 0 val g w (by decide) hc' hg).mono ?_
    rintro e w' ⟨rfl, hm⟩
    exact ⟨by rw [hv]; rfl, hm⟩
  · have hv : valB val = true := (by simpa using h3)
    refine (text5_on 11 val g w (by decide) hc' hg hT).mono ?_
    rintro e w' ⟨rfl, hm⟩
    exact ⟨by rw [hv], hm⟩
  · have hv : val.toList = [] := (by simpa using h3)
    refine (text5_off 3 val g w (by decide) hc' hg).mono ?_
    rintro e w' ⟨rfl, hm⟩
    exact ⟨by rw [hv]; rfl, hm⟩
  · have hv : val.toList = [] := (by simpa using h3)
    refine (text5_off 3 val g w (by decide) hc' hg).mono ?_
    rintro e w' ⟨rfl, hm⟩
    exact ⟨by rw [hv]; rfl, hm⟩
  · have hv : valB val = true := (by simpa using h3)
    refine (text5_on 15 val g w (by decide) hc' hg hT).mono ?_
    rintro e w' ⟨rfl, hm⟩
    exact ⟨by rw [hv], hm⟩
  · have hv : val.toList = [] := (by simpa using h3)
    refine (text5_off 0 val g w (by decide) hc' hg).mono ?_
    rintro e w' ⟨rfl, hm⟩
    exact ⟨by rw [hv]; rfl, hm⟩
  · have hv : val.toList = [] := (by simpa using h3)
    refine (text5_off 16 val g w (by decide) hc' hg).mono ?_
    rintro e w' ⟨rfl, hm⟩
    exact ⟨by rw [hv]; rfl, hm⟩
  · have hv : val.toList = [] := (by simpa using h3)
    refine (text5_off 16 val g w (by decide) hc' hg).mono ?_
    rintro e w' ⟨rfl, hm⟩
    exact ⟨by rw [hv]; rfl, hm⟩

theorem numberOk6 (c : Cm) (hok : c.Ok) (g : Nat) (w : World) (hb : Blk w g 33 c.cells.toArray) : Calls Tryz.prog 93 #[part6, .pointer (some ⟨g, 0, none⟩), .int .i64 (fbits c.kind)] w fun e w' => e = .returned (.tuple #[.bool true, .bool true]) ∧ Mod Non w w' := by
  have hc := hb.cell 6
  have hg := hb.lt
  have hk := kinds hok
  obtain ⟨kind, client, seq, key, val, old, node⟩ := c
  have h1 := hok.own
  have h2 := hok.non
  have h3 := hok.val
  have h4 := hok.old
  have h5 := hok.node
  simp only at hk h1 h2 h3 h4 h5
  have hc' : w.cell? ⟨g, 6, none⟩ = some (.int .i64 node) := by rw [hc]; rfl
  rcases hk with rfl | rfl | rfl | rfl | rfl | rfl | rfl | rfl
  · have hv : node = 0 := (by simpa using h5)
    refine (number6_off 0 node g w (by decide) hc' hg).mono ?_
    rintro e w' ⟨rfl, hm⟩
    exact ⟨by rw [hv]; rfl, hm⟩
  · have hv : node = 0 := (by simpa using h5)
    refine (number6_off 11 node g w (by decide) hc' hg).mono ?_
    rintro e w' ⟨rfl, hm⟩
    exact ⟨by rw [hv]; rfl, hm⟩
  · have hv : node = 0 := (by simpa using h5)
    refine (number6_off 3 node g w (by decide) hc' hg).mono ?_
    rintro e w' ⟨rfl, hm⟩
    exact ⟨by rw [hv]; rfl, hm⟩
  · have hv : node = 0 := (by simpa using h5)
    refine (number6_off 3 node g w (by decide) hc' hg).mono ?_
    rintro e w' ⟨rfl, hm⟩
    exact ⟨by rw [hv]; rfl, hm⟩
  · have hv : node = 0 := (by simpa using h5)
    refine (number6_off 15 node g w (by decide) hc' hg).mono ?_
    rintro e w' ⟨rfl, hm⟩
    exact ⟨by rw [hv]; rfl, hm⟩
  · have hv : node = 0 := (by simpa using h5)
    refine (number6_off 0 node g w (by decide) hc' hg).mono ?_
    rintro e w' ⟨rfl, hm⟩
    exact ⟨by rw [hv]; rfl, hm⟩
  · have hv : 1 ≤ node ∧ node ≤ 9 := (by simpa using h5)
    refine (number6_on 16 node g w (by decide) hc' hg).mono ?_
    rintro e w' ⟨rfl, hm⟩
    exact ⟨by simp [hv.1, hv.2], hm⟩
  · have hv : 1 ≤ node ∧ node ≤ 9 := (by simpa using h5)
    refine (number6_on 16 node g w (by decide) hc' hg).mono ?_
    rintro e w' ⟨rfl, hm⟩
    exact ⟨by simp [hv.1, hv.2], hm⟩

theorem textOk6 (c : Cm) (g : Nat) (w : World) : Calls Tryz.prog 94 #[part6, .pointer (some ⟨g, 0, none⟩), .int .i64 (fbits c.kind)] w fun e w' => e = .returned (.tuple #[.bool true, .bool true]) ∧ Mod Non w w' := text6_any _ g w

set_option maxRecDepth 100000 in
set_option maxHeartbeats 8000000 in
theorem cmd_Check (c : Cm) (hok : c.Ok) (w : World) (hT : T8 w) : Calls Tryz.prog 50 #[c.v] w fun e w' => e = .returned (.int .i64 0) ∧ Mod Non w w' := by
  have hf := cmd_fields c.kind
  have hkn : fknown c.kind = true := by rcases kinds hok with h | h | h | h | h | h | h | h <;> rw [h] <;> rfl
  rw [hkn] at hf
  obtain ⟨f, hfb⟩ : ∃ f, f = fbits c.kind := ⟨_, rfl⟩
  rw [← hfb] at hf
  have n1 := fun g W => numberOk1 c hok g W
  have t1 := fun g W => textOk1 c g W
  rw [← hfb] at n1 t1
  have n2 := fun g W => numberOk2 c hok g W
  have t2 := fun g W => textOk2 c g W
  rw [← hfb] at n2 t2
  have n3 := fun g W => numberOk3 c g W
  have t3 := fun g W => textOk3 c hok g W
  rw [← hfb] at n3 t3
  have n4 := fun g W => numberOk4 c g W
  have t4 := fun g W => textOk4 c hok g W
  rw [← hfb] at n4 t4
  have n5 := fun g W => numberOk5 c g W
  have t5 := fun g W => textOk5 c hok g W
  rw [← hfb] at n5 t5
  have n6 := fun g W => numberOk6 c hok g W
  have t6 := fun g W => textOk6 c g W
  rw [← hfb] at n6 t6
  clear hkn
  have N1 := Lib.hid n1
  have T1 := Lib.hid t1
  have N2 := Lib.hid n2
  have T2 := Lib.hid t2
  have N3 := Lib.hid n3
  have T3 := Lib.hid t3
  have N4 := Lib.hid n4
  have T4 := Lib.hid t4
  have N5 := Lib.hid n5
  have T5 := Lib.hid t5
  have N6 := Lib.hid n6
  have T6 := Lib.hid t6
  have HF := Lib.hid hf
  clear hf hfb hok n1 t1 n2 t2 n3 t3 n4 t4 n5 t5 n6 t6
  have b0 := Blk.new w 33 c.cells.toArray
  have m0 := (Mod.refl Non w).alloc (.cells c.cells.toArray 33)
  obtain ⟨kind, client, seq, key, val, old, node⟩ := c
  go_enter Tryz.func50, Tryz.ntmps50
  go_wp2_with fail
  refine (HF.out _).mono ?_
  rintro e w1 ⟨rfl, rfl⟩
  go_wp2_with fail
  refine (cmd_parts _).mono ?_
  rintro e w1 ⟨rfl, hw1⟩
  have b1 : Blk w1 w.heap.size 33 (Cm.cells ⟨kind, client, seq, key, val, old, node⟩).toArray := by rw [hw1]; exact b0.alloc _
  have p1 : Blk w1 (w.heap.size + 1) 138 pcells := by rw [hw1]; exact Blk.new1 w _ _ _
  have m1 : Mod Non w w1 := by rw [hw1]; exact m0.alloc _
  clear hw1 b0 m0
  go_wp2_with fail
  refine wp_loop_rounds 7 ?_
  rw [rounds_succ]
  have pc0 := p1.cell 0
  have pc1 := p1.cell 1
  have pc2 := p1.cell 2
  have pc3 := p1.cell 3
  simp [pcells] at pc0 pc1 pc2 pc3
  have hsA := store_any (w1.alloc (.cells #[.int .i64 1, .int .i64 8, .nilFunc, .nilFunc] 138)) w1.heap.size 2 (.nilFunc) .nilFunc rfl (by simp) (by simp)
  have hsB := store_any (w1.alloc (.cells #[.int .i64 1, .int .i64 8, .nilFunc, .nilFunc] 138)) w1.heap.size 3 (.func (.func 120) #[] #[]) .nilFunc rfl (by simp) (by simp)
  have ba := b1.alloc (.cells #[.int .i64 1, .int .i64 8, .nilFunc, .func (.func 120) #[] #[]] 138)
  have pa := p1.alloc (.cells #[.int .i64 1, .int .i64 8, .nilFunc, .func (.func 120) #[] #[]] 138)
  have ma := m1.alloc (.cells #[.int .i64 1, .int .i64 8, .nilFunc, .func (.func 120) #[] #[]] 138)
  have na := Blk.new w1 138 #[.int .i64 1, .int .i64 8, .nilFunc, .func (.func 120) #[] #[]]
  clear b1 p1 m1
  go_wp2_with fail
  refine (N1.out _ _ ba).mono ?_
  rintro e u1 ⟨rfl, hmu⟩
  have bu := ba.mod hmu (fun h => h)
  have pu := pa.mod hmu (fun h => h)
  have nu := na.mod hmu (fun h => h)
  have mu := ma.trans' hmu
  have nc0 := nu.cell 0
  have nc1 := nu.cell 1
  have nc2 := nu.cell 2
  have nc3 := nu.cell 3
  simp at nc0 nc1 nc2 nc3
  clear pc0 pc1 pc2 pc3 hsA hsB ba pa ma na hmu
  go_wp2_with fail
  refine (T1.out _ _).mono ?_
  rintro e w2 ⟨rfl, hmv⟩
  have b2 := bu.mod hmv (fun h => h)
  have p2 := pu.mod hmv (fun h => h)
  have m2 := mu.trans' hmv
  clear bu pu nu mu hmv nc0 nc1 nc2 nc3
  go_wp2
  rw [rounds_succ]
  have pc0 := p2.cell 4
  have pc1 := p2.cell 5
  have pc2 := p2.cell 6
  have pc3 := p2.cell 7
  simp [pcells] at pc0 pc1 pc2 pc3
  have hsA := store_any (w2.alloc (.cells #[.int .i64 1, .int .i64 4294967296, .nilFunc, .nilFunc] 138)) w2.heap.size 2 (.nilFunc) .nilFunc rfl (by simp) (by simp)
  have hsB := store_any (w2.alloc (.cells #[.int .i64 1, .int .i64 4294967296, .nilFunc, .nilFunc] 138)) w2.heap.size 3 (.func (.func 121) #[] #[]) .nilFunc rfl (by simp) (by simp)
  have ba := b2.alloc (.cells #[.int .i64 1, .int .i64 4294967296, .nilFunc, .func (.func 121) #[] #[]] 138)
  have pa := p2.alloc (.cells #[.int .i64 1, .int .i64 4294967296, .nilFunc, .func (.func 121) #[] #[]] 138)
  have ma := m2.alloc (.cells #[.int .i64 1, .int .i64 4294967296, .nilFunc, .func (.func 121) #[] #[]] 138)
  have na := Blk.new w2 138 #[.int .i64 1, .int .i64 4294967296, .nilFunc, .func (.func 121) #[] #[]]
  clear b2 p2 m2
  go_wp2_with fail
  refine (N2.out _ _ ba).mono ?_
  rintro e u2 ⟨rfl, hmu⟩
  have bu := ba.mod hmu (fun h => h)
  have pu := pa.mod hmu (fun h => h)
  have nu := na.mod hmu (fun h => h)
  have mu := ma.trans' hmu
  have nc0 := nu.cell 0
  have nc1 := nu.cell 1
  have nc2 := nu.cell 2
  have nc3 := nu.cell 3
  simp at nc0 nc1 nc2 nc3
  clear pc0 pc1 pc2 pc3 hsA hsB ba pa ma na hmu
  go_wp2_with fail
  refine (T2.out _ _).mono ?_
  rintro e w3 ⟨rfl, hmv⟩
  have b3 := bu.mod hmv (fun h => h)
  have p3 := pu.mod hmv (fun h => h)
  have m3 := mu.trans' hmv
  clear bu pu nu mu hmv nc0 nc1 nc2 nc3
  go_wp2
  rw [rounds_succ]
  have pc0 := p3.cell 8
  have pc1 := p3.cell 9
  have pc2 := p3.cell 10
  have pc3 := p3.cell 11
  simp [pcells] at pc0 pc1 pc2 pc3
  have hsA := store_any (w3.alloc (.cells #[.int .i64 2, .int .i64 0, .nilFunc, .nilFunc] 138)) w3.heap.size 2 (.func (.func 108) #[] #[]) .nilFunc rfl (by simp) (by simp)
  have hsB := store_any (w3.alloc (.cells #[.int .i64 2, .int .i64 0, .func (.func 108) #[] #[], .nilFunc] 138)) w3.heap.size 3 (.func (.func 122) #[] #[]) .nilFunc rfl (by simp) (by simp)
  have ba := b3.alloc (.cells #[.int .i64 2, .int .i64 0, .func (.func 108) #[] #[], .func (.func 122) #[] #[]] 138)
  have pa := p3.alloc (.cells #[.int .i64 2, .int .i64 0, .func (.func 108) #[] #[], .func (.func 122) #[] #[]] 138)
  have ma := m3.alloc (.cells #[.int .i64 2, .int .i64 0, .func (.func 108) #[] #[], .func (.func 122) #[] #[]] 138)
  have na := Blk.new w3 138 #[.int .i64 2, .int .i64 0, .func (.func 108) #[] #[], .func (.func 122) #[] #[]]
  clear b3 p3 m3
  go_wp2_with fail
  refine (N3.out _ _).mono ?_
  rintro e u3 ⟨rfl, hmu⟩
  have bu := ba.mod hmu (fun h => h)
  have pu := pa.mod hmu (fun h => h)
  have nu := na.mod hmu (fun h => h)
  have mu := ma.trans' hmu
  have nc0 := nu.cell 0
  have nc1 := nu.cell 1
  have nc2 := nu.cell 2
  have nc3 := nu.cell 3
  simp at nc0 nc1 nc2 nc3
  clear pc0 pc1 pc2 pc3 hsA hsB ba pa ma na hmu
  go_wp2_with fail
  refine (T3.out _ _ bu (hT.non mu)).mono ?_
  rintro e w4 ⟨rfl, hmv⟩
  have b4 := bu.mod hmv (fun h => h)
  have p4 := pu.mod hmv (fun h => h)
  have m4 := mu.trans' hmv
  clear bu pu nu mu hmv nc0 nc1 nc2 nc3
  go_wp2
  rw [rounds_succ]
  have pc0 := p4.cell 12
  have pc1 := p4.cell 13
  have pc2 := p4.cell 14
  have pc3 := p4.cell 15
  simp [pcells] at pc0 pc1 pc2 pc3
  have hsA := store_any (w4.alloc (.cells #[.int .i64 4, .int .i64 0, .nilFunc, .nilFunc] 138)) w4.heap.size 2 (.func (.func 109) #[] #[]) .nilFunc rfl (by simp) (by simp)
  have hsB := store_any (w4.alloc (.cells #[.int .i64 4, .int .i64 0, .func (.func 109) #[] #[], .nilFunc] 138)) w4.heap.size 3 (.func (.func 123) #[] #[]) .nilFunc rfl (by simp) (by simp)
  have ba := b4.alloc (.cells #[.int .i64 4, .int .i64 0, .func (.func 109) #[] #[], .func (.func 123) #[] #[]] 138)
  have pa := p4.alloc (.cells #[.int .i64 4, .int .i64 0, .func (.func 109) #[] #[], .func (.func 123) #[] #[]] 138)
  have ma := m4.alloc (.cells #[.int .i64 4, .int .i64 0, .func (.func 109) #[] #[], .func (.func 123) #[] #[]] 138)
  have na := Blk.new w4 138 #[.int .i64 4, .int .i64 0, .func (.func 109) #[] #[], .func (.func 123) #[] #[]]
  clear b4 p4 m4
  go_wp2_with fail
  refine (N4.out _ _).mono ?_
  rintro e u4 ⟨rfl, hmu⟩
  have bu := ba.mod hmu (fun h => h)
  have pu := pa.mod hmu (fun h => h)
  have nu := na.mod hmu (fun h => h)
  have mu := ma.trans' hmu
  have nc0 := nu.cell 0
  have nc1 := nu.cell 1
  have nc2 := nu.cell 2
  have nc3 := nu.cell 3
  simp at nc0 nc1 nc2 nc3
  clear pc0 pc1 pc2 pc3 hsA hsB ba pa ma na hmu
  go_wp2_with fail
  refine (T4.out _ _ bu (hT.non mu)).mono ?_
  rintro e w5 ⟨rfl, hmv⟩
  have b5 := bu.mod hmv (fun h => h)
  have p5 := pu.mod hmv (fun h => h)
  have m5 := mu.trans' hmv
  clear bu pu nu mu hmv nc0 nc1 nc2 nc3
  go_wp2
  rw [rounds_succ]
  have pc0 := p5.cell 16
  have pc1 := p5.cell 17
  have pc2 := p5.cell 18
  have pc3 := p5.cell 19
  simp [pcells] at pc0 pc1 pc2 pc3
  have hsA := store_any (w5.alloc (.cells #[.int .i64 8, .int .i64 0, .nilFunc, .nilFunc] 138)) w5.heap.size 2 (.func (.func 109) #[] #[]) .nilFunc rfl (by simp) (by simp)
  have hsB := store_any (w5.alloc (.cells #[.int .i64 8, .int .i64 0, .func (.func 109) #[] #[], .nilFunc] 138)) w5.heap.size 3 (.func (.func 124) #[] #[]) .nilFunc rfl (by simp) (by simp)
  have ba := b5.alloc (.cells #[.int .i64 8, .int .i64 0, .func (.func 109) #[] #[], .func (.func 124) #[] #[]] 138)
  have pa := p5.alloc (.cells #[.int .i64 8, .int .i64 0, .func (.func 109) #[] #[], .func (.func 124) #[] #[]] 138)
  have ma := m5.alloc (.cells #[.int .i64 8, .int .i64 0, .func (.func 109) #[] #[], .func (.func 124) #[] #[]] 138)
  have na := Blk.new w5 138 #[.int .i64 8, .int .i64 0, .func (.func 109) #[] #[], .func (.func 124) #[] #[]]
  clear b5 p5 m5
  go_wp2_with fail
  refine (N5.out _ _).mono ?_
  rintro e u5 ⟨rfl, hmu⟩
  have bu := ba.mod hmu (fun h => h)
  have pu := pa.mod hmu (fun h => h)
  have nu := na.mod hmu (fun h => h)
  have mu := ma.trans' hmu
  have nc0 := nu.cell 0
  have nc1 := nu.cell 1
  have nc2 := nu.cell 2
  have nc3 := nu.cell 3
  simp at nc0 nc1 nc2 nc3
  clear pc0 pc1 pc2 pc3 hsA hsB ba pa ma na hmu
  go_wp2_with fail
  refine (T5.out _ _ bu (hT.non mu)).mono ?_
  rintro e w6 ⟨rfl, hmv⟩
  have b6 := bu.mod hmv (fun h => h)
  have p6 := pu.mod hmv (fun h => h)
  have m6 := mu.trans' hmv
  clear bu pu nu mu hmv nc0 nc1 nc2 nc3
  go_wp2
  rw [rounds_succ]
  have pc0 := p6.cell 20
  have pc1 := p6.cell 21
  have pc2 := p6.cell 22
  have pc3 := p6.cell 23
  simp [pcells] at pc0 pc1 pc2 pc3
  have hsA := store_any (w6.alloc (.cells #[.int .i64 16, .int .i64 9, .nilFunc, .nilFunc] 138)) w6.heap.size 2 (.nilFunc) .nilFunc rfl (by simp) (by simp)
  have hsB := store_any (w6.alloc (.cells #[.int .i64 16, .int .i64 9, .nilFunc, .nilFunc] 138)) w6.heap.size 3 (.func (.func 125) #[] #[]) .nilFunc rfl (by simp) (by simp)
  have ba := b6.alloc (.cells #[.int .i64 16, .int .i64 9, .nilFunc, .func (.func 125) #[] #[]] 138)
  have pa := p6.alloc (.cells #[.int .i64 16, .int .i64 9, .nilFunc, .func (.func 125) #[] #[]] 138)
  have ma := m6.alloc (.cells #[.int .i64 16, .int .i64 9, .nilFunc, .func (.func 125) #[] #[]] 138)
  have na := Blk.new w6 138 #[.int .i64 16, .int .i64 9, .nilFunc, .func (.func 125) #[] #[]]
  clear b6 p6 m6
  go_wp2_with fail
  refine (N6.out _ _ ba).mono ?_
  rintro e u6 ⟨rfl, hmu⟩
  have bu := ba.mod hmu (fun h => h)
  have pu := pa.mod hmu (fun h => h)
  have nu := na.mod hmu (fun h => h)
  have mu := ma.trans' hmu
  have nc0 := nu.cell 0
  have nc1 := nu.cell 1
  have nc2 := nu.cell 2
  have nc3 := nu.cell 3
  simp at nc0 nc1 nc2 nc3
  clear pc0 pc1 pc2 pc3 hsA hsB ba pa ma na hmu
  go_wp2_with fail
  refine (T6.out _ _).mono ?_
  rintro e w7 ⟨rfl, hmv⟩
  have b7 := bu.mod hmv (fun h => h)
  have p7 := pu.mod hmv (fun h => h)
  have m7 := mu.trans' hmv
  clear bu pu nu mu hmv nc0 nc1 nc2 nc3
  go_wp2
  rw [rounds_succ]
  go_wp2
  go_ret
  exact ⟨rfl, m7⟩
end Go.Proofs.YtdclfdinhdaadaaGreatDoor
