/- The program's data as plain structures: answers, sessions, pairs, commands. Plain Lean. -/
import Derived.Test.YtdclfdinhdaadaaGreatDoorWriter
namespace Go.Proofs.YtdclfdinhdaadaaGreatDoor
open Go.RowKit

structure An where
  client : Int
  seq : Int
  err : Int
  found : Bool
  val : ByteArray
  rev : Int
deriving DecidableEq
structure Se where
  client : Int
  seq : Int
  last : An
deriving DecidableEq
structure Pa where
  key : ByteArray
  val : ByteArray
  rev : Int
deriving DecidableEq
structure Cm where
  kind : Int
  client : Int
  seq : Int
  key : ByteArray
  val : ByteArray
  old : ByteArray
  node : Int
deriving DecidableEq

def An.cells (a : An) : List Value := [.int .i64 a.client, .int .i64 a.seq, .int .i64 a.err, .bool a.found, .string a.val, .int .i64 a.rev]
def Se.cells (s : Se) : List Value := [.int .i64 s.client, .int .i64 s.seq, .int .i64 s.last.client, .int .i64 s.last.seq, .int .i64 s.last.err, .bool s.last.found, .string s.last.val, .int .i64 s.last.rev]
def Pa.cells (p : Pa) : List Value := [.string p.key, .string p.val, .int .i64 p.rev]
def Cm.cells (c : Cm) : List Value := [.int .i64 c.kind, .int .i64 c.client, .int .i64 c.seq, .string c.key, .string c.val, .string c.old, .int .i64 c.node]
abbrev An.v (a : An) : Value := .agg #[.int .i64 a.client, .int .i64 a.seq, .int .i64 a.err, .bool a.found, .string a.val, .int .i64 a.rev]
abbrev Se.v (s : Se) : Value := .agg #[.int .i64 s.client, .int .i64 s.seq, .int .i64 s.last.client, .int .i64 s.last.seq, .int .i64 s.last.err, .bool s.last.found, .string s.last.val, .int .i64 s.last.rev]
abbrev Pa.v (p : Pa) : Value := .agg #[.string p.key, .string p.val, .int .i64 p.rev]
abbrev Cm.v (c : Cm) : Value := .agg #[.int .i64 c.kind, .int .i64 c.client, .int .i64 c.seq, .string c.key, .string c.val, .string c.old, .int .i64 c.node]

def ecs (l : List Se) : List Value := l.flatMap Se.cells
def pcs (l : List Pa) : List Value := l.flatMap Pa.cells
def ccs (l : List Cm) : List Value := l.flatMap Cm.cells
def acs (l : List An) : List Value := l.flatMap An.cells

theorem flat_length {α β : Type} (f : α → List β) (s : Nat) (l : List α) (hf : ∀ x, (f x).length = s) : (l.flatMap f).length = l.length * s := by
  induction l with
  | nil => simp
  | cons a l ih => rw [List.flatMap_cons, List.length_append, hf, ih, List.length_cons, Nat.succ_mul]; omega
theorem ecs_length (l : List Se) : (ecs l).length = l.length * 8 := flat_length _ _ _ fun _ => rfl
theorem pcs_length (l : List Pa) : (pcs l).length = l.length * 3 := flat_length _ _ _ fun _ => rfl
theorem ccs_length (l : List Cm) : (ccs l).length = l.length * 7 := flat_length _ _ _ fun _ => rfl
theorem acs_length (l : List An) : (acs l).length = l.length * 6 := flat_length _ _ _ fun _ => rfl

theorem flat_get {α β : Type} (f : α → List β) (s : Nat) (l : List α) (hf : ∀ x, (f x).length = s) {i : Nat} {x : α} (hx : l[i]? = some x) (r : Nat) (hr : r < s) : (l.flatMap f)[i * s + r]? = (f x)[r]? := by
  induction l generalizing i with
  | nil => simp at hx
  | cons a l ih =>
    rw [List.flatMap_cons]
    cases i with
    | zero =>
      simp at hx
      subst hx
      rw [Nat.zero_mul, Nat.zero_add, List.getElem?_append_left (by rw [hf]; exact hr)]
    | succ i =>
      simp at hx
      rw [List.getElem?_append_right (by rw [hf, Nat.succ_mul]; omega), hf, ← ih hx]
      congr 1
      rw [Nat.succ_mul]; omega

section
variable {w : World} {R : Nat → Prop} {A : Option Addr} {n k : Nat}
/-- the cells of a pair -/
theorem Reads.pa {ps : List Pa} (hr : Reads w R 3 A n (pcs ps)) (hk : k < n) :
    ∃ b off p, A = some ⟨b, off, none⟩ ∧ b < w.heap.size ∧ R b ∧ ps[k]? = some p ∧ w.cell? ⟨b, off + k * 3, none⟩ = some (.string p.key) ∧ w.cell? ⟨b, off + k * 3 + 1, none⟩ = some (.string p.val) ∧
      w.cell? ⟨b, off + k * 3 + 2, none⟩ = some (.int .i64 p.rev) := by
  have hl := hr.1
  rw [pcs_length] at hl
  have hkq : k < ps.length := by omega
  obtain ⟨b, off, hA, hb, hR, hc⟩ := hr.row (by omega) (by rw [pcs_length]; omega)
  have hx := List.getElem?_eq_getElem hkq
  have p : ∀ r, r < 3 → (pcs ps)[k * 3 + r]? = (ps[k].cells)[r]? := fun r h => flat_get Pa.cells 3 ps (fun _ => rfl) hx r h
  exact ⟨b, off, ps[k], hA, hb, hR, hx, hc _ _ (p 0 (by omega)), by simpa [Nat.add_assoc] using hc _ _ (p 1 (by omega)), by simpa [Nat.add_assoc] using hc _ _ (p 2 (by omega))⟩
/-- the cells of a session -/
theorem Reads.se {ss : List Se} (hr : Reads w R 8 A n (ecs ss)) (hk : k < n) :
    ∃ b off s, A = some ⟨b, off, none⟩ ∧ b < w.heap.size ∧ R b ∧ ss[k]? = some s ∧ w.cell? ⟨b, off + k * 8, none⟩ = some (.int .i64 s.client) ∧ w.cell? ⟨b, off + k * 8 + 1, none⟩ = some (.int .i64 s.seq) ∧
      w.cell? ⟨b, off + k * 8 + 2, none⟩ = some (.int .i64 s.last.client) ∧ w.cell? ⟨b, off + k * 8 + 3, none⟩ = some (.int .i64 s.last.seq) ∧ w.cell? ⟨b, off + k * 8 + 4, none⟩ = some (.int .i64 s.last.err) ∧
      w.cell? ⟨b, off + k * 8 + 5, none⟩ = some (.bool s.last.found) ∧ w.cell? ⟨b, off + k * 8 + 6, none⟩ = some (.string s.last.val) ∧ w.cell? ⟨b, off + k * 8 + 7, none⟩ = some (.int .i64 s.last.rev) := by
  have hl := hr.1
  rw [ecs_length] at hl
  have hkq : k < ss.length := by omega
  obtain ⟨b, off, hA, hb, hR, hc⟩ := hr.row (by omega) (by rw [ecs_length]; omega)
  have hx := List.getElem?_eq_getElem hkq
  have p : ∀ r, r < 8 → (ecs ss)[k * 8 + r]? = (ss[k].cells)[r]? := fun r h => flat_get Se.cells 8 ss (fun _ => rfl) hx r h
  exact ⟨b, off, ss[k], hA, hb, hR, hx, hc _ _ (p 0 (by omega)), by simpa [Nat.add_assoc] using hc _ _ (p 1 (by omega)), by simpa [Nat.add_assoc] using hc _ _ (p 2 (by omega)), by simpa [Nat.add_assoc] using hc _ _ (p 3 (by omega)),
    by simpa [Nat.add_assoc] using hc _ _ (p 4 (by omega)), by simpa [Nat.add_assoc] using hc _ _ (p 5 (by omega)), by simpa [Nat.add_assoc] using hc _ _ (p 6 (by omega)), by simpa [Nat.add_assoc] using hc _ _ (p 7 (by omega))⟩
/-- the cells of a command -/
theorem Reads.cm {cs : List Cm} (hr : Reads w R 7 A n (ccs cs)) (hk : k < n) :
    ∃ b off c, A = some ⟨b, off, none⟩ ∧ b < w.heap.size ∧ R b ∧ cs[k]? = some c ∧ w.cell? ⟨b, off + k * 7, none⟩ = some (.int .i64 c.kind) ∧ w.cell? ⟨b, off + k * 7 + 1, none⟩ = some (.int .i64 c.client) ∧
      w.cell? ⟨b, off + k * 7 + 2, none⟩ = some (.int .i64 c.seq) ∧ w.cell? ⟨b, off + k * 7 + 3, none⟩ = some (.string c.key) ∧ w.cell? ⟨b, off + k * 7 + 4, none⟩ = some (.string c.val) ∧
      w.cell? ⟨b, off + k * 7 + 5, none⟩ = some (.string c.old) ∧ w.cell? ⟨b, off + k * 7 + 6, none⟩ = some (.int .i64 c.node) := by
  have hl := hr.1
  rw [ccs_length] at hl
  have hkq : k < cs.length := by omega
  obtain ⟨b, off, hA, hb, hR, hc⟩ := hr.row (by omega) (by rw [ccs_length]; omega)
  have hx := List.getElem?_eq_getElem hkq
  have p : ∀ r, r < 7 → (ccs cs)[k * 7 + r]? = (cs[k].cells)[r]? := fun r h => flat_get Cm.cells 7 cs (fun _ => rfl) hx r h
  exact ⟨b, off, cs[k], hA, hb, hR, hx, hc _ _ (p 0 (by omega)), by simpa [Nat.add_assoc] using hc _ _ (p 1 (by omega)), by simpa [Nat.add_assoc] using hc _ _ (p 2 (by omega)), by simpa [Nat.add_assoc] using hc _ _ (p 3 (by omega)),
    by simpa [Nat.add_assoc] using hc _ _ (p 4 (by omega)), by simpa [Nat.add_assoc] using hc _ _ (p 5 (by omega)), by simpa [Nat.add_assoc] using hc _ _ (p 6 (by omega))⟩
/-- the cells of an answer -/
theorem Reads.an {ans : List An} (hr : Reads w R 6 A n (acs ans)) (hk : k < n) :
    ∃ b off a, A = some ⟨b, off, none⟩ ∧ b < w.heap.size ∧ R b ∧ ans[k]? = some a ∧ w.cell? ⟨b, off + k * 6, none⟩ = some (.int .i64 a.client) ∧ w.cell? ⟨b, off + k * 6 + 1, none⟩ = some (.int .i64 a.seq) ∧
      w.cell? ⟨b, off + k * 6 + 2, none⟩ = some (.int .i64 a.err) ∧ w.cell? ⟨b, off + k * 6 + 3, none⟩ = some (.bool a.found) ∧ w.cell? ⟨b, off + k * 6 + 4, none⟩ = some (.string a.val) ∧
      w.cell? ⟨b, off + k * 6 + 5, none⟩ = some (.int .i64 a.rev) := by
  have hl := hr.1
  rw [acs_length] at hl
  have hkq : k < ans.length := by omega
  obtain ⟨b, off, hA, hb, hR, hc⟩ := hr.row (by omega) (by rw [acs_length]; omega)
  have hx := List.getElem?_eq_getElem hkq
  have p : ∀ r, r < 6 → (acs ans)[k * 6 + r]? = (ans[k].cells)[r]? := fun r h => flat_get An.cells 6 ans (fun _ => rfl) hx r h
  exact ⟨b, off, ans[k], hA, hb, hR, hx, hc _ _ (p 0 (by omega)), by simpa [Nat.add_assoc] using hc _ _ (p 1 (by omega)), by simpa [Nat.add_assoc] using hc _ _ (p 2 (by omega)), by simpa [Nat.add_assoc] using hc _ _ (p 3 (by omega)),
    by simpa [Nat.add_assoc] using hc _ _ (p 4 (by omega)), by simpa [Nat.add_assoc] using hc _ _ (p 5 (by omega))⟩
end

/-- An answer's bytes, in a schema. -/
def aenc (v : Int) (a : An) : List UInt8 :=
  vbytes a.client.toNat ++ vbytes a.seq.toNat ++ vbytes a.err.toNat ++ [if a.found = true then 1 else 0] ++ vbytes a.val.size ++ a.val.data.toList ++ (if v = 1 then [] else vbytes a.rev.toNat)

/-- the bounds of an answer that may be, its text's runes aside -/
structure An.Ok (a : An) : Prop where
  client : 1 ≤ a.client ∧ a.client ≤ 8
  seq : 1 ≤ a.seq ∧ a.seq ≤ 4294967296
  err : 0 ≤ a.err ∧ a.err ≤ 17
  val : a.val.size ≤ 48
  rev : 0 ≤ a.rev ∧ a.rev ≤ 4294967296

theorem vbytes_five {n : Nat} (h : n ≤ 4294967296) : (vbytes n).length ≤ 5 := vbytes_le 4 n (by omega)
end Go.Proofs.YtdclfdinhdaadaaGreatDoor
