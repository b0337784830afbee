/- copy, append in place and clear at a row whose block is known whole: any program, elements of any number of cells. -/
import Derived.Test.YtdclfdinhdaadaaGreatDoorCopyG
import Derived.Laws.CopyOwn
import Derived.Lib.Overlaps
import Derived.Lib.AppendZerosOnto
import Derived.Deep.RegionLaw
import Derived.Shelf.Spec.SlicesInsert
namespace Go.Proofs.YtdclfdinhdaadaaGreatDoor
open Go.RowKit

section
variable {P : Program} {w : World} {g off : Nat} {t e : TypeId} {cur cs : List Value}
theorem run_store_spl (hb : Blk w g t cur.toArray) (hfit : off + cs.length ≤ cur.length) (h1 : ∀ v ∈ cs, v.oneCell' = true) :
    ∃ w', (storeCells ⟨g, off, none⟩ cs).run P w = .ok () w' ∧ Blk w' g t (splice cur off cs).toArray ∧ Mod (One g) w w' := by
  have hst := run_storeCells_at P g off t cs 0 cur.toArray w hb (by simpa using hfit) h1
  refine ⟨_, hst, ?_, ⟨rfl, rfl, rfl, by simp [World.setRow], fun k _ hn => setRow_other w g k _ (fun h => hn h)⟩⟩
  have := setRow_heap w g cur.toArray (cur.toArray.toList.take (off + 0) ++ cs ++ cur.toArray.toList.drop (off + 0 + cs.length)).toArray t (0, 0) hb
  simpa [Blk, splice] using this

theorem run_copy_at (dT sT ty : TypeId) (sz n c sn sc k : Nat) (hu : P.underlying dT = some (.slice e)) (hs : (P.info? e).map (·.size) = some sz) (hk : Nat.min sn n = k) (hk0 : 0 < k) (A : Option Addr) (R : Nat → Prop)
    (hb : Blk w g t cur.toArray) (hr : Reads w R sz A k cs) (h1 : ∀ v ∈ cs, v.oneCell' = true) (hfit : off + cs.length ≤ cur.length) :
    ∃ w', (Builtin.copy_ #[dT, sT] ty #[.slice (some ⟨g, off, none⟩) n c, .slice A sn sc]).run P w = .ok (goInt k) w' ∧ Blk w' g t (splice cur off cs).toArray ∧ Mod (One g) w w' := by
  obtain ⟨w', hst, hb', hm'⟩ := run_store_spl (P := P) hb hfit h1
  refine ⟨w', ?_, hb', hm'⟩
  obtain ⟨ad, rfl, _, _, hc⟩ := hr.2 hk0
  have hl := run_loadCells_list (P := P) w ad cs hc
  cases hq : P.info? e with
  | none => simp [hq] at hs
  | some i =>
    have hi : i.size = sz := by simpa [hq] using hs
    simp [Builtin.copy_, run_underlying hu, Builtin.lenOf, Builtin.firstCells, sizeOf, typeInfo, hq, hi, hk, ← hr.1, hl, hst]

theorem wpList_copy_at {ops : Array Oper} {rest : List Oper} {o : Oper} {a : Act} {Q : Exit → Act → World → Prop} (hgd : o.guard = none) (d s : Operand) (dT sT : TypeId)
    (ho : o.op = .call { callee := .builtin .copy, args := #[d, s], argTypes := #[dT, sT] }) (sz n c sn sc k : Nat) (hu : P.underlying dT = some (.slice e)) (hs : (P.info? e).map (·.size) = some sz) (hk : Nat.min sn n = k) (hk0 : 0 < k) (A : Option Addr) (R : Nat → Prop)
    (hd : a.eval d = .slice (some ⟨g, off, none⟩) n c) (hsv : a.eval s = .slice A sn sc)
    (hb : Blk w g t cur.toArray) (hr : Reads w R sz A k cs) (h1 : ∀ v ∈ cs, v.oneCell' = true) (hfit : off + cs.length ≤ cur.length)
    (h : ∀ w', Hid (Blk w' g t (splice cur off cs).toArray) → Mod (One g) w w' → wpList P ops Q rest (a.put o.dst (goInt k)) w') : wpList P ops Q (o :: rest) a w := by
  refine wpList_plain hgd fun K hK => ?_
  obtain ⟨w', hrun, r1, r2⟩ := run_copy_at (P := P) dT sT o.type sz n c sn sc k hu hs hk hk0 A R hb hr h1 hfit
  unfold Oper.wp
  simp [execOp, ho, resolve, invoke, builtin, hd, hsv, hrun, Result.andThen]
  exact hK _ _ (h w' r1 r2)

theorem step_copy_at {ops : Array Oper} {o : Oper} {a : Act} {K : Act → World → Prop} {Q : Exit → Act → World → Prop} {E : Prop} (hgd : o.guard = none) (d s : Operand) (dT sT : TypeId)
    (ho : o.op = .call { callee := .builtin .copy, args := #[d, s], argTypes := #[dT, sT] }) (sz n c sn sc k : Nat) (hu : P.underlying dT = some (.slice e)) (hs : (P.info? e).map (·.size) = some sz) (hk : Nat.min sn n = k) (hk0 : 0 < k) (A : Option Addr) (R : Nat → Prop)
    (hd : a.eval d = .slice (some ⟨g, off, none⟩) n c) (hsv : a.eval s = .slice A sn sc)
    (hb : Blk w g t cur.toArray) (hr : Reads w R sz A k cs) (h1 : ∀ v ∈ cs, v.oneCell' = true) (hfit : off + cs.length ≤ cur.length)
    (h : ∀ w', Hid (Blk w' g t (splice cur off cs).toArray) → Mod (One g) w w' → K (a.put o.dst (goInt k)) w') :
    if Region.wanted o (yielded ops a.tmps) = true then Oper.wp P o a w K Q else E := by
  have hw : Region.wanted o (yielded ops a.tmps) = true := by simp [Region.wanted, hgd]
  rw [if_pos hw]
  obtain ⟨w', hrun, r1, r2⟩ := run_copy_at (P := P) dT sT o.type sz n c sn sc k hu hs hk hk0 A R hb hr h1 hfit
  unfold Oper.wp
  simp [execOp, ho, resolve, invoke, builtin, hd, hsv, hrun, Result.andThen]
  exact h w' r1 r2

theorem run_append_at (T ty : TypeId) (i : TypeInfo) (sz n c m mc : Nat) (hu : P.underlying T = some (.slice e)) (hi : P.info? e = some i) (hs : i.size = sz) (A : Option Addr) (R : Nat → Prop) (hA : A ≠ none)
    (hb : Blk w g t cur.toArray) (hr : Reads w R sz A m cs) (h1 : ∀ v ∈ cs, v.oneCell' = true) (hroom : n + m ≤ c) (hoff : off = n * sz) (hfit : off + cs.length ≤ cur.length) :
    ∃ w', (Builtin.append_ #[T, T] ty #[.slice (some ⟨g, 0, none⟩) n c, .slice A m mc]).run P w = .ok (.slice (some ⟨g, 0, none⟩) (n + m) c) w' ∧ Blk w' g t (splice cur off cs).toArray ∧ Mod (One g) w w' := by
  subst hoff
  obtain ⟨w', hst, hb', hm'⟩ := run_store_spl (P := P) hb hfit h1
  refine ⟨w', ?_, hb', hm'⟩
  obtain ⟨ad, rfl⟩ : ∃ ad, A = some ad := by cases A with | none => exact absurd rfl hA | some ad => exact ⟨ad, rfl⟩
  have hc : ∀ j u, cs[j]? = some u → w.cell? (ad.add j) = some u := by
    intro j u hu
    rcases Nat.eq_zero_or_pos m with h0 | h0
    · subst h0
      have hn : cs = [] := List.eq_nil_of_length_eq_zero (by simpa using hr.1)
      subst hn
      simp at hu
    · obtain ⟨ad', h, _, _, hc⟩ := hr.2 h0
      injection h with h
      subst h
      exact hc j u hu
  have hfc := run_firstCells_some (P := P) w i.size m ad m mc cs (by rw [hs]; exact hr.1) hc
  rw [hs] at hfc
  simp [Builtin.append_, run_underlying hu, sizeOf, typeInfo, hi, hs, Builtin.lenOf, hroom, hfc, Addr.add_lit, hst]

theorem wpList_append_at {ops : Array Oper} {rest : List Oper} {o : Oper} {a : Act} {Q : Exit → Act → World → Prop} (hgd : o.guard = none) (s x : Operand) (T : TypeId)
    (ho : o.op = .call { callee := .builtin .append, args := #[s, x], argTypes := #[T, T] }) (i : TypeInfo) (sz n c m mc : Nat) (hu : P.underlying T = some (.slice e)) (hi : P.info? e = some i) (hs : i.size = sz) (A : Option Addr) (R : Nat → Prop) (hA : A ≠ none)
    (hd : a.eval s = .slice (some ⟨g, 0, none⟩) n c) (hsv : a.eval x = .slice A m mc)
    (hb : Blk w g t cur.toArray) (hr : Reads w R sz A m cs) (h1 : ∀ v ∈ cs, v.oneCell' = true) (hroom : n + m ≤ c) (hoff : off = n * sz) (hfit : off + cs.length ≤ cur.length)
    (h : ∀ w', Hid (Blk w' g t (splice cur off cs).toArray) → Mod (One g) w w' → wpList P ops Q rest (a.put o.dst (.slice (some ⟨g, 0, none⟩) (n + m) c)) w') : wpList P ops Q (o :: rest) a w := by
  refine wpList_plain hgd fun K hK => ?_
  obtain ⟨w', hrun, r1, r2⟩ := run_append_at (P := P) T o.type i sz n c m mc hu hi hs A R hA hb hr h1 hroom hoff hfit
  unfold Oper.wp
  simp [execOp, ho, resolve, invoke, builtin, hd, hsv, hrun, Result.andThen]
  exact hK _ _ (h w' r1 r2)

theorem step_append_at {ops : Array Oper} {o : Oper} {a : Act} {K : Act → World → Prop} {Q : Exit → Act → World → Prop} {E : Prop} (hgd : o.guard = none) (s x : Operand) (T : TypeId)
    (ho : o.op = .call { callee := .builtin .append, args := #[s, x], argTypes := #[T, T] }) (i : TypeInfo) (sz n c m mc : Nat) (hu : P.underlying T = some (.slice e)) (hi : P.info? e = some i) (hs : i.size = sz) (A : Option Addr) (R : Nat → Prop) (hA : A ≠ none)
    (hd : a.eval s = .slice (some ⟨g, 0, none⟩) n c) (hsv : a.eval x = .slice A m mc)
    (hb : Blk w g t cur.toArray) (hr : Reads w R sz A m cs) (h1 : ∀ v ∈ cs, v.oneCell' = true) (hroom : n + m ≤ c) (hoff : off = n * sz) (hfit : off + cs.length ≤ cur.length)
    (h : ∀ w', Hid (Blk w' g t (splice cur off cs).toArray) → Mod (One g) w w' → K (a.put o.dst (.slice (some ⟨g, 0, none⟩) (n + m) c)) w') :
    if Region.wanted o (yielded ops a.tmps) = true then Oper.wp P o a w K Q else E := by
  have hw : Region.wanted o (yielded ops a.tmps) = true := by simp [Region.wanted, hgd]
  rw [if_pos hw]
  obtain ⟨w', hrun, r1, r2⟩ := run_append_at (P := P) T o.type i sz n c m mc hu hi hs A R hA hb hr h1 hroom hoff hfit
  unfold Oper.wp
  simp [execOp, ho, resolve, invoke, builtin, hd, hsv, hrun, Result.andThen]
  exact h w' r1 r2

theorem run_clear_at (T ty : TypeId) (z : Value) (n c : Nat) (hu : P.underlying T = some (.slice e)) (hv : ∀ w, (zeroValue e).run P w = .ok z w) (hn : 0 < n) (hcs : cs = (Builtin.zeroCells z.cells n).toList)
    (hb : Blk w g t cur.toArray) (h1 : ∀ v ∈ cs, v.oneCell' = true) (hfit : off + cs.length ≤ cur.length) :
    ∃ w', (Builtin.clear_ #[T] ty #[.slice (some ⟨g, off, none⟩) n c]).run P w = .ok (.tuple #[]) w' ∧ Blk w' g t (splice cur off cs).toArray ∧ Mod (One g) w w' := by
  obtain ⟨w', hst, hb', hm'⟩ := run_store_spl (P := P) hb hfit h1
  refine ⟨w', ?_, hb', hm'⟩
  obtain ⟨m, rfl⟩ : ∃ m, n = m + 1 := ⟨n - 1, by omega⟩
  subst hcs
  simp [Builtin.clear_, run_underlying hu, hv, hst]

theorem wpList_clear_at {ops : Array Oper} {rest : List Oper} {o : Oper} {a : Act} {Q : Exit → Act → World → Prop} (hgd : o.guard = none) (s : Operand) (T : TypeId)
    (ho : o.op = .call { callee := .builtin .clear, args := #[s], argTypes := #[T] }) (z : Value) (n c : Nat) (hu : P.underlying T = some (.slice e)) (hv : ∀ w, (zeroValue e).run P w = .ok z w) (hn : 0 < n) (hcs : cs = (Builtin.zeroCells z.cells n).toList)
    (hd : a.eval s = .slice (some ⟨g, off, none⟩) n c)
    (hb : Blk w g t cur.toArray) (h1 : ∀ v ∈ cs, v.oneCell' = true) (hfit : off + cs.length ≤ cur.length)
    (h : ∀ w', Hid (Blk w' g t (splice cur off cs).toArray) → Mod (One g) w w' → wpList P ops Q rest (a.put o.dst (.tuple #[])) w') : wpList P ops Q (o :: rest) a w := by
  refine wpList_plain hgd fun K hK => ?_
  obtain ⟨w', hrun, r1, r2⟩ := run_clear_at (P := P) T o.type z n c hu hv hn hcs hb h1 hfit
  unfold Oper.wp
  simp [execOp, ho, resolve, invoke, builtin, hd, hrun, Result.andThen]
  exact hK _ _ (h w' r1 r2)
end

section
variable {α : Type} (L X D : List α) (a s : Nat)
theorem splice_ins1 (hX : X.length = s) (hl : a + s + D.length ≤ L.length) : (splice (splice L (a + s) D) a X).take (a + s + D.length) = L.take a ++ (X ++ D) := by
  subst hX
  unfold splice
  have e1 : (L.take (a + X.length) ++ (D ++ L.drop (a + X.length + D.length))).take a = L.take a := by
    rw [List.take_append_of_le_length (by simp; omega), List.take_take]
    congr 1
    omega
  have e2 : (L.take (a + X.length) ++ (D ++ L.drop (a + X.length + D.length))).drop (a + X.length) = D ++ L.drop (a + X.length + D.length) := by
    rw [List.drop_append_of_le_length (by simp; omega), List.drop_of_length_le (by simp; omega)]
    rfl
  rw [e1, e2, ← List.append_assoc, ← List.append_assoc, List.take_append_of_le_length (by simp; omega), List.take_of_length_le (by simp; omega), List.append_assoc]
theorem splice_ins2 (hX : X.length = s) (hl : a + s + D.length ≤ L.length) : (splice (splice L a X) (a + s) D).take (a + s + D.length) = L.take a ++ (X ++ D) := by
  subst hX
  unfold splice
  have e1 : (L.take a ++ (X ++ L.drop (a + X.length))).take (a + X.length) = L.take a ++ X := by
    rw [← List.append_assoc, List.take_append_of_le_length (by simp; omega), List.take_of_length_le (by simp; omega)]
  rw [e1, ← List.append_assoc, List.take_append_of_le_length (by simp; omega), List.take_of_length_le (by simp; omega), List.append_assoc]
theorem splice_del (Z : List α) (hl : a + D.length + Z.length ≤ L.length) : (splice (splice L a D) (a + D.length) Z).take (a + D.length) = L.take a ++ D := by
  unfold splice
  have e1 : (L.take a ++ (D ++ L.drop (a + D.length))).take (a + D.length) = L.take a ++ D := by
    rw [← List.append_assoc, List.take_append_of_le_length (by simp; omega), List.take_of_length_le (by simp; omega)]
  rw [e1, List.take_append_of_le_length (by simp; omega), List.take_of_length_le (by simp; omega)]
end

/-- an own row whose block is known -/
theorem own_of_blk {w : World} {B g : Nat} {e : TypeId} {sz n c : Nat} {cur xs : List Value} (hb : Blk w g e cur.toArray) (hB : B ≤ g) (hn : n ≤ c) (hc : c ≤ maxLen) (hl : cur.length = c * sz) (hx : xs.length = n * sz) (ht : cur.take (n * sz) = xs) :
    w.ownsRow B e sz (.slice (some ⟨g, 0, none⟩) n c) n xs := ⟨hx, .inr ⟨g, c, cur.toArray, rfl, hB, hb, hn, hc, by simpa using hl, by simpa using ht⟩⟩
/-- its block, taken out -/
theorem own_blk {w : World} {B : Nat} {e : TypeId} {sz n : Nat} {v : Value} {xs : List Value} (h : w.ownsRow B e sz v n xs) (h0 : 0 < n) :
    ∃ g c cur, v = .slice (some ⟨g, 0, none⟩) n c ∧ B ≤ g ∧ Blk w g e (List.toArray cur) ∧ n ≤ c ∧ c ≤ maxLen ∧ cur.length = c * sz ∧ cur.take (n * sz) = xs := by
  rcases h.2 with ⟨_, h3⟩ | ⟨g, cap, cur, hv, hb, hh, hn, hm, hz, ht⟩
  · omega
  · exact ⟨g, cap, cur.toList, hv, hb, by simpa [Blk] using hh, hn, hm, by simpa using hz, ht⟩
theorem shape_blk {w : World} {g : Nat} {t : TypeId} {cs : Array Value} (h : Blk w g t cs) : w.shape? g = some (t, cs.size) := by
  unfold Blk at h
  simp [World.shape?, h]
theorem Blk.readsAt {w : World} {g o k sz : Nat} {t : TypeId} {cur cs : List Value} (h : Blk w g t cur.toArray) (hs : cs.length = k * sz) (hc : ∀ j u, cs[j]? = some u → cur[o + j]? = some u) : Reads w (fun b => b = g) sz (some ⟨g, o, none⟩) k cs :=
  ⟨hs, fun _ => ⟨_, rfl, h.lt, rfl, fun j u hu => by rw [Addr.add_lit, h.cell]; simpa using hc j u hu⟩⟩
end Go.Proofs.YtdclfdinhdaadaaGreatDoor
