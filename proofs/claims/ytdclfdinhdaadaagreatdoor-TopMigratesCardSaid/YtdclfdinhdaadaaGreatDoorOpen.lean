/- Arguments opened: a slice of whatever element type reads as a list. Plain theorems over any program. -/
import Derived.Test.YtdclfdinhdaadaaGreatDoorVarintPlain
import Derived.WalkKit
import Derived.ProofKit
import Derived.OpenShut
import Derived.ShutString
import Derived.ChangeOld
import Derived.Deep.Slices
import Derived.ChangeArms
namespace Go.Proofs.YtdclfdinhdaadaaGreatDoor
open Go.ChangeShapes Go.WideShapes Go.ChangeAt Go.RowKit Go.Deep

theorem flatMap_at {α β : Type} (f : α → List β) (s : Nat) (l : List α) (hf : ∀ x ∈ l, (f x).length = s) (j : Nat) (u : β) (h : (l.flatMap f)[j]? = some u) :
    ∃ i r x, j = i * s + r ∧ r < s ∧ l[i]? = some x ∧ (f x)[r]? = some u := by
  induction l generalizing j with
  | nil => simp at h
  | cons a l ih =>
    have ha : (f a).length = s := hf a (by simp)
    rw [List.flatMap_cons, List.getElem?_append] at h
    by_cases hj : j < (f a).length
    · rw [if_pos hj] at h
      exact ⟨0, j, a, by omega, by omega, rfl, h⟩
    · rw [if_neg hj] at h
      obtain ⟨i, r, x, h1, h2, h3, h4⟩ := ih (fun x hx => hf x (by simp [hx])) _ h
      refine ⟨i + 1, r, x, ?_, h2, by simpa using h3, h4⟩
      rw [Nat.succ_mul]; omega
theorem flatMap_length' {α β : Type} (f : α → List β) (s : Nat) (l : List α) (hf : ∀ x ∈ l, (f x).length = s) : (l.flatMap f).length = l.length * s := by
  induction l with
  | nil => simp
  | cons a l ih =>
    rw [List.flatMap_cons, List.length_append, hf a (by simp), ih (fun x hx => hf x (by simp [hx])), List.length_cons, Nat.succ_mul]; omega

section
variable {H : Type} {enc : TypeId × Value → H} {P : Program} {w : World} {spare : Nat → Bool} {held : Bool}

theorem choose_list {α : Type} (n : Nat) (Q : Nat → α → Prop) (h : ∀ i, i < n → ∃ x, Q i x) : ∃ l : List α, l.length = n ∧ ∀ i x, l[i]? = some x → Q i x := by
  induction n with
  | zero => exact ⟨[], rfl, by simp⟩
  | succ n ih =>
    obtain ⟨l, hl, hq⟩ := ih fun i hi => h i (by omega)
    obtain ⟨x, hx⟩ := h n (by omega)
    refine ⟨l ++ [x], by simp [hl], fun i y hy => ?_⟩
    rw [List.getElem?_append] at hy
    split at hy
    · exact hq i y hy
    · rw [List.getElem?_singleton] at hy
      split at hy
      · injection hy with hy; subst hy
        have : i = n := by omega
        subst this; exact hx
      · cases hy

/-- A slice that came in, whatever its elements are: each element's cells are f of something that keeps to Q. -/
theorem open_rows {α : Type} {t e : TypeId} {size : Nat} {a0 : Option Addr} {len cap : Nat} {d : DataW H} {p : List MemPlace} (f : α → List Value) (Q : α → Prop)
    (ht : P.underlying t = some (.slice e)) (hC : P.cellsOf e = size) (h : DataW.Trod enc P w 0 spare held t (.slice a0 len cap) d p)
    (hlt : ∀ x ∈ p, x.block < w.heap.size) (hs : 0 < size) (hfs : ∀ x, Q x → (f x).length = size)
    (hel : ∀ n cs y, DataW.trod enc P w 0 spare held n e cs = some y → (∀ x ∈ y.2, x.block < w.heap.size) → ∃ x, cs = f x ∧ Q x) :
    ∃ l : List α, l.length = len ∧ (∀ x ∈ l, Q x) ∧ len ≤ cap ∧ cap ≤ maxLen ∧ Reads w (fun _ => True) size a0 len (l.flatMap f) := by
  obtain ⟨fuel, hf⟩ := h
  rcases open_slice ht hf with ⟨hcs, _⟩ | ⟨a, len', cap', m, n, D, Pl, hcs, hb, hl, hm, hmm, hx, hi⟩
  · simp [Value.cells] at hcs
    obtain ⟨rfl, rfl, rfl⟩ := hcs
    exact ⟨[], rfl, by simp, Nat.le_refl _, by simp [maxLen], Reads.none_⟩
  · simp [Value.cells] at hcs
    obtain ⟨rfl, rfl, rfl⟩ := hcs
    simp only [Prod.mk.injEq] at hx
    obtain ⟨_, hp⟩ := hx
    have hlm : len ≤ m := by rw [hmm]; split <;> omega
    have each : ∀ i, i < len → ∃ x, w.cells? 0 (a.add (i * size)) size = some (f x) ∧ Q x := by
      intro i hi'
      obtain ⟨cs', h1, h2⟩ := hi i (by omega)
      rw [hC] at h1
      obtain ⟨x, rfl, hq⟩ := hel n cs' _ h2 (fun y hy => hlt y (by
        rw [hp]
        exact List.mem_append_right _ (List.mem_flatMap.2 ⟨i, List.mem_range.2 (by omega), hy⟩)))
      exact ⟨x, h1, hq⟩
    obtain ⟨l, hll, hq⟩ := choose_list len _ each
    have hQ : ∀ x ∈ l, Q x := by
      intro x hx
      obtain ⟨i, hi', rfl⟩ := List.getElem_of_mem hx
      exact (hq i _ (List.getElem?_eq_getElem hi')).2
    refine ⟨l, hll, hQ, hl, hm, by rw [flatMap_length' f size l (fun x hx => hfs x (hQ x hx)), hll], fun hn => ⟨a, rfl, ?_, trivial, fun j u hu => ?_⟩⟩
    · obtain ⟨x, hx1, hx2⟩ := each 0 hn
      obtain ⟨_, hlen', hat⟩ := World.cells?_some hx1
      have h0 := hat 0 hs
      rw [List.getElem?_eq_getElem (by omega)] at h0
      have := World.block_lt_of_cell? w _ h0
      rwa [block_of_add, block_of_add] at this
    · obtain ⟨i, r, x, rfl, hr, hlx, hfx⟩ := flatMap_at f size l (fun x hx => hfs x (hQ x hx)) j u hu
      obtain ⟨h1, _⟩ := hq i x hlx
      obtain ⟨_, _, hat⟩ := World.cells?_some h1
      rw [← add_of_add, hat r hr, hfx]

theorem flatMap_one {α : Type} (g : α → Value) (l : List α) : l.flatMap (fun x => [g x]) = l.map g := by
  induction l <;> simp_all

theorem open_bools {t e : TypeId} {a0 : Option Addr} {len cap : Nat} {d : DataW H} {p : List MemPlace} (ht : P.underlying t = some (.slice e)) (he : P.underlying e = some .bool) (hC : P.cellsOf e = 1)
    (h : DataW.Trod enc P w 0 spare held t (.slice a0 len cap) d p) (hlt : ∀ x ∈ p, x.block < w.heap.size) :
    ∃ l : List Bool, l.length = len ∧ len ≤ cap ∧ cap ≤ maxLen ∧ Reads w (fun _ => True) 1 a0 len (l.map Value.bool) := by
  obtain ⟨l, h1, _, h3, h4, h5⟩ := open_rows (fun b : Bool => [Value.bool b]) (fun _ => True) ht hC h hlt (by omega) (fun _ _ => rfl) (fun n cs y hy _ => by
    obtain ⟨b, rfl, _⟩ := DataW.trod_bool he hy
    exact ⟨b, rfl, trivial⟩)
  exact ⟨l, h1, h3, h4, by rw [flatMap_one] at h5; exact h5⟩

theorem open_nums {k : IntKind} {t e : TypeId} {a0 : Option Addr} {len cap : Nat} {d : DataW H} {p : List MemPlace} (ht : P.underlying t = some (.slice e)) (he : P.underlying e = some (.int k)) (hC : P.cellsOf e = 1)
    (h : DataW.Trod enc P w 0 spare held t (.slice a0 len cap) d p) (hlt : ∀ x ∈ p, x.block < w.heap.size) :
    ∃ l : List Int, l.length = len ∧ (∀ n ∈ l, (Lit.int k n).wf = true) ∧ len ≤ cap ∧ cap ≤ maxLen ∧ Reads w (fun _ => True) 1 a0 len (l.map (Value.int k)) := by
  obtain ⟨l, h1, h2, h3, h4, h5⟩ := open_rows (fun n : Int => [Value.int k n]) (fun n => (Lit.int k n).wf = true) ht hC h hlt (by omega) (fun _ _ => rfl) (fun n cs y hy _ => by
    obtain ⟨b, rfl, _, hw⟩ := DataW.trod_int he hy
    exact ⟨b, rfl, hw⟩)
  exact ⟨l, h1, h2, h3, h4, by rw [flatMap_one] at h5; exact h5⟩

theorem open_bytes {t e : TypeId} {a0 : Option Addr} {len cap : Nat} {d : DataW H} {p : List MemPlace} (ht : P.underlying t = some (.slice e)) (he : P.underlying e = some (.int .u8)) (hC : P.cellsOf e = 1)
    (h : DataW.Trod enc P w 0 spare held t (.slice a0 len cap) d p) (hlt : ∀ x ∈ p, x.block < w.heap.size) :
    ∃ l : List UInt8, l.length = len ∧ len ≤ cap ∧ cap ≤ maxLen ∧ Reads w (fun _ => True) 1 a0 len (l.map vb) := by
  obtain ⟨l, h1, _, h3, h4, h5⟩ := open_rows (fun x : UInt8 => [vb x]) (fun _ => True) ht hC h hlt (by omega) (fun _ _ => rfl) (fun n cs y hy _ => by
    obtain ⟨b, rfl, _, hw⟩ := DataW.trod_int he hy
    have hb : 0 ≤ b ∧ b ≤ 255 := by
      have hmin : IntKind.u8.min = 0 := rfl
      have hmax : IntKind.u8.max = 255 := rfl
      simp only [Lit.wf, Bool.and_eq_true, decide_eq_true_eq] at hw; omega
    refine ⟨UInt8.ofNat b.toNat, ?_, trivial⟩
    unfold vb
    have : (UInt8.ofNat b.toNat).toNat = b.toNat := by rw [UInt8.toNat_ofNat']; omega
    rw [this]
    congr 2
    omega)
  exact ⟨l, h1, h3, h4, by rw [flatMap_one] at h5; exact h5⟩
end
end Go.Proofs.YtdclfdinhdaadaaGreatDoor
