/- Slices of slices of bytes: what they hold; what an append of one leaves. -/
import Derived.Test.YtlkifobajdafpaaDoorRefNextIn
namespace Go.Proofs.YtlkifobajdafpaaDoor
open Go.RowKit

theorem bss_info : (Tryd.prog.info? 22).map (fun i => (i.zero, i.size, i.bytes)) = some (some (Value.slice none 0 0), 1, 24) := by kernel_rfl

/-- The values vs are slices of bytes, which read as ls, in blocks that keep to R. -/
def RowsB (w : World) (R : Nat → Prop) (vs : List Value) (ls : List (List UInt8)) : Prop :=
  vs.length = ls.length ∧ ∀ (i : Nat) (v : Value) (l : List UInt8), vs[i]? = some v → ls[i]? = some l → ∃ A n c, v = .slice A n c ∧ n ≤ c ∧ Reads w R 1 A n (vbs l)
/-- The values vs are slices of bytes that the call itself made. -/
def RowsO (w : World) (B : Nat) (vs : List Value) (ls : List (List UInt8)) : Prop :=
  vs.length = ls.length ∧ ∀ (i : Nat) (v : Value) (l : List UInt8), vs[i]? = some v → ls[i]? = some l → OwnB w B v l
/-- The value v is a slice of slices that the call itself made. -/
def OwnS (w : World) (B : Nat) (v : Value) (vs : List Value) : Prop := w.ownsRow B 22 1 v vs.length vs

section
variable {w w' : World} {R S : Nat → Prop} {B : Nat} {v : Value} {vs : List Value} {ls : List (List UInt8)} {l : List UInt8}
theorem RowsB.nil : RowsB w R [] [] := ⟨rfl, by simp⟩
theorem RowsO.nil : RowsO w B [] [] := ⟨rfl, by simp⟩
theorem snoc_get {α : Type} {l : List α} {x y : α} {i : Nat} (h : (l ++ [x])[i]? = some y) : l[i]? = some y ∨ (i = l.length ∧ y = x) := by
  rw [List.getElem?_append] at h
  split at h
  · exact .inl h
  · rw [List.getElem?_singleton] at h
    split at h
    · injection h with h; exact .inr ⟨by omega, h.symm⟩
    · cases h
theorem snoc_get2 {α β : Type} {l : List α} {m : List β} {x y : α} {z u : β} {i : Nat} (hl : l.length = m.length) (h : (l ++ [x])[i]? = some y) (h' : (m ++ [z])[i]? = some u) : (l[i]? = some y ∧ m[i]? = some u) ∨ (y = x ∧ u = z) := by
  rcases snoc_get h with h1 | ⟨h1, h2⟩
  · rcases snoc_get h' with h3 | ⟨h3, _⟩
    · exact .inl ⟨h1, h3⟩
    · exfalso; have := (List.getElem?_eq_some_iff.1 h1).1; omega
  · rcases snoc_get h' with h3 | ⟨_, h4⟩
    · exfalso; have := (List.getElem?_eq_some_iff.1 h3).1; omega
    · exact .inr ⟨h2, h4⟩
theorem RowsB.snoc (h : RowsB w R vs ls) {A : Option Addr} {n c : Nat} (hc : n ≤ c) (hr : Reads w R 1 A n (vbs l)) : RowsB w R (vs ++ [.slice A n c]) (ls ++ [l]) :=
  ⟨by simp [h.1], fun i v l' hv hl => by
    rcases snoc_get2 h.1 hv hl with ⟨h1, h2⟩ | ⟨rfl, rfl⟩
    · exact h.2 i v l' h1 h2
    · exact ⟨A, n, c, rfl, hc, hr⟩⟩
theorem RowsO.snoc (h : RowsO w B vs ls) (hr : OwnB w B v l) : RowsO w B (vs ++ [v]) (ls ++ [l]) :=
  ⟨by simp [h.1], fun i v' l' hv hl => by
    rcases snoc_get2 h.1 hv hl with ⟨h1, h2⟩ | ⟨rfl, rfl⟩
    · exact h.2 i v' l' h1 h2
    · exact hr⟩
theorem RowsB.mod (h : RowsB w R vs ls) (hm : Mod S w w') (hS : ∀ k, k < w.heap.size → R k → ¬ S k) : RowsB w' R vs ls :=
  ⟨h.1, fun i v l hv hl => by
    obtain ⟨A, n, c, e, hc, hr⟩ := h.2 i v l hv hl
    exact ⟨A, n, c, e, hc, hr.mod hm hS⟩⟩
theorem RowsB.more {R' : Nat → Prop} (h : RowsB w R vs ls) (hR : ∀ k, k < w.heap.size → R k → R' k) : RowsB w R' vs ls :=
  ⟨h.1, fun i v l hv hl => by
    obtain ⟨A, n, c, e, hc, hr⟩ := h.2 i v l hv hl
    exact ⟨A, n, c, e, hc, hr.more hR⟩⟩
theorem RowsO.non (h : RowsO w B vs ls) (hm : Mod Non w w') : RowsO w' B vs ls := ⟨h.1, fun i v l hv hl => (h.2 i v l hv hl).non hm⟩
theorem RowsO.rows (h : RowsO w B vs ls) : RowsB w (fun k => B ≤ k) vs ls :=
  ⟨h.1, fun i v l hv hl => by
    have ho := h.2 i v l hv hl
    obtain ⟨A, n, c, rfl, _, hc⟩ := ho.form
    exact ⟨A, n, c, rfl, hc, ho.reads.more fun _ _ hk => hk.1⟩⟩
theorem RowsO.below (h : RowsO w B vs ls) {B' : Nat} (hB : B' ≤ B) : RowsO w B' vs ls := ⟨h.1, fun i v l hv hl => (h.2 i v l hv hl).below hB⟩
theorem rows_one (h : RowsB w R vs ls) : ∀ u ∈ vs, u.oneCell' = true := by
  intro u hu
  obtain ⟨i, hi, rfl⟩ := List.getElem_of_mem hu
  obtain ⟨A, n, c, e, _⟩ := h.2 i _ _ (List.getElem?_eq_getElem hi) (List.getElem?_eq_getElem (by rw [← h.1]; exact hi))
  rw [e]; rfl
theorem OwnS.nil (w : World) (B : Nat) : OwnS w B (.slice none 0 0) [] := World.ownsRow_nil _ _ _ _
theorem OwnS.non (h : OwnS w B v vs) (hm : Mod Non w w') : OwnS w' B v vs := own_non h hm
theorem OwnS.form (h : OwnS w B v vs) : ∃ A m c, v = .slice A m c ∧ Hid (m = vs.length) ∧ m ≤ c := by
  rcases h.2 with ⟨rfl, h0⟩ | ⟨g, cap, cur, rfl, _, _, hc, _⟩
  · exact ⟨none, 0, 0, rfl, h0.symm, Nat.le_refl _⟩
  · exact ⟨_, _, cap, rfl, rfl, hc⟩
theorem OwnS.reads {A : Option Addr} {n c : Nat} (h : OwnS w B (.slice A n c) vs) : Reads w (fun k => B ≤ k) 1 A n vs := by
  have hn : n = vs.length := by
    rcases h.2 with ⟨h1, h0⟩ | ⟨g, cap, cur, h1, _⟩
    · injection h1 with _ h2 _; rw [h2, h0]
    · injection h1
  subst hn
  exact (Reads.of_own h).more fun k _ hk => (World.ownsRow.lt h k hk.symm).1
theorem OwnS.below (h : OwnS w B v vs) {B' : Nat} (hB : B' ≤ B) : OwnS w B' v vs := by
  refine ⟨h.1, ?_⟩
  rcases h.2 with h1 | ⟨g, cap, cur, h1, h2, h3⟩
  · exact .inl h1
  · exact .inr ⟨g, cap, cur, h1, by omega, h3⟩
theorem OwnS.modNon {w0 : World} (h : OwnS w w0.heap.size v vs) (hm : Mod Non w0 w) (hm' : Mod (fun g => v.ownBlock = some g) w w') : Mod Non w0 w' :=
  hm.trans hm' fun i hi h' => by have := (World.ownsRow.lt h i h').1; omega
/-- Rows of different element types never share a block. -/
theorem own_apart {B' e e' s s' n n' : Nat} {v' : Value} {xs xs' : List Value} (h : w.ownsRow B e s v n xs) (h' : w.ownsRow B' e' s' v' n' xs') (hne : e ≠ e') : ∀ g, v.ownBlock = some g → v'.ownBlock ≠ some g := by
  intro g hg hg'
  rcases h.2 with ⟨rfl, _⟩ | ⟨g1, cap, cur, rfl, _, hh, _⟩
  · simp [Value.ownBlock] at hg
  · obtain rfl : g1 = g := by simpa [Value.ownBlock] using hg
    rcases h'.2 with ⟨rfl, _⟩ | ⟨g2, cap', cur', rfl, _, hh', _⟩
    · simp [Value.ownBlock] at hg'
    · obtain rfl : g2 = g1 := by simpa [Value.ownBlock] using hg'
      rw [hh] at hh'
      injection hh' with hh'; injection hh' with _ ht
      exact hne ht
end

/-- 'append(out, x)' of one slice: it lies in a block of its own first. -/
theorem wpList_append_row {w : World} {ops : Array Oper} {rest : List Oper} {o : Oper} {a : Act} {Q : Exit → Act → World → Prop} (hgd : o.guard = none) (s x : Operand)
    (ho : o.op = .call { callee := .builtin .append, args := #[s, x], argTypes := #[34, 34] })
    (B : Nat) (v : Value) (vs : List Value) (hs : a.eval s = v) (hown : OwnS w B v vs) (A : Option Addr) (n c : Nat) (H : Nat) (hH : w.heap.size = H) (hx : a.eval x = .slice (some ⟨H, 0, none⟩) 1 1)
    (hlen : vs.length ≤ 1000000) (hB : B ≤ w.heap.size)
    (h : ∀ v' w', OwnS w' B v' (vs ++ [.slice A n c]) → Mod (fun g => v.ownBlock = some g) w w' → wpList Tryd.prog ops Q rest (a.put o.dst v') w') :
    wpList Tryd.prog ops Q (o :: rest) a (w.alloc (.cells #[.slice A n c] 22)) := by
  subst hH
  obtain ⟨i0, hi, hz0, hz1, hz2⟩ := info_parts bss_info
  refine wpList_append_any _ hgd s x 34 ho B 22 i0 _ 1 24 Tryd.underlying34 hi hz0 hz1 hz2 rfl (by omega) v vs.length vs hs (World.ownsRow.alloc hown _) (fun _ => True) _ 1 1
    [.slice A n c] hx (reads_one w _ _ _ trivial) (by intro u hu; simp at hu; subst hu; rfl) (by unfold maxLen; omega) (by omega) (by simp; omega) ?_
  intro v' w' h1 h2 _
  refine h v' w' ?_ (((Mod.refl Non w).alloc _).non.trans (mod_of_grown h2) fun _ _ h => h)
  unfold OwnS; rw [List.length_append]; exact h1
end Go.Proofs.YtlkifobajdafpaaDoor
