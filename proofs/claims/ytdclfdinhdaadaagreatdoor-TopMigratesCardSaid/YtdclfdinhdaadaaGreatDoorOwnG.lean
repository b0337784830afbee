/- Rows of pairs, sessions, answers that the call itself made; what an append leaves; slices.Clone. -/
import Derived.Test.YtdclfdinhdaadaaGreatDoorMgA
namespace Go.Proofs.YtdclfdinhdaadaaGreatDoor
open Go.RowKit

def OwnP (w : World) (B : Nat) (v : Value) (l : List Pa) : Prop := w.ownsRow B 42 3 v l.length (pcs l)
theorem pcs_append (a b : List Pa) : pcs (a ++ b) = pcs a ++ pcs b := by simp [pcs]
theorem pcs_one (l : List Pa) : ∀ u ∈ pcs l, u.oneCell' = true := by
  intro u hu
  obtain ⟨x, _, hx⟩ := List.mem_flatMap.1 hu
  simp only [Pa.cells, List.mem_cons, List.not_mem_nil, or_false] at hx
  rcases hx with rfl | rfl | rfl <;> rfl
theorem Pa.info : (Tryz.prog.info? 42).map (fun i => (i.zero, i.size, i.bytes)) = some (some (Value.agg #[.string ⟨#[]⟩, .string ⟨#[]⟩, .int .i64 0]), 3, 40) := by kernel_rfl
section
variable {w w' : World} {B : Nat} {v : Value} {l : List Pa} {S : Nat → Prop}
theorem OwnP.nil (w : World) (B : Nat) : OwnP w B (.slice none 0 0) [] := World.ownsRow_nil _ _ _ _
theorem OwnP.form (h : OwnP w B v l) : ∃ A m c, v = .slice A m c ∧ Hid (m = l.length) ∧ m ≤ c := by
  rcases h.2 with ⟨rfl, h0⟩ | ⟨g, cap, cur, rfl, _, _, hc, _⟩
  · exact ⟨none, 0, 0, rfl, h0.symm, Nat.le_refl _⟩
  · exact ⟨_, _, cap, rfl, rfl, hc⟩
theorem OwnP.reads {A : Option Addr} {n c : Nat} (h : OwnP w B (.slice A n c) l) : Reads w (fun k => B ≤ k ∧ some k = (Value.slice A n c).ownBlock) 3 A n (pcs l) := by
  have hn : n = l.length := by
    rcases h.2 with ⟨h1, h0⟩ | ⟨g, cap, cur, h1, _⟩
    · injection h1 with _ h2 _; rw [h2, h0]
    · injection h1
  subst hn
  exact (Reads.of_own h).more fun k _ hk => ⟨(World.ownsRow.lt h k hk.symm).1, hk⟩
theorem OwnP.non (h : OwnP w B v l) (hm : Mod Non w w') : OwnP w' B v l := own_non h hm
theorem OwnP.mod (h : OwnP w B v l) (hm : Mod S w w') (hS : ∀ g, v.ownBlock = some g → ¬ S g) : OwnP w' B v l := own_mod h hm hS
theorem OwnP.below (h : OwnP w B v l) {B' : Nat} (hB : B' ≤ B) : OwnP w B' v l := by
  refine ⟨h.1, ?_⟩
  rcases h.2 with h1 | ⟨g, cap, cur, h1, h2, h3⟩
  · exact .inl h1
  · exact .inr ⟨g, cap, cur, h1, by omega, h3⟩
theorem OwnP.made (w : World) : OwnP (w.alloc (.cells #[] 42)) w.heap.size (.slice (some ⟨w.heap.size, 0, none⟩) 0 0) [] := World.ownsRow_made w #[] 0 (Nat.le_refl _) (by simp [maxLen]) rfl
theorem OwnP.modNon {w0 w w' : World} {v : Value} {l : List Pa} (h : OwnP w w0.heap.size v l) (hm : Mod Non w0 w) (hm' : Mod (fun g => v.ownBlock = some g) w w') : Mod Non w0 w' :=
  hm.trans hm' fun i hi h' => by have := (World.ownsRow.lt h i h').1; omega
end
/-- 'append(s, x...)' of a row -/
theorem wpList_append_pcs {w : World} {ops : Array Oper} {rest : List Oper} {o : Oper} {a : Act} {Q : Exit → Act → World → Prop} (hgd : o.guard = none) (s x : Operand)
    (ho : o.op = .call { callee := .builtin .append, args := #[s, x], argTypes := #[22, 22] })
    (B : Nat) (v : Value) (l : List Pa) (hs : a.eval s = v) (hown : OwnP w B v l) (R : Nat → Prop) (A : Option Addr) (n c : Nat) (m : List Pa) (hx : a.eval x = .slice A n c) (hr : Reads w R 3 A n (pcs m))
    (hlen : l.length + m.length ≤ 1000000) (hB : B ≤ w.heap.size)
    (h : ∀ v' w', OwnP w' B v' (l ++ m) → Mod (fun g => v.ownBlock = some g) w w' → (v'.ownBlock = v.ownBlock ∨ v'.ownBlock = some w.heap.size) → wpList Tryz.prog ops Q rest (a.put o.dst v') w') : wpList Tryz.prog ops Q (o :: rest) a w := by
  obtain ⟨i0, hi, hz0, hz1, hz2⟩ := info_parts Pa.info
  have hn : n = m.length := by have := hr.1; rw [pcs_length] at this; omega
  subst hn
  refine wpList_append_any w hgd s x 22 ho B 42 i0 _ 3 40 Tryz.underlying22 hi hz0 hz1 hz2 rfl (by omega) v l.length (pcs l) hs hown R A m.length c (pcs m) hx hr (pcs_one m) (by unfold maxLen; omega) (by omega) hB ?_
  intro v' w' h1 h2 h3
  refine h v' w' ?_ (mod_of_grown h2) h3
  unfold OwnP
  rw [pcs_append, List.length_append]
  exact h1
/-- 'append(s, x)' of one: it lies in a block of its own first. -/
theorem wpList_append_Pa {w : World} {ops : Array Oper} {rest : List Oper} {o : Oper} {a : Act} {Q : Exit → Act → World → Prop} (hgd : o.guard = none) (s x : Operand)
    (ho : o.op = .call { callee := .builtin .append, args := #[s, x], argTypes := #[22, 22] })
    (B : Nat) (v : Value) (l : List Pa) (hs : a.eval s = v) (hown : OwnP w B v l) (y : Pa) (H : Nat) (hH : w.heap.size = H) (hx : a.eval x = .slice (some ⟨H, 0, none⟩) 1 1)
    (hlen : l.length ≤ 100000) (hB : B ≤ w.heap.size)
    (h : ∀ v' w', OwnP w' B v' (l ++ [y]) → Mod (fun g => v.ownBlock = some g) w w' → wpList Tryz.prog ops Q rest (a.put o.dst v') w') :
    wpList Tryz.prog ops Q (o :: rest) a (w.alloc (.cells y.cells.toArray 42)) := by
  subst hH
  refine wpList_append_pcs hgd s x ho B v l hs (hown.non ((Mod.refl _ _).alloc _)) (fun _ => True) _ 1 1 [y] hx ?_ (by simp; omega) (by simp; omega) ?_
  · have := reads_new w y.cells.toArray 42 (fun _ => True) trivial 3 rfl
    simpa [pcs] using this
  · intro v' w' h1 h2 _
    exact h v' w' h1 (((Mod.refl Non w).alloc _).non.trans h2 fun _ _ h => h)

theorem slices_Clone_Pa (A : Option Addr) (n c : Nat) (R : Nat → Prop) (l : List Pa) (w : World) (hr : Reads w R 3 A n (pcs l)) (hl : l.length ≤ 100000) :
    Calls Tryz.prog 138 #[.slice A n c] w fun e w' => ∃ v, e = .returned v ∧ OwnP w' w.heap.size v l ∧ Mod Non w w' := by
  have qT : ∀ (w : World) (a : Option Addr) (n c n' c' : Nat), (binOp .eql 22 (.slice a n c) (.slice none n' c')).run Tryz.prog w = .ok (.bool a.isNone) w := fun w a n c n' c' => Lib.run_eql_slice_nil w _ _ a n c n' c' Tryz.underlying22
  cases A with
  | none =>
    have hn : l = [] := by
      have h1 := hr.1
      rcases Nat.eq_zero_or_pos n with h0 | h0
      · subst h0
        rw [pcs_length] at h1
        exact List.eq_nil_of_length_eq_zero (by omega)
      · obtain ⟨ad, h, _⟩ := hr.2 h0
        cases h
    subst hn
    go_enter Tryz.func138, Tryz.ntmps138
    go_wp2
    go_ret
    exact ⟨_, rfl, OwnP.nil _ _, Mod.refl _ _⟩
  | some ad =>
    go_enter Tryz.func138, Tryz.ntmps138
    go_wp2_with (at_builtin; refine wpList_append_pcs rfl (.tmp 5) (.tmp 6) rfl w.heap.size _ [] rfl (OwnP.made _) R (some ad) n c l rfl (hr.alloc _) (by simp; omega) (by simp) ?_; intro v' w' hown' hm' _)
    go_ret
    exact ⟨_, rfl, by simpa using hown', (OwnP.made w).modNon ((Mod.refl _ _).alloc _) hm'⟩

def OwnE (w : World) (B : Nat) (v : Value) (l : List Se) : Prop := w.ownsRow B 68 8 v l.length (ecs l)
theorem ecs_append (a b : List Se) : ecs (a ++ b) = ecs a ++ ecs b := by simp [ecs]
theorem ecs_one (l : List Se) : ∀ u ∈ ecs l, u.oneCell' = true := by
  intro u hu
  obtain ⟨x, _, hx⟩ := List.mem_flatMap.1 hu
  simp only [Se.cells, List.mem_cons, List.not_mem_nil, or_false] at hx
  rcases hx with rfl | rfl | rfl | rfl | rfl | rfl | rfl | rfl <;> rfl
theorem Se.info : (Tryz.prog.info? 68).map (fun i => (i.zero, i.size, i.bytes)) = some (some (Value.agg #[.int .i64 0, .int .i64 0, .int .i64 0, .int .i64 0, .int .i64 0, .bool false, .string ⟨#[]⟩, .int .i64 0]), 8, 72) := by kernel_rfl
section
variable {w w' : World} {B : Nat} {v : Value} {l : List Se} {S : Nat → Prop}
theorem OwnE.nil (w : World) (B : Nat) : OwnE w B (.slice none 0 0) [] := World.ownsRow_nil _ _ _ _
theorem OwnE.form (h : OwnE w B v l) : ∃ A m c, v = .slice A m c ∧ Hid (m = l.length) ∧ m ≤ c := by
  rcases h.2 with ⟨rfl, h0⟩ | ⟨g, cap, cur, rfl, _, _, hc, _⟩
  · exact ⟨none, 0, 0, rfl, h0.symm, Nat.le_refl _⟩
  · exact ⟨_, _, cap, rfl, rfl, hc⟩
theorem OwnE.reads {A : Option Addr} {n c : Nat} (h : OwnE w B (.slice A n c) l) : Reads w (fun k => B ≤ k ∧ some k = (Value.slice A n c).ownBlock) 8 A n (ecs l) := by
  have hn : n = l.length := by
    rcases h.2 with ⟨h1, h0⟩ | ⟨g, cap, cur, h1, _⟩
    · injection h1 with _ h2 _; rw [h2, h0]
    · injection h1
  subst hn
  exact (Reads.of_own h).more fun k _ hk => ⟨(World.ownsRow.lt h k hk.symm).1, hk⟩
theorem OwnE.non (h : OwnE w B v l) (hm : Mod Non w w') : OwnE w' B v l := own_non h hm
theorem OwnE.mod (h : OwnE w B v l) (hm : Mod S w w') (hS : ∀ g, v.ownBlock = some g → ¬ S g) : OwnE w' B v l := own_mod h hm hS
theorem OwnE.below (h : OwnE w B v l) {B' : Nat} (hB : B' ≤ B) : OwnE w B' v l := by
  refine ⟨h.1, ?_⟩
  rcases h.2 with h1 | ⟨g, cap, cur, h1, h2, h3⟩
  · exact .inl h1
  · exact .inr ⟨g, cap, cur, h1, by omega, h3⟩
theorem OwnE.made (w : World) : OwnE (w.alloc (.cells #[] 68)) w.heap.size (.slice (some ⟨w.heap.size, 0, none⟩) 0 0) [] := World.ownsRow_made w #[] 0 (Nat.le_refl _) (by simp [maxLen]) rfl
theorem OwnE.modNon {w0 w w' : World} {v : Value} {l : List Se} (h : OwnE w w0.heap.size v l) (hm : Mod Non w0 w) (hm' : Mod (fun g => v.ownBlock = some g) w w') : Mod Non w0 w' :=
  hm.trans hm' fun i hi h' => by have := (World.ownsRow.lt h i h').1; omega
end
/-- 'append(s, x...)' of a row -/
theorem wpList_append_ecs {w : World} {ops : Array Oper} {rest : List Oper} {o : Oper} {a : Act} {Q : Exit → Act → World → Prop} (hgd : o.guard = none) (s x : Operand)
    (ho : o.op = .call { callee := .builtin .append, args := #[s, x], argTypes := #[23, 23] })
    (B : Nat) (v : Value) (l : List Se) (hs : a.eval s = v) (hown : OwnE w B v l) (R : Nat → Prop) (A : Option Addr) (n c : Nat) (m : List Se) (hx : a.eval x = .slice A n c) (hr : Reads w R 8 A n (ecs m))
    (hlen : l.length + m.length ≤ 1000000) (hB : B ≤ w.heap.size)
    (h : ∀ v' w', OwnE w' B v' (l ++ m) → Mod (fun g => v.ownBlock = some g) w w' → (v'.ownBlock = v.ownBlock ∨ v'.ownBlock = some w.heap.size) → wpList Tryz.prog ops Q rest (a.put o.dst v') w') : wpList Tryz.prog ops Q (o :: rest) a w := by
  obtain ⟨i0, hi, hz0, hz1, hz2⟩ := info_parts Se.info
  have hn : n = m.length := by have := hr.1; rw [ecs_length] at this; omega
  subst hn
  refine wpList_append_any w hgd s x 23 ho B 68 i0 _ 8 72 Tryz.underlying23 hi hz0 hz1 hz2 rfl (by omega) v l.length (ecs l) hs hown R A m.length c (ecs m) hx hr (ecs_one m) (by unfold maxLen; omega) (by omega) hB ?_
  intro v' w' h1 h2 h3
  refine h v' w' ?_ (mod_of_grown h2) h3
  unfold OwnE
  rw [ecs_append, List.length_append]
  exact h1
/-- 'append(s, x)' of one: it lies in a block of its own first. -/
theorem wpList_append_Se {w : World} {ops : Array Oper} {rest : List Oper} {o : Oper} {a : Act} {Q : Exit → Act → World → Prop} (hgd : o.guard = none) (s x : Operand)
    (ho : o.op = .call { callee := .builtin .append, args := #[s, x], argTypes := #[23, 23] })
    (B : Nat) (v : Value) (l : List Se) (hs : a.eval s = v) (hown : OwnE w B v l) (y : Se) (H : Nat) (hH : w.heap.size = H) (hx : a.eval x = .slice (some ⟨H, 0, none⟩) 1 1)
    (hlen : l.length ≤ 100000) (hB : B ≤ w.heap.size)
    (h : ∀ v' w', OwnE w' B v' (l ++ [y]) → Mod (fun g => v.ownBlock = some g) w w' → wpList Tryz.prog ops Q rest (a.put o.dst v') w') :
    wpList Tryz.prog ops Q (o :: rest) a (w.alloc (.cells y.cells.toArray 68)) := by
  subst hH
  refine wpList_append_ecs hgd s x ho B v l hs (hown.non ((Mod.refl _ _).alloc _)) (fun _ => True) _ 1 1 [y] hx ?_ (by simp; omega) (by simp; omega) ?_
  · have := reads_new w y.cells.toArray 68 (fun _ => True) trivial 8 rfl
    simpa [ecs] using this
  · intro v' w' h1 h2 _
    exact h v' w' h1 (((Mod.refl Non w).alloc _).non.trans h2 fun _ _ h => h)

theorem slices_Clone_Se (A : Option Addr) (n c : Nat) (R : Nat → Prop) (l : List Se) (w : World) (hr : Reads w R 8 A n (ecs l)) (hl : l.length ≤ 100000) :
    Calls Tryz.prog 146 #[.slice A n c] w fun e w' => ∃ v, e = .returned v ∧ OwnE w' w.heap.size v l ∧ Mod Non w w' := by
  have qT : ∀ (w : World) (a : Option Addr) (n c n' c' : Nat), (binOp .eql 23 (.slice a n c) (.slice none n' c')).run Tryz.prog w = .ok (.bool a.isNone) w := fun w a n c n' c' => Lib.run_eql_slice_nil w _ _ a n c n' c' Tryz.underlying23
  cases A with
  | none =>
    have hn : l = [] := by
      have h1 := hr.1
      rcases Nat.eq_zero_or_pos n with h0 | h0
      · subst h0
        rw [ecs_length] at h1
        exact List.eq_nil_of_length_eq_zero (by omega)
      · obtain ⟨ad, h, _⟩ := hr.2 h0
        cases h
    subst hn
    go_enter Tryz.func146, Tryz.ntmps146
    go_wp2
    go_ret
    exact ⟨_, rfl, OwnE.nil _ _, Mod.refl _ _⟩
  | some ad =>
    go_enter Tryz.func146, Tryz.ntmps146
    go_wp2_with (at_builtin; refine wpList_append_ecs rfl (.tmp 5) (.tmp 6) rfl w.heap.size _ [] rfl (OwnE.made _) R (some ad) n c l rfl (hr.alloc _) (by simp; omega) (by simp) ?_; intro v' w' hown' hm' _)
    go_ret
    exact ⟨_, rfl, by simpa using hown', (OwnE.made w).modNon ((Mod.refl _ _).alloc _) hm'⟩

def OwnA (w : World) (B : Nat) (v : Value) (l : List An) : Prop := w.ownsRow B 57 6 v l.length (acs l)
theorem acs_append (a b : List An) : acs (a ++ b) = acs a ++ acs b := by simp [acs]
theorem acs_one (l : List An) : ∀ u ∈ acs l, u.oneCell' = true := by
  intro u hu
  obtain ⟨x, _, hx⟩ := List.mem_flatMap.1 hu
  simp only [An.cells, List.mem_cons, List.not_mem_nil, or_false] at hx
  rcases hx with rfl | rfl | rfl | rfl | rfl | rfl <;> rfl
theorem An.info : (Tryz.prog.info? 57).map (fun i => (i.zero, i.size, i.bytes)) = some (some (Value.agg #[.int .i64 0, .int .i64 0, .int .i64 0, .bool false, .string ⟨#[]⟩, .int .i64 0]), 6, 56) := by kernel_rfl
section
variable {w w' : World} {B : Nat} {v : Value} {l : List An} {S : Nat → Prop}
theorem OwnA.nil (w : World) (B : Nat) : OwnA w B (.slice none 0 0) [] := World.ownsRow_nil _ _ _ _
theorem OwnA.form (h : OwnA w B v l) : ∃ A m c, v = .slice A m c ∧ Hid (m = l.length) ∧ m ≤ c := by
  rcases h.2 with ⟨rfl, h0⟩ | ⟨g, cap, cur, rfl, _, _, hc, _⟩
  · exact ⟨none, 0, 0, rfl, h0.symm, Nat.le_refl _⟩
  · exact ⟨_, _, cap, rfl, rfl, hc⟩
theorem OwnA.reads {A : Option Addr} {n c : Nat} (h : OwnA w B (.slice A n c) l) : Reads w (fun k => B ≤ k ∧ some k = (Value.slice A n c).ownBlock) 6 A n (acs l) := by
  have hn : n = l.length := by
    rcases h.2 with ⟨h1, h0⟩ | ⟨g, cap, cur, h1, _⟩
    · injection h1 with _ h2 _; rw [h2, h0]
    · injection h1
  subst hn
  exact (Reads.of_own h).more fun k _ hk => ⟨(World.ownsRow.lt h k hk.symm).1, hk⟩
theorem OwnA.non (h : OwnA w B v l) (hm : Mod Non w w') : OwnA w' B v l := own_non h hm
theorem OwnA.mod (h : OwnA w B v l) (hm : Mod S w w') (hS : ∀ g, v.ownBlock = some g → ¬ S g) : OwnA w' B v l := own_mod h hm hS
theorem OwnA.below (h : OwnA w B v l) {B' : Nat} (hB : B' ≤ B) : OwnA w B' v l := by
  refine ⟨h.1, ?_⟩
  rcases h.2 with h1 | ⟨g, cap, cur, h1, h2, h3⟩
  · exact .inl h1
  · exact .inr ⟨g, cap, cur, h1, by omega, h3⟩
theorem OwnA.made (w : World) : OwnA (w.alloc (.cells #[] 57)) w.heap.size (.slice (some ⟨w.heap.size, 0, none⟩) 0 0) [] := World.ownsRow_made w #[] 0 (Nat.le_refl _) (by simp [maxLen]) rfl
theorem OwnA.modNon {w0 w w' : World} {v : Value} {l : List An} (h : OwnA w w0.heap.size v l) (hm : Mod Non w0 w) (hm' : Mod (fun g => v.ownBlock = some g) w w') : Mod Non w0 w' :=
  hm.trans hm' fun i hi h' => by have := (World.ownsRow.lt h i h').1; omega
end
/-- 'append(s, x...)' of a row -/
theorem wpList_append_acs {w : World} {ops : Array Oper} {rest : List Oper} {o : Oper} {a : Act} {Q : Exit → Act → World → Prop} (hgd : o.guard = none) (s x : Operand)
    (ho : o.op = .call { callee := .builtin .append, args := #[s, x], argTypes := #[43, 43] })
    (B : Nat) (v : Value) (l : List An) (hs : a.eval s = v) (hown : OwnA w B v l) (R : Nat → Prop) (A : Option Addr) (n c : Nat) (m : List An) (hx : a.eval x = .slice A n c) (hr : Reads w R 6 A n (acs m))
    (hlen : l.length + m.length ≤ 1000000) (hB : B ≤ w.heap.size)
    (h : ∀ v' w', OwnA w' B v' (l ++ m) → Mod (fun g => v.ownBlock = some g) w w' → (v'.ownBlock = v.ownBlock ∨ v'.ownBlock = some w.heap.size) → wpList Tryz.prog ops Q rest (a.put o.dst v') w') : wpList Tryz.prog ops Q (o :: rest) a w := by
  obtain ⟨i0, hi, hz0, hz1, hz2⟩ := info_parts An.info
  have hn : n = m.length := by have := hr.1; rw [acs_length] at this; omega
  subst hn
  refine wpList_append_any w hgd s x 43 ho B 57 i0 _ 6 56 Tryz.underlying43 hi hz0 hz1 hz2 rfl (by omega) v l.length (acs l) hs hown R A m.length c (acs m) hx hr (acs_one m) (by unfold maxLen; omega) (by omega) hB ?_
  intro v' w' h1 h2 h3
  refine h v' w' ?_ (mod_of_grown h2) h3
  unfold OwnA
  rw [acs_append, List.length_append]
  exact h1
/-- 'append(s, x)' of one: it lies in a block of its own first. -/
theorem wpList_append_An {w : World} {ops : Array Oper} {rest : List Oper} {o : Oper} {a : Act} {Q : Exit → Act → World → Prop} (hgd : o.guard = none) (s x : Operand)
    (ho : o.op = .call { callee := .builtin .append, args := #[s, x], argTypes := #[43, 43] })
    (B : Nat) (v : Value) (l : List An) (hs : a.eval s = v) (hown : OwnA w B v l) (y : An) (H : Nat) (hH : w.heap.size = H) (hx : a.eval x = .slice (some ⟨H, 0, none⟩) 1 1)
    (hlen : l.length ≤ 100000) (hB : B ≤ w.heap.size)
    (h : ∀ v' w', OwnA w' B v' (l ++ [y]) → Mod (fun g => v.ownBlock = some g) w w' → wpList Tryz.prog ops Q rest (a.put o.dst v') w') :
    wpList Tryz.prog ops Q (o :: rest) a (w.alloc (.cells y.cells.toArray 57)) := by
  subst hH
  refine wpList_append_acs hgd s x ho B v l hs (hown.non ((Mod.refl _ _).alloc _)) (fun _ => True) _ 1 1 [y] hx ?_ (by simp; omega) (by simp; omega) ?_
  · have := reads_new w y.cells.toArray 57 (fun _ => True) trivial 6 rfl
    simpa [acs] using this
  · intro v' w' h1 h2 _
    exact h v' w' h1 (((Mod.refl Non w).alloc _).non.trans h2 fun _ _ h => h)
end Go.Proofs.YtdclfdinhdaadaaGreatDoor
