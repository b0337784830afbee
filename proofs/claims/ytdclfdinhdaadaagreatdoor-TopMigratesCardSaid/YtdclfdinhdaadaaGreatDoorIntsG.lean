/- Slices of numbers that the call makes; the reference's Ints. -/
import Derived.Test.YtdclfdinhdaadaaGreatDoorProg
import Derived.Test.YtdclfdinhdaadaaGreatDoorMgA
namespace Go.Proofs.YtdclfdinhdaadaaGreatDoor
open Go.RowKit

def vis (l : List Int) : List Value := l.map (Value.int .i64)
theorem vis_length (l : List Int) : (vis l).length = l.length := by simp [vis]
theorem vis_get {l : List Int} {j : Nat} (h : j < l.length) : (vis l)[j]? = some (.int .i64 l[j]) := by simp [vis, h]
def OwnI (w : World) (B : Nat) (v : Value) (l : List Int) : Prop := w.ownsRow B 3 1 v l.length (vis l)
theorem int_info : (Tryz.prog.info? 3).map (fun i => (i.zero, i.size, i.bytes)) = some (some (.int .i64 0), 1, 8) := by kernel_rfl
section
variable {w w' : World} {B : Nat} {v : Value} {l : List Int} {S : Nat → Prop}
theorem OwnI.nil (w : World) (B : Nat) : OwnI w B (.slice none 0 0) [] := World.ownsRow_nil _ _ _ _
theorem OwnI.non (h : OwnI w B v l) (hm : Mod Non w w') : OwnI w' B v l := own_non h hm
theorem OwnI.lower (h : OwnI w B v l) {B' : Nat} (hB : B' ≤ B) : OwnI w B' v l := by
  refine ⟨h.1, ?_⟩
  rcases h.2 with h1 | ⟨g, cap, cur, h1, h2, h3⟩
  · exact .inl h1
  · exact .inr ⟨g, cap, cur, h1, by omega, h3⟩
theorem OwnI.form (h : OwnI w B v l) : ∃ A m c, v = .slice A m c ∧ Hid (m = l.length) ∧ m ≤ c := by
  rcases h.2 with ⟨rfl, h0⟩ | ⟨g, cap, cur, rfl, _, _, hc, _⟩
  · exact ⟨none, 0, 0, rfl, h0.symm, Nat.le_refl _⟩
  · exact ⟨_, _, cap, rfl, rfl, hc⟩
theorem OwnI.reads {A : Option Addr} {n c : Nat} (h : OwnI w B (.slice A n c) l) : Reads w (fun k => B ≤ k ∧ some k = (Value.slice A n c).ownBlock) 1 A n (vis l) := by
  have hn : n = l.length := by
    rcases h.2 with ⟨h1, h0⟩ | ⟨g, cap, cur, h1, _⟩
    · injection h1 with _ h2 _; rw [h2, h0]
    · injection h1
  subst hn
  exact (Reads.of_own h).more fun k _ hk => ⟨(World.ownsRow.lt h k hk.symm).1, hk⟩
theorem OwnI.modNon {w0 w w' : World} {v : Value} {l : List Int} (h : OwnI w w0.heap.size v l) (hm : Mod Non w0 w) (hm' : Mod (fun g => v.ownBlock = some g) w w') : Mod Non w0 w' :=
  hm.trans hm' fun i hi h' => by have := (World.ownsRow.lt h i h').1; omega
end

theorem wpList_append_int {w : World} {ops : Array Oper} {rest : List Oper} {o : Oper} {a : Act} {Q : Exit → Act → World → Prop} (hgd : o.guard = none) (s x : Operand)
    (ho : o.op = .call { callee := .builtin .append, args := #[s, x], argTypes := #[50, 50] })
    (B : Nat) (v : Value) (l : List Int) (hs : a.eval s = v) (hown : OwnI w B v l) (k : Int) (H : Nat) (hH : w.heap.size = H) (hx : a.eval x = .slice (some ⟨H, 0, none⟩) 1 1)
    (hlen : l.length ≤ 10000000) (hB : B ≤ w.heap.size)
    (h : ∀ v' w', OwnI w' B v' (l ++ [k]) → Mod (fun g => v.ownBlock = some g) w w' → (v'.ownBlock = v.ownBlock ∨ ∃ g, v'.ownBlock = some g ∧ w.heap.size ≤ g) → wpList Tryz.prog ops Q rest (a.put o.dst v') w') :
    wpList Tryz.prog ops Q (o :: rest) a (w.alloc (.cells #[.int .i64 k] 3)) := by
  subst hH
  obtain ⟨i0, hi, hz0, hz1, hz2⟩ := info_parts int_info
  refine wpList_append_any _ hgd s x 50 ho B 3 i0 _ 1 8 Tryz.underlying50 hi hz0 hz1 hz2 rfl (by omega) v l.length (vis l) hs (World.ownsRow.alloc hown _) (fun _ => True) _ 1 1
    [.int .i64 k] hx (reads_one w _ _ _ trivial) (by intro u hu; simp at hu; subst hu; rfl) (by unfold maxLen; omega) (by omega) (by simp; omega) ?_
  intro v' w' h1 h2 h3
  refine h v' w' ?_ (((Mod.refl Non w).alloc _).non.trans (mod_of_grown h2) fun _ _ h => h) ?_
  · unfold OwnI; rw [show vis (l ++ [k]) = vis l ++ [.int .i64 k] by simp [vis], List.length_append]; exact h1
  · rcases h3 with h3 | h3
    · exact .inl h3
    · exact .inr ⟨_, h3, by simp⟩

def sameI (a b : List Int) : Bool := a == b
theorem sameI_yes {a b : List Int} (h : a = b) : sameI a b = true := by simp [sameI, h]
theorem sameI_iff {a b : List Int} : sameI a b = true ↔ a = b := by simp [sameI]

set_option maxHeartbeats 400000 in
theorem ref_Ints (A A' : Option Addr) (n n' c c' : Nat) (R R' : Nat → Prop) (l l' : List Int) (w : World) (hr : Reads w R 1 A n (vis l)) (hr' : Reads w R' 1 A' n' (vis l')) (hmax : n ≤ maxLen) :
    Calls Tryz.prog 105 #[.slice A n c, .slice A' n' c'] w fun e w' => e = .returned (.bool (sameI l l')) ∧ Mod Non w w' := by
  unfold maxLen at hmax
  have hn := hr.1
  have hn' := hr'.1
  rw [vis_length, Nat.mul_one] at hn hn'
  by_cases hne : n = n'
  · subst hne
    have HN := Lib.hid hn
    have HN' := Lib.hid hn'
    clear hn hn'
    have e1 : ((n : Int) != n) = false := by simp
    go_enter Tryz.func105, Tryz.ntmps105
    go_wp2
    go_loopw [5] (fun i wr => ∃ k : Nat, k ≤ n ∧ i = .int .i64 k ∧ l.take k = l'.take k ∧ Mod Non w wr) (fun i _ => n - (intOf i).toNat)
    case atStart => exact ⟨0, by omega, rfl, by simp, Mod.refl _ _⟩
    case round =>
      obtain ⟨k, hk, rfl, htk, hmr⟩ := hrel
      have HT := Lib.hid htk
      clear htk
      by_cases hlt : k < n
      · have h1 := hr.mod hmr (fun _ _ _ h => h)
        have h2 := hr'.mod hmr (fun _ _ _ h => h)
        obtain ⟨b, off, hA, _, _, hc1⟩ := h1.row (by omega) (by rw [vis_length, HN.out]; omega)
        obtain ⟨b', off', hA', _, _, hc2⟩ := h2.row (by omega) (by rw [vis_length, HN'.out]; omega)
        have hl1 : k < l.length := by rw [HN.out]; exact hlt
        have hl2 : k < l'.length := by rw [HN'.out]; exact hlt
        obtain ⟨x, hx⟩ : ∃ x, x = l[k] := ⟨_, rfl⟩
        obtain ⟨y, hy⟩ : ∃ y, y = l'[k] := ⟨_, rfl⟩
        have c1 := hc1 k _ (vis_get hl1)
        have c2 := hc2 k _ (vis_get hl2)
        rw [← hx] at c1
        rw [← hy] at c2
        have HX := Lib.hid hx
        have HY := Lib.hid hy
        clear hx hy hc1 hc2 h1 h2
        subst hA hA'
        have hlk : (k : Int) < n := by omega
        by_cases hxy : x = y
        · have e2 : (x != y) = false := by simp [hxy]
          have HXY := Lib.hid hxy
          clear hxy
          go_wp2
          go_quiet (fail)
          go_wp2
          go_roundw
          case rel =>
            refine ⟨k + 1, by omega, by go_num, ?_, hmr.drewN _⟩
            rw [List.take_succ_eq_append_getElem hl1, List.take_succ_eq_append_getElem hl2, HT.out, ← HX.out, ← HY.out, HXY.out]
          case measure => simp [intOf]; omega
        · have e2 : (x != y) = true := by simp [hxy]
          have HF : Hid (sameI l l' = false) := by
            show sameI l l' = false
            rw [Bool.eq_false_iff]
            intro h
            have := sameI_iff.1 h
            subst this
            exact hxy (HX.out.trans HY.out.symm)
          clear hxy
          go_wp2
          go_quiet (fail)
          go_wp2
          go_ret
          exact ⟨by rw [HF.out]; rfl, hmr.drewN _⟩
      · have HF : Hid (sameI l l' = true) := by
          show sameI l l' = true
          refine sameI_yes ?_
          have := HT.out
          rwa [List.take_of_length_le (by rw [HN.out]; omega), List.take_of_length_le (by rw [HN'.out]; omega)] at this
        go_wp2
        go_ret
        exact ⟨by rw [HF.out]; rfl, hmr⟩
  · have e1 : ((n : Int) != n') = true := by simp; omega
    have HF : Hid (sameI l l' = false) := by
      show sameI l l' = false
      rw [Bool.eq_false_iff]
      intro h
      have := sameI_iff.1 h
      subst this
      omega
    clear hn hn' hne
    go_enter Tryz.func105, Tryz.ntmps105
    go_wp2
    go_ret
    exact ⟨by rw [HF.out]; rfl, Mod.refl _ _⟩
end Go.Proofs.YtdclfdinhdaadaaGreatDoor
