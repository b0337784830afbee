/- Plain law: what the stores of FrameSpoilt make of a frame. -/
import Derived.Test.YtlkifobajdafpaaDoorFrameAdd
namespace Go.Proofs.YtlkifobajdafpaaDoor

/-- the row behind j stores -/
def sp (p : Nat) (x : Nat → UInt8) (L : List UInt8) : Nat → List UInt8
  | 0 => L
  | j + 1 => (sp p x L j).set (p + j) ((sp p x L j).getD (p + j) 0 ^^^ x j)
theorem sp_length (p : Nat) (x : Nat → UInt8) (L : List UInt8) (j : Nat) : (sp p x L j).length = L.length := by
  induction j with
  | zero => rfl
  | succ j ih => rw [sp, List.length_set, ih]

theorem set_at (p m s : List UInt8) (j : Nat) (v : UInt8) (hj : j < m.length) : (p ++ m ++ s).set (p.length + j) v = p ++ m.set j v ++ s := by
  rw [List.append_assoc, List.set_append_right _ _ (by omega), Nat.add_sub_cancel_left, List.set_append_left _ _ hj, List.append_assoc]
theorem get_at (p m s : List UInt8) (j : Nat) (hj : j < m.length) : (p ++ m ++ s).getD (p.length + j) 0 = m.getD j 0 := by
  rw [List.getD_eq_getElem?_getD, List.getD_eq_getElem?_getD, List.append_assoc, List.getElem?_append_right (by omega), Nat.add_sub_cancel_left, List.getElem?_append_left hj]
theorem sp_four (p s : List UInt8) (a b c d : UInt8) (x : Nat → UInt8) : sp p.length x (p ++ [a, b, c, d] ++ s) 4 = p ++ [a ^^^ x 0, b ^^^ x 1, c ^^^ x 2, d ^^^ x 3] ++ s := by
  simp only [sp]
  rw [get_at _ _ _ 0 (by simp), set_at _ _ _ 0 _ (by simp)]
  simp only [List.set, List.getD_cons_zero]
  rw [get_at _ _ _ 1 (by simp), set_at _ _ _ 1 _ (by simp)]
  simp only [List.set, List.getD_cons_zero, List.getD_cons_succ]
  rw [get_at _ _ _ 2 (by simp), set_at _ _ _ 2 _ (by simp)]
  simp only [List.set, List.getD_cons_zero, List.getD_cons_succ]
  rw [get_at _ _ _ 3 (by simp), set_at _ _ _ 3 _ (by simp)]
  simp only [List.set, List.getD_cons_zero, List.getD_cons_succ]

theorem split4 (l : List UInt8) (a : Nat) (h : a + 4 ≤ l.length) : ∃ P b0 b1 b2 b3 S, P.length = a ∧ l = P ++ [b0, b1, b2, b3] ++ S := by
  have h1 : (l.drop a).length = l.length - a := List.length_drop
  match hd : l.drop a, h1 with
  | b0 :: b1 :: b2 :: b3 :: S, _ =>
    refine ⟨l.take a, b0, b1, b2, b3, S, by rw [List.length_take]; omega, ?_⟩
    rw [List.append_assoc]
    show l = l.take a ++ (b0 :: b1 :: b2 :: b3 :: S)
    rw [← hd, List.take_append_drop]
  | [_, _, _], h => simp at h; omega
  | [_, _], h => simp at h; omega
  | [_], h => simp at h; omega
  | [], h => simp at h; omega

theorem spoilt_plain (l : List UInt8) (a : Nat) (x : Nat → UInt8) (h : a + 4 ≤ l.length) (hx : ¬ ((x 0).toNat = 0 ∧ (x 1).toNat = 0 ∧ (x 2).toNat = 0 ∧ (x 3).toNat = 0)) :
    ∃ l' : List UInt8, l'.length = l.length ∧ sp ((vbytes l.length).length + a) x (fbytes l) 4 = vbytes l.length ++ l' ++ sum4 (crcK l) ∧ crcK l ≠ crcK l' := by
  obtain ⟨P, b0, b1, b2, b3, S, hP, hl⟩ := split4 l a h
  refine ⟨P ++ [b0 ^^^ x 0, b1 ^^^ x 1, b2 ^^^ x 2, b3 ^^^ x 3] ++ S, ?_, ?_, ?_⟩
  · rw [hl]; simp
  · have e : fbytes l = (vbytes l.length ++ P) ++ [b0, b1, b2, b3] ++ (S ++ sum4 (crcK l)) := by
      unfold fbytes
      conv => lhs; arg 1; arg 2; rw [hl]
      simp
    rw [e, show (vbytes l.length).length + a = (vbytes l.length ++ P).length by rw [List.length_append, hP], sp_four]
    simp
  · intro hc
    conv at hc => lhs; rw [hl]
    obtain ⟨i0, i1, i2, i3⟩ := crcK_burst P S b0 b1 b2 b3 _ _ _ _ hc
    exact hx ⟨by rw [i0]; rfl, by rw [i1]; rfl, by rw [i2]; rfl, by rw [i3]; rfl⟩
end Go.Proofs.YtlkifobajdafpaaDoor
