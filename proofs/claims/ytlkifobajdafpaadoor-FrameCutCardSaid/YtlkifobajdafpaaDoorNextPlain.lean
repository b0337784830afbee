/- What Next and Scan of package frame answer, in plain Lean. No program in sight. -/
import Derived.Test.YtlkifobajdafpaaDoorFrameAdd
import Derived.Test.YtlkifobajdafpaaDoorVarintGetPlain
namespace Go.Proofs.YtlkifobajdafpaaDoor

/-- The frame at a place, and the place behind it; or what is wrong. -/
def nextK (l : List UInt8) (a : Int) : Except Nat (List UInt8 × Nat) :=
  if a < 0 ∨ (l.length : Int) < a then .error 6 else
  match gscan 0 0 (l.drop a.toNat) with
  | .error e => .error e
  | .ok (v, t) =>
    if v = 0 then .error 3 else if 65536 < v then .error 2
    else if l.length < a.toNat + t + v + 4 then .error 1
    else if sameB ((l.drop (a.toNat + t + v)).take 4) (sum4 (crcK ((l.drop (a.toNat + t)).take v))) = true then .ok ((l.drop (a.toNat + t)).take v, a.toNat + t + v + 4)
    else .error 4

/-- The five ways, each with what is known on it. -/
theorem nextK_cases (l : List UInt8) (a : Int) :
    ((a < 0 ∨ (l.length : Int) < a) ∧ nextK l a = .error 6) ∨
    ∃ n : Nat, a = n ∧ n ≤ l.length ∧ ((∃ e, gscan 0 0 (l.drop n) = .error e ∧ nextK l a = .error e) ∨
      ∃ v t, gscan 0 0 (l.drop n) = .ok (v, t) ∧ (
        (v = 0 ∧ nextK l a = .error 3) ∨ (65536 < v ∧ nextK l a = .error 2) ∨ (1 ≤ v ∧ v ≤ 65536 ∧ l.length < n + t + v + 4 ∧ nextK l a = .error 1) ∨
        (1 ≤ v ∧ v ≤ 65536 ∧ n + t + v + 4 ≤ l.length ∧ sameB ((l.drop (n + t + v)).take 4) (sum4 (crcK ((l.drop (n + t)).take v))) = false ∧ nextK l a = .error 4) ∨
        (1 ≤ v ∧ v ≤ 65536 ∧ n + t + v + 4 ≤ l.length ∧ sameB ((l.drop (n + t + v)).take 4) (sum4 (crcK ((l.drop (n + t)).take v))) = true ∧ nextK l a = .ok ((l.drop (n + t)).take v, n + t + v + 4)))) := by
  by_cases h : a < 0 ∨ (l.length : Int) < a
  · exact .inl ⟨h, by rw [nextK, if_pos h]⟩
  · obtain ⟨n, rfl⟩ : ∃ n : Nat, a = n := ⟨a.toNat, by omega⟩
    refine .inr ⟨n, rfl, by omega, ?_⟩
    have e : nextK l n = (match gscan 0 0 (l.drop n) with
      | .error e => .error e
      | .ok (v, t) =>
        if v = 0 then .error 3 else if 65536 < v then .error 2
        else if l.length < n + t + v + 4 then .error 1
        else if sameB ((l.drop (n + t + v)).take 4) (sum4 (crcK ((l.drop (n + t)).take v))) = true then .ok ((l.drop (n + t)).take v, n + t + v + 4)
        else .error 4) := by rw [nextK, if_neg h]; rfl
    rcases hg : gscan 0 0 (l.drop n) with er | ⟨v, t⟩
    · exact .inl ⟨er, rfl, by rw [e, hg]⟩
    · refine .inr ⟨v, t, rfl, ?_⟩
      rw [hg] at e
      simp only at e
      by_cases h1 : v = 0
      · exact .inl ⟨h1, by rw [e, if_pos h1]⟩
      · by_cases h2 : 65536 < v
        · exact .inr (.inl ⟨h2, by rw [e, if_neg h1, if_pos h2]⟩)
        · by_cases h3 : l.length < n + t + v + 4
          · exact .inr (.inr (.inl ⟨by omega, by omega, h3, by rw [e, if_neg h1, if_neg h2, if_pos h3]⟩))
          · rcases h4 : sameB ((l.drop (n + t + v)).take 4) (sum4 (crcK ((l.drop (n + t)).take v))) with _ | _
            · exact .inr (.inr (.inr (.inl ⟨by omega, by omega, by omega, rfl, by rw [e, if_neg h1, if_neg h2, if_neg h3, if_neg (by rw [h4]; simp)]⟩)))
            · exact .inr (.inr (.inr (.inr ⟨by omega, by omega, by omega, rfl, by rw [e, if_neg h1, if_neg h2, if_neg h3, if_pos h4]⟩)))

theorem gscan_pos {l : List UInt8} {v t : Nat} (h : gscan 0 0 l = .ok (v, t)) : 1 ≤ t := by
  obtain ⟨n, r, _, _, rfl, _⟩ := gscan_canon l 0 0 v t (by omega) h
  have := vbytes_pos n
  omega

theorem gscan_err {l : List UInt8} : ∀ {k acc e : Nat}, gscan k acc l = .error e → e = 1 ∨ e = 3 := by
  induction l with
  | nil => intro k acc e h; rw [gscan_nil] at h; injection h with h; exact .inl h.symm
  | cons c l ih =>
    intro k acc e h
    by_cases hb : (c.toNat = 0 ∧ 0 < k) ∨ 9 ≤ k
    · rw [gscan_bad hb] at h; injection h with h; exact .inr h.symm
    · by_cases hc : c.toNat < 128
      · rw [gscan_last hb hc] at h; cases h
      · rw [gscan_more hb hc] at h; exact ih h

theorem nextK_ok {l : List UInt8} {a : Int} {body : List UInt8} {k : Nat} (h : nextK l a = .ok (body, k)) : a < k ∧ k ≤ l.length ∧ 0 ≤ a ∧ 1 ≤ body.length ∧ body.length ≤ 65536 := by
  rcases nextK_cases l a with ⟨_, h1⟩ | ⟨n, rfl, hn, ⟨e, _, h1⟩ | ⟨v, t, hg, ⟨_, h1⟩ | ⟨_, h1⟩ | ⟨_, _, _, h1⟩ | ⟨_, _, _, _, h1⟩ | ⟨h2, h3, h4, _, h1⟩⟩⟩
  all_goals rw [h1] at h
  any_goals cases h
  have := gscan_pos hg
  rw [List.length_take, List.length_drop]
  omega

theorem nextK_err {l : List UInt8} {a : Int} {e : Nat} (h : nextK l a = .error e) : 1 ≤ e ∧ e ≤ 6 := by
  rcases nextK_cases l a with ⟨_, h1⟩ | ⟨n, rfl, hn, ⟨e, h2, h1⟩ | ⟨v, t, hg, ⟨_, h1⟩ | ⟨_, h1⟩ | ⟨_, _, _, h1⟩ | ⟨_, _, _, _, h1⟩ | ⟨h2, h3, h4, _, h1⟩⟩⟩
  all_goals rw [h1] at h
  any_goals cases h
  any_goals omega
  have := gscan_err h2
  omega

set_option linter.unusedVariables false in
/-- All frames from a place on, and where they end. -/
def scanK (l : List UInt8) (a : Nat) : List (List UInt8) × Nat :=
  match h : nextK l a with
  | .error _ => ([], a)
  | .ok (body, k) => let r := scanK l k; (body :: r.1, r.2)
termination_by l.length - a
decreasing_by have := nextK_ok h; omega

theorem scanK_err {l : List UInt8} {a e : Nat} (h : nextK l a = .error e) : scanK l a = ([], a) := by
  rw [scanK]; split
  · rfl
  · rename_i h1; rw [h] at h1; cases h1
theorem scanK_ok {l : List UInt8} {a k : Nat} {body : List UInt8} (h : nextK l a = .ok (body, k)) : scanK l a = (body :: (scanK l k).1, (scanK l k).2) := by
  rw [scanK]; split
  · rename_i h1; rw [h] at h1; cases h1
  · rename_i h1; rw [h] at h1; cases h1; rfl

/-- Frames there, one by one: behind p the frame of x, whatever comes. -/
theorem nextK_frame (p x r : List UInt8) (h1 : 1 ≤ x.length) (h2 : x.length ≤ 65536) : nextK (p ++ fbytes x ++ r) p.length = .ok (x, p.length + (fbytes x).length) := by
  have hd : (p ++ fbytes x ++ r).drop p.length = vbytes x.length ++ (x ++ sum4 (crcK x) ++ r) := by
    rw [List.append_assoc, List.drop_left' rfl]; simp [fbytes]
  have h9 := vbytes_nine (n := x.length) (by omega)
  have hs4 : (sum4 (crcK x)).length = 4 := rfl
  have hg : gscan 0 0 ((p ++ fbytes x ++ r).drop p.length) = .ok (x.length, (vbytes x.length).length) := by
    rw [hd, gscan_vbytes _ _ _ _ (by omega) (.inr rfl)]; simp
  have hll : (p ++ fbytes x ++ r).length = p.length + ((vbytes x.length).length + x.length + 4) + r.length := by rw [List.length_append, List.length_append, fbytes_length]
  have db : ((p ++ fbytes x ++ r).drop (p.length + (vbytes x.length).length)).take x.length = x := by
    rw [← List.drop_drop, hd, List.drop_left' rfl, List.append_assoc, List.take_left' rfl]
  have dt : ((p ++ fbytes x ++ r).drop (p.length + (vbytes x.length).length + x.length)).take 4 = sum4 (crcK x) := by
    rw [← List.drop_drop, ← List.drop_drop, hd, List.drop_left' rfl, List.append_assoc, List.drop_left' rfl, List.take_left' hs4]
  rcases nextK_cases (p ++ fbytes x ++ r) p.length with ⟨h, _⟩ | ⟨n, hn, _, ⟨e, h2, h⟩ | ⟨v, t, hg', hc⟩⟩
  · exfalso; rw [hll] at h; omega
  · obtain rfl : p.length = n := by omega
    rw [hg] at h2; cases h2
  · obtain rfl : p.length = n := by omega
    rw [hg] at hg'
    injection hg' with hg'; injection hg' with e1 e2
    subst e1 e2
    rw [db, dt] at hc
    rcases hc with ⟨h0, _⟩ | ⟨h0, _⟩ | ⟨_, _, h0, _⟩ | ⟨_, _, _, h0, _⟩ | ⟨_, _, _, _, h⟩
    · omega
    · omega
    · rw [hll] at h0; omega
    · rw [sameB_yes rfl] at h0; cases h0
    · rw [h, fbytes_length]; congr 2; omega

/-- Of a frame that is cut off nothing is told. -/
theorem nextK_cut (p x : List UInt8) (m : Nat) (h1 : 1 ≤ x.length) (h2 : x.length ≤ 65536) (hm : m < (fbytes x).length) : ∃ e, nextK (p ++ (fbytes x).take m) p.length = .error e := by
  have hd : (p ++ (fbytes x).take m).drop p.length = (fbytes x).take m := List.drop_left' rfl
  have h9 := vbytes_nine (n := x.length) (by omega)
  have hfl := fbytes_length x
  have hll : (p ++ (fbytes x).take m).length = p.length + m := by rw [List.length_append, List.length_take]; omega
  rcases nextK_cases (p ++ (fbytes x).take m) p.length with ⟨_, h⟩ | ⟨n, hn, _, ⟨e, _, h⟩ | ⟨v, t, hg, hc⟩⟩
  · exact ⟨_, h⟩
  · exact ⟨_, h⟩
  · obtain rfl : p.length = n := by omega
    rw [hd] at hg
    obtain ⟨n', r, e1, e2, e3, _⟩ := gscan_canon _ 0 0 v t (by omega) hg
    simp only [Nat.pow_zero, Nat.mul_one, Nat.zero_add] at e2 e3
    subst e2 e3
    have e4 : vbytes v ++ (r ++ (fbytes x).drop m) = vbytes x.length ++ (x ++ sum4 (crcK x)) := by
      rw [← List.append_assoc, ← e1, List.take_append_drop]; simp [fbytes]
    obtain ⟨rfl, _⟩ := vbytes_apart _ _ _ _ e4
    rcases hc with ⟨_, h⟩ | ⟨_, h⟩ | ⟨_, _, _, h⟩ | ⟨_, _, _, _, h⟩ | ⟨_, _, h0, _, _⟩
    · exact ⟨_, h⟩
    · exact ⟨_, h⟩
    · exact ⟨_, h⟩
    · exact ⟨_, h⟩
    · exfalso; rw [hll] at h0; omega
end Go.Proofs.YtlkifobajdafpaaDoor
