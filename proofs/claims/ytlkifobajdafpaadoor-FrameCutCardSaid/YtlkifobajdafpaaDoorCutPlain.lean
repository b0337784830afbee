/- FrameCut in plain Lean: of frames of which a beginning is there just those come that are whole. No program in sight. -/
import Derived.Test.YtlkifobajdafpaaDoorNextPlain
namespace Go.Proofs.YtlkifobajdafpaaDoor

/-- b: the frames so far; want, at: those that end at n at most, and where the last one does. -/
def CutInv (n : Nat) (b : List UInt8) (want : List (List UInt8)) (a : Nat) : Prop :=
  (b.length ≤ n ∧ a = b.length ∧ ∀ r, scanK (b ++ r) 0 = (want ++ (scanK (b ++ r) b.length).1, (scanK (b ++ r) b.length).2)) ∨ (n < b.length ∧ scanK (b.take n) 0 = (want, a))

theorem CutInv.start (n : Nat) : CutInv n [] [] 0 := .inl ⟨Nat.zero_le _, rfl, fun _ => rfl⟩

theorem CutInv.whole {n : Nat} {b : List UInt8} {want : List (List UInt8)} {a : Nat} (h : CutInv n b want a) {x : List UInt8} (h1 : 1 ≤ x.length) (h2 : x.length ≤ 65536) (hn : (b ++ fbytes x).length ≤ n) :
    CutInv n (b ++ fbytes x) (want ++ [x]) (b ++ fbytes x).length := by
  have hl : (b ++ fbytes x).length = b.length + (fbytes x).length := List.length_append
  rcases h with ⟨_, _, hs⟩ | ⟨h0, _⟩
  · refine .inl ⟨hn, rfl, fun r => ?_⟩
    have e1 := hs (fbytes x ++ r)
    rw [← List.append_assoc] at e1
    rw [e1, scanK_ok (nextK_frame b x r h1 h2), ← hl]
    simp
  · omega

theorem CutInv.part {n : Nat} {b : List UInt8} {want : List (List UInt8)} {a : Nat} (h : CutInv n b want a) {x : List UInt8} (h1 : 1 ≤ x.length) (h2 : x.length ≤ 65536) (hn : n < (b ++ fbytes x).length) :
    CutInv n (b ++ fbytes x) want a := by
  have hl : (b ++ fbytes x).length = b.length + (fbytes x).length := List.length_append
  rcases h with ⟨h0, rfl, hs⟩ | ⟨h0, hs⟩
  · refine .inr ⟨hn, ?_⟩
    have e : (b ++ fbytes x).take n = b ++ (fbytes x).take (n - b.length) := by rw [List.take_append, List.take_of_length_le h0]
    obtain ⟨er, he⟩ := nextK_cut b x (n - b.length) h1 h2 (by omega)
    rw [e, hs, scanK_err he]
    simp
  · refine .inr ⟨hn, ?_⟩
    rw [List.take_append_of_le_length (by omega)]
    exact hs

theorem nextK_end (b : List UInt8) : nextK b b.length = .error 1 := by
  rcases nextK_cases b b.length with ⟨h, _⟩ | ⟨n, hn, _, ⟨e, h2, h⟩ | ⟨v, t, hg, _⟩⟩
  · omega
  · obtain rfl : b.length = n := by omega
    rw [List.drop_length, gscan_nil] at h2
    injection h2 with h2; rw [h, h2]
  · obtain rfl : b.length = n := by omega
    rw [List.drop_length, gscan_nil] at hg
    cases hg

theorem CutInv.done {n : Nat} {b : List UInt8} {want : List (List UInt8)} {a : Nat} (h : CutInv n b want a) (hn : n ≤ b.length) : scanK (b.take n) 0 = (want, a) := by
  rcases h with ⟨h0, rfl, hs⟩ | ⟨_, hs⟩
  · obtain rfl : n = b.length := by omega
    have e := hs []
    rw [List.append_nil, scanK_err (nextK_end b)] at e
    rw [List.take_length, e]; simp
  · exact hs
end Go.Proofs.YtlkifobajdafpaaDoor
