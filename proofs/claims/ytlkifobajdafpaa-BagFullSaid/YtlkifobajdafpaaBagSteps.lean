/- The statements on package bag: a row of steps, 'large'. -/
import Derived.Test.YtlkifobajdafpaaBagDoDrop
import Derived.Test.YtlkifobajdafpaaBagDoNo
import Derived.Test.YtlkifobajdafpaaOpen
namespace Go.Proofs.Ytlkifobajdafpaa
open Go.RowKit

theorem flatMap_get {α β : Type} (f : α → List β) (s : Nat) (l : List α) (hf : ∀ x, (f x).length = s) {i : Nat} {x : α} (hx : l[i]? = some x) (r : Nat) (hr : r < s) : (l.flatMap f)[i * s + r]? = (f x)[r]? := by
  induction l generalizing i with
  | nil => simp at hx
  | cons a l ih =>
    rw [List.flatMap_cons]
    cases i with
    | zero =>
      simp at hx
      subst hx
      rw [Nat.zero_mul, Nat.zero_add, List.getElem?_append_left (by rw [hf]; exact hr)]
    | succ i =>
      simp at hx
      rw [List.getElem?_append_right (by rw [hf, Nat.succ_mul]; omega), hf, ← ih hx]
      congr 1
      rw [Nat.succ_mul]; omega

/-- a step as a value -/
structure Sv where
  k : Int
  n : Int
  q : Pv
def Sv.cells (s : Sv) : List Value := [.int .i64 s.k, .int .i64 s.n, .int .i64 s.q.f, .int .i64 s.q.t, .slice s.q.A s.q.n s.q.c]
def scs (ss : List Sv) : List Value := ss.flatMap Sv.cells
theorem scs_length (ss : List Sv) : (scs ss).length = ss.length * 5 := flatMap_length' _ 5 _ fun _ _ => rfl

theorem Reads.st {w : World} {R : Nat → Prop} {A : Option Addr} {n k : Nat} {ss : List Sv} (hr : Reads w R 5 A n (scs ss)) (hk : k < n) :
    ∃ b off s, A = some ⟨b, off, none⟩ ∧ b < w.heap.size ∧ R b ∧ ss[k]? = some s ∧ w.cell? ⟨b, off + k * 5, none⟩ = some (.int .i64 s.k) ∧ w.cell? ⟨b, off + k * 5 + 1, none⟩ = some (.int .i64 s.n) ∧
      w.cell? ⟨b, off + k * 5 + 2, none⟩ = some (.int .i64 s.q.f) ∧ w.cell? ⟨b, off + k * 5 + 3, none⟩ = some (.int .i64 s.q.t) ∧ w.cell? ⟨b, off + k * 5 + 4, none⟩ = some (.slice s.q.A s.q.n s.q.c) := by
  have hl := hr.1
  rw [scs_length] at hl
  have hkq : k < ss.length := by omega
  obtain ⟨b, off, hA, hb, hR, hc⟩ := hr.row (by omega) (by rw [scs_length]; omega)
  have hx := List.getElem?_eq_getElem hkq
  have p : ∀ r, r < 5 → (scs ss)[k * 5 + r]? = (ss[k].cells)[r]? := fun r h => flatMap_get Sv.cells 5 ss (fun _ => rfl) hx r h
  exact ⟨b, off, ss[k], hA, hb, hR, hx, hc _ _ (p 0 (by omega)), by simpa [Nat.add_assoc] using hc _ _ (p 1 (by omega)), by simpa [Nat.add_assoc] using hc _ _ (p 2 (by omega)), by simpa [Nat.add_assoc] using hc _ _ (p 3 (by omega)), by simpa [Nat.add_assoc] using hc _ _ (p 4 (by omega))⟩

def LargeR (e : Ending) (n : Nat) (ss : List Sv) : Prop := e = .returned (.bool true) ∨ (e = .returned (.bool false) ∧ n ≤ 80 ∧ ∀ s ∈ ss, s.q.n ≤ 50)

theorem law38_large (A : Option Addr) (n c : Nat) (R : Nat → Prop) (ss : List Sv) (w : World) (hr : Reads w R 5 A n (scs ss)) (hmax : n ≤ 9223372036854775807) :
    Calls Try.prog 21 #[.slice A n c] w fun e w' => LargeR e n ss ∧ w = w' := by
  have hl : ss.length = n := by have := hr.1; rw [scs_length] at this; omega
  have HL := Lib.hid hl
  clear hl
  go_enter Try.func21, Try.ntmps21
  go_wp2
  go_loopw [3] (fun i wr => ∃ k : Nat, k ≤ n ∧ k ≤ 80 ∧ i = .int .i64 k ∧ (∀ s ∈ ss.take k, s.q.n ≤ 50) ∧ w = wr) (fun i _ => 80 - (intOf i).toNat)
  case atStart => exact ⟨0, by omega, by omega, rfl, by simp, rfl⟩
  case round =>
    obtain ⟨k, hk, hk8, rfl, hall, rfl⟩ := hrel
    by_cases hlt : k < n ∧ k < 80
    · obtain ⟨h1, h2⟩ := hlt
      have h1' : (k : Int) < n := by omega
      have h2' : (k : Int) < 80 := by omega
      have h0' : (0 : Int) ≤ (k : Int) := by omega
      obtain ⟨ab, off, ⟨sk, sn, f, t, A2, n2, c2⟩, hA, hab, _, hqk, d0, d1, d2, d3, d4⟩ := hr.st h1
      simp only at d0 d1 d2 d3 d4
      subst hA
      have HQ := Lib.hid hqk
      clear hqk
      by_cases hn2 : n2 ≤ 50
      · have hn2' : (n2 : Int) ≤ 50 := by omega
        go_wp2
        go_roundw
        case rel =>
          refine ⟨k + 1, by omega, by omega, by go_num, ?_, trivial⟩
          intro s hs
          rw [List.take_add_one, HQ.out] at hs
          rcases List.mem_append.1 hs with h | h
          · exact hall s h
          · simp at h; subst h; exact hn2
        case measure => simp [intOf]; omega
      · have hn2' : ¬ (n2 : Int) ≤ 50 := by omega
        go_wp2
        go_ret
        exact ⟨.inl rfl, rfl⟩
    · by_cases hn : n ≤ 80
      · have hkn : k = n := by omega
        have h3 : ¬ ((80 : Int) < n) := by omega
        have HA : Hid (∀ s ∈ ss, s.q.n ≤ 50) := by
          show ∀ s ∈ ss, s.q.n ≤ 50
          rw [← List.take_of_length_le (l := ss) (i := k) (by rw [HL.out]; omega)]; exact hall
        clear hall
        have h1 : ¬ ((k : Int) < (n : Int)) := by omega
        go_wp2
        go_ret
        exact ⟨.inr ⟨rfl, hn, HA.out⟩, rfl⟩
      · have hk80 : k = 80 := by omega
        have h1 : (k : Int) < n := by omega
        have h2 : ¬ ((k : Int) < 80) := by omega
        have h3 : (80 : Int) < n := by omega
        clear hall hk80
        go_wp2
        go_ret
        exact ⟨.inl rfl, rfl⟩
end Go.Proofs.Ytlkifobajdafpaa
