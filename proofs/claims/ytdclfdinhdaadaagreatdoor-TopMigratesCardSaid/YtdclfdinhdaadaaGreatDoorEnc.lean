/- A state's bytes: plain. -/
import Derived.Test.YtdclfdinhdaadaaGreatDoorMigrUp
import Derived.Test.YtdclfdinhdaadaaGreatDoorAnswerPut
namespace Go.Proofs.YtdclfdinhdaadaaGreatDoor
open Go.RowKit

/-- a pair's bytes, in a schema -/
def penc (v : Int) (p : Pa) : List UInt8 := vbytes p.key.size ++ p.key.data.toList ++ (if v = 1 then [] else vbytes p.rev.toNat) ++ vbytes p.val.size ++ p.val.data.toList
/-- a session's bytes -/
def xenc (v : Int) (x : Se) : List UInt8 := aenc v x.last
def pencs (v : Int) (ps : List Pa) : List UInt8 := ps.flatMap (penc v)
def xencs (v : Int) (ss : List Se) : List UInt8 := ss.flatMap (xenc v)
/-- a state's bytes -/
def senc (s : St) : List UInt8 := vbytes s.schema.toNat ++ vbytes s.pairs.length ++ pencs s.schema s.pairs ++ vbytes s.sess.length ++ xencs s.schema s.sess

theorem keyB_size {s : ByteArray} (h : keyB s = true) : 1 ≤ s.size ∧ s.size ≤ 24 := by
  unfold keyB at h
  simp only [Bool.and_eq_true, decide_eq_true_eq] at h
  exact ⟨h.1.1.1, h.1.1.2⟩
theorem valB_size {s : ByteArray} (h : valB s = true) : s.size ≤ 48 := by
  unfold valB at h
  simp only [Bool.and_eq_true, decide_eq_true_eq] at h
  exact h.1.1

theorem penc_length {v : Int} {p : Pa} (h : p.Ok) (hr : p.rev ≤ 4294967296) : (penc v p).length ≤ 100 := by
  have k1 := keyB_size h.1
  have k2 := valB_size h.2
  have h1 := vbytes_five (n := p.key.size) (by omega)
  have h2 := vbytes_five (n := p.val.size) (by omega)
  have h3 := vbytes_five (n := p.rev.toNat) (by omega)
  have h4 : p.key.data.toList.length = p.key.size := by simp
  have h5 : p.val.data.toList.length = p.val.size := by simp
  unfold penc
  by_cases hv : v = 1
  · rw [if_pos hv]
    simp only [List.length_append, List.length_nil]
    omega
  · rw [if_neg hv]
    simp only [List.length_append]
    omega
theorem penc_two {v : Int} {p : Pa} : 2 ≤ (penc v p).length := by
  have h1 := vbytes_pos p.key.size
  have h2 := vbytes_pos p.val.size
  unfold penc
  simp only [List.length_append]
  omega
theorem flat_le {α : Type} (f : α → List UInt8) (m : Nat) : ∀ (l : List α), (∀ x ∈ l, (f x).length ≤ m) → (l.flatMap f).length ≤ l.length * m
  | [], _ => by simp
  | a :: l, h => by
    have h1 := flat_le f m l fun x hx => h x (by simp [hx])
    have h2 := h a (by simp)
    rw [List.flatMap_cons, List.length_append, List.length_cons, Nat.succ_mul]
    omega
theorem flat_ge {α : Type} (f : α → List UInt8) : ∀ (l : List α), (∀ x ∈ l, 1 ≤ (f x).length) → l.length ≤ (l.flatMap f).length
  | [], _ => by simp
  | a :: l, h => by
    have h1 := flat_ge f l fun x hx => h x (by simp [hx])
    have h2 := h a (by simp)
    rw [List.flatMap_cons, List.length_append, List.length_cons]
    omega
theorem flat_take {α β : Type} (f : α → List β) (l : List α) {k : Nat} {x : α} (h : l[k]? = some x) : (l.take (k + 1)).flatMap f = (l.take k).flatMap f ++ f x := by
  obtain ⟨h1, h2⟩ := List.getElem?_eq_some_iff.1 h
  rw [List.take_succ_eq_append_getElem h1, h2, List.flatMap_append]
  simp
theorem pencs_take {v : Int} {ps : List Pa} {k : Nat} (h : ∀ p ∈ ps, p.Ok ∧ p.rev ≤ 4294967296) : (pencs v (ps.take k)).length ≤ ps.length * 100 :=
  Nat.le_trans (flat_le (penc v) 100 _ fun p hp => penc_length (h p (List.mem_of_mem_take hp)).1 (h p (List.mem_of_mem_take hp)).2) (Nat.mul_le_mul_right _ (by rw [List.length_take]; omega))
theorem xencs_take {v : Int} {ss : List Se} {k : Nat} (h : ∀ s ∈ ss, s.last.Ok) : (xencs v (ss.take k)).length ≤ ss.length * 100 :=
  Nat.le_trans (flat_le (xenc v) 100 _ fun p hp => aenc_length v (h p (List.mem_of_mem_take hp))) (Nat.mul_le_mul_right _ (by rw [List.length_take]; omega))

/-- there are at most eight sessions -/
theorem ses_few {ss : List Se} (h : SesOk ss) : ss.length ≤ 8 := by
  have key : ∀ (l : List Se) (m : Int), (∀ s ∈ l, m ≤ s.client ∧ s.client ≤ 8) → l.Pairwise (fun a b => a.client < b.client) → m ≤ 9 → (l.length : Int) ≤ 9 - m := by
    intro l
    induction l with
    | nil => intro m _ _ h3; simp; omega
    | cons a l ih =>
      intro m h1 h2 _
      have ha := h1 a (by simp)
      rw [List.pairwise_cons] at h2
      have := ih (a.client + 1) (fun s hs => ⟨by have := h2.1 s hs; omega, (h1 s (by simp [hs])).2⟩) h2.2 (by omega)
      rw [List.length_cons]
      omega
  have := key ss 1 (fun s hs => by have h1 := h.each s hs; have h2 := h1.2.2.1.client; omega) h.rise (by omega)
  omega
end Go.Proofs.YtdclfdinhdaadaaGreatDoor
