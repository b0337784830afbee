/- Packets in memory: what a packet's cells are, rows of packets, and which calls keep them. -/
import Derived.Test.YtlkifobajdafpaaBytes
namespace Go.Proofs.Ytlkifobajdafpaa
open Go.RowKit

/-- A packet as it lies in memory, and as what it says. -/
structure Pv where
  f : Int
  t : Int
  A : Option Addr
  n : Nat
  c : Nat
structure Pk where
  f : Int
  t : Int
  d : List UInt8
def Pv.cells (q : Pv) : List Value := [.int .i64 q.f, .int .i64 q.t, .slice q.A q.n q.c]
def Pv.val (q : Pv) : Value := .agg #[.int .i64 q.f, .int .i64 q.t, .slice q.A q.n q.c]
def Pk.zero : Pk := ⟨0, 0, []⟩
def Pv.zero : Pv := ⟨0, 0, none, 0, 0⟩
theorem Pv.cells_length (q : Pv) : q.cells.length = 3 := rfl

/-- Block k holds no bytes. -/
def NB (w : World) (k : Nat) : Prop := ∀ cs fr, w.heap[k]? ≠ some (.cells cs 5 fr)
/-- Only blocks from B on that hold no bytes, and what is new, may have turned. -/
def Kp (B : Nat) (w w' : World) : Prop := Mod (fun k => B ≤ k ∧ NB w k) w w'
/-- A slice of bytes that lies below B or in a block of bytes. -/
def RdB (w : World) (B : Nat) (A : Option Addr) (n : Nat) (d : List UInt8) : Prop := Reads w (fun k => k < B ∨ ¬ NB w k) 1 A n (vbs d)
def PkR (w : World) (B : Nat) (q : Pv) (p : Pk) : Prop := q.f = p.f ∧ q.t = p.t ∧ RdB w B q.A q.n p.d
def PRs (w : World) (B : Nat) (qs : List Pv) (ps : List Pk) : Prop := qs.length = ps.length ∧ ∀ (i : Nat) (q : Pv) (p : Pk), qs[i]? = some q → ps[i]? = some p → PkR w B q p

section
variable {S : Nat → Prop} {w w' w'' : World} {B : Nat} {A : Option Addr} {n : Nat} {d : List UInt8} {q : Pv} {p : Pk} {qs : List Pv} {ps : List Pk}
theorem Kp.of_mod (h : Mod S w w') (hS : ∀ k, k < w.heap.size → S k → B ≤ k ∧ NB w k) : Kp B w w' := h.mono hS
theorem Kp.non (h : Mod Non w w') : Kp B w w' := Mod.non h
theorem Kp.refl (B : Nat) (w : World) : Kp B w w := Mod.refl _ _
theorem NB.back (h : Kp B w w') {k : Nat} (hk : k < w.heap.size) (hn : NB w' k) : NB w k := by
  intro cs fr he
  by_cases hnb : NB w k
  · exact hnb cs fr he
  · have := Mod.block h k hk (fun hh => hnb hh.2)
    exact hn cs fr (this.trans he)
theorem Kp.trans (h : Kp B w w') (h' : Kp B w' w'') : Kp B w w'' := Mod.trans h h' fun _ hk hh => ⟨hh.1, NB.back h hk hh.2⟩
theorem NB.of_blk {g t : Nat} {cs : Array Value} (h : Blk w g t cs) (ht : t ≠ 5) : NB w g := by
  intro cs' fr he
  unfold Blk at h
  rw [h] at he
  injection he with he
  injection he with _ h2 _
  exact ht h2
theorem Kp.set1 {g t i : Nat} {cs : Array Value} (h : Blk w g t cs) (ht : t ≠ 5) (hB : B ≤ g) (u : Value) : Kp B w (w.setCell ⟨g, i, none⟩ u) :=
  (Mod.one w g i u).mono fun k _ hk => by unfold One at hk; subst hk; exact ⟨hB, NB.of_blk h ht⟩
theorem Kp.setCell {w0 : World} {g t i : Nat} {cs : Array Value} (h0 : Kp B w0 w) (h : Blk w g t cs) (ht : t ≠ 5) (hB : B ≤ g) (u : Value) : Kp B w0 (w.setCell ⟨g, i, none⟩ u) := h0.trans (Kp.set1 h ht hB u)
theorem RdB.kp (h : RdB w B A n d) (hk : Kp B w w') : RdB w' B A n d := by
  have h1 := Reads.mod h hk (fun _ _ hr hs => by
    rcases hr with hr | hr
    · omega
    · exact hr hs.2)
  refine ⟨h1.1, fun hn => ?_⟩
  obtain ⟨ad, e, hl, hr, hc⟩ := h1.2 hn
  refine ⟨ad, e, hl, ?_, hc⟩
  rcases hr with hr | hr
  · exact .inl hr
  · refine .inr fun hnb => hr (NB.back hk ?_ hnb)
    obtain ⟨ad', e', hl', _⟩ := h.2 hn
    rw [e] at e'; injection e' with e'; subst e'; exact hl'
theorem RdB.of_own {v : Value} {c m B0 : Nat} (h : OwnB w B0 v d) (hv : v = .slice A m c) : RdB w B A m d := by
  subst hv
  have h1 := OwnB.reads h
  refine h1.more fun k hk hh => .inr fun hnb => ?_
  rcases World.ownsRow.lt h k hh.2.symm with ⟨_, _⟩
  rcases h.2 with ⟨h0, _⟩ | ⟨g, cap, cur, hg, _, hgg, _⟩
  · rw [h0] at hh; simp [Value.ownBlock] at hh
  · rw [hg] at hh
    have : k = g := by simpa [Value.ownBlock] using hh.2
    subst this
    exact hnb _ _ hgg
theorem RdB.below (h : Reads w (fun k => k < B) 1 A n (vbs d)) : RdB w B A n d := h.more fun _ _ hk => .inl hk
theorem RdB.drew (h : RdB w B A n d) : RdB w.drew B A n d := h
theorem RdB.nil : RdB w B none 0 [] := Reads.none_
theorem PkR.kp (h : PkR w B q p) (hk : Kp B w w') : PkR w' B q p := ⟨h.1, h.2.1, h.2.2.kp hk⟩
theorem PRs.kp (h : PRs w B qs ps) (hk : Kp B w w') : PRs w' B qs ps := ⟨h.1, fun i q p h1 h2 => (h.2 i q p h1 h2).kp hk⟩
theorem PRs.nil : PRs w B [] [] := ⟨rfl, by simp⟩
theorem PRs.snoc (h : PRs w B qs ps) (hp : PkR w B q p) : PRs w B (qs ++ [q]) (ps ++ [p]) := by
  refine ⟨by simp [h.1], fun i a b h1 h2 => ?_⟩
  by_cases hi : i < qs.length
  · rw [List.getElem?_append_left hi] at h1
    rw [List.getElem?_append_left (by rw [← h.1]; exact hi)] at h2
    exact h.2 i a b h1 h2
  · rw [List.getElem?_append_right (by omega)] at h1
    rw [List.getElem?_append_right (by rw [← h.1]; omega)] at h2
    rw [List.getElem?_singleton] at h1 h2
    split at h1
    · split at h2
      · injection h1 with h1; injection h2 with h2; subst h1; subst h2; exact hp
      · cases h2
    · cases h1
theorem PRs.erase (h : PRs w B qs ps) (i : Nat) : PRs w B (qs.eraseIdx i) (ps.eraseIdx i) := by
  refine ⟨by simp [List.length_eraseIdx, h.1], fun j a b h1 h2 => ?_⟩
  rw [List.getElem?_eraseIdx] at h1 h2
  split at h1
  · rename_i hj; rw [if_pos hj] at h2; exact h.2 _ _ _ h1 h2
  · rename_i hj; rw [if_neg hj] at h2; exact h.2 _ _ _ h1 h2
theorem PRs.at_ (h : PRs w B qs ps) {i : Nat} (hi : i < ps.length) : ∃ q p, qs[i]? = some q ∧ ps[i]? = some p ∧ PkR w B q p := by
  have hq : i < qs.length := by rw [h.1]; exact hi
  exact ⟨qs[i], ps[i], List.getElem?_eq_getElem hq, List.getElem?_eq_getElem hi, h.2 i _ _ (List.getElem?_eq_getElem hq) (List.getElem?_eq_getElem hi)⟩
end

/-- the cells of a row of packets -/
def pcs (qs : List Pv) : List Value := qs.flatMap Pv.cells
theorem pcs_length (qs : List Pv) : (pcs qs).length = qs.length * 3 := by
  unfold pcs
  induction qs with
  | nil => rfl
  | cons q qs ih => rw [List.flatMap_cons, List.length_append, ih, Pv.cells_length, List.length_cons]; omega
theorem pcs_append (a b : List Pv) : pcs (a ++ b) = pcs a ++ pcs b := by simp [pcs]
theorem pcs_one (qs : List Pv) : ∀ u ∈ pcs qs, u.oneCell' = true := by
  intro u hu
  obtain ⟨q, _, h⟩ := List.mem_flatMap.1 hu
  unfold Pv.cells at h
  simp at h
  rcases h with rfl | rfl | rfl <;> rfl
theorem pcs_at {qs : List Pv} {i : Nat} {q : Pv} (h : qs[i]? = some q) :
    (pcs qs)[i * 3]? = some (.int .i64 q.f) ∧ (pcs qs)[i * 3 + 1]? = some (.int .i64 q.t) ∧ (pcs qs)[i * 3 + 2]? = some (.slice q.A q.n q.c) := by
  induction qs generalizing i with
  | nil => simp at h
  | cons a qs ih =>
    have e : pcs (a :: qs) = a.cells ++ pcs qs := by simp [pcs]
    cases i with
    | zero =>
      simp at h
      subst h
      rw [e]
      simp [Pv.cells]
    | succ i =>
      simp at h
      obtain ⟨h1, h2, h3⟩ := ih h
      rw [e]
      refine ⟨?_, ?_, ?_⟩
      · rw [List.getElem?_append_right (by rw [Pv.cells_length]; omega), Pv.cells_length, ← h1]; congr 1; omega
      · rw [List.getElem?_append_right (by rw [Pv.cells_length]; omega), Pv.cells_length, ← h2]; congr 1; omega
      · rw [List.getElem?_append_right (by rw [Pv.cells_length]; omega), Pv.cells_length, ← h3]; congr 1; omega
theorem pcs_take (qs : List Pv) (i : Nat) : (pcs qs).take (i * 3) = pcs (qs.take i) := by
  induction qs generalizing i with
  | nil => simp [pcs]
  | cons a qs ih =>
    have e : pcs (a :: qs) = a.cells ++ pcs qs := by simp [pcs]
    cases i with
    | zero => simp [pcs]
    | succ i =>
      rw [e, List.take_succ_cons, show pcs (a :: qs.take i) = a.cells ++ pcs (qs.take i) from by simp [pcs], ← ih i, List.take_append, Pv.cells_length]
      rw [List.take_of_length_le (by rw [Pv.cells_length]; omega)]
      congr 2; omega
theorem pcs_drop (qs : List Pv) (i : Nat) : (pcs qs).drop (i * 3) = pcs (qs.drop i) := by
  have h1 : pcs (qs.take i) ++ pcs (qs.drop i) = pcs qs := by rw [← pcs_append, List.take_append_drop]
  have h2 : (pcs qs).take (i * 3) ++ (pcs qs).drop (i * 3) = pcs qs := List.take_append_drop _ _
  rw [pcs_take] at h2
  exact List.append_cancel_left (h2.trans h1.symm)

/-- The value v is a row of packets that the call itself made. -/
def OwnP (w : World) (B : Nat) (v : Value) (qs : List Pv) : Prop := w.ownsRow B 48 3 v qs.length (pcs qs)
section
variable {w w' : World} {B : Nat} {v : Value} {qs : List Pv} {S : Nat → Prop}
theorem OwnP.nil (w : World) (B : Nat) : OwnP w B (.slice none 0 0) [] := World.ownsRow_nil _ _ _ _
theorem OwnP.non (h : OwnP w B v qs) (hm : Mod Non w w') : OwnP w' B v qs := own_non h hm
theorem OwnP.mod (h : OwnP w B v qs) (hm : Mod S w w') (hS : ∀ g, v.ownBlock = some g → ¬ S g) : OwnP w' B v qs := own_mod h hm hS
theorem OwnP.alloc (h : OwnP w B v qs) (o : Obj) : OwnP (w.alloc o) B v qs := World.ownsRow.alloc h o
theorem OwnP.far (h : OwnP w B v qs) {p : Addr} (hp : ¬ v.ownBlock = some p.block) (u : Value) : OwnP (w.setCell p u) B v qs := ownsRow_setCell_other h hp u
theorem OwnP.drew (h : OwnP w B v qs) : OwnP w.drew B v qs := h
theorem OwnP.form (h : OwnP w B v qs) : ∃ A m c, v = .slice A m c ∧ Hid (m = qs.length) ∧ m ≤ c := by
  rcases h.2 with ⟨rfl, h0⟩ | ⟨g, cap, cur, rfl, _, _, hc, _⟩
  · exact ⟨none, 0, 0, rfl, h0.symm, Nat.le_refl _⟩
  · exact ⟨_, _, cap, rfl, rfl, hc⟩
theorem OwnP.reads {A : Option Addr} {n c : Nat} (h : OwnP w B (.slice A n c) qs) : Reads w (fun k => B ≤ k ∧ some k = (Value.slice A n c).ownBlock) 3 A n (pcs qs) := by
  have hn : n = qs.length := by
    rcases h.2 with ⟨h1, h0⟩ | ⟨g, cap, cur, h1, _⟩
    · injection h1 with _ h2 _; rw [h2, h0]
    · injection h1
  subst hn
  exact (Reads.of_own h).more fun k _ hk => ⟨(World.ownsRow.lt h k hk.symm).1, hk⟩
theorem OwnP.row {A : Option Addr} {n c : Nat} (h : OwnP w B (.slice A n c) qs) : w.ownsRow B 48 3 (.slice A n c) n (pcs qs) := by
  have hn : n = qs.length := by
    rcases h.2 with ⟨h1, h0⟩ | ⟨g, cap, cur, h1, _⟩
    · injection h1 with _ h2 _; rw [h2, h0]
    · injection h1
  subst hn
  exact h
theorem OwnP.of_row {n : Nat} (h : w.ownsRow B 48 3 v n (pcs qs)) : OwnP w B v qs := by
  have hn : qs.length = n := by have := h.1; rw [pcs_length] at this; omega
  subst hn
  exact h
theorem OwnP.take {g n c i : Nat} (h : OwnP w B (.slice (some ⟨g, 0, none⟩) n c) qs) (hi : i ≤ n) : OwnP w B (.slice (some ⟨g, 0, none⟩) i c) (qs.take i) := by
  have h1 := own_take h.row hi
  rw [pcs_take] at h1
  exact OwnP.of_row h1
theorem OwnP.nb (h : OwnP w B v qs) : ∀ k, v.ownBlock = some k → B ≤ k ∧ NB w k := by
  intro k hk
  refine ⟨(World.ownsRow.lt h k hk).1, fun cs fr he => ?_⟩
  rcases h.2 with ⟨h0, _⟩ | ⟨g, cap, cur, hg, _, hgg, _⟩
  · rw [h0] at hk; simp [Value.ownBlock] at hk
  · rw [hg] at hk
    have : g = k := by simpa [Value.ownBlock] using hk
    subst this
    rw [hgg] at he
    injection he with he
    injection he with _ h2 _
    exact absurd h2 (by decide)
end

theorem Reads.pk {w : World} {R : Nat → Prop} {A : Option Addr} {n k : Nat} {qs : List Pv} (hr : Reads w R 3 A n (pcs qs)) (hk : k < n) :
    ∃ b off q, A = some ⟨b, off, none⟩ ∧ b < w.heap.size ∧ R b ∧ qs[k]? = some q ∧ w.cell? ⟨b, off + k * 3, none⟩ = some (.int .i64 q.f) ∧ w.cell? ⟨b, off + k * 3 + 1, none⟩ = some (.int .i64 q.t) ∧ w.cell? ⟨b, off + k * 3 + 2, none⟩ = some (.slice q.A q.n q.c) := by
  have hl := hr.1
  rw [pcs_length] at hl
  have hkq : k < qs.length := by omega
  obtain ⟨b, off, hA, hb, hR, hc⟩ := hr.row (by omega) (by rw [pcs_length]; omega)
  obtain ⟨p0, p1, p2⟩ := pcs_at (List.getElem?_eq_getElem hkq)
  exact ⟨b, off, qs[k], hA, hb, hR, List.getElem?_eq_getElem hkq, hc _ _ p0, by simpa [Nat.add_assoc] using hc _ _ p1, by simpa [Nat.add_assoc] using hc _ _ p2⟩
end Go.Proofs.Ytlkifobajdafpaa
