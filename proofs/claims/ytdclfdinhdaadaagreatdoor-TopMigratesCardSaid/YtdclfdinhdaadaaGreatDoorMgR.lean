/- The references of vers, cmd, answer: the contracts of Has, Owned, member, answer.Check. -/
import Derived.Test.YtdclfdinhdaadaaGreatDoorMgU
import Derived.Test.YtdclfdinhdaadaaGreatDoorMgD
import Derived.Test.YtdclfdinhdaadaaGreatDoorCmdCheckG
import Derived.Test.YtdclfdinhdaadaaGreatDoorMgF
import Derived.Test.YtdclfdinhdaadaaGreatDoorMigrCheckG
import Derived.Test.YtdclfdinhdaadaaGreatDoorMgG
import Derived.Test.YtdclfdinhdaadaaGreatDoorIntsG
import Derived.Test.YtdclfdinhdaadaaGreatDoorTakeG
namespace Go.Proofs.YtdclfdinhdaadaaGreatDoor
open Go.RowKit

theorem ref07_Has (v k : Int) (w : World) (hv : v = 1 ∨ v = 2) :
    Calls Tryz.prog 10 #[.int .i64 v, .int .i64 k] w fun e w' => e = .returned (.bool (hasB v k)) ∧ w = w' := by
  obtain ⟨q, HQ⟩ : ∃ q, Hid (hasB v k = q) := ⟨_, rfl⟩
  rw [HQ.out]
  by_cases h1 : k < 1
  · have HR : Hid (false = q) := by show _ = _; rw [← HQ.out]; unfold hasB; simp; omega
    go_enter Tryz.func10, Tryz.ntmps10
    go_wp2
    go_ret
    exact ⟨ret_b HR.out, rfl⟩
  by_cases h2 : 8 < k
  · have HR : Hid (false = q) := by show _ = _; rw [← HQ.out]; unfold hasB; simp; omega
    go_enter Tryz.func10, Tryz.ntmps10
    go_wp2
    go_ret
    exact ⟨ret_b HR.out, rfl⟩
  rcases hv with rfl | rfl
  · by_cases h5 : k = 5
    · subst h5
      have HR : Hid (false = q) := by show _ = _; rw [← HQ.out]; rfl
      go_enter Tryz.func10, Tryz.ntmps10
      go_wp2
      go_ret
      exact ⟨ret_b HR.out, rfl⟩
    · have HR : Hid (true = q) := by show _ = _; rw [← HQ.out]; unfold hasB; simp; omega
      have h5' : (k != 5) = true := by simp; omega
      clear h5
      go_enter Tryz.func10, Tryz.ntmps10
      go_wp2
      go_ret
      exact ⟨ret_b HR.out, rfl⟩
  · have HR : Hid (true = q) := by show _ = _; rw [← HQ.out]; unfold hasB; simp; omega
    go_enter Tryz.func10, Tryz.ntmps10
    go_wp2
    go_ret
    exact ⟨ret_b HR.out, rfl⟩

set_option maxHeartbeats 1000000 in
theorem ref09_Check (a : An) (w : World) (hs : a.val.size ≤ 100000) :
    Calls Tryz.prog 64 #[a.v] w fun e w' => (∃ k : Int, e = .returned (.int .i64 k) ∧ (k = 0 → a.May)) ∧ Mod Non w w' := by
  obtain ⟨client, seq, err, found, val, rev⟩ := a
  simp only at hs
  by_cases h0 : client < 1
  · clear hs
    go_enter Tryz.func64, Tryz.ntmps64
    go_wp2
    go_ret
    exact ⟨⟨6, rfl, fun h => absurd h (by decide)⟩, (Mod.refl _ _).alloc _⟩
  by_cases h1 : 8 < client
  · clear hs
    go_enter Tryz.func64, Tryz.ntmps64
    go_wp2
    go_ret
    exact ⟨⟨6, rfl, fun h => absurd h (by decide)⟩, (Mod.refl _ _).alloc _⟩
  by_cases h2 : seq < 1
  · clear hs
    go_enter Tryz.func64, Tryz.ntmps64
    go_wp2
    go_ret
    exact ⟨⟨6, rfl, fun h => absurd h (by decide)⟩, (Mod.refl _ _).alloc _⟩
  by_cases h3 : 4294967296 < seq
  · clear hs
    go_enter Tryz.func64, Tryz.ntmps64
    go_wp2
    go_ret
    exact ⟨⟨6, rfl, fun h => absurd h (by decide)⟩, (Mod.refl _ _).alloc _⟩
  by_cases h4 : err < 0
  · clear hs
    go_enter Tryz.func64, Tryz.ntmps64
    go_wp2
    go_ret
    exact ⟨⟨6, rfl, fun h => absurd h (by decide)⟩, (Mod.refl _ _).alloc _⟩
  by_cases h5 : 17 < err
  · clear hs
    go_enter Tryz.func64, Tryz.ntmps64
    go_wp2
    go_ret
    exact ⟨⟨6, rfl, fun h => absurd h (by decide)⟩, (Mod.refl _ _).alloc _⟩
  by_cases h6 : rev < 0
  · clear hs
    go_enter Tryz.func64, Tryz.ntmps64
    go_wp2
    go_ret
    exact ⟨⟨6, rfl, fun h => absurd h (by decide)⟩, (Mod.refl _ _).alloc _⟩
  by_cases h7 : 4294967296 < rev
  · clear hs
    go_enter Tryz.func64, Tryz.ntmps64
    go_wp2
    go_ret
    exact ⟨⟨6, rfl, fun h => absurd h (by decide)⟩, (Mod.refl _ _).alloc _⟩
  have HV := Lib.hid (ref05_Val val (w.alloc (.cells #[.int .i64 client, .int .i64 seq, .int .i64 err, .bool found, .string val, .int .i64 rev] 57)) hs)
  have HA : Hid (valB val = true → An.May ⟨client, seq, err, found, val, rev⟩) := by
    intro hv
    have h48 : val.size ≤ 48 := by
      unfold valB at hv
      simp only [Bool.and_eq_true, decide_eq_true_eq] at hv
      exact hv.1.1
    exact ⟨⟨⟨by simp only; omega, by simp only; omega⟩, ⟨by simp only; omega, by simp only; omega⟩, ⟨by simp only; omega, by simp only; omega⟩, h48, ⟨by simp only; omega, by simp only; omega⟩⟩, hv⟩
  obtain ⟨y, hy⟩ : ∃ y, valB val = y := ⟨_, rfl⟩
  rw [hy] at HV HA
  clear hy hs
  go_enter Tryz.func64, Tryz.ntmps64
  go_wp2_with fail
  refine HV.out.mono ?_
  rintro e w1 ⟨rfl, rfl⟩
  cases y with
  | true =>
    go_wp2
    go_ret
    exact ⟨⟨0, rfl, fun _ => HA.out trivial⟩, (Mod.refl _ _).alloc _⟩
  | false =>
    go_wp2
    go_ret
    exact ⟨⟨7, rfl, fun h => absurd h (by decide)⟩, (Mod.refl _ _).alloc _⟩
end Go.Proofs.YtdclfdinhdaadaaGreatDoor

/- The references: Large of sessions, pairs, commands, states: what 'no' says. -/
namespace Go.Proofs.YtdclfdinhdaadaaGreatDoor
open Go.RowKit

/-- the answer is a bool, and where it is b0, so is P -/
def Says (b0 : Bool) (P : Prop) (e : Ending) : Prop := ∃ b, e = .returned (.bool b) ∧ (b = b0 → P)

theorem take_all {α : Type} {l : List α} {k : Nat} {p : α → Prop} (h : ∀ x ∈ l.take k, p x) (hk : l.length ≤ k) : ∀ x ∈ l, p x := by
  rwa [List.take_of_length_le hk] at h
theorem take_more {α : Type} {l : List α} {k : Nat} {p : α → Prop} (h : ∀ x ∈ l.take k, p x) {y : α} (hy : l[k]? = some y) (hp : p y) : ∀ x ∈ l.take (k + 1), p x := by
  intro x hx
  obtain ⟨hk, rfl⟩ := List.getElem?_eq_some_iff.1 hy
  rw [List.take_succ_eq_append_getElem hk, List.mem_append, List.mem_singleton] at hx
  rcases hx with hx | rfl
  · exact h x hx
  · exact hp

set_option maxRecDepth 100000 in
set_option maxHeartbeats 4000000 in
theorem ref22_Large (A : Option Addr) (n c : Nat) (R : Nat → Prop) (xs : List Se) (w : World) (hr : Reads w R 8 A n (ecs xs)) :
    Calls Tryz.prog 23 #[.slice A n c] w fun e w' => Says false (xs.length ≤ 40 ∧ ∀ x ∈ xs, x.last.val.size ≤ 200) e ∧ w = w' := by
  have hn : xs.length = n := by have := hr.1; rw [ecs_length] at this; omega
  have HN := Lib.hid hn
  clear hn
  go_enter Tryz.func23, Tryz.ntmps23
  go_wp2
  go_loopw [3] (fun i wr => ∃ k : Nat, k ≤ n ∧ k ≤ 40 ∧ i = .int .i64 k ∧ (∀ x ∈ xs.take k, x.last.val.size ≤ 200) ∧ w = wr) (fun i _ => n - (intOf i).toNat)
  case atStart => exact ⟨0, by omega, by omega, rfl, fun x hx => by simp at hx, rfl⟩
  case round =>
    obtain ⟨k, hk, hk2, rfl, hp, rfl⟩ := hrel
    have HP := Lib.hid hp
    clear hp
    by_cases hlt : k < n
    · have hlt' : (k : Int) < n := by omega
      by_cases h40 : k < 40
      · have h40' : (k : Int) < 40 := by omega
        obtain ⟨b, off, s, hA, _, _, hxk, _, _, _, _, _, _, d6, _⟩ := hr.se hlt
        subst hA
        have HX := Lib.hid hxk
        clear hxk
        by_cases t0 : 200 < s.last.val.size
        · have t0' : 200 < (s.last.val.size : Int) := by omega
          go_wp2
          go_ret
          exact ⟨⟨true, rfl, fun h => by cases h⟩, rfl⟩
        have t0' : ¬ 200 < (s.last.val.size : Int) := by omega
        have HQ : Hid (∀ x ∈ xs.take (k + 1), x.last.val.size ≤ 200) := take_more HP.out HX.out (by omega)
        go_wp2
        go_roundw
        case rel => exact ⟨k + 1, by omega, by omega, by go_num, HQ.out, trivial⟩
        case measure => simp [intOf]; omega
      · have h40' : ¬ (k : Int) < 40 := by omega
        have hn40 : 40 < (n : Int) := by omega
        go_wp2
        go_ret
        exact ⟨⟨true, rfl, fun h => by cases h⟩, rfl⟩
    · have hlt' : ¬ (k : Int) < n := by omega
      have hn40 : ¬ 40 < (n : Int) := by omega
      go_wp2
      go_ret
      exact ⟨⟨false, rfl, fun _ => ⟨by rw [HN.out]; omega, take_all HP.out (by rw [HN.out]; omega)⟩⟩, rfl⟩

set_option maxRecDepth 100000 in
set_option maxHeartbeats 4000000 in
theorem ref23_Large (A : Option Addr) (n c : Nat) (R : Nat → Prop) (xs : List Pa) (w : World) (hr : Reads w R 3 A n (pcs xs)) :
    Calls Tryz.prog 24 #[.slice A n c] w fun e w' => Says false (xs.length ≤ 80 ∧ ∀ x ∈ xs, x.key.size ≤ 200 ∧ x.val.size ≤ 200) e ∧ w = w' := by
  have hn : xs.length = n := by have := hr.1; rw [pcs_length] at this; omega
  have HN := Lib.hid hn
  clear hn
  go_enter Tryz.func24, Tryz.ntmps24
  go_wp2
  go_loopw [3] (fun i wr => ∃ k : Nat, k ≤ n ∧ k ≤ 80 ∧ i = .int .i64 k ∧ (∀ x ∈ xs.take k, x.key.size ≤ 200 ∧ x.val.size ≤ 200) ∧ w = wr) (fun i _ => n - (intOf i).toNat)
  case atStart => exact ⟨0, by omega, by omega, rfl, fun x hx => by simp at hx, rfl⟩
  case round =>
    obtain ⟨k, hk, hk2, rfl, hp, rfl⟩ := hrel
    have HP := Lib.hid hp
    clear hp
    by_cases hlt : k < n
    · have hlt' : (k : Int) < n := by omega
      by_cases h40 : k < 80
      · have h40' : (k : Int) < 80 := by omega
        obtain ⟨b, off, p, hA, _, _, hxk, d0, d1, _⟩ := hr.pa hlt
        subst hA
        have HX := Lib.hid hxk
        clear hxk
        by_cases t0 : 200 < p.key.size
        · have t0' : 200 < (p.key.size : Int) := by omega
          go_wp2
          go_ret
          exact ⟨⟨true, rfl, fun h => by cases h⟩, rfl⟩
        have t0' : ¬ 200 < (p.key.size : Int) := by omega
        by_cases t1 : 200 < p.val.size
        · have t1' : 200 < (p.val.size : Int) := by omega
          go_wp2
          go_ret
          exact ⟨⟨true, rfl, fun h => by cases h⟩, rfl⟩
        have t1' : ¬ 200 < (p.val.size : Int) := by omega
        have HQ : Hid (∀ x ∈ xs.take (k + 1), x.key.size ≤ 200 ∧ x.val.size ≤ 200) := take_more HP.out HX.out ⟨by omega, by omega⟩
        go_wp2
        go_roundw
        case rel => exact ⟨k + 1, by omega, by omega, by go_num, HQ.out, trivial⟩
        case measure => simp [intOf]; omega
      · have h40' : ¬ (k : Int) < 80 := by omega
        have hn40 : 80 < (n : Int) := by omega
        go_wp2
        go_ret
        exact ⟨⟨true, rfl, fun h => by cases h⟩, rfl⟩
    · have hlt' : ¬ (k : Int) < n := by omega
      have hn40 : ¬ 80 < (n : Int) := by omega
      go_wp2
      go_ret
      exact ⟨⟨false, rfl, fun _ => ⟨by rw [HN.out]; omega, take_all HP.out (by rw [HN.out]; omega)⟩⟩, rfl⟩

set_option maxRecDepth 100000 in
set_option maxHeartbeats 4000000 in
theorem ref28_Large (A : Option Addr) (n c : Nat) (R : Nat → Prop) (xs : List Cm) (w : World) (hr : Reads w R 7 A n (ccs xs)) :
    Calls Tryz.prog 6 #[.slice A n c] w fun e w' => Says false (xs.length ≤ 60 ∧ ∀ x ∈ xs, x.key.size ≤ 200 ∧ x.val.size ≤ 200 ∧ x.old.size ≤ 200) e ∧ w = w' := by
  have hn : xs.length = n := by have := hr.1; rw [ccs_length] at this; omega
  have HN := Lib.hid hn
  clear hn
  go_enter Tryz.func6, Tryz.ntmps6
  go_wp2
  go_loopw [3] (fun i wr => ∃ k : Nat, k ≤ n ∧ k ≤ 60 ∧ i = .int .i64 k ∧ (∀ x ∈ xs.take k, x.key.size ≤ 200 ∧ x.val.size ≤ 200 ∧ x.old.size ≤ 200) ∧ w = wr) (fun i _ => n - (intOf i).toNat)
  case atStart => exact ⟨0, by omega, by omega, rfl, fun x hx => by simp at hx, rfl⟩
  case round =>
    obtain ⟨k, hk, hk2, rfl, hp, rfl⟩ := hrel
    have HP := Lib.hid hp
    clear hp
    by_cases hlt : k < n
    · have hlt' : (k : Int) < n := by omega
      by_cases h40 : k < 60
      · have h40' : (k : Int) < 60 := by omega
        obtain ⟨b, off, q, hA, _, _, hxk, _, _, _, d3, d4, d5, _⟩ := hr.cm hlt
        subst hA
        have HX := Lib.hid hxk
        clear hxk
        by_cases t0 : 200 < q.key.size
        · have t0' : 200 < (q.key.size : Int) := by omega
          go_wp2
          go_ret
          exact ⟨⟨true, rfl, fun h => by cases h⟩, rfl⟩
        have t0' : ¬ 200 < (q.key.size : Int) := by omega
        by_cases t1 : 200 < q.val.size
        · have t1' : 200 < (q.val.size : Int) := by omega
          go_wp2
          go_ret
          exact ⟨⟨true, rfl, fun h => by cases h⟩, rfl⟩
        have t1' : ¬ 200 < (q.val.size : Int) := by omega
        by_cases t2 : 200 < q.old.size
        · have t2' : 200 < (q.old.size : Int) := by omega
          go_wp2
          go_ret
          exact ⟨⟨true, rfl, fun h => by cases h⟩, rfl⟩
        have t2' : ¬ 200 < (q.old.size : Int) := by omega
        have HQ : Hid (∀ x ∈ xs.take (k + 1), x.key.size ≤ 200 ∧ x.val.size ≤ 200 ∧ x.old.size ≤ 200) := take_more HP.out HX.out ⟨by omega, by omega, by omega⟩
        go_wp2
        go_roundw
        case rel => exact ⟨k + 1, by omega, by omega, by go_num, HQ.out, trivial⟩
        case measure => simp [intOf]; omega
      · have h40' : ¬ (k : Int) < 60 := by omega
        have hn40 : 60 < (n : Int) := by omega
        go_wp2
        go_ret
        exact ⟨⟨true, rfl, fun h => by cases h⟩, rfl⟩
    · have hlt' : ¬ (k : Int) < n := by omega
      have hn40 : ¬ 60 < (n : Int) := by omega
      go_wp2
      go_ret
      exact ⟨⟨false, rfl, fun _ => ⟨by rw [HN.out]; omega, take_all HP.out (by rw [HN.out]; omega)⟩⟩, rfl⟩

theorem ref25_Large (s : St) (A1 A2 : Option Addr) (n1 c1 n2 c2 : Nat) (R1 R2 : Nat → Prop) (w : World) (h1 : Reads w R1 3 A1 n1 (pcs s.pairs)) (h2 : Reads w R2 8 A2 n2 (ecs s.sess)) :
    Calls Tryz.prog 5 #[stv s.schema (.slice A1 n1 c1) (.slice A2 n2 c2)] w fun e w' => Says false ((s.pairs.length ≤ 80 ∧ ∀ x ∈ s.pairs, x.key.size ≤ 200 ∧ x.val.size ≤ 200) ∧ (s.sess.length ≤ 40 ∧ ∀ x ∈ s.sess, x.last.val.size ≤ 200)) e ∧ Mod Non w w' := by
  obtain ⟨v, ps, ss⟩ := s
  simp only at h1 h2
  have m0 := (Mod.refl Non w).alloc (.cells #[.int .i64 v, .slice A1 n1 c1, .slice A2 n2 c2] 25)
  have L1 := Lib.hid (ref23_Large A1 n1 c1 R1 ps _ (h1.mod m0 fun _ _ _ h => h))
  have L2 := Lib.hid (ref22_Large A2 n2 c2 R2 ss _ (h2.mod m0 fun _ _ _ h => h))
  go_enter Tryz.func5, Tryz.ntmps5
  go_wp2_with fail
  refine L2.out.mono ?_
  rintro e w1 ⟨⟨b2, rfl, g2⟩, rfl⟩
  have G2 := Lib.hid g2
  clear g2
  cases b2 with
  | true =>
    go_wp2
    go_ret
    exact ⟨⟨true, rfl, fun h => by cases h⟩, m0⟩
  | false =>
    go_wp2_with fail
    refine L1.out.mono ?_
    rintro e w1 ⟨⟨b1, rfl, g1⟩, rfl⟩
    have G1 := Lib.hid g1
    clear g1
    go_wp2
    go_ret
    refine ⟨⟨b1, rfl, fun h => ⟨?_, ?_⟩⟩, m0⟩
    · exact G1.out h
    · exact G2.out trivial
end Go.Proofs.YtdclfdinhdaadaaGreatDoor

/- The references of sess and kvone: Rise: what 'yes' says. -/
namespace Go.Proofs.YtdclfdinhdaadaaGreatDoor
open Go.RowKit

theorem pairwise_of_adj {α : Type} (R : α → α → Prop) (ht : ∀ a b c, R a b → R b c → R a c) (l : List α) (h : ∀ k x y, l[k]? = some x → l[k + 1]? = some y → R x y) : l.Pairwise R := by
  induction l with
  | nil => exact .nil
  | cons a l ih =>
    have ih' := ih fun k x y h1 h2 => h (k + 1) x y (by simpa using h1) (by simpa using h2)
    refine .cons ?_ ih'
    intro b hb
    cases l with
    | nil => cases hb
    | cons c l =>
      have hac : R a c := h 0 a c rfl rfl
      rcases List.mem_cons.1 hb with rfl | hb
      · exact hac
      · exact ht _ _ _ hac ((List.pairwise_cons.1 ih').1 b hb)

/-- up to place k the list rises -/
def Adj {α : Type} (R : α → α → Prop) (l : List α) (k : Nat) : Prop := ∀ j x y, j + 1 < k → l[j]? = some x → l[j + 1]? = some y → R x y
theorem Adj.all {α : Type} {R : α → α → Prop} {l : List α} {k : Nat} (h : Adj R l k) (hk : l.length ≤ k) (ht : ∀ a b c, R a b → R b c → R a c) : l.Pairwise R :=
  pairwise_of_adj R ht l fun j x y h1 h2 => h j x y (by have := (List.getElem?_eq_some_iff.1 h2).1; omega) h1 h2
theorem Adj.next {α : Type} {R : α → α → Prop} {l : List α} {k : Nat} (h : Adj R l k) {x y : α} (hx : l[k - 1]? = some x) (hy : l[k]? = some y) (hk : 0 < k) (hR : R x y) : Adj R l (k + 1) := by
  intro j a b hj ha hb
  by_cases e : j + 1 = k
  · have e' : k - 1 = j := by omega
    rw [e'] at hx
    rw [e] at hb
    rw [hx] at ha
    rw [hy] at hb
    injection ha with ha
    injection hb with hb
    rw [← ha, ← hb]
    exact hR
  · exact h j a b (by omega) ha hb

set_option maxRecDepth 100000 in
set_option maxHeartbeats 4000000 in
theorem ref22_Rise (A : Option Addr) (n c : Nat) (R : Nat → Prop) (ss : List Se) (w : World) (hr : Reads w R 8 A n (ecs ss)) (hn : n ≤ 100000) :
    Calls Tryz.prog 65 #[.slice A n c] w fun e w' => Says true (ss.Pairwise fun a b => a.client < b.client) e ∧ Mod Non w w' := by
  have hl : ss.length = n := by have := hr.1; rw [ecs_length] at this; omega
  have HL := Lib.hid hl
  clear hl
  go_enter Tryz.func65, Tryz.ntmps65
  go_wp2
  go_loopw [3] (fun i wr => ∃ k : Nat, 1 ≤ k ∧ k ≤ n + 1 ∧ i = .int .i64 k ∧ Adj (fun a b : Se => a.client < b.client) ss k ∧ Mod Non w wr) (fun i _ => n - (intOf i).toNat)
  case atStart => exact ⟨1, by omega, by omega, rfl, fun j x y h => absurd h (by omega), Mod.refl _ _⟩
  case round =>
    obtain ⟨k, hk1, hk, rfl, hadj, hm⟩ := hrel
    have HAD := Lib.hid hadj
    clear hadj
    by_cases hlt : k < n
    · have hrr := hr.mod hm fun _ _ _ h => h
      obtain ⟨b, off, s, hA, hbk, _, hpk, d0, _⟩ := hrr.se hlt
      obtain ⟨b2, off2, q, hA2, _, _, hqk, dq0, _⟩ := hrr.se (k := k - 1) (by omega)
      rw [hA] at hA2
      injection hA2 with hA2
      injection hA2 with e1 e2 _
      subst e1 e2 hA
      have hkn : (k : Int) < n := by omega
      have q0 : IntKind.i64.wrap ((k : Int) - 1) = (k : Int) - 1 := by rw [IntKind.wrap_i64]; omega
      have q2 : (0 : Int) ≤ (k : Int) - 1 := by omega
      have q3 : (k : Int) - 1 < (n : Int) := by omega
      have q4 : ((k : Int) - 1).toNat = k - 1 := by omega
      have q5 : (1 : Int) ≤ (k : Int) := by omega
      have HM := Lib.hid hm
      have HP := Lib.hid hpk
      have HQ := Lib.hid hqk
      obtain ⟨sc, hsc⟩ : ∃ sc, sc = s.client := ⟨_, rfl⟩
      obtain ⟨qc, hqc⟩ : ∃ qc, qc = q.client := ⟨_, rfl⟩
      rw [← hsc] at d0
      rw [← hqc] at dq0
      have HS := Lib.hid hsc
      have HC := Lib.hid hqc
      clear hpk hqk hsc hqc hm hrr
      by_cases hle : sc ≤ qc
      · have hle2 : decide (sc ≤ qc) = true := by simpa using hle
        go_wp2
        go_region
        go_wp2
        go_ret
        exact ⟨⟨false, rfl, fun h => by cases h⟩, HM.out.drew⟩
      · have hle2 : decide (sc ≤ qc) = false := by simpa using hle
        have HN : Hid (Adj (fun a b : Se => a.client < b.client) ss (k + 1)) := HAD.out.next HQ.out HP.out (by omega) (by rw [← HS.out, ← HC.out]; omega)
        go_wp2
        go_region
        go_wp2
        go_roundw
        case rel => exact ⟨k + 1, by omega, by omega, by go_num, HN.out, HM.out.drew⟩
        case measure => simp [intOf]; omega
    · have hkn : ¬ (k : Int) < n := by omega
      go_wp2
      go_ret
      exact ⟨⟨true, rfl, fun _ => HAD.out.all (by rw [HL.out]; omega) fun a b c h1 h2 => Int.lt_trans h1 h2⟩, hm⟩

set_option maxRecDepth 100000 in
set_option maxHeartbeats 4000000 in
theorem ref23_Rise (A : Option Addr) (n c : Nat) (R : Nat → Prop) (ps : List Pa) (w : World) (hr : Reads w R 3 A n (pcs ps)) (hn : n ≤ 100000) :
    Calls Tryz.prog 63 #[.slice A n c] w fun e w' => Says true (Go.Proofs.YtdclfdinhdaadaaGreatDoor.Rise ps) e ∧ Mod Non w w' := by
  have hl : ps.length = n := by have := hr.1; rw [pcs_length] at this; omega
  have HL := Lib.hid hl
  clear hl
  go_enter Tryz.func63, Tryz.ntmps63
  go_wp2
  go_loopw [3] (fun i wr => ∃ k : Nat, 1 ≤ k ∧ k ≤ n + 1 ∧ i = .int .i64 k ∧ Adj (fun a b : Pa => lk a.key b.key) ps k ∧ Mod Non w wr) (fun i _ => n - (intOf i).toNat)
  case atStart => exact ⟨1, by omega, by omega, rfl, fun j x y h => absurd h (by omega), Mod.refl _ _⟩
  case round =>
    obtain ⟨k, hk1, hk, rfl, hadj, hm⟩ := hrel
    have HAD := Lib.hid hadj
    clear hadj
    by_cases hlt : k < n
    · have hrr := hr.mod hm fun _ _ _ h => h
      obtain ⟨b, off, s, hA, hbk, _, hpk, d0, _⟩ := hrr.pa hlt
      obtain ⟨b2, off2, q, hA2, _, _, hqk, dq0, _⟩ := hrr.pa (k := k - 1) (by omega)
      rw [hA] at hA2
      injection hA2 with hA2
      injection hA2 with e1 e2 _
      subst e1 e2 hA
      have hkn : (k : Int) < n := by omega
      have q0 : IntKind.i64.wrap ((k : Int) - 1) = (k : Int) - 1 := by rw [IntKind.wrap_i64]; omega
      have q2 : (0 : Int) ≤ (k : Int) - 1 := by omega
      have q3 : (k : Int) - 1 < (n : Int) := by omega
      have q4 : ((k : Int) - 1).toNat = k - 1 := by omega
      have q5 : (1 : Int) ≤ (k : Int) := by omega
      have HM := Lib.hid hm
      have HP := Lib.hid hpk
      have HQ := Lib.hid hqk
      obtain ⟨sc, hsc⟩ : ∃ sc, sc = s.key := ⟨_, rfl⟩
      obtain ⟨qc, hqc⟩ : ∃ qc, qc = q.key := ⟨_, rfl⟩
      rw [← hsc] at d0
      rw [← hqc] at dq0
      have HS := Lib.hid hsc
      have HC := Lib.hid hqc
      clear hpk hqk hsc hqc hm hrr
      cases hle : leB sc qc with
      | true =>
        have HLE := Lib.hid hle
        unfold leB ltB at hle
        go_wp2
        go_region
        go_wp2
        go_ret
        exact ⟨⟨false, rfl, fun h => by cases h⟩, HM.out.drew⟩
      | false =>
        have HN : Hid (Adj (fun a b : Pa => lk a.key b.key) ps (k + 1)) := HAD.out.next HQ.out HP.out (by omega) (by rw [← HS.out, ← HC.out]; exact of_leB hle)
        unfold leB ltB at hle
        go_wp2
        go_region
        go_wp2
        go_roundw
        case rel => exact ⟨k + 1, by omega, by omega, by go_num, HN.out, HM.out.drew⟩
        case measure => simp [intOf]; omega
    · have hkn : ¬ (k : Int) < n := by omega
      go_wp2
      go_ret
      exact ⟨⟨true, rfl, fun _ => (rise_iff ps).2 (HAD.out.all (by rw [HL.out]; omega) fun a b c h1 h2 => lk_trans h1 h2)⟩, hm⟩
end Go.Proofs.YtdclfdinhdaadaaGreatDoor

/- Confs in memory; package conf: the contracts of members and Check; slices.Clone of numbers. -/
namespace Go.Proofs.YtdclfdinhdaadaaGreatDoor
open Go.RowKit

/-- a conf: from when on, and its members -/
structure Cf where
  from_ : Int
  mem : List Int
deriving DecidableEq
/-- a conf's two cells -/
structure Cv where
  f : Int
  A : Option Addr
  n : Nat
  c : Nat
def Cv.cells (v : Cv) : List Value := [.int .i64 v.f, .slice v.A v.n v.c]
def vcs (l : List Cv) : List Value := l.flatMap Cv.cells
theorem vcs_length (l : List Cv) : (vcs l).length = l.length * 2 := flat_length _ _ _ fun _ => rfl
theorem vcs_append (a b : List Cv) : vcs (a ++ b) = vcs a ++ vcs b := by simp [vcs]
/-- the cells v are the conf c, whose members lie in memory that keeps to R -/
def CfR (w : World) (R : Nat → Prop) (v : Cv) (c : Cf) : Prop := v.f = c.from_ ∧ Reads w R 1 v.A v.n (vis c.mem)
def CfsR (w : World) (R : Nat → Prop) (vs : List Cv) (cs : List Cf) : Prop := vs.length = cs.length ∧ ∀ (i : Nat) (v : Cv) (c : Cf), vs[i]? = some v → cs[i]? = some c → CfR w R v c
/-- a slice of confs -/
def Confs (w : World) (R : Nat → Prop) (A : Option Addr) (n : Nat) (cs : List Cf) : Prop := ∃ vs, Reads w R 2 A n (vcs vs) ∧ CfsR w R vs cs

section
variable {w w' : World} {R R' S : Nat → Prop} {A : Option Addr} {n : Nat} {cs : List Cf} {vs : List Cv}
theorem CfsR.mod (h : CfsR w R vs cs) (hm : Mod S w w') (hS : ∀ k, k < w.heap.size → R k → ¬ S k) : CfsR w' R vs cs :=
  ⟨h.1, fun i v c hv hc => ⟨(h.2 i v c hv hc).1, (h.2 i v c hv hc).2.mod hm hS⟩⟩
theorem CfsR.more (h : CfsR w R vs cs) (hR : ∀ k, k < w.heap.size → R k → R' k) : CfsR w R' vs cs :=
  ⟨h.1, fun i v c hv hc => ⟨(h.2 i v c hv hc).1, (h.2 i v c hv hc).2.more hR⟩⟩
theorem Confs.mod (h : Confs w R A n cs) (hm : Mod S w w') (hS : ∀ k, k < w.heap.size → R k → ¬ S k) : Confs w' R A n cs := by
  obtain ⟨vs, h1, h2⟩ := h
  exact ⟨vs, h1.mod hm hS, h2.mod hm hS⟩
theorem Confs.non (h : Confs w R A n cs) (hm : Mod Non w w') : Confs w' R A n cs := h.mod hm fun _ _ _ h => h
theorem Confs.more (h : Confs w R A n cs) (hR : ∀ k, k < w.heap.size → R k → R' k) : Confs w R' A n cs := by
  obtain ⟨vs, h1, h2⟩ := h
  exact ⟨vs, h1.more hR, h2.more hR⟩
theorem Confs.len (h : Confs w R A n cs) : cs.length = n := by
  obtain ⟨vs, h1, h2⟩ := h
  have := h1.1
  rw [vcs_length] at this
  have := h2.1
  omega
theorem Confs.at_ (h : Confs w R A n cs) {k : Nat} (hk : k < n) :
    ∃ b off c A' n' c', A = some ⟨b, off, none⟩ ∧ b < w.heap.size ∧ R b ∧ cs[k]? = some c ∧ w.cell? ⟨b, off + k * 2, none⟩ = some (.int .i64 c.from_) ∧ w.cell? ⟨b, off + k * 2 + 1, none⟩ = some (.slice A' n' c') ∧ Reads w R 1 A' n' (vis c.mem) := by
  have hl := h.len
  obtain ⟨vs, h1, h2⟩ := h
  have hv := h1.1
  rw [vcs_length] at hv
  obtain ⟨b, off, hA, hb, hR, hc⟩ := h1.row (by omega) (by rw [vcs_length]; omega)
  have hx : vs[k]? = some (vs[k]'(by omega)) := List.getElem?_eq_getElem (by omega)
  have hy : cs[k]? = some (cs[k]'(by omega)) := List.getElem?_eq_getElem (by omega)
  obtain ⟨g1, g2⟩ := h2.2 k _ _ hx hy
  have p : ∀ r, r < 2 → (vcs vs)[k * 2 + r]? = ((vs[k]'(by omega)).cells)[r]? := fun r h => flat_get Cv.cells 2 vs (fun _ => rfl) hx r h
  refine ⟨b, off, _, _, _, (vs[k]'(by omega)).c, hA, hb, hR, hy, ?_, ?_, g2⟩
  · rw [← g1]; exact hc _ _ (p 0 (by omega))
  · simpa [Nat.add_assoc] using hc _ _ (p 1 (by omega))
end
theorem Reads.num {w : World} {R : Nat → Prop} {A : Option Addr} {n k : Nat} {l : List Int} (hr : Reads w R 1 A n (vis l)) (hk : k < n) :
    ∃ b off x, A = some ⟨b, off, none⟩ ∧ b < w.heap.size ∧ R b ∧ l[k]? = some x ∧ w.cell? ⟨b, off + k, none⟩ = some (.int .i64 x) := by
  have hl := hr.1
  rw [vis_length] at hl
  obtain ⟨b, off, hA, hb, hR, hc⟩ := hr.row (by omega) (by rw [vis_length]; omega)
  have hx : l[k]? = some (l[k]'(by omega)) := List.getElem?_eq_getElem (by omega)
  exact ⟨b, off, _, hA, hb, hR, hx, hc k _ (vis_get (by omega))⟩

/-- numbers that may be members -/
structure MemOk (l : List Int) : Prop where
  some_ : 0 < l.length
  each : ∀ x ∈ l, 1 ≤ x ∧ x ≤ 9
  rise : l.Pairwise fun a b => a < b
/-- confs that may be -/
structure CfsOk (cs : List Cf) : Prop where
  first : ∃ c, cs[0]? = some c ∧ c.from_ = 1
  each : ∀ c ∈ cs, MemOk c.mem ∧ c.from_ ≤ 4294967296
  rise : cs.Pairwise fun a b => a.from_ < b.from_

theorem pair_at {α : Type} {R : α → α → Prop} {l : List α} (h : l.Pairwise R) {k : Nat} {p q : α} (hq : l[k]? = some q) (hp : l[k + 1]? = some p) : R q p := by
  obtain ⟨h1, rfl⟩ := List.getElem?_eq_some_iff.1 hq
  obtain ⟨h2, rfl⟩ := List.getElem?_eq_some_iff.1 hp
  exact List.pairwise_iff_getElem.1 h k (k + 1) h1 h2 (by omega)

/-- the answer is a bool, and it is yes just where P holds -/
def Tells (P : Prop) (e : Ending) : Prop := ∃ b, e = .returned (.bool b) ∧ (b = true ↔ P)
theorem Tells.no {P : Prop} (h : ¬ P) : Tells P (.returned (.bool false)) := ⟨false, rfl, by simp [h]⟩
theorem Tells.yes {P : Prop} (h : P) : Tells P (.returned (.bool true)) := ⟨true, rfl, by simp [h]⟩

set_option maxRecDepth 100000 in
set_option maxHeartbeats 4000000 in
theorem conf_members (A : Option Addr) (n c : Nat) (R : Nat → Prop) (l : List Int) (w : World) (hr : Reads w R 1 A n (vis l)) (hn : n ≤ 100000) :
    Calls Tryz.prog 89 #[.slice A n c] w fun e w' => Tells (MemOk l) e ∧ w = w' := by
  have hl : l.length = n := by have := hr.1; rw [vis_length] at this; omega
  have HL := Lib.hid hl
  clear hl
  go_enter Tryz.func89, Tryz.ntmps89
  go_wp2
  go_loopw [7] (fun i wr => ∃ k : Nat, k ≤ n ∧ i = .int .i64 k ∧ (∀ x ∈ l.take k, 1 ≤ x ∧ x ≤ 9) ∧ Adj (fun a b : Int => a < b) l k ∧ w = wr) (fun i _ => n - (intOf i).toNat)
  case atStart => exact ⟨0, by omega, rfl, fun x hx => by simp at hx, fun j x y h => absurd h (by omega), rfl⟩
  case round =>
    obtain ⟨k, hk, rfl, hall, hadj, rfl⟩ := hrel
    have HALL := Lib.hid hall
    have HADJ := Lib.hid hadj
    clear hall hadj
    by_cases hlt : k < n
    · obtain ⟨b, off, x, hA, _, _, hxk, d0⟩ := hr.num hlt
      have hkn : (k : Int) < n := by omega
      have HX := Lib.hid hxk
      by_cases h1 : x < 1
      · have HNO := Lib.hid (show ¬ MemOk l from fun h => by have := (h.each x (List.mem_of_getElem? hxk)).1; omega)
        subst hA
        clear hxk
        go_wp2
        go_ret
        exact ⟨Tells.no HNO.out, rfl⟩
      by_cases h9 : 9 < x
      · have HNO := Lib.hid (show ¬ MemOk l from fun h => by have := (h.each x (List.mem_of_getElem? hxk)).2; omega)
        subst hA
        clear hxk
        go_wp2
        go_ret
        exact ⟨Tells.no HNO.out, rfl⟩
      have HN1 := Lib.hid (take_more HALL.out hxk ⟨by omega, by omega⟩)
      by_cases h0 : k = 0
      · subst h0
        subst hA
        rw [show ((0 : Nat) : Int) = 0 from rfl] at hkn ⊢
        have HN2 : Hid (Adj (fun a b : Int => a < b) l 1) := fun j x y h => absurd h (by omega)
        simp only [Nat.add_zero] at d0
        clear hxk
        go_wp2
        go_roundw
        case rel => exact ⟨1, by omega, by go_num, HN1.out, HN2.out, trivial⟩
        case measure => simp [intOf]; omega
      · obtain ⟨b2, off2, y, hA2, _, _, hyk, e0⟩ := hr.num (k := k - 1) (by omega)
        rw [hA] at hA2
        injection hA2 with hA2
        injection hA2 with e1 e2 _
        subst e1 e2 hA
        have hk0' : (0 : Int) < (k : Int) := by omega
        have q0 : IntKind.i64.wrap ((k : Int) - 1) = (k : Int) - 1 := by rw [IntKind.wrap_i64]; omega
        have q2 : (0 : Int) ≤ (k : Int) - 1 := by omega
        have q3 : (k : Int) - 1 < (n : Int) := by omega
        have q4 : ((k : Int) - 1).toNat = k - 1 := by omega
        have q5 : (1 : Int) ≤ (k : Int) := by omega
        by_cases hle : x ≤ y
        · have HNO := Lib.hid (show ¬ MemOk l from fun h => by have := pair_at h.rise hyk (by rw [show k - 1 + 1 = k by omega]; exact hxk); omega)
          clear hxk hyk h0
          go_wp2
          go_ret
          exact ⟨Tells.no HNO.out, rfl⟩
        · have HN2 := Lib.hid (HADJ.out.next hyk hxk (by omega) (by omega))
          clear hxk hyk h0
          go_wp2
          go_roundw
          case rel => exact ⟨k + 1, by omega, by go_num, HN1.out, HN2.out, trivial⟩
          case measure => simp [intOf]; omega
    · have hkn : ¬ (k : Int) < n := by omega
      by_cases h0 : n = 0
      · have HNO := Lib.hid (show ¬ MemOk l from fun h => by have := h.some_; rw [HL.out] at this; omega)
        subst h0
        go_wp2
        go_ret
        exact ⟨Tells.no HNO.out, rfl⟩
      · have h0' : 0 < (n : Int) := by omega
        have HY := Lib.hid (show MemOk l from ⟨by rw [HL.out]; omega, take_all HALL.out (by rw [HL.out]; omega), HADJ.out.all (by rw [HL.out]; omega) fun a b c h1 h2 => Int.lt_trans h1 h2⟩)
        go_wp2
        go_ret
        exact ⟨⟨_, rfl, fun _ => HY.out, fun _ => by simp; omega⟩, rfl⟩
end Go.Proofs.YtdclfdinhdaadaaGreatDoor

/- Package conf: the contract of Check. -/
namespace Go.Proofs.YtdclfdinhdaadaaGreatDoor
open Go.RowKit

/-- the answer is a number, and it is 0 just where P holds -/
def Zero (P : Prop) (e : Ending) : Prop := ∃ k : Int, e = .returned (.int .i64 k) ∧ (k = 0 ↔ P)
theorem Zero.no {P : Prop} {k : Int} (hk : k ≠ 0) (h : ¬ P) : Zero P (.returned (.int .i64 k)) := ⟨k, rfl, by simp [h, hk]⟩
theorem Zero.yes {P : Prop} (h : P) : Zero P (.returned (.int .i64 0)) := ⟨0, rfl, by simp [h]⟩

set_option maxRecDepth 100000 in
set_option maxHeartbeats 4000000 in
theorem conf_Check (A : Option Addr) (n c : Nat) (R : Nat → Prop) (cs : List Cf) (w : World) (hr : Confs w R A n cs) (hn : n ≤ 100000) (hm_ : ∀ x ∈ cs, x.mem.length ≤ 100000) :
    Calls Tryz.prog 46 #[.slice A n c] w fun e w' => Zero (CfsOk cs) e ∧ Mod Non w w' := by
  have hl := hr.len
  have HL := Lib.hid hl
  have HMM := Lib.hid hm_
  clear hl hm_
  by_cases hn0 : n = 0
  · have HNO := Lib.hid (show ¬ CfsOk cs from fun h => by obtain ⟨c, h1, _⟩ := h.first; have := (List.getElem?_eq_some_iff.1 h1).1; rw [HL.out] at this; omega)
    subst hn0
    clear hr
    go_enter Tryz.func46, Tryz.ntmps46
    go_wp2
    go_ret
    exact ⟨Zero.no (by decide) HNO.out, Mod.refl _ _⟩
  obtain ⟨b, off, x0, A0, m0, c0, hA, hbl, _, hx0, z0, _, _⟩ := hr.at_ (k := 0) (by omega)
  simp only [Nat.zero_mul, Nat.add_zero] at z0
  have hnz : ((n : Int) == 0) = false := by simp; omega
  have hnp : 0 < (n : Int) := by omega
  by_cases hf : x0.from_ = 1
  case neg =>
    have HNO := Lib.hid (show ¬ CfsOk cs from fun h => by obtain ⟨c, h1, h2⟩ := h.first; rw [hx0] at h1; injection h1 with h1; subst h1; exact hf h2)
    have hf' : (x0.from_ != 1) = true := by simp [hf]
    subst hA
    clear hf hx0 hn0
    go_enter Tryz.func46, Tryz.ntmps46
    go_wp2
    go_ret
    exact ⟨Zero.no (by decide) HNO.out, Mod.refl _ _⟩
  have HF0 := Lib.hid (show ∃ c, cs[0]? = some c ∧ c.from_ = 1 from ⟨x0, hx0, hf⟩)
  rw [hf] at z0
  have hA0 := Lib.hid hA
  subst hA
  clear hx0 hf hn0 hA0
  go_enter Tryz.func46, Tryz.ntmps46
  go_wp2
  go_loopw [17] (fun i wr => ∃ k : Nat, k ≤ n ∧ i = .int .i64 k ∧ (∀ x ∈ cs.take k, MemOk x.mem ∧ x.from_ ≤ 4294967296) ∧ Adj (fun a b : Cf => a.from_ < b.from_) cs k ∧ Mod Non w wr) (fun i _ => n - (intOf i).toNat)
  case atStart => exact ⟨0, by omega, rfl, fun x hx => by simp at hx, fun j x y h => absurd h (by omega), Mod.refl _ _⟩
  case round =>
    obtain ⟨k, hk, rfl, hall, hadj, hm⟩ := hrel
    have HALL := Lib.hid hall
    have HADJ := Lib.hid hadj
    have HM := Lib.hid hm
    have hrr := hr.non hm
    clear hall hadj z0
    by_cases hlt : k < n
    · obtain ⟨b1, off1, x, A2, n2, c2, hA1, hb1, _, hxk, d0, d1, dm⟩ := hrr.at_ hlt
      injection hA1 with hA1
      injection hA1 with e1 e2 _
      subst e1 e2
      have hkn : (k : Int) < n := by omega
      have HX := Lib.hid hxk
      obtain ⟨cf, hcf⟩ : ∃ cf, cf = x.from_ := ⟨_, rfl⟩
      rw [← hcf] at d0
      have HCF := Lib.hid hcf
      have hn2 : n2 ≤ 100000 := by
        have h1 := dm.1
        rw [vis_length] at h1
        have h2 := HMM.out x (List.mem_of_getElem? hxk)
        omega
      obtain ⟨y, hy⟩ : ∃ y : Bool, (y = true ↔ MemOk x.mem) := by
        by_cases h : MemOk x.mem
        · exact ⟨true, by simp [h]⟩
        · exact ⟨false, by simp [h]⟩
      have HY := Lib.hid hy
      have HME : Hid (∀ w', Mod Non wr w' → Calls Tryz.prog 89 #[.slice A2 n2 c2] w' fun e w'' => e = .returned (.bool y) ∧ w' = w'') := by
        intro w' h
        refine (conf_members A2 n2 c2 _ x.mem w' (dm.mod h fun _ _ _ h => h) hn2).mono ?_
        rintro e w'' ⟨⟨y', rfl, hy'⟩, rfl⟩
        have : y' = y := by
          have := hy'.trans hy.symm
          cases y <;> cases y' <;> simp_all
        rw [this]
        exact ⟨rfl, rfl⟩
      have hbn : b ≠ wr.heap.size := by omega
      have HPR : Hid (0 < k → ∃ q : Cf, cs[k - 1]? = some q ∧ wr.cell? ⟨b, off + (k - 1) * 2, none⟩ = some (.int .i64 q.from_)) := by
        intro h0
        obtain ⟨b3, off3, q, _, _, _, hA3, _, _, hqk, e0, _⟩ := hrr.at_ (k := k - 1) (by omega)
        injection hA3 with hA3
        injection hA3 with e1 e2 _
        subst e1 e2
        exact ⟨q, hqk, e0⟩
      have HB := Lib.hid (Blk.new wr 90 #[.int .i64 cf, .slice A2 n2 c2])
      clear hcf dm hrr hxk hm hy
      cases y with
      | false =>
        have HNO := Lib.hid (show ¬ CfsOk cs from fun h => by have := HY.out.2 (h.each x (List.mem_of_getElem? HX.out)).1; cases this)
        go_wp2
        refine wp_region_held_drew (S := (fun w' => w'.cell? ⟨wr.heap.size, 0, none⟩ = some (.int .i64 cf) ∧ w'.cell? ⟨wr.heap.size, 1, none⟩ = some (.slice A2 n2 c2) ∧ Mod Non wr w')) (by kernel_rfl) (⟨by simp, by simp, ((Mod.refl _ _).alloc _).drew⟩) (fun hHeld => ?_)
        refine take_run (i := 0) (some 22) rfl rfl (by kernel_rfl) (by kernel_rfl) (by kernel_rfl) (fun _ _ _ h => h) rfl (by assumption) (by intro w hSw; (try dsimp only at hSw); go_simp; (try with_reducible rfl)) ?_
        simp only [Act.put, List.setIfInBounds_toArray, List.set_cons_zero, List.set_cons_succ]
        refine take_run (i := 1) (some 23) rfl rfl (by kernel_rfl) (by kernel_rfl) (by kernel_rfl) (fun _ _ _ h => h) rfl (by assumption) (by intro w hSw; (try dsimp only at hSw); go_simp; (try with_reducible rfl)) ?_
        simp only [Act.put, List.setIfInBounds_toArray, List.set_cons_zero, List.set_cons_succ]
        refine wpAnyH_ready (rs := [2]) (by kernel_rfl) (by simp) ?_
        refine AllReadyH.cons rfl (fun K hK => ?_) AllReadyH.nil
        go_simp
        refine (HME.out _ hHeld.2.2).mono ?_
        rintro e w2 ⟨rfl, rfl⟩
        refine hK.out _ _ (hHeld) (fun hHeld => ?_)
        clear hK K
        refine take_run (i := 3) (some 25) rfl rfl (by kernel_rfl) (by kernel_rfl) (by kernel_rfl) (fun _ _ _ h => h) rfl (by assumption) (by intro w hSw; (try dsimp only at hSw); go_simp; (try with_reducible rfl)) ?_
        simp only [Act.put, List.setIfInBounds_toArray, List.set_cons_zero, List.set_cons_succ]
        refine take_run (i := 4) (some 26) rfl rfl (by kernel_rfl) (by kernel_rfl) (by kernel_rfl) (fun _ _ _ h => h) rfl (by assumption) (by intro w hSw; (try dsimp only at hSw); go_simp; (try with_reducible rfl)) ?_
        simp only [Act.put, List.setIfInBounds_toArray, List.set_cons_zero, List.set_cons_succ]
        refine take_skip (i := 5) (some 27) rfl rfl (by kernel_rfl) (by kernel_rfl) (by kernel_rfl) (fun _ _ _ h => h) rfl (by assumption) ?_
        simp only [Act.put, List.setIfInBounds_toArray, List.set_cons_zero, List.set_cons_succ]
        refine take_skip (i := 6) (some 28) rfl rfl (by kernel_rfl) (by kernel_rfl) (by kernel_rfl) (fun _ _ _ h => h) rfl (by assumption) ?_
        simp only [Act.put, List.setIfInBounds_toArray, List.set_cons_zero, List.set_cons_succ]
        refine take_skip (i := 7) (some 29) rfl rfl (by kernel_rfl) (by kernel_rfl) (by kernel_rfl) (fun _ _ _ h => h) rfl (by assumption) ?_
        simp only [Act.put, List.setIfInBounds_toArray, List.set_cons_zero, List.set_cons_succ]
        refine take_run (i := 8) (some 30) rfl rfl (by kernel_rfl) (by kernel_rfl) (by kernel_rfl) (fun _ _ _ h => h) rfl (by assumption) (by intro w hSw; (try dsimp only at hSw); go_simp; (try with_reducible rfl)) ?_
        simp only [Act.put, List.setIfInBounds_toArray, List.set_cons_zero, List.set_cons_succ]
        refine take_run (i := 9) (some 31) rfl rfl (by kernel_rfl) (by kernel_rfl) (by kernel_rfl) (fun _ _ _ h => h) rfl (by assumption) (by intro w hSw; (try dsimp only at hSw); go_simp; (try with_reducible rfl)) ?_
        simp only [Act.put, List.setIfInBounds_toArray, List.set_cons_zero, List.set_cons_succ]
        refine take_skip (i := 10) (some 32) rfl rfl (by kernel_rfl) (by kernel_rfl) (by kernel_rfl) (fun _ _ _ h => h) rfl (by assumption) ?_
        simp only [Act.put, List.setIfInBounds_toArray, List.set_cons_zero, List.set_cons_succ]
        refine take_skip (i := 11) (some 33) rfl rfl (by kernel_rfl) (by kernel_rfl) (by kernel_rfl) (fun _ _ _ h => h) rfl (by assumption) ?_
        simp only [Act.put, List.setIfInBounds_toArray, List.set_cons_zero, List.set_cons_succ]
        refine take_skip (i := 12) (some 34) rfl rfl (by kernel_rfl) (by kernel_rfl) (by kernel_rfl) (fun _ _ _ h => h) rfl (by assumption) ?_
        simp only [Act.put, List.setIfInBounds_toArray, List.set_cons_zero, List.set_cons_succ]
        refine take_skip (i := 13) (some 35) rfl rfl (by kernel_rfl) (by kernel_rfl) (by kernel_rfl) (fun _ _ _ h => h) rfl (by assumption) ?_
        simp only [Act.put, List.setIfInBounds_toArray, List.set_cons_zero, List.set_cons_succ]
        refine take_skip (i := 14) (some 36) rfl rfl (by kernel_rfl) (by kernel_rfl) (by kernel_rfl) (fun _ _ _ h => h) rfl (by assumption) ?_
        simp only [Act.put, List.setIfInBounds_toArray, List.set_cons_zero, List.set_cons_succ]
        refine take_skip (i := 15) (some 37) rfl rfl (by kernel_rfl) (by kernel_rfl) (by kernel_rfl) (fun _ _ _ h => h) rfl (by assumption) ?_
        simp only [Act.put, List.setIfInBounds_toArray, List.set_cons_zero, List.set_cons_succ]
        refine take_skip (i := 16) (some 38) rfl rfl (by kernel_rfl) (by kernel_rfl) (by kernel_rfl) (fun _ _ _ h => h) rfl (by assumption) ?_
        simp only [Act.put, List.setIfInBounds_toArray, List.set_cons_zero, List.set_cons_succ]
        refine take_skip (i := 17) (some 39) rfl rfl (by kernel_rfl) (by kernel_rfl) (by kernel_rfl) (fun _ _ _ h => h) rfl (by assumption) ?_
        simp only [Act.put, List.setIfInBounds_toArray, List.set_cons_zero, List.set_cons_succ]
        refine take_skip (i := 18) (some 40) rfl rfl (by kernel_rfl) (by kernel_rfl) (by kernel_rfl) (fun _ _ _ h => h) rfl (by assumption) ?_
        simp only [Act.put, List.setIfInBounds_toArray, List.set_cons_zero, List.set_cons_succ]
        refine take_skip (i := 19) (some 41) rfl rfl (by kernel_rfl) (by kernel_rfl) (by kernel_rfl) (fun _ _ _ h => h) rfl (by assumption) ?_
        simp only [Act.put, List.setIfInBounds_toArray, List.set_cons_zero, List.set_cons_succ]
        refine take_skip (i := 20) (some 42) rfl rfl (by kernel_rfl) (by kernel_rfl) (by kernel_rfl) (fun _ _ _ h => h) rfl (by assumption) ?_
        simp only [Act.put, List.setIfInBounds_toArray, List.set_cons_zero, List.set_cons_succ]
        refine take_skip (i := 21) (some 43) rfl rfl (by kernel_rfl) (by kernel_rfl) (by kernel_rfl) (fun _ _ _ h => h) rfl (by assumption) ?_
        simp only [Act.put, List.setIfInBounds_toArray, List.set_cons_zero, List.set_cons_succ]
        refine take_skip (i := 22) (some 44) rfl rfl (by kernel_rfl) (by kernel_rfl) (by kernel_rfl) (fun _ _ _ h => h) rfl (by assumption) ?_
        simp only [Act.put, List.setIfInBounds_toArray, List.set_cons_zero, List.set_cons_succ]
        refine take_run (i := 23) (some 45) rfl rfl (by kernel_rfl) (by kernel_rfl) (by kernel_rfl) (fun _ _ _ h => h) rfl (by assumption) (by intro w hSw; (try dsimp only at hSw); go_simp; (try with_reducible rfl)) ?_
        simp only [Act.put, List.setIfInBounds_toArray, List.set_cons_zero, List.set_cons_succ]
        refine wpAnyH_done (by kernel_rfl) ?_ _
        have HM2 := Lib.hid (HM.out.trans' hHeld.2.2)
        clear hHeld
        go_wp2
        go_ret
        exact ⟨Zero.no (by decide) HNO.out, HM2.out⟩
      | true =>
      have HMO := Lib.hid (HY.out.1 rfl)
      by_cases hlg : 4294967296 < cf
      · have HNO := Lib.hid (show ¬ CfsOk cs from fun h => by have := (h.each x (List.mem_of_getElem? HX.out)).2; rw [← HCF.out] at this; omega)
        go_wp2
        refine wp_region_held_drew (S := (fun w' => w'.cell? ⟨wr.heap.size, 0, none⟩ = some (.int .i64 cf) ∧ w'.cell? ⟨wr.heap.size, 1, none⟩ = some (.slice A2 n2 c2) ∧ Mod Non wr w')) (by kernel_rfl) (⟨by simp, by simp, ((Mod.refl _ _).alloc _).drew⟩) (fun hHeld => ?_)
        refine take_run (i := 0) (some 22) rfl rfl (by kernel_rfl) (by kernel_rfl) (by kernel_rfl) (fun _ _ _ h => h) rfl (by assumption) (by intro w hSw; (try dsimp only at hSw); go_simp; (try with_reducible rfl)) ?_
        simp only [Act.put, List.setIfInBounds_toArray, List.set_cons_zero, List.set_cons_succ]
        refine take_run (i := 1) (some 23) rfl rfl (by kernel_rfl) (by kernel_rfl) (by kernel_rfl) (fun _ _ _ h => h) rfl (by assumption) (by intro w hSw; (try dsimp only at hSw); go_simp; (try with_reducible rfl)) ?_
        simp only [Act.put, List.setIfInBounds_toArray, List.set_cons_zero, List.set_cons_succ]
        refine wpAnyH_ready (rs := [2]) (by kernel_rfl) (by simp) ?_
        refine AllReadyH.cons rfl (fun K hK => ?_) AllReadyH.nil
        go_simp
        refine (HME.out _ hHeld.2.2).mono ?_
        rintro e w2 ⟨rfl, rfl⟩
        refine hK.out _ _ (hHeld) (fun hHeld => ?_)
        clear hK K
        refine take_run (i := 3) (some 25) rfl rfl (by kernel_rfl) (by kernel_rfl) (by kernel_rfl) (fun _ _ _ h => h) rfl (by assumption) (by intro w hSw; (try dsimp only at hSw); go_simp; (try with_reducible rfl)) ?_
        simp only [Act.put, List.setIfInBounds_toArray, List.set_cons_zero, List.set_cons_succ]
        refine take_run (i := 4) (some 26) rfl rfl (by kernel_rfl) (by kernel_rfl) (by kernel_rfl) (fun _ _ _ h => h) rfl (by assumption) (by intro w hSw; (try dsimp only at hSw); go_simp; (try with_reducible rfl)) ?_
        simp only [Act.put, List.setIfInBounds_toArray, List.set_cons_zero, List.set_cons_succ]
        refine take_run (i := 5) (some 27) rfl rfl (by kernel_rfl) (by kernel_rfl) (by kernel_rfl) (fun _ _ _ h => h) rfl (by assumption) (by intro w hSw; (try dsimp only at hSw); go_simp; (try with_reducible rfl)) ?_
        simp only [Act.put, List.setIfInBounds_toArray, List.set_cons_zero, List.set_cons_succ]
        refine take_run (i := 6) (some 28) rfl rfl (by kernel_rfl) (by kernel_rfl) (by kernel_rfl) (fun _ _ _ h => h) rfl (by assumption) (by intro w hSw; (try dsimp only at hSw); go_simp; (try with_reducible rfl)) ?_
        simp only [Act.put, List.setIfInBounds_toArray, List.set_cons_zero, List.set_cons_succ]
        refine take_run (i := 7) (some 29) rfl rfl (by kernel_rfl) (by kernel_rfl) (by kernel_rfl) (fun _ _ _ h => h) rfl (by assumption) (by intro w hSw; (try dsimp only at hSw); go_simp; (try with_reducible rfl)) ?_
        simp only [Act.put, List.setIfInBounds_toArray, List.set_cons_zero, List.set_cons_succ]
        refine take_run (i := 8) (some 30) rfl rfl (by kernel_rfl) (by kernel_rfl) (by kernel_rfl) (fun _ _ _ h => h) rfl (by assumption) (by intro w hSw; (try dsimp only at hSw); go_simp; (try with_reducible rfl)) ?_
        simp only [Act.put, List.setIfInBounds_toArray, List.set_cons_zero, List.set_cons_succ]
        refine take_run (i := 9) (some 31) rfl rfl (by kernel_rfl) (by kernel_rfl) (by kernel_rfl) (fun _ _ _ h => h) rfl (by assumption) (by intro w hSw; (try dsimp only at hSw); go_simp; (try with_reducible rfl)) ?_
        simp only [Act.put, List.setIfInBounds_toArray, List.set_cons_zero, List.set_cons_succ]
        refine take_skip (i := 10) (some 32) rfl rfl (by kernel_rfl) (by kernel_rfl) (by kernel_rfl) (fun _ _ _ h => h) rfl (by assumption) ?_
        simp only [Act.put, List.setIfInBounds_toArray, List.set_cons_zero, List.set_cons_succ]
        refine take_skip (i := 11) (some 33) rfl rfl (by kernel_rfl) (by kernel_rfl) (by kernel_rfl) (fun _ _ _ h => h) rfl (by assumption) ?_
        simp only [Act.put, List.setIfInBounds_toArray, List.set_cons_zero, List.set_cons_succ]
        refine take_skip (i := 12) (some 34) rfl rfl (by kernel_rfl) (by kernel_rfl) (by kernel_rfl) (fun _ _ _ h => h) rfl (by assumption) ?_
        simp only [Act.put, List.setIfInBounds_toArray, List.set_cons_zero, List.set_cons_succ]
        refine take_skip (i := 13) (some 35) rfl rfl (by kernel_rfl) (by kernel_rfl) (by kernel_rfl) (fun _ _ _ h => h) rfl (by assumption) ?_
        simp only [Act.put, List.setIfInBounds_toArray, List.set_cons_zero, List.set_cons_succ]
        refine take_skip (i := 14) (some 36) rfl rfl (by kernel_rfl) (by kernel_rfl) (by kernel_rfl) (fun _ _ _ h => h) rfl (by assumption) ?_
        simp only [Act.put, List.setIfInBounds_toArray, List.set_cons_zero, List.set_cons_succ]
        refine take_skip (i := 15) (some 37) rfl rfl (by kernel_rfl) (by kernel_rfl) (by kernel_rfl) (fun _ _ _ h => h) rfl (by assumption) ?_
        simp only [Act.put, List.setIfInBounds_toArray, List.set_cons_zero, List.set_cons_succ]
        refine take_skip (i := 16) (some 38) rfl rfl (by kernel_rfl) (by kernel_rfl) (by kernel_rfl) (fun _ _ _ h => h) rfl (by assumption) ?_
        simp only [Act.put, List.setIfInBounds_toArray, List.set_cons_zero, List.set_cons_succ]
        refine take_skip (i := 17) (some 39) rfl rfl (by kernel_rfl) (by kernel_rfl) (by kernel_rfl) (fun _ _ _ h => h) rfl (by assumption) ?_
        simp only [Act.put, List.setIfInBounds_toArray, List.set_cons_zero, List.set_cons_succ]
        refine take_skip (i := 18) (some 40) rfl rfl (by kernel_rfl) (by kernel_rfl) (by kernel_rfl) (fun _ _ _ h => h) rfl (by assumption) ?_
        simp only [Act.put, List.setIfInBounds_toArray, List.set_cons_zero, List.set_cons_succ]
        refine take_skip (i := 19) (some 41) rfl rfl (by kernel_rfl) (by kernel_rfl) (by kernel_rfl) (fun _ _ _ h => h) rfl (by assumption) ?_
        simp only [Act.put, List.setIfInBounds_toArray, List.set_cons_zero, List.set_cons_succ]
        refine take_skip (i := 20) (some 42) rfl rfl (by kernel_rfl) (by kernel_rfl) (by kernel_rfl) (fun _ _ _ h => h) rfl (by assumption) ?_
        simp only [Act.put, List.setIfInBounds_toArray, List.set_cons_zero, List.set_cons_succ]
        refine take_skip (i := 21) (some 43) rfl rfl (by kernel_rfl) (by kernel_rfl) (by kernel_rfl) (fun _ _ _ h => h) rfl (by assumption) ?_
        simp only [Act.put, List.setIfInBounds_toArray, List.set_cons_zero, List.set_cons_succ]
        refine take_skip (i := 22) (some 44) rfl rfl (by kernel_rfl) (by kernel_rfl) (by kernel_rfl) (fun _ _ _ h => h) rfl (by assumption) ?_
        simp only [Act.put, List.setIfInBounds_toArray, List.set_cons_zero, List.set_cons_succ]
        refine take_run (i := 23) (some 45) rfl rfl (by kernel_rfl) (by kernel_rfl) (by kernel_rfl) (fun _ _ _ h => h) rfl (by assumption) (by intro w hSw; (try dsimp only at hSw); go_simp; (try with_reducible rfl)) ?_
        simp only [Act.put, List.setIfInBounds_toArray, List.set_cons_zero, List.set_cons_succ]
        refine wpAnyH_done (by kernel_rfl) ?_ _
        have HM2 := Lib.hid (HM.out.trans' hHeld.2.2)
        clear hHeld
        go_wp2
        go_ret
        exact ⟨Zero.no (by decide) HNO.out, HM2.out⟩
      have HN1 := Lib.hid (take_more HALL.out HX.out ⟨HMO.out, by rw [← HCF.out]; omega⟩)
      have hlg2 : decide (4294967296 < cf) = false := by simpa using hlg
      by_cases h0 : k = 0
      · subst h0
        rw [show ((0 : Nat) : Int) = 0 from rfl] at hkn ⊢
        have hz2 : decide ((0 : Int) < 0) = false := by decide
        have HN2 : Hid (Adj (fun a b : Cf => a.from_ < b.from_) cs (0 + 1)) := fun j x y h => absurd h (by omega)
        simp only [Nat.zero_mul, Nat.add_zero] at d0 d1
        go_wp2
        refine wp_region_held_drew (S := (fun w' => w'.cell? ⟨wr.heap.size, 0, none⟩ = some (.int .i64 cf) ∧ w'.cell? ⟨wr.heap.size, 1, none⟩ = some (.slice A2 n2 c2) ∧ Mod Non wr w')) (by kernel_rfl) (⟨by simp, by simp, ((Mod.refl _ _).alloc _).drew⟩) (fun hHeld => ?_)
        refine take_run (i := 0) (some 22) rfl rfl (by kernel_rfl) (by kernel_rfl) (by kernel_rfl) (fun _ _ _ h => h) rfl (by assumption) (by intro w hSw; (try dsimp only at hSw); go_simp; (try with_reducible rfl)) ?_
        simp only [Act.put, List.setIfInBounds_toArray, List.set_cons_zero, List.set_cons_succ]
        refine take_run (i := 1) (some 23) rfl rfl (by kernel_rfl) (by kernel_rfl) (by kernel_rfl) (fun _ _ _ h => h) rfl (by assumption) (by intro w hSw; (try dsimp only at hSw); go_simp; (try with_reducible rfl)) ?_
        simp only [Act.put, List.setIfInBounds_toArray, List.set_cons_zero, List.set_cons_succ]
        refine wpAnyH_ready (rs := [2]) (by kernel_rfl) (by simp) ?_
        refine AllReadyH.cons rfl (fun K hK => ?_) AllReadyH.nil
        go_simp
        refine (HME.out _ hHeld.2.2).mono ?_
        rintro e w2 ⟨rfl, rfl⟩
        refine hK.out _ _ (hHeld) (fun hHeld => ?_)
        clear hK K
        refine take_run (i := 3) (some 25) rfl rfl (by kernel_rfl) (by kernel_rfl) (by kernel_rfl) (fun _ _ _ h => h) rfl (by assumption) (by intro w hSw; (try dsimp only at hSw); go_simp; (try with_reducible rfl)) ?_
        simp only [Act.put, List.setIfInBounds_toArray, List.set_cons_zero, List.set_cons_succ]
        refine take_run (i := 4) (some 26) rfl rfl (by kernel_rfl) (by kernel_rfl) (by kernel_rfl) (fun _ _ _ h => h) rfl (by assumption) (by intro w hSw; (try dsimp only at hSw); go_simp; (try with_reducible rfl)) ?_
        simp only [Act.put, List.setIfInBounds_toArray, List.set_cons_zero, List.set_cons_succ]
        refine take_run (i := 5) (some 27) rfl rfl (by kernel_rfl) (by kernel_rfl) (by kernel_rfl) (fun _ _ _ h => h) rfl (by assumption) (by intro w hSw; (try dsimp only at hSw); go_simp; (try with_reducible rfl)) ?_
        simp only [Act.put, List.setIfInBounds_toArray, List.set_cons_zero, List.set_cons_succ]
        refine take_run (i := 6) (some 28) rfl rfl (by kernel_rfl) (by kernel_rfl) (by kernel_rfl) (fun _ _ _ h => h) rfl (by assumption) (by intro w hSw; (try dsimp only at hSw); go_simp; (try with_reducible rfl)) ?_
        simp only [Act.put, List.setIfInBounds_toArray, List.set_cons_zero, List.set_cons_succ]
        refine take_run (i := 7) (some 29) rfl rfl (by kernel_rfl) (by kernel_rfl) (by kernel_rfl) (fun _ _ _ h => h) rfl (by assumption) (by intro w hSw; (try dsimp only at hSw); go_simp; (try with_reducible rfl)) ?_
        simp only [Act.put, List.setIfInBounds_toArray, List.set_cons_zero, List.set_cons_succ]
        refine take_run (i := 8) (some 30) rfl rfl (by kernel_rfl) (by kernel_rfl) (by kernel_rfl) (fun _ _ _ h => h) rfl (by assumption) (by intro w hSw; (try dsimp only at hSw); go_simp; (try with_reducible rfl)) ?_
        simp only [Act.put, List.setIfInBounds_toArray, List.set_cons_zero, List.set_cons_succ]
        refine take_run (i := 9) (some 31) rfl rfl (by kernel_rfl) (by kernel_rfl) (by kernel_rfl) (fun _ _ _ h => h) rfl (by assumption) (by intro w hSw; (try dsimp only at hSw); go_simp; (try with_reducible rfl)) ?_
        simp only [Act.put, List.setIfInBounds_toArray, List.set_cons_zero, List.set_cons_succ]
        refine take_run (i := 10) (some 32) rfl rfl (by kernel_rfl) (by kernel_rfl) (by kernel_rfl) (fun _ _ _ h => h) rfl (by assumption) (by intro w hSw; (try dsimp only at hSw); go_simp; (try with_reducible rfl)) ?_
        simp only [Act.put, List.setIfInBounds_toArray, List.set_cons_zero, List.set_cons_succ]
        refine take_run (i := 11) (some 33) rfl rfl (by kernel_rfl) (by kernel_rfl) (by kernel_rfl) (fun _ _ _ h => h) rfl (by assumption) (by intro w hSw; (try dsimp only at hSw); go_simp; (try with_reducible rfl)) ?_
        simp only [Act.put, List.setIfInBounds_toArray, List.set_cons_zero, List.set_cons_succ]
        refine take_run (i := 12) (some 34) rfl rfl (by kernel_rfl) (by kernel_rfl) (by kernel_rfl) (fun _ _ _ h => h) rfl (by assumption) (by intro w hSw; (try dsimp only at hSw); go_simp; (try with_reducible rfl)) ?_
        simp only [Act.put, List.setIfInBounds_toArray, List.set_cons_zero, List.set_cons_succ]
        refine take_skip (i := 13) (some 35) rfl rfl (by kernel_rfl) (by kernel_rfl) (by kernel_rfl) (fun _ _ _ h => h) rfl (by assumption) ?_
        simp only [Act.put, List.setIfInBounds_toArray, List.set_cons_zero, List.set_cons_succ]
        refine take_skip (i := 14) (some 36) rfl rfl (by kernel_rfl) (by kernel_rfl) (by kernel_rfl) (fun _ _ _ h => h) rfl (by assumption) ?_
        simp only [Act.put, List.setIfInBounds_toArray, List.set_cons_zero, List.set_cons_succ]
        refine take_skip (i := 15) (some 37) rfl rfl (by kernel_rfl) (by kernel_rfl) (by kernel_rfl) (fun _ _ _ h => h) rfl (by assumption) ?_
        simp only [Act.put, List.setIfInBounds_toArray, List.set_cons_zero, List.set_cons_succ]
        refine take_skip (i := 16) (some 38) rfl rfl (by kernel_rfl) (by kernel_rfl) (by kernel_rfl) (fun _ _ _ h => h) rfl (by assumption) ?_
        simp only [Act.put, List.setIfInBounds_toArray, List.set_cons_zero, List.set_cons_succ]
        refine take_skip (i := 17) (some 39) rfl rfl (by kernel_rfl) (by kernel_rfl) (by kernel_rfl) (fun _ _ _ h => h) rfl (by assumption) ?_
        simp only [Act.put, List.setIfInBounds_toArray, List.set_cons_zero, List.set_cons_succ]
        refine take_skip (i := 18) (some 40) rfl rfl (by kernel_rfl) (by kernel_rfl) (by kernel_rfl) (fun _ _ _ h => h) rfl (by assumption) ?_
        simp only [Act.put, List.setIfInBounds_toArray, List.set_cons_zero, List.set_cons_succ]
        refine take_skip (i := 19) (some 41) rfl rfl (by kernel_rfl) (by kernel_rfl) (by kernel_rfl) (fun _ _ _ h => h) rfl (by assumption) ?_
        simp only [Act.put, List.setIfInBounds_toArray, List.set_cons_zero, List.set_cons_succ]
        refine take_skip (i := 20) (some 42) rfl rfl (by kernel_rfl) (by kernel_rfl) (by kernel_rfl) (fun _ _ _ h => h) rfl (by assumption) ?_
        simp only [Act.put, List.setIfInBounds_toArray, List.set_cons_zero, List.set_cons_succ]
        refine take_skip (i := 21) (some 43) rfl rfl (by kernel_rfl) (by kernel_rfl) (by kernel_rfl) (fun _ _ _ h => h) rfl (by assumption) ?_
        simp only [Act.put, List.setIfInBounds_toArray, List.set_cons_zero, List.set_cons_succ]
        refine take_run (i := 22) (some 44) rfl rfl (by kernel_rfl) (by kernel_rfl) (by kernel_rfl) (fun _ _ _ h => h) rfl (by assumption) (by intro w hSw; (try dsimp only at hSw); go_simp; (try with_reducible rfl)) ?_
        simp only [Act.put, List.setIfInBounds_toArray, List.set_cons_zero, List.set_cons_succ]
        refine take_run (i := 23) (some 45) rfl rfl (by kernel_rfl) (by kernel_rfl) (by kernel_rfl) (fun _ _ _ h => h) rfl (by assumption) (by intro w hSw; (try dsimp only at hSw); go_simp; (try with_reducible rfl)) ?_
        simp only [Act.put, List.setIfInBounds_toArray, List.set_cons_zero, List.set_cons_succ]
        refine wpAnyH_done (by kernel_rfl) ?_ _
        have HM2 := Lib.hid (HM.out.trans' hHeld.2.2)
        clear hHeld
        go_wp2
        go_roundw
        case rel => exact ⟨1, by omega, by go_num, by simpa using HN1.out, by simpa using HN2.out, HM2.out⟩
        case measure => simp [intOf]; omega
      · have hk0' : (0 : Int) < (k : Int) := by omega
        have hk1' : decide ((0 : Int) < (k : Int)) = true := by simpa using hk0'
        have hk2' : decide (0 < k) = true := by simp; omega
        have q0 : IntKind.i64.wrap ((k : Int) - 1) = (k : Int) - 1 := by rw [IntKind.wrap_i64]; omega
        have q2 : (0 : Int) ≤ (k : Int) - 1 := by omega
        have q3 : (k : Int) - 1 < (n : Int) := by omega
        have q4 : ((k : Int) - 1).toNat = k - 1 := by omega
        have q5 : (1 : Int) ≤ (k : Int) := by omega
        obtain ⟨q, hqk, dq⟩ := HPR.out (by omega)
        have HQK := Lib.hid hqk
        obtain ⟨qf, hqf⟩ : ∃ qf, qf = q.from_ := ⟨_, rfl⟩
        rw [← hqf] at dq
        have HQF := Lib.hid hqf
        clear hqk hqf h0
        by_cases hle : cf ≤ qf
        · have HNO := Lib.hid (show ¬ CfsOk cs from fun h => by have := pair_at h.rise HQK.out (by rw [show k - 1 + 1 = k by omega]; exact HX.out); rw [← HCF.out, ← HQF.out] at this; omega)
          have hle2 : decide (cf ≤ qf) = true := by simpa using hle
          go_wp2
          refine wp_region_held_drew (S := (fun w' => w'.cell? ⟨wr.heap.size, 0, none⟩ = some (.int .i64 cf) ∧ w'.cell? ⟨wr.heap.size, 1, none⟩ = some (.slice A2 n2 c2) ∧ w'.cell? ⟨b, off + (k - 1) * 2, none⟩ = some (.int .i64 qf) ∧ Mod Non wr w')) (by kernel_rfl) (⟨by simp, by simp, (World.cell?_alloc_lt wr _ ⟨b, off + (k - 1) * 2, none⟩ hb1).trans dq, ((Mod.refl _ _).alloc _).drew⟩) (fun hHeld => ?_)
          refine take_run (i := 0) (some 22) rfl rfl (by kernel_rfl) (by kernel_rfl) (by kernel_rfl) (fun _ _ _ h => h) rfl (by assumption) (by intro w hSw; (try dsimp only at hSw); go_simp; (try with_reducible rfl)) ?_
          simp only [Act.put, List.setIfInBounds_toArray, List.set_cons_zero, List.set_cons_succ]
          refine take_run (i := 1) (some 23) rfl rfl (by kernel_rfl) (by kernel_rfl) (by kernel_rfl) (fun _ _ _ h => h) rfl (by assumption) (by intro w hSw; (try dsimp only at hSw); go_simp; (try with_reducible rfl)) ?_
          simp only [Act.put, List.setIfInBounds_toArray, List.set_cons_zero, List.set_cons_succ]
          refine wpAnyH_ready (rs := [2]) (by kernel_rfl) (by simp) ?_
          refine AllReadyH.cons rfl (fun K hK => ?_) AllReadyH.nil
          go_simp
          refine (HME.out _ hHeld.2.2.2).mono ?_
          rintro e w2 ⟨rfl, rfl⟩
          refine hK.out _ _ (hHeld) (fun hHeld => ?_)
          clear hK K
          refine take_run (i := 3) (some 25) rfl rfl (by kernel_rfl) (by kernel_rfl) (by kernel_rfl) (fun _ _ _ h => h) rfl (by assumption) (by intro w hSw; (try dsimp only at hSw); go_simp; (try with_reducible rfl)) ?_
          simp only [Act.put, List.setIfInBounds_toArray, List.set_cons_zero, List.set_cons_succ]
          refine take_run (i := 4) (some 26) rfl rfl (by kernel_rfl) (by kernel_rfl) (by kernel_rfl) (fun _ _ _ h => h) rfl (by assumption) (by intro w hSw; (try dsimp only at hSw); go_simp; (try with_reducible rfl)) ?_
          simp only [Act.put, List.setIfInBounds_toArray, List.set_cons_zero, List.set_cons_succ]
          refine take_run (i := 5) (some 27) rfl rfl (by kernel_rfl) (by kernel_rfl) (by kernel_rfl) (fun _ _ _ h => h) rfl (by assumption) (by intro w hSw; (try dsimp only at hSw); go_simp; (try with_reducible rfl)) ?_
          simp only [Act.put, List.setIfInBounds_toArray, List.set_cons_zero, List.set_cons_succ]
          refine take_run (i := 6) (some 28) rfl rfl (by kernel_rfl) (by kernel_rfl) (by kernel_rfl) (fun _ _ _ h => h) rfl (by assumption) (by intro w hSw; (try dsimp only at hSw); go_simp; (try with_reducible rfl)) ?_
          simp only [Act.put, List.setIfInBounds_toArray, List.set_cons_zero, List.set_cons_succ]
          refine take_run (i := 7) (some 29) rfl rfl (by kernel_rfl) (by kernel_rfl) (by kernel_rfl) (fun _ _ _ h => h) rfl (by assumption) (by intro w hSw; (try dsimp only at hSw); go_simp; (try with_reducible rfl)) ?_
          simp only [Act.put, List.setIfInBounds_toArray, List.set_cons_zero, List.set_cons_succ]
          refine take_run (i := 8) (some 30) rfl rfl (by kernel_rfl) (by kernel_rfl) (by kernel_rfl) (fun _ _ _ h => h) rfl (by assumption) (by intro w hSw; (try dsimp only at hSw); go_simp; (try with_reducible rfl)) ?_
          simp only [Act.put, List.setIfInBounds_toArray, List.set_cons_zero, List.set_cons_succ]
          refine take_run (i := 9) (some 31) rfl rfl (by kernel_rfl) (by kernel_rfl) (by kernel_rfl) (fun _ _ _ h => h) rfl (by assumption) (by intro w hSw; (try dsimp only at hSw); go_simp; (try with_reducible rfl)) ?_
          simp only [Act.put, List.setIfInBounds_toArray, List.set_cons_zero, List.set_cons_succ]
          refine take_run (i := 10) (some 32) rfl rfl (by kernel_rfl) (by kernel_rfl) (by kernel_rfl) (fun _ _ _ h => h) rfl (by assumption) (by intro w hSw; (try dsimp only at hSw); go_simp; (try with_reducible rfl)) ?_
          simp only [Act.put, List.setIfInBounds_toArray, List.set_cons_zero, List.set_cons_succ]
          refine take_run (i := 11) (some 33) rfl rfl (by kernel_rfl) (by kernel_rfl) (by kernel_rfl) (fun _ _ _ h => h) rfl (by assumption) (by intro w hSw; (try dsimp only at hSw); go_simp; (try with_reducible rfl)) ?_
          simp only [Act.put, List.setIfInBounds_toArray, List.set_cons_zero, List.set_cons_succ]
          refine take_run (i := 12) (some 34) rfl rfl (by kernel_rfl) (by kernel_rfl) (by kernel_rfl) (fun _ _ _ h => h) rfl (by assumption) (by intro w hSw; (try dsimp only at hSw); go_simp; (try with_reducible rfl)) ?_
          simp only [Act.put, List.setIfInBounds_toArray, List.set_cons_zero, List.set_cons_succ]
          refine take_run (i := 13) (some 35) rfl rfl (by kernel_rfl) (by kernel_rfl) (by kernel_rfl) (fun _ _ _ h => h) rfl (by assumption) (by intro w hSw; (try dsimp only at hSw); go_simp; (try with_reducible rfl)) ?_
          simp only [Act.put, List.setIfInBounds_toArray, List.set_cons_zero, List.set_cons_succ]
          refine take_run (i := 14) (some 36) rfl rfl (by kernel_rfl) (by kernel_rfl) (by kernel_rfl) (fun _ _ _ h => h) rfl (by assumption) (by intro w hSw; (try dsimp only at hSw); go_simp; (try with_reducible rfl)) ?_
          simp only [Act.put, List.setIfInBounds_toArray, List.set_cons_zero, List.set_cons_succ]
          refine take_run (i := 15) (some 37) rfl rfl (by kernel_rfl) (by kernel_rfl) (by kernel_rfl) (fun _ _ _ h => h) rfl (by assumption) (by intro w hSw; (try dsimp only at hSw); go_simp; (try with_reducible rfl)) ?_
          simp only [Act.put, List.setIfInBounds_toArray, List.set_cons_zero, List.set_cons_succ]
          refine take_run (i := 16) (some 38) rfl rfl (by kernel_rfl) (by kernel_rfl) (by kernel_rfl) (fun _ _ _ h => h) rfl (by assumption) (by intro w hSw; (try dsimp only at hSw); go_simp; (try with_reducible rfl)) ?_
          simp only [Act.put, List.setIfInBounds_toArray, List.set_cons_zero, List.set_cons_succ]
          refine take_run (i := 17) (some 39) rfl rfl (by kernel_rfl) (by kernel_rfl) (by kernel_rfl) (fun _ _ _ h => h) rfl (by assumption) (by intro w hSw; (try dsimp only at hSw); go_simp; (try with_reducible rfl)) ?_
          simp only [Act.put, List.setIfInBounds_toArray, List.set_cons_zero, List.set_cons_succ]
          refine take_run (i := 18) (some 40) rfl rfl (by kernel_rfl) (by kernel_rfl) (by kernel_rfl) (fun _ _ _ h => h) rfl (by assumption) (by intro w hSw; (try dsimp only at hSw); go_simp; (try with_reducible rfl)) ?_
          simp only [Act.put, List.setIfInBounds_toArray, List.set_cons_zero, List.set_cons_succ]
          refine take_run (i := 19) (some 41) rfl rfl (by kernel_rfl) (by kernel_rfl) (by kernel_rfl) (fun _ _ _ h => h) rfl (by assumption) (by intro w hSw; (try dsimp only at hSw); go_simp; (try with_reducible rfl)) ?_
          simp only [Act.put, List.setIfInBounds_toArray, List.set_cons_zero, List.set_cons_succ]
          refine take_run (i := 20) (some 42) rfl rfl (by kernel_rfl) (by kernel_rfl) (by kernel_rfl) (fun _ _ _ h => h) rfl (by assumption) (by intro w hSw; (try dsimp only at hSw); go_simp; (try with_reducible rfl)) ?_
          simp only [Act.put, List.setIfInBounds_toArray, List.set_cons_zero, List.set_cons_succ]
          refine take_run (i := 21) (some 43) rfl rfl (by kernel_rfl) (by kernel_rfl) (by kernel_rfl) (fun _ _ _ h => h) rfl (by assumption) (by intro w hSw; (try dsimp only at hSw); go_simp; (try with_reducible rfl)) ?_
          simp only [Act.put, List.setIfInBounds_toArray, List.set_cons_zero, List.set_cons_succ]
          refine take_run (i := 22) (some 44) rfl rfl (by kernel_rfl) (by kernel_rfl) (by kernel_rfl) (fun _ _ _ h => h) rfl (by assumption) (by intro w hSw; (try dsimp only at hSw); go_simp; (try with_reducible rfl)) ?_
          simp only [Act.put, List.setIfInBounds_toArray, List.set_cons_zero, List.set_cons_succ]
          refine take_run (i := 23) (some 45) rfl rfl (by kernel_rfl) (by kernel_rfl) (by kernel_rfl) (fun _ _ _ h => h) rfl (by assumption) (by intro w hSw; (try dsimp only at hSw); go_simp; (try with_reducible rfl)) ?_
          simp only [Act.put, List.setIfInBounds_toArray, List.set_cons_zero, List.set_cons_succ]
          refine wpAnyH_done (by kernel_rfl) ?_ _
          have HM2 := Lib.hid (HM.out.trans' hHeld.2.2.2)
          clear hHeld
          go_wp2
          go_ret
          exact ⟨Zero.no (by decide) HNO.out, HM2.out⟩
        · have HN2 := Lib.hid (HADJ.out.next HQK.out HX.out (by omega) (by rw [← HCF.out, ← HQF.out]; omega))
          have hle2 : decide (cf ≤ qf) = false := by simpa using hle
          go_wp2
          refine wp_region_held_drew (S := (fun w' => w'.cell? ⟨wr.heap.size, 0, none⟩ = some (.int .i64 cf) ∧ w'.cell? ⟨wr.heap.size, 1, none⟩ = some (.slice A2 n2 c2) ∧ w'.cell? ⟨b, off + (k - 1) * 2, none⟩ = some (.int .i64 qf) ∧ Mod Non wr w')) (by kernel_rfl) (⟨by simp, by simp, (World.cell?_alloc_lt wr _ ⟨b, off + (k - 1) * 2, none⟩ hb1).trans dq, ((Mod.refl _ _).alloc _).drew⟩) (fun hHeld => ?_)
          refine take_run (i := 0) (some 22) rfl rfl (by kernel_rfl) (by kernel_rfl) (by kernel_rfl) (fun _ _ _ h => h) rfl (by assumption) (by intro w hSw; (try dsimp only at hSw); go_simp; (try with_reducible rfl)) ?_
          simp only [Act.put, List.setIfInBounds_toArray, List.set_cons_zero, List.set_cons_succ]
          refine take_run (i := 1) (some 23) rfl rfl (by kernel_rfl) (by kernel_rfl) (by kernel_rfl) (fun _ _ _ h => h) rfl (by assumption) (by intro w hSw; (try dsimp only at hSw); go_simp; (try with_reducible rfl)) ?_
          simp only [Act.put, List.setIfInBounds_toArray, List.set_cons_zero, List.set_cons_succ]
          refine wpAnyH_ready (rs := [2]) (by kernel_rfl) (by simp) ?_
          refine AllReadyH.cons rfl (fun K hK => ?_) AllReadyH.nil
          go_simp
          refine (HME.out _ hHeld.2.2.2).mono ?_
          rintro e w2 ⟨rfl, rfl⟩
          refine hK.out _ _ (hHeld) (fun hHeld => ?_)
          clear hK K
          refine take_run (i := 3) (some 25) rfl rfl (by kernel_rfl) (by kernel_rfl) (by kernel_rfl) (fun _ _ _ h => h) rfl (by assumption) (by intro w hSw; (try dsimp only at hSw); go_simp; (try with_reducible rfl)) ?_
          simp only [Act.put, List.setIfInBounds_toArray, List.set_cons_zero, List.set_cons_succ]
          refine take_run (i := 4) (some 26) rfl rfl (by kernel_rfl) (by kernel_rfl) (by kernel_rfl) (fun _ _ _ h => h) rfl (by assumption) (by intro w hSw; (try dsimp only at hSw); go_simp; (try with_reducible rfl)) ?_
          simp only [Act.put, List.setIfInBounds_toArray, List.set_cons_zero, List.set_cons_succ]
          refine take_run (i := 5) (some 27) rfl rfl (by kernel_rfl) (by kernel_rfl) (by kernel_rfl) (fun _ _ _ h => h) rfl (by assumption) (by intro w hSw; (try dsimp only at hSw); go_simp; (try with_reducible rfl)) ?_
          simp only [Act.put, List.setIfInBounds_toArray, List.set_cons_zero, List.set_cons_succ]
          refine take_run (i := 6) (some 28) rfl rfl (by kernel_rfl) (by kernel_rfl) (by kernel_rfl) (fun _ _ _ h => h) rfl (by assumption) (by intro w hSw; (try dsimp only at hSw); go_simp; (try with_reducible rfl)) ?_
          simp only [Act.put, List.setIfInBounds_toArray, List.set_cons_zero, List.set_cons_succ]
          refine take_run (i := 7) (some 29) rfl rfl (by kernel_rfl) (by kernel_rfl) (by kernel_rfl) (fun _ _ _ h => h) rfl (by assumption) (by intro w hSw; (try dsimp only at hSw); go_simp; (try with_reducible rfl)) ?_
          simp only [Act.put, List.setIfInBounds_toArray, List.set_cons_zero, List.set_cons_succ]
          refine take_run (i := 8) (some 30) rfl rfl (by kernel_rfl) (by kernel_rfl) (by kernel_rfl) (fun _ _ _ h => h) rfl (by assumption) (by intro w hSw; (try dsimp only at hSw); go_simp; (try with_reducible rfl)) ?_
          simp only [Act.put, List.setIfInBounds_toArray, List.set_cons_zero, List.set_cons_succ]
          refine take_run (i := 9) (some 31) rfl rfl (by kernel_rfl) (by kernel_rfl) (by kernel_rfl) (fun _ _ _ h => h) rfl (by assumption) (by intro w hSw; (try dsimp only at hSw); go_simp; (try with_reducible rfl)) ?_
          simp only [Act.put, List.setIfInBounds_toArray, List.set_cons_zero, List.set_cons_succ]
          refine take_run (i := 10) (some 32) rfl rfl (by kernel_rfl) (by kernel_rfl) (by kernel_rfl) (fun _ _ _ h => h) rfl (by assumption) (by intro w hSw; (try dsimp only at hSw); go_simp; (try with_reducible rfl)) ?_
          simp only [Act.put, List.setIfInBounds_toArray, List.set_cons_zero, List.set_cons_succ]
          refine take_run (i := 11) (some 33) rfl rfl (by kernel_rfl) (by kernel_rfl) (by kernel_rfl) (fun _ _ _ h => h) rfl (by assumption) (by intro w hSw; (try dsimp only at hSw); go_simp; (try with_reducible rfl)) ?_
          simp only [Act.put, List.setIfInBounds_toArray, List.set_cons_zero, List.set_cons_succ]
          refine take_run (i := 12) (some 34) rfl rfl (by kernel_rfl) (by kernel_rfl) (by kernel_rfl) (fun _ _ _ h => h) rfl (by assumption) (by intro w hSw; (try dsimp only at hSw); go_simp; (try with_reducible rfl)) ?_
          simp only [Act.put, List.setIfInBounds_toArray, List.set_cons_zero, List.set_cons_succ]
          refine take_run (i := 13) (some 35) rfl rfl (by kernel_rfl) (by kernel_rfl) (by kernel_rfl) (fun _ _ _ h => h) rfl (by assumption) (by intro w hSw; (try dsimp only at hSw); go_simp; (try with_reducible rfl)) ?_
          simp only [Act.put, List.setIfInBounds_toArray, List.set_cons_zero, List.set_cons_succ]
          refine take_run (i := 14) (some 36) rfl rfl (by kernel_rfl) (by kernel_rfl) (by kernel_rfl) (fun _ _ _ h => h) rfl (by assumption) (by intro w hSw; (try dsimp only at hSw); go_simp; (try with_reducible rfl)) ?_
          simp only [Act.put, List.setIfInBounds_toArray, List.set_cons_zero, List.set_cons_succ]
          refine take_run (i := 15) (some 37) rfl rfl (by kernel_rfl) (by kernel_rfl) (by kernel_rfl) (fun _ _ _ h => h) rfl (by assumption) (by intro w hSw; (try dsimp only at hSw); go_simp; (try with_reducible rfl)) ?_
          simp only [Act.put, List.setIfInBounds_toArray, List.set_cons_zero, List.set_cons_succ]
          refine take_run (i := 16) (some 38) rfl rfl (by kernel_rfl) (by kernel_rfl) (by kernel_rfl) (fun _ _ _ h => h) rfl (by assumption) (by intro w hSw; (try dsimp only at hSw); go_simp; (try with_reducible rfl)) ?_
          simp only [Act.put, List.setIfInBounds_toArray, List.set_cons_zero, List.set_cons_succ]
          refine take_run (i := 17) (some 39) rfl rfl (by kernel_rfl) (by kernel_rfl) (by kernel_rfl) (fun _ _ _ h => h) rfl (by assumption) (by intro w hSw; (try dsimp only at hSw); go_simp; (try with_reducible rfl)) ?_
          simp only [Act.put, List.setIfInBounds_toArray, List.set_cons_zero, List.set_cons_succ]
          refine take_run (i := 18) (some 40) rfl rfl (by kernel_rfl) (by kernel_rfl) (by kernel_rfl) (fun _ _ _ h => h) rfl (by assumption) (by intro w hSw; (try dsimp only at hSw); go_simp; (try with_reducible rfl)) ?_
          simp only [Act.put, List.setIfInBounds_toArray, List.set_cons_zero, List.set_cons_succ]
          refine take_run (i := 19) (some 41) rfl rfl (by kernel_rfl) (by kernel_rfl) (by kernel_rfl) (fun _ _ _ h => h) rfl (by assumption) (by intro w hSw; (try dsimp only at hSw); go_simp; (try with_reducible rfl)) ?_
          simp only [Act.put, List.setIfInBounds_toArray, List.set_cons_zero, List.set_cons_succ]
          refine take_run (i := 20) (some 42) rfl rfl (by kernel_rfl) (by kernel_rfl) (by kernel_rfl) (fun _ _ _ h => h) rfl (by assumption) (by intro w hSw; (try dsimp only at hSw); go_simp; (try with_reducible rfl)) ?_
          simp only [Act.put, List.setIfInBounds_toArray, List.set_cons_zero, List.set_cons_succ]
          refine take_run (i := 21) (some 43) rfl rfl (by kernel_rfl) (by kernel_rfl) (by kernel_rfl) (fun _ _ _ h => h) rfl (by assumption) (by intro w hSw; (try dsimp only at hSw); go_simp; (try with_reducible rfl)) ?_
          simp only [Act.put, List.setIfInBounds_toArray, List.set_cons_zero, List.set_cons_succ]
          refine take_run (i := 22) (some 44) rfl rfl (by kernel_rfl) (by kernel_rfl) (by kernel_rfl) (fun _ _ _ h => h) rfl (by assumption) (by intro w hSw; (try dsimp only at hSw); go_simp; (try with_reducible rfl)) ?_
          simp only [Act.put, List.setIfInBounds_toArray, List.set_cons_zero, List.set_cons_succ]
          refine take_run (i := 23) (some 45) rfl rfl (by kernel_rfl) (by kernel_rfl) (by kernel_rfl) (fun _ _ _ h => h) rfl (by assumption) (by intro w hSw; (try dsimp only at hSw); go_simp; (try with_reducible rfl)) ?_
          simp only [Act.put, List.setIfInBounds_toArray, List.set_cons_zero, List.set_cons_succ]
          refine wpAnyH_done (by kernel_rfl) ?_ _
          have HM2 := Lib.hid (HM.out.trans' hHeld.2.2.2)
          clear hHeld
          go_wp2
          go_roundw
          case rel => exact ⟨k + 1, by omega, by go_num, HN1.out, HN2.out, HM2.out⟩
          case measure => simp [intOf]; omega
    · have hkn : ¬ (k : Int) < n := by omega
      have HY := Lib.hid (show CfsOk cs from ⟨HF0.out, take_all HALL.out (by rw [HL.out]; omega), HADJ.out.all (by rw [HL.out]; omega) fun a b c h1 h2 => Int.lt_trans h1 h2⟩)
      clear hrr hm
      go_wp2
      go_ret
      exact ⟨Zero.yes HY.out, HM.out⟩
end Go.Proofs.YtdclfdinhdaadaaGreatDoor

/- The references of sess, kvone, migr: Check: what 'yes' says. -/
namespace Go.Proofs.YtdclfdinhdaadaaGreatDoor
open Go.RowKit

set_option maxRecDepth 100000 in
set_option maxHeartbeats 4000000 in
theorem ref22_Check (A : Option Addr) (n c : Nat) (R : Nat → Prop) (ss : List Se) (w : World) (hr : Reads w R 8 A n (ecs ss)) (hn : n ≤ 100000) (hv : ∀ x ∈ ss, x.last.val.size ≤ 200) :
    Calls Tryz.prog 26 #[.slice A n c] w fun e w' => Says true (SesOk ss) e ∧ Mod Non w w' := by
  have hl : ss.length = n := by have := hr.1; rw [ecs_length] at this; omega
  have HL := Lib.hid hl
  have HV := Lib.hid hv
  clear hl hv
  go_enter Tryz.func26, Tryz.ntmps26
  go_wp2
  go_loopw [3] (fun i wr => ∃ k : Nat, k ≤ n ∧ i = .int .i64 k ∧ (∀ s ∈ ss.take k, s.last.client = s.client ∧ s.last.seq = s.seq ∧ s.last.May) ∧ Mod Non w wr) (fun i _ => n - (intOf i).toNat)
  case atStart => exact ⟨0, by omega, rfl, fun x hx => by simp at hx, Mod.refl _ _⟩
  case round =>
    obtain ⟨k, hk, rfl, hall, hm⟩ := hrel
    have HAL := Lib.hid hall
    clear hall
    have hrr := hr.mod hm fun _ _ _ h => h
    have HM := Lib.hid hm
    clear hm
    by_cases hlt : k < n
    · obtain ⟨b, off, s, hA, hbk, _, hpk, d0, d1, d2, d3, d4, d5, d6, d7⟩ := hrr.se hlt
      subst hA
      have hkn : (k : Int) < n := by omega
      have hv1 : s.last.val.size ≤ 200 := HV.out s (List.mem_of_getElem? hpk)
      have HP := Lib.hid hpk
      clear hpk hrr
      by_cases h1 : s.last.client = s.client
      · have h1' : (s.last.client != s.client) = false := by simp [h1]
        by_cases h2 : s.last.seq = s.seq
        · have h2' : (s.last.seq != s.seq) = false := by simp [h2]
          have H12 := Lib.hid (show s.last.client = s.client ∧ s.last.seq = s.seq from ⟨h1, h2⟩)
          have HC := Lib.hid (fun w => ref09_Check s.last w (by omega))
          clear h1 h2 hv1
          obtain ⟨cl, sq, ⟨lc, ls, le, lf, lv, lr⟩⟩ := s
          simp only at d0 d1 d2 d3 d4 d5 d6 d7 h1' h2'
          go_wp2
          refine wp_region_held_drew (S := (fun w' => w'.cell? ⟨b, off + k * 8, none⟩ = some (.int .i64 cl) ∧ w'.cell? ⟨b, off + k * 8 + 1, none⟩ = some (.int .i64 sq) ∧ w'.cell? ⟨b, off + k * 8 + 2, none⟩ = some (.int .i64 lc) ∧ w'.cell? ⟨b, off + k * 8 + 3, none⟩ = some (.int .i64 ls) ∧ w'.cell? ⟨b, off + k * 8 + 4, none⟩ = some (.int .i64 le) ∧ w'.cell? ⟨b, off + k * 8 + 5, none⟩ = some (.bool lf) ∧ w'.cell? ⟨b, off + k * 8 + 6, none⟩ = some (.string lv) ∧ w'.cell? ⟨b, off + k * 8 + 7, none⟩ = some (.int .i64 lr) ∧ Mod Non wr w')) (by kernel_rfl) (⟨by simpa using d0, by simpa using d1, by simpa using d2, by simpa using d3, by simpa using d4, by simpa using d5, by simpa using d6, by simpa using d7, (Mod.refl _ _).drew⟩) (fun hHeld => ?_)
          refine take_run (i := 0) (some 10) rfl rfl (by kernel_rfl) (by kernel_rfl) (by kernel_rfl) (fun _ _ _ h => h) rfl (by assumption) (by intro w hSw; (try dsimp only at hSw); go_simp; (try with_reducible rfl)) ?_
          simp only [Act.put, List.setIfInBounds_toArray, List.set_cons_zero, List.set_cons_succ]
          refine take_run (i := 1) (some 11) rfl rfl (by kernel_rfl) (by kernel_rfl) (by kernel_rfl) (fun _ _ _ h => h) rfl (by assumption) (by intro w hSw; (try dsimp only at hSw); go_simp; (try with_reducible rfl)) ?_
          simp only [Act.put, List.setIfInBounds_toArray, List.set_cons_zero, List.set_cons_succ]
          refine take_run (i := 2) (some 12) rfl rfl (by kernel_rfl) (by kernel_rfl) (by kernel_rfl) (fun _ _ _ h => h) rfl (by assumption) (by intro w hSw; (try dsimp only at hSw); go_simp; (try with_reducible rfl)) ?_
          simp only [Act.put, List.setIfInBounds_toArray, List.set_cons_zero, List.set_cons_succ]
          refine take_run (i := 3) (some 13) rfl rfl (by kernel_rfl) (by kernel_rfl) (by kernel_rfl) (fun _ _ _ h => h) rfl (by assumption) (by intro w hSw; (try dsimp only at hSw); go_simp; (try with_reducible rfl)) ?_
          simp only [Act.put, List.setIfInBounds_toArray, List.set_cons_zero, List.set_cons_succ]
          refine take_run (i := 4) (some 14) rfl rfl (by kernel_rfl) (by kernel_rfl) (by kernel_rfl) (fun _ _ _ h => h) rfl (by assumption) (by intro w hSw; (try dsimp only at hSw); go_simp; (try with_reducible rfl)) ?_
          simp only [Act.put, List.setIfInBounds_toArray, List.set_cons_zero, List.set_cons_succ]
          refine take_run (i := 5) (some 15) rfl rfl (by kernel_rfl) (by kernel_rfl) (by kernel_rfl) (fun _ _ _ h => h) rfl (by assumption) (by intro w hSw; (try dsimp only at hSw); go_simp; (try with_reducible rfl)) ?_
          simp only [Act.put, List.setIfInBounds_toArray, List.set_cons_zero, List.set_cons_succ]
          refine take_run (i := 6) (some 16) rfl rfl (by kernel_rfl) (by kernel_rfl) (by kernel_rfl) (fun _ _ _ h => h) rfl (by assumption) (by intro w hSw; (try dsimp only at hSw); go_simp; (try with_reducible rfl)) ?_
          simp only [Act.put, List.setIfInBounds_toArray, List.set_cons_zero, List.set_cons_succ]
          refine take_run (i := 7) (some 17) rfl rfl (by kernel_rfl) (by kernel_rfl) (by kernel_rfl) (fun _ _ _ h => h) rfl (by assumption) (by intro w hSw; (try dsimp only at hSw); go_simp; (try with_reducible rfl)) ?_
          simp only [Act.put, List.setIfInBounds_toArray, List.set_cons_zero, List.set_cons_succ]
          refine take_run (i := 8) (some 18) rfl rfl (by kernel_rfl) (by kernel_rfl) (by kernel_rfl) (fun _ _ _ h => h) rfl (by assumption) (by intro w hSw; (try dsimp only at hSw); go_simp; (try with_reducible rfl)) ?_
          simp only [Act.put, List.setIfInBounds_toArray, List.set_cons_zero, List.set_cons_succ]
          refine take_run (i := 9) (some 19) rfl rfl (by kernel_rfl) (by kernel_rfl) (by kernel_rfl) (fun _ _ _ h => h) rfl (by assumption) (by intro w hSw; (try dsimp only at hSw); go_simp; (try with_reducible rfl)) ?_
          simp only [Act.put, List.setIfInBounds_toArray, List.set_cons_zero, List.set_cons_succ]
          refine take_run (i := 10) (some 20) rfl rfl (by kernel_rfl) (by kernel_rfl) (by kernel_rfl) (fun _ _ _ h => h) rfl (by assumption) (by intro w hSw; (try dsimp only at hSw); go_simp; (try with_reducible rfl)) ?_
          simp only [Act.put, List.setIfInBounds_toArray, List.set_cons_zero, List.set_cons_succ]
          refine take_run (i := 11) (some 21) rfl rfl (by kernel_rfl) (by kernel_rfl) (by kernel_rfl) (fun _ _ _ h => h) rfl (by assumption) (by intro w hSw; (try dsimp only at hSw); go_simp; (try with_reducible rfl)) ?_
          simp only [Act.put, List.setIfInBounds_toArray, List.set_cons_zero, List.set_cons_succ]
          refine take_run (i := 12) (some 22) rfl rfl (by kernel_rfl) (by kernel_rfl) (by kernel_rfl) (fun _ _ _ h => h) rfl (by assumption) (by intro w hSw; (try dsimp only at hSw); go_simp; (try with_reducible rfl)) ?_
          simp only [Act.put, List.setIfInBounds_toArray, List.set_cons_zero, List.set_cons_succ]
          refine take_run (i := 13) (some 23) rfl rfl (by kernel_rfl) (by kernel_rfl) (by kernel_rfl) (fun _ _ _ h => h) rfl (by assumption) (by intro w hSw; (try dsimp only at hSw); go_simp; (try with_reducible rfl)) ?_
          simp only [Act.put, List.setIfInBounds_toArray, List.set_cons_zero, List.set_cons_succ]
          refine take_run (i := 14) (some 24) rfl rfl (by kernel_rfl) (by kernel_rfl) (by kernel_rfl) (fun _ _ _ h => h) rfl (by assumption) (by intro w hSw; (try dsimp only at hSw); go_simp; (try with_reducible rfl)) ?_
          simp only [Act.put, List.setIfInBounds_toArray, List.set_cons_zero, List.set_cons_succ]
          refine take_run (i := 15) (some 25) rfl rfl (by kernel_rfl) (by kernel_rfl) (by kernel_rfl) (fun _ _ _ h => h) rfl (by assumption) (by intro w hSw; (try dsimp only at hSw); go_simp; (try with_reducible rfl)) ?_
          simp only [Act.put, List.setIfInBounds_toArray, List.set_cons_zero, List.set_cons_succ]
          refine take_run (i := 16) (some 26) rfl rfl (by kernel_rfl) (by kernel_rfl) (by kernel_rfl) (fun _ _ _ h => h) rfl (by assumption) (by intro w hSw; (try dsimp only at hSw); go_simp; (try with_reducible rfl)) ?_
          simp only [Act.put, List.setIfInBounds_toArray, List.set_cons_zero, List.set_cons_succ]
          refine take_run (i := 17) (some 27) rfl rfl (by kernel_rfl) (by kernel_rfl) (by kernel_rfl) (fun _ _ _ h => h) rfl (by assumption) (by intro w hSw; (try dsimp only at hSw); go_simp; (try with_reducible rfl)) ?_
          simp only [Act.put, List.setIfInBounds_toArray, List.set_cons_zero, List.set_cons_succ]
          refine take_run (i := 18) (some 28) rfl rfl (by kernel_rfl) (by kernel_rfl) (by kernel_rfl) (fun _ _ _ h => h) rfl (by assumption) (by intro w hSw; (try dsimp only at hSw); go_simp; (try with_reducible rfl)) ?_
          simp only [Act.put, List.setIfInBounds_toArray, List.set_cons_zero, List.set_cons_succ]
          refine take_run (i := 19) (some 29) rfl rfl (by kernel_rfl) (by kernel_rfl) (by kernel_rfl) (fun _ _ _ h => h) rfl (by assumption) (by intro w hSw; (try dsimp only at hSw); go_simp; (try with_reducible rfl)) ?_
          simp only [Act.put, List.setIfInBounds_toArray, List.set_cons_zero, List.set_cons_succ]
          refine take_run (i := 20) (some 30) rfl rfl (by kernel_rfl) (by kernel_rfl) (by kernel_rfl) (fun _ _ _ h => h) rfl (by assumption) (by intro w hSw; (try dsimp only at hSw); go_simp; (try with_reducible rfl)) ?_
          simp only [Act.put, List.setIfInBounds_toArray, List.set_cons_zero, List.set_cons_succ]
          refine take_run (i := 21) (some 31) rfl rfl (by kernel_rfl) (by kernel_rfl) (by kernel_rfl) (fun _ _ _ h => h) rfl (by assumption) (by intro w hSw; (try dsimp only at hSw); go_simp; (try with_reducible rfl)) ?_
          simp only [Act.put, List.setIfInBounds_toArray, List.set_cons_zero, List.set_cons_succ]
          refine take_run (i := 22) (some 32) rfl rfl (by kernel_rfl) (by kernel_rfl) (by kernel_rfl) (fun _ _ _ h => h) rfl (by assumption) (by intro w hSw; (try dsimp only at hSw); go_simp; (try with_reducible rfl)) ?_
          simp only [Act.put, List.setIfInBounds_toArray, List.set_cons_zero, List.set_cons_succ]
          refine take_run (i := 23) (some 33) rfl rfl (by kernel_rfl) (by kernel_rfl) (by kernel_rfl) (fun _ _ _ h => h) rfl (by assumption) (by intro w hSw; (try dsimp only at hSw); go_simp; (try with_reducible rfl)) ?_
          simp only [Act.put, List.setIfInBounds_toArray, List.set_cons_zero, List.set_cons_succ]
          refine take_run (i := 24) (some 34) rfl rfl (by kernel_rfl) (by kernel_rfl) (by kernel_rfl) (fun _ _ _ h => h) rfl (by assumption) (by intro w hSw; (try dsimp only at hSw); go_simp; (try with_reducible rfl)) ?_
          simp only [Act.put, List.setIfInBounds_toArray, List.set_cons_zero, List.set_cons_succ]
          refine take_run (i := 25) (some 35) rfl rfl (by kernel_rfl) (by kernel_rfl) (by kernel_rfl) (fun _ _ _ h => h) rfl (by assumption) (by intro w hSw; (try dsimp only at hSw); go_simp; (try with_reducible rfl)) ?_
          simp only [Act.put, List.setIfInBounds_toArray, List.set_cons_zero, List.set_cons_succ]
          refine take_run (i := 26) (some 36) rfl rfl (by kernel_rfl) (by kernel_rfl) (by kernel_rfl) (fun _ _ _ h => h) rfl (by assumption) (by intro w hSw; (try dsimp only at hSw); go_simp; (try with_reducible rfl)) ?_
          simp only [Act.put, List.setIfInBounds_toArray, List.set_cons_zero, List.set_cons_succ]
          refine take_run (i := 27) (some 37) rfl rfl (by kernel_rfl) (by kernel_rfl) (by kernel_rfl) (fun _ _ _ h => h) rfl (by assumption) (by intro w hSw; (try dsimp only at hSw); go_simp; (try with_reducible rfl)) ?_
          simp only [Act.put, List.setIfInBounds_toArray, List.set_cons_zero, List.set_cons_succ]
          refine take_run (i := 28) (some 38) rfl rfl (by kernel_rfl) (by kernel_rfl) (by kernel_rfl) (fun _ _ _ h => h) rfl (by assumption) (by intro w hSw; (try dsimp only at hSw); go_simp; (try with_reducible rfl)) ?_
          simp only [Act.put, List.setIfInBounds_toArray, List.set_cons_zero, List.set_cons_succ]
          refine take_run (i := 29) (some 39) rfl rfl (by kernel_rfl) (by kernel_rfl) (by kernel_rfl) (fun _ _ _ h => h) rfl (by assumption) (by intro w hSw; (try dsimp only at hSw); go_simp; (try with_reducible rfl)) ?_
          simp only [Act.put, List.setIfInBounds_toArray, List.set_cons_zero, List.set_cons_succ]
          refine take_run (i := 30) (some 40) rfl rfl (by kernel_rfl) (by kernel_rfl) (by kernel_rfl) (fun _ _ _ h => h) rfl (by assumption) (by intro w hSw; (try dsimp only at hSw); go_simp; (try with_reducible rfl)) ?_
          simp only [Act.put, List.setIfInBounds_toArray, List.set_cons_zero, List.set_cons_succ]
          refine take_run (i := 31) (some 41) rfl rfl (by kernel_rfl) (by kernel_rfl) (by kernel_rfl) (fun _ _ _ h => h) rfl (by assumption) (by intro w hSw; (try dsimp only at hSw); go_simp; (try with_reducible rfl)) ?_
          simp only [Act.put, List.setIfInBounds_toArray, List.set_cons_zero, List.set_cons_succ]
          refine wpAnyH_ready (rs := [32]) (by kernel_rfl) (by simp) ?_
          refine AllReadyH.cons rfl (fun K hK => ?_) AllReadyH.nil
          go_simp
          refine (HC.out _).mono ?_
          rintro e w2 ⟨⟨kk, rfl, hk2⟩, hm2⟩
          have HKK := Lib.hid hk2
          clear hk2
          obtain ⟨y, hy⟩ : ∃ y, (kk != 0) = y := ⟨_, rfl⟩
          refine hK.out _ _ (⟨(hm2.cell (p := ⟨b, off + k * 8, none⟩) (by have := hHeld.2.2.2.2.2.2.2.2.size; simp only; omega) (fun h => h)).trans hHeld.1, (hm2.cell (p := ⟨b, off + k * 8 + 1, none⟩) (by have := hHeld.2.2.2.2.2.2.2.2.size; simp only; omega) (fun h => h)).trans hHeld.2.1, (hm2.cell (p := ⟨b, off + k * 8 + 2, none⟩) (by have := hHeld.2.2.2.2.2.2.2.2.size; simp only; omega) (fun h => h)).trans hHeld.2.2.1, (hm2.cell (p := ⟨b, off + k * 8 + 3, none⟩) (by have := hHeld.2.2.2.2.2.2.2.2.size; simp only; omega) (fun h => h)).trans hHeld.2.2.2.1, (hm2.cell (p := ⟨b, off + k * 8 + 4, none⟩) (by have := hHeld.2.2.2.2.2.2.2.2.size; simp only; omega) (fun h => h)).trans hHeld.2.2.2.2.1, (hm2.cell (p := ⟨b, off + k * 8 + 5, none⟩) (by have := hHeld.2.2.2.2.2.2.2.2.size; simp only; omega) (fun h => h)).trans hHeld.2.2.2.2.2.1, (hm2.cell (p := ⟨b, off + k * 8 + 6, none⟩) (by have := hHeld.2.2.2.2.2.2.2.2.size; simp only; omega) (fun h => h)).trans hHeld.2.2.2.2.2.2.1, (hm2.cell (p := ⟨b, off + k * 8 + 7, none⟩) (by have := hHeld.2.2.2.2.2.2.2.2.size; simp only; omega) (fun h => h)).trans hHeld.2.2.2.2.2.2.2.1, hHeld.2.2.2.2.2.2.2.2.trans' hm2⟩) (fun hHeld => ?_)
          clear hK K
          refine take_run (i := 33) (some 43) rfl rfl (by kernel_rfl) (by kernel_rfl) (by kernel_rfl) (fun _ _ _ h => h) rfl (by assumption) (by intro w hSw; (try dsimp only at hSw); go_simp; (try with_reducible rfl)) ?_
          simp only [Act.put, List.setIfInBounds_toArray, List.set_cons_zero, List.set_cons_succ]
          refine take_run (i := 34) (some 44) rfl rfl (by kernel_rfl) (by kernel_rfl) (by kernel_rfl) (fun _ _ _ h => h) rfl (by assumption) (by intro w hSw; (try dsimp only at hSw); go_simp; (try with_reducible rfl)) ?_
          simp only [Act.put, List.setIfInBounds_toArray, List.set_cons_zero, List.set_cons_succ]
          refine wpAnyH_done (by kernel_rfl) ?_ _
          have HM2 := Lib.hid (HM.out.trans' hHeld.2.2.2.2.2.2.2.2)
          clear hHeld hm2
          have HY := Lib.hid hy
          clear hy
          cases y with
          | true =>
            go_wp2
            go_ret
            exact ⟨⟨false, rfl, fun h => by cases h⟩, HM2.out⟩
          | false =>
            have hk0 : kk = 0 := by simpa using HY.out
            have HN := Lib.hid (take_more HAL.out HP.out ⟨H12.out.1, H12.out.2, HKK.out hk0⟩)
            clear hk0
            go_wp2
            go_roundw
            case rel => exact ⟨k + 1, by omega, by go_num, HN.out, HM2.out⟩
            case measure => simp [intOf]; omega
        · have h2' : (s.last.seq != s.seq) = true := by simp [h2]
          clear h2
          go_wp2
          go_quiet (fail)
          go_wp2
          go_ret
          exact ⟨⟨false, rfl, fun h => by cases h⟩, HM.out.drewN _⟩
      · have h1' : (s.last.client != s.client) = true := by simp [h1]
        clear h1
        go_wp2
        go_quiet (fail)
        go_wp2
        go_ret
        exact ⟨⟨false, rfl, fun h => by cases h⟩, HM.out.drewN _⟩
    · have hkn : ¬ (k : Int) < n := by omega
      have HRS := Lib.hid (ref22_Rise A n c R ss wr hrr hn)
      clear hrr
      go_wp2_with fail
      refine HRS.out.mono ?_
      rintro e w2 ⟨⟨b, rfl, hb⟩, hm2⟩
      have HB := Lib.hid hb
      clear hb
      go_wp2
      go_ret
      exact ⟨⟨b, rfl, fun h => ⟨take_all HAL.out (by rw [HL.out]; omega), HB.out h⟩⟩, HM.out.trans' hm2⟩

set_option maxRecDepth 100000 in
set_option maxHeartbeats 4000000 in
theorem ref23_Check (v : Int) (A : Option Addr) (n c : Nat) (R : Nat → Prop) (ps : List Pa) (w : World) (hr : Reads w R 3 A n (pcs ps)) (hn : n ≤ 100000) (hv : ∀ x ∈ ps, x.key.size ≤ 200 ∧ x.val.size ≤ 200) (hs : v = 1 ∨ v = 2) :
    Calls Tryz.prog 25 #[.int .i64 v, .slice A n c] w fun e w' => Says true (PasOk v ps) e ∧ Mod Non w w' := by
  have hl : ps.length = n := by have := hr.1; rw [pcs_length] at this; omega
  have HL := Lib.hid hl
  have HV := Lib.hid hv
  clear hl hv
  go_enter Tryz.func25, Tryz.ntmps25
  go_wp2
  go_loopw [5] (fun i wr => ∃ k : Nat, k ≤ n ∧ i = .int .i64 k ∧ (∀ p ∈ ps.take k, p.Ok ∧ (if v = 1 then p.rev = 0 else 1 ≤ p.rev ∧ p.rev ≤ 4294967296)) ∧ Mod Non w wr) (fun i _ => n - (intOf i).toNat)
  case atStart => exact ⟨0, by omega, rfl, fun x hx => by simp at hx, Mod.refl _ _⟩
  case round =>
    obtain ⟨k, hk, rfl, hall, hm⟩ := hrel
    have HAL := Lib.hid hall
    clear hall
    have hrr := hr.mod hm fun _ _ _ h => h
    have HM := Lib.hid hm
    clear hm
    by_cases hlt : k < n
    · obtain ⟨b, off, p, hA, hbk, _, hpk, d0, d1, d2⟩ := hrr.pa hlt
      subst hA
      have hkn : (k : Int) < n := by omega
      obtain ⟨g1, g2⟩ := HV.out p (List.mem_of_getElem? hpk)
      have HP := Lib.hid hpk
      clear hpk hrr
      have CK := ref05_Key p.key wr (by omega)
      have CV := ref05_Val p.val wr (by omega)
      obtain ⟨yk, hyk⟩ : ∃ y, keyB p.key = y := ⟨_, rfl⟩
      obtain ⟨yv, hyv⟩ : ∃ y, valB p.val = y := ⟨_, rfl⟩
      rw [hyk] at CK
      rw [hyv] at CV
      have HK := Lib.hid CK
      have HVL := Lib.hid CV
      have HYK := Lib.hid hyk
      have HYV := Lib.hid hyv
      clear CK CV hyk hyv g1 g2
      go_wp2_with fail
      refine HK.out.mono ?_
      rintro e w2 ⟨rfl, rfl⟩
      cases yk with
      | false =>
        go_wp2
        go_ret
        exact ⟨⟨false, rfl, fun h => by cases h⟩, HM.out⟩
      | true =>
        go_wp2_with fail
        refine HVL.out.mono ?_
        rintro e w2 ⟨rfl, rfl⟩
        cases yv with
        | false =>
          go_wp2
          go_ret
          exact ⟨⟨false, rfl, fun h => by cases h⟩, HM.out⟩
        | true =>
          have HOK := Lib.hid (show p.Ok from ⟨HYK.out, HYV.out⟩)
          obtain ⟨key, val, rv⟩ := p
          simp only at d0 d1 d2
          rcases hs with rfl | rfl
          · by_cases h0 : rv = 0
            · subst h0
              have HN := Lib.hid (take_more HAL.out HP.out ⟨HOK.out, by simp⟩)
              go_wp2
              go_roundw
              case rel => exact ⟨k + 1, by omega, by go_num, HN.out, HM.out⟩
              case measure => simp [intOf]; omega
            · have h0' : (rv != 0) = true := by simp [h0]
              clear h0
              go_wp2
              go_ret
              exact ⟨⟨false, rfl, fun h => by cases h⟩, HM.out⟩
          · by_cases h1 : rv < 1
            · go_wp2
              go_ret
              exact ⟨⟨false, rfl, fun h => by cases h⟩, HM.out⟩
            · by_cases h2 : 4294967296 < rv
              · go_wp2
                go_ret
                exact ⟨⟨false, rfl, fun h => by cases h⟩, HM.out⟩
              · have HN := Lib.hid (take_more HAL.out HP.out ⟨HOK.out, by rw [if_neg (by decide)]; exact ⟨by simp only; omega, by simp only; omega⟩⟩)
                go_wp2
                go_roundw
                case rel => exact ⟨k + 1, by omega, by go_num, HN.out, HM.out⟩
                case measure => simp [intOf]; omega
    · have hkn : ¬ (k : Int) < n := by omega
      by_cases h64 : n ≤ 64
      · have h64' : (n : Int) ≤ 64 := by omega
        have HRS := Lib.hid (ref23_Rise A n c R ps wr hrr hn)
        clear hrr
        go_wp2_with fail
        refine HRS.out.mono ?_
        rintro e w2 ⟨⟨b, rfl, hb⟩, hm2⟩
        have HB := Lib.hid hb
        clear hb
        go_wp2
        go_ret
        exact ⟨⟨b, rfl, fun h => ⟨by rw [HL.out]; exact h64, take_all HAL.out (by rw [HL.out]; omega), HB.out h⟩⟩, HM.out.trans' hm2⟩
      · have h64' : ¬ (n : Int) ≤ 64 := by omega
        go_wp2
        go_ret
        exact ⟨⟨false, rfl, fun h => by cases h⟩, HM.out⟩

set_option maxRecDepth 100000 in
set_option maxHeartbeats 4000000 in
theorem ref25_Check (s : St) (A1 A2 : Option Addr) (n1 c1 n2 c2 : Nat) (R1 R2 : Nat → Prop) (w : World) (h1 : Reads w R1 3 A1 n1 (pcs s.pairs)) (h2 : Reads w R2 8 A2 n2 (ecs s.sess)) (hn1 : n1 ≤ 80) (hn2 : n2 ≤ 40) (hv1 : ∀ x ∈ s.pairs, x.key.size ≤ 200 ∧ x.val.size ≤ 200) (hv2 : ∀ x ∈ s.sess, x.last.val.size ≤ 200) :
    Calls Tryz.prog 7 #[stv s.schema (.slice A1 n1 c1) (.slice A2 n2 c2)] w fun e w' => Says true s.Ok e ∧ Mod Non w w' := by
  obtain ⟨v, ps, ss⟩ := s
  simp only at h1 h2 hv1 hv2
  have m0 := (Mod.refl Non w).alloc (.cells #[.int .i64 v, .slice A1 n1 c1, .slice A2 n2 c2] 25)
  have s0 := Blk.new w 25 #[.int .i64 v, .slice A1 n1 c1, .slice A2 n2 c2]
  by_cases hv : v < 1
  · clear h1 h2
    go_enter Tryz.func7, Tryz.ntmps7
    go_wp2
    go_ret
    exact ⟨⟨false, rfl, fun h => by cases h⟩, m0⟩
  by_cases hv' : 2 < v
  · clear h1 h2
    go_enter Tryz.func7, Tryz.ntmps7
    go_wp2
    go_ret
    exact ⟨⟨false, rfl, fun h => by cases h⟩, m0⟩
  have hvv : v = 1 ∨ v = 2 := by omega
  have HVV := Lib.hid hvv
  have hl2 : ss.length = n2 := by have := h2.1; rw [ecs_length] at this; omega
  have HL2 := Lib.hid hl2
  have C1 := Lib.hid (ref23_Check v A1 n1 c1 R1 ps _ (h1.mod m0 fun _ _ _ h => h) (by omega) hv1 hvv)
  have C2 := Lib.hid (fun w' (hm : Mod Non w w') => ref22_Check A2 n2 c2 R2 ss w' (h2.mod hm fun _ _ _ h => h) (by omega) hv2)
  have H2 := Lib.hid h2
  clear h1 h2 hv1 hv2 hvv hl2
  go_enter Tryz.func7, Tryz.ntmps7
  go_wp2_with fail
  refine C1.out.mono ?_
  rintro e w1 ⟨⟨b1, rfl, hb1⟩, hm1⟩
  have HB1 := Lib.hid hb1
  have s1 := s0.mod hm1 (fun h => h)
  have m1 := m0.trans' hm1
  clear hb1 hm1 m0 s0 C1
  have es0 := s1.cell 0
  have es1 := s1.cell 1
  have es2 := s1.cell 2
  simp at es0 es1 es2
  cases b1 with
  | false =>
    go_wp2
    go_ret
    exact ⟨⟨false, rfl, fun h => by cases h⟩, m1⟩
  | true =>
    go_wp2_with fail
    refine (C2.out _ m1).mono ?_
    rintro e w2 ⟨⟨b2, rfl, hb2⟩, hm2⟩
    have HB2 := Lib.hid hb2
    have s2 := s1.mod hm2 (fun h => h)
    have m2 := m1.trans' hm2
    clear hb2 hm2 m1 s1 C2 es0 es1 es2
    cases b2 with
    | false =>
      go_wp2
      go_ret
      exact ⟨⟨false, rfl, fun h => by cases h⟩, m2⟩
    | true =>
      have es0 := s2.cell 0
      have es1 := s2.cell 1
      have es2 := s2.cell 2
      simp at es0 es1 es2
      have hrr := H2.out.mod m2 fun _ _ _ h => h
      clear s2
      go_wp2
      go_loopw [3] (fun i wr => ∃ k : Nat, k ≤ n2 ∧ i = .int .i64 k ∧ (∀ x ∈ ss.take k, v = 1 → x.last.rev = 0) ∧ w2 = wr) (fun i _ => n2 - (intOf i).toNat)
      case atStart => exact ⟨0, by omega, rfl, fun x hx => by simp at hx, rfl⟩
      case round =>
        obtain ⟨k, hk, rfl, hall, rfl⟩ := hrel
        have HAL := Lib.hid hall
        clear hall
        by_cases hlt : k < n2
        · obtain ⟨b, off, x, hA, hbk, _, hpk, d0, d1, d2, d3, d4, d5, d6, d7⟩ := hrr.se hlt
          subst hA
          have hkn : (k : Int) < n2 := by omega
          have HP := Lib.hid hpk
          obtain ⟨r, hr⟩ : ∃ r, r = x.last.rev := ⟨_, rfl⟩
          rw [← hr] at d7
          have HR := Lib.hid hr
          clear hpk hr
          by_cases hv1 : v = 1
          · subst hv1
            by_cases h0 : r = 0
            · have HN := Lib.hid (take_more HAL.out HP.out (fun _ => by rw [← HR.out]; exact h0))
              subst h0
              go_wp2
              go_roundw
              case rel => exact ⟨k + 1, by omega, by go_num, fun x hx _ => HN.out x hx rfl, trivial⟩
              case measure => simp [intOf]; omega
            · have h0' : (r != 0) = true := by simp [h0]
              clear h0
              go_wp2
              go_ret
              exact ⟨⟨false, rfl, fun h => by cases h⟩, m2⟩
          · have hv1' : (v == 1) = false := by simp [hv1]
            have HN := Lib.hid (take_more HAL.out HP.out (fun h => absurd h hv1))
            clear hv1
            go_wp2
            go_roundw
            case rel => exact ⟨k + 1, by omega, by go_num, HN.out, trivial⟩
            case measure => simp [intOf]; omega
        · have hkn : ¬ (k : Int) < n2 := by omega
          have hq : ss.length ≤ 100000 := by rw [HL2.out]; omega
          have HQ := Lib.hid hq
          clear hq
          go_wp2
          go_ret
          refine ⟨⟨true, rfl, fun _ => ⟨HVV.out, HB1.out trivial, HB2.out trivial, HQ.out, fun h x hx => take_all HAL.out (by rw [HL2.out]; omega) x hx h⟩⟩, m2⟩
end Go.Proofs.YtdclfdinhdaadaaGreatDoor
