/- The contracts of the reference's Next at any place, Scan, Lists. -/
import Derived.Test.YtlkifobajdafpaaDoorRowsB
namespace Go.Proofs.YtlkifobajdafpaaDoor
open Go.RowKit

theorem ref_Next_err' (A : Option Addr) (len cap : Nat) (a : Int) (R : Nat → Prop) (l : List UInt8) (w : World) (hr : Reads w R 1 A len (vbs l)) (hc : len ≤ cap) (hcap : (cap : Int) ≤ 9223372036854775807) (hmax : len ≤ 4611686018427387904)
    (e : Nat) (he : nextK l a = .error e) :
    Calls Tryd.prog 13 #[.slice A len cap, .int .i64 a] w fun x w' => x = .returned (.tuple #[.slice none 0 0, .int .i64 0, .int .i64 e]) ∧ Mod Non w w' := by
  have hll : l.length = len := by have := hr.1; rw [vbs_length, Nat.mul_one] at this; exact this
  have quiet : ∀ {x y : World}, x = y → Mod Non x y := fun h => h ▸ Mod.refl _ _
  have h1 := (nextK_err he).1
  rcases nextK_cases l a with ⟨ho, h⟩ | ⟨n, rfl, hn, ⟨e', h2, h⟩ | ⟨v, t, hg, hcs⟩⟩
  · rw [hll] at ho
    rw [h] at he; injection he with he; subst he
    exact (ref_Next_err A len cap a 6 w rfl (ref01_Get_out A len cap a w ho)).mono fun _ _ ⟨x, y⟩ => ⟨x, quiet y⟩
  · rw [h] at he; injection he with he; subst he
    have hG := ref01_Get_in A len cap R l n w hr hmax (by omega)
    rw [h2] at hG
    exact (ref_Next_err A len cap n e' w (errne h1) hG).mono fun _ _ ⟨x, y⟩ => ⟨x, quiet y⟩
  · have hG := ref01_Get_in A len cap R l n w hr hmax (by omega)
    rw [hg] at hG
    rcases hcs with ⟨hv, h⟩ | ⟨hv, h⟩ | ⟨hv1, hv2, hs, h⟩ | ⟨hv1, hv2, hs, hq, h⟩ | ⟨hv1, hv2, hs, hq, h⟩
    all_goals rw [h] at he
    · injection he with he; subst he hv
      exact (ref_Next_zero A len cap n (n + t) w hG).mono fun _ _ ⟨x, y⟩ => ⟨x, quiet y⟩
    · injection he with he; subst he
      exact (ref_Next_long A len cap n v (n + t) w hv hG).mono fun _ _ ⟨x, y⟩ => ⟨x, quiet y⟩
    · injection he with he; subst he
      obtain ⟨n', r, e1, _, rfl, _⟩ := gscan_canon _ 0 0 v t (by omega) hg
      have hle : 0 + (vbytes n').length ≤ (l.drop n).length := by rw [e1, List.length_append]; omega
      rw [List.length_drop] at hle
      exact (ref_Next_short A len cap n v (n + (0 + (vbytes n').length)) w hv1 hv2 (by omega) hmax (by omega) hG).mono fun _ _ ⟨x, y⟩ => ⟨x, quiet y⟩
    · injection he with he; subst he
      exact ref_Next_in A len cap n v (n + t) R l w hr hc hcap hmax hv1 hv2 (by omega) (by omega) false (by rw [show n + t - n + v + 4 = t + v + 4 by omega, ref_same hg (by omega), hq]) hG
    · cases he

theorem ref_Next_ok' (A : Option Addr) (len cap : Nat) (a : Int) (R : Nat → Prop) (l : List UInt8) (w : World) (hr : Reads w R 1 A len (vbs l)) (hc : len ≤ cap) (hcap : (cap : Int) ≤ 9223372036854775807) (hmax : len ≤ 4611686018427387904)
    (body : List UInt8) (k : Nat) (he : nextK l a = .ok (body, k)) :
    Calls Tryd.prog 13 #[.slice A len cap, .int .i64 a] w fun x w' => ∃ A' n c, x = .returned (.tuple #[.slice A' n c, .int .i64 k, .int .i64 0]) ∧ n ≤ c ∧ Reads w' R 1 A' n (vbs body) ∧ Mod Non w w' := by
  have hll : l.length = len := by have := hr.1; rw [vbs_length, Nat.mul_one] at this; exact this
  rcases nextK_cases l a with ⟨_, h⟩ | ⟨n, rfl, hn, ⟨e', h2, h⟩ | ⟨v, t, hg, hcs⟩⟩
  · rw [h] at he; cases he
  · rw [h] at he; cases he
  · have hG := ref01_Get_in A len cap R l n w hr hmax (by omega)
    rw [hg] at hG
    rcases hcs with ⟨hv, h⟩ | ⟨hv, h⟩ | ⟨hv1, hv2, hs, h⟩ | ⟨hv1, hv2, hs, hq, h⟩ | ⟨hv1, hv2, hs, hq, h⟩
    all_goals rw [h] at he
    any_goals cases he
    refine (ref_Next_in A len cap n v (n + t) R l w hr hc hcap hmax hv1 hv2 (by omega) (by omega) true (by rw [show n + t - n + v + 4 = t + v + 4 by omega, ref_same hg (by omega), hq]) hG).mono fun _ _ ⟨x, y⟩ => ⟨_, _, _, x, by omega, ?_, y⟩
    have h1 := hr.cut (k := n + t) (cap := cap) (by omega) hc
    rw [if_neg (by omega), Nat.mul_one] at h1
    have h2 := h1.take (k := v) (by omega)
    exact (show Reads w R 1 (A.map (·.add (n + t))) v (vbs ((l.drop (n + t)).take v)) by simpa [vbs, List.map_drop, List.map_take] using h2).mod y fun _ _ _ h => h

set_option maxRecDepth 100000 in
set_option maxHeartbeats 1000000 in
theorem ref_Scan (A : Option Addr) (len cap : Nat) (R : Nat → Prop) (l : List UInt8) (w : World) (hr : Reads w R 1 A len (vbs l)) (hc : len ≤ cap) (hcap : (cap : Int) ≤ 9223372036854775807) (hmax : len ≤ 1000000) :
    Calls Tryd.prog 15 #[.slice A len cap] w fun x w' => ∃ A' n c vs, x = .returned (.tuple #[.slice A' n c, .int .i64 (scanK l 0).2]) ∧ OwnS w' w.heap.size (.slice A' n c) vs ∧ RowsB w' (fun k => k < w.heap.size) vs (scanK l 0).1 ∧ Mod Non w w' := by
  have hll : Hid (l.length = len) := by have := hr.1; rw [vbs_length, Nat.mul_one] at this; exact this
  have hr0 := hr.here
  have hcH := Lib.hid hc
  clear hr hc
  go_enter Tryd.func15, Tryd.ntmps15
  go_wp2
  go_loopw [4, 5] (fun out i wr => ∃ (a : Nat) (A1 : Option Addr) (n1 c1 : Nat) (vs : List Value) (ls : List (List UInt8)), i = .int .i64 a ∧ out = .slice A1 n1 c1 ∧ a ≤ len ∧ ls.length ≤ a ∧ OwnS wr w.heap.size (.slice A1 n1 c1) vs ∧ RowsB wr (fun k => k < w.heap.size) vs ls ∧
      ls ++ (scanK l a).1 = (scanK l 0).1 ∧ (scanK l a).2 = (scanK l 0).2 ∧ Mod Non w wr) (fun _ i _ => len - (intOf i).toNat)
  case atStart => exact ⟨0, none, 0, 0, [], [], rfl, rfl, by omega, by simp, OwnS.nil _ _, RowsB.nil, rfl, rfl, Mod.refl _ _⟩
  case round =>
    obtain ⟨a, A1, n1, c1, vs, ls, rfl, rfl, ha, hla, hown, hrow, hs1, hs2, hm⟩ := hrel
    have HS1 := Lib.hid hs1
    have HS2 := Lib.hid hs2
    clear hs1 hs2
    have hrr := hr0.mod hm fun _ _ _ h => h
    rcases hx : nextK l a with e | ⟨body, k⟩
    · have e1 := errne (nextK_err hx).1
      have HX := Lib.hid hx
      clear hx
      go_wp2_with fail
      refine (ref_Next_err' A len cap a _ l wr hrr hcH.out hcap (by omega) e HX.out).mono ?_
      rintro x w1 ⟨rfl, hm1⟩
      have hm2 := hm.trans' hm1
      have hown1 := hown.non hm1
      have hrow1 := hrow.mod hm1 fun _ _ _ h => h
      clear hown hrow hrr hr0
      go_wp2
      go_ret2
      rw [scanK_err HX.out] at HS1 HS2
      exact ⟨_, _, _, vs, by rw [← HS2.out]; rfl, hown1, by rw [← HS1.out]; simpa using hrow1, hm2⟩
    · obtain ⟨k1, k2, _, _, _⟩ := nextK_ok hx
      rw [hll.out] at k2
      have HX := Lib.hid hx
      have hvl : vs.length ≤ 1000000 := by rw [hrow.1]; omega
      clear hx
      go_wp2_with fail
      refine (ref_Next_ok' A len cap a _ l wr hrr hcH.out hcap (by omega) body k HX.out).mono ?_
      rintro x w1 ⟨A2, n2, c2, rfl, hnc2, hr2, hm1⟩
      have hm2 := hm.trans' hm1
      have hown1 := hown.non hm1
      have hrow1 := hrow.mod hm1 fun _ _ _ h => h
      have hsz := hm2.size
      clear hown hrow hrr
      go_wp2_with (at_builtin; refine wpList_append_row rfl (.tmp 20) (.tmp 22) rfl w.heap.size (.slice A1 n1 c1) vs rfl hown1 A2 n2 c2 _ rfl rfl hvl hsz ?_; intro v3 w3 hown3 hm3)
      have hN3 := hown1.modNon hm2 hm3
      have hle : ∀ g, (Value.slice A1 n1 c1).ownBlock = some g → w.heap.size ≤ g := fun g hg => (World.ownsRow.lt hown1 g hg).1
      have hrow3 := (hrow1.snoc hnc2 hr2).mod hm3 fun k _ hk h => by have := hle k h; omega
      obtain ⟨A3, n3, c3, rfl, _, _⟩ := hown3.form
      rw [scanK_ok HX.out] at HS1 HS2
      clear hown1 hrow1 hr2 hle
      go_wp2
      go_roundw
      case rel => exact ⟨k, A3, n3, c3, _, ls ++ [body], by go_num, rfl, k2, by simp; omega, hown3, hrow3, by rw [← HS1.out]; simp, HS2.out, hN3⟩
      case measure => simp [intOf]; omega

def sameL (a b : List (List UInt8)) : Bool := a == b
theorem sameL_yes {a b : List (List UInt8)} (h : a = b) : sameL a b = true := by simp [sameL, h]
theorem sameL_no {a b : List (List UInt8)} (h : a ≠ b) : sameL a b = false := by simp [sameL, h]

end Go.Proofs.YtlkifobajdafpaaDoor
