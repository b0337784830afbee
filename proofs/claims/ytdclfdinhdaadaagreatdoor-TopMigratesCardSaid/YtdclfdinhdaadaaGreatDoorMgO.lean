/- The reference of package cmd: the contracts of Owned, member, Check. -/
import Derived.Test.YtdclfdinhdaadaaGreatDoorMgR
namespace Go.Proofs.YtdclfdinhdaadaaGreatDoor
open Go.RowKit
theorem ref08_Owned (k : Int) (w : World) :
    Calls Tryz.prog 27 #[.int .i64 k] w fun e w' => e = .returned (.bool (ownB k)) ∧ w = w' := by
  obtain ⟨q, HQ⟩ : ∃ q, Hid (ownB k = q) := ⟨_, rfl⟩
  rw [HQ.out]
  by_cases h1 : 2 ≤ k
  · by_cases h2 : k ≤ 5
    · have HR : Hid (true = q) := by show _ = _; rw [← HQ.out]; unfold ownB; simp; omega
      go_enter Tryz.func27, Tryz.ntmps27
      go_wp2
      go_ret
      exact ⟨ret_b HR.out, rfl⟩
    · have HR : Hid (false = q) := by show _ = _; rw [← HQ.out]; unfold ownB; simp; omega
      go_enter Tryz.func27, Tryz.ntmps27
      go_wp2
      go_ret
      exact ⟨ret_b HR.out, rfl⟩
  · have HR : Hid (false = q) := by show _ = _; rw [← HQ.out]; unfold ownB; simp; omega
    go_enter Tryz.func27, Tryz.ntmps27
    go_wp2
    go_ret
    exact ⟨ret_b HR.out, rfl⟩
theorem ref08_member (k : Int) (w : World) :
    Calls Tryz.prog 28 #[.int .i64 k] w fun e w' => e = .returned (.bool (k == 7 || k == 8)) ∧ w = w' := by
  obtain ⟨q, HQ⟩ : ∃ q, Hid ((k == 7 || k == 8) = q) := ⟨_, rfl⟩
  rw [HQ.out]
  by_cases h1 : k = 7
  · subst h1
    go_enter Tryz.func28, Tryz.ntmps28
    go_wp2
    go_ret
    exact ⟨ret_b HQ.out, rfl⟩
  · have h1' : (k == 7) = false := by simp; omega
    have HR : Hid ((k == 8) = q) := by show _ = _; rw [← HQ.out, h1']; rfl
    clear h1
    go_enter Tryz.func28, Tryz.ntmps28
    go_wp2
    go_ret
    exact ⟨ret_b HR.out, rfl⟩

theorem valB_48 {s : ByteArray} (hv : valB s = true) : s.size ≤ 48 := by
  unfold valB at hv
  simp only [Bool.and_eq_true, decide_eq_true_eq] at hv
  exact hv.1.1

set_option maxHeartbeats 2000000 in
theorem ref08_Check_nop (client seq : Int) (key val old : ByteArray) (node : Int) (w : World) (hs : key.size ≤ 100000 ∧ val.size ≤ 100000 ∧ old.size ≤ 100000) :
    Calls Tryz.prog 9 #[.agg #[.int .i64 1, .int .i64 client, .int .i64 seq, .string key, .string val, .string old, .int .i64 node]] w fun e w' => (∃ k : Int, e = .returned (.int .i64 k) ∧ (k = 0 → Cm.Ok ⟨1, client, seq, key, val, old, node⟩)) ∧ Mod Non w w' := by
  have HO := Lib.hid (ref08_Owned 1 (w.alloc (.cells #[.int .i64 1, .int .i64 client, .int .i64 seq, .string key, .string val, .string old, .int .i64 node] 33)))
  have HM := Lib.hid (ref08_member 1 (w.alloc (.cells #[.int .i64 1, .int .i64 client, .int .i64 seq, .string key, .string val, .string old, .int .i64 node] 33)))
  have HKey := Lib.hid (ref05_Key key (w.alloc (.cells #[.int .i64 1, .int .i64 client, .int .i64 seq, .string key, .string val, .string old, .int .i64 node] 33)) hs.1)
  have HVal := Lib.hid (ref05_Val val (w.alloc (.cells #[.int .i64 1, .int .i64 client, .int .i64 seq, .string key, .string val, .string old, .int .i64 node] 33)) hs.2.1)
  have HOld := Lib.hid (ref05_Val old (w.alloc (.cells #[.int .i64 1, .int .i64 client, .int .i64 seq, .string key, .string val, .string old, .int .i64 node] 33)) hs.2.2)
  rw [show ownB 1 = false from rfl] at HO
  rw [show (((1 : Int) == 7) || ((1 : Int) == 8)) = false from rfl] at HM
  clear hs
  by_cases h0 : client = 0
  case neg =>
    have h0b : (client != 0) = true := by simp; omega
    clear h0
    go_enter Tryz.func9, Tryz.ntmps9
    go_wp2_with fail
    refine HO.out.mono ?_
    rintro e w1 ⟨rfl, rfl⟩
    go_wp2_with fail
    refine HM.out.mono ?_
    rintro e w1 ⟨rfl, rfl⟩
    go_wp2
    go_ret
    exact ⟨⟨3, rfl, fun h => absurd h (by decide)⟩, (Mod.refl _ _).alloc _⟩
  subst h0
  by_cases h1 : seq = 0
  case neg =>
    have h1b : (seq != 0) = true := by simp; omega
    clear h1
    go_enter Tryz.func9, Tryz.ntmps9
    go_wp2_with fail
    refine HO.out.mono ?_
    rintro e w1 ⟨rfl, rfl⟩
    go_wp2_with fail
    refine HM.out.mono ?_
    rintro e w1 ⟨rfl, rfl⟩
    go_wp2
    go_ret
    exact ⟨⟨3, rfl, fun h => absurd h (by decide)⟩, (Mod.refl _ _).alloc _⟩
  subst h1
  by_cases h2 : key.toList = []
  case neg =>
    go_enter Tryz.func9, Tryz.ntmps9
    go_wp2_with fail
    refine HO.out.mono ?_
    rintro e w1 ⟨rfl, rfl⟩
    go_wp2_with fail
    refine HM.out.mono ?_
    rintro e w1 ⟨rfl, rfl⟩
    go_wp2
    go_ret
    exact ⟨⟨3, rfl, fun h => absurd h (by decide)⟩, (Mod.refl _ _).alloc _⟩
  by_cases h3 : val.toList = []
  case neg =>
    go_enter Tryz.func9, Tryz.ntmps9
    go_wp2_with fail
    refine HO.out.mono ?_
    rintro e w1 ⟨rfl, rfl⟩
    go_wp2_with fail
    refine HM.out.mono ?_
    rintro e w1 ⟨rfl, rfl⟩
    go_wp2
    go_ret
    exact ⟨⟨3, rfl, fun h => absurd h (by decide)⟩, (Mod.refl _ _).alloc _⟩
  by_cases h4 : old.toList = []
  case neg =>
    go_enter Tryz.func9, Tryz.ntmps9
    go_wp2_with fail
    refine HO.out.mono ?_
    rintro e w1 ⟨rfl, rfl⟩
    go_wp2_with fail
    refine HM.out.mono ?_
    rintro e w1 ⟨rfl, rfl⟩
    go_wp2
    go_ret
    exact ⟨⟨3, rfl, fun h => absurd h (by decide)⟩, (Mod.refl _ _).alloc _⟩
  by_cases h5 : node = 0
  case neg =>
    have h5b : (node != 0) = true := by simp; omega
    clear h5
    go_enter Tryz.func9, Tryz.ntmps9
    go_wp2_with fail
    refine HO.out.mono ?_
    rintro e w1 ⟨rfl, rfl⟩
    go_wp2_with fail
    refine HM.out.mono ?_
    rintro e w1 ⟨rfl, rfl⟩
    go_wp2_with fail
    refine HM.out.mono ?_
    rintro e w1 ⟨rfl, rfl⟩
    go_wp2
    go_ret
    exact ⟨⟨3, rfl, fun h => absurd h (by decide)⟩, (Mod.refl _ _).alloc _⟩
  subst h5
  have HA : Hid (Cm.Ok ⟨1, 0, 0, key, val, old, 0⟩) := by
    refine ⟨⟨by simp only; omega, by simp only; omega⟩, ?_, ?_, ?_, ?_, ?_⟩
    · exact fun h => absurd (show ownB 1 = true from h) (by decide)
    · exact fun _ => ⟨rfl, rfl, h2⟩
    · show (if (1 : Int) = 2 ∨ (1 : Int) = 5 then _ else _)
      rw [if_neg (by decide)]
      exact h3
    · show (if (1 : Int) = 5 then _ else _)
      rw [if_neg (by decide)]
      exact h4
    · show (if (1 : Int) = 7 ∨ (1 : Int) = 8 then _ else _)
      rw [if_neg (by decide)]
  go_enter Tryz.func9, Tryz.ntmps9
  go_wp2_with fail
  refine HO.out.mono ?_
  rintro e w1 ⟨rfl, rfl⟩
  go_wp2_with fail
  refine HM.out.mono ?_
  rintro e w1 ⟨rfl, rfl⟩
  go_wp2_with fail
  refine HM.out.mono ?_
  rintro e w1 ⟨rfl, rfl⟩
  go_wp2
  go_ret
  exact ⟨⟨0, rfl, fun _ => HA.out⟩, (Mod.refl _ _).alloc _⟩

set_option maxHeartbeats 2000000 in
theorem ref08_Check_put (client seq : Int) (key val old : ByteArray) (node : Int) (w : World) (hs : key.size ≤ 100000 ∧ val.size ≤ 100000 ∧ old.size ≤ 100000) :
    Calls Tryz.prog 9 #[.agg #[.int .i64 2, .int .i64 client, .int .i64 seq, .string key, .string val, .string old, .int .i64 node]] w fun e w' => (∃ k : Int, e = .returned (.int .i64 k) ∧ (k = 0 → Cm.Ok ⟨2, client, seq, key, val, old, node⟩)) ∧ Mod Non w w' := by
  have HO := Lib.hid (ref08_Owned 2 (w.alloc (.cells #[.int .i64 2, .int .i64 client, .int .i64 seq, .string key, .string val, .string old, .int .i64 node] 33)))
  have HM := Lib.hid (ref08_member 2 (w.alloc (.cells #[.int .i64 2, .int .i64 client, .int .i64 seq, .string key, .string val, .string old, .int .i64 node] 33)))
  have HKey := Lib.hid (ref05_Key key (w.alloc (.cells #[.int .i64 2, .int .i64 client, .int .i64 seq, .string key, .string val, .string old, .int .i64 node] 33)) hs.1)
  have HVal := Lib.hid (ref05_Val val (w.alloc (.cells #[.int .i64 2, .int .i64 client, .int .i64 seq, .string key, .string val, .string old, .int .i64 node] 33)) hs.2.1)
  have HOld := Lib.hid (ref05_Val old (w.alloc (.cells #[.int .i64 2, .int .i64 client, .int .i64 seq, .string key, .string val, .string old, .int .i64 node] 33)) hs.2.2)
  rw [show ownB 2 = true from rfl] at HO
  rw [show (((2 : Int) == 7) || ((2 : Int) == 8)) = false from rfl] at HM
  clear hs
  by_cases h0 : client < 1
  · go_enter Tryz.func9, Tryz.ntmps9
    go_wp2_with fail
    refine HO.out.mono ?_
    rintro e w1 ⟨rfl, rfl⟩
    go_wp2
    go_ret
    exact ⟨⟨6, rfl, fun h => absurd h (by decide)⟩, (Mod.refl _ _).alloc _⟩
  by_cases h1 : 8 < client
  · go_enter Tryz.func9, Tryz.ntmps9
    go_wp2_with fail
    refine HO.out.mono ?_
    rintro e w1 ⟨rfl, rfl⟩
    go_wp2
    go_ret
    exact ⟨⟨6, rfl, fun h => absurd h (by decide)⟩, (Mod.refl _ _).alloc _⟩
  by_cases h2 : seq < 1
  · go_enter Tryz.func9, Tryz.ntmps9
    go_wp2_with fail
    refine HO.out.mono ?_
    rintro e w1 ⟨rfl, rfl⟩
    go_wp2
    go_ret
    exact ⟨⟨6, rfl, fun h => absurd h (by decide)⟩, (Mod.refl _ _).alloc _⟩
  by_cases h3 : 4294967296 < seq
  · go_enter Tryz.func9, Tryz.ntmps9
    go_wp2_with fail
    refine HO.out.mono ?_
    rintro e w1 ⟨rfl, rfl⟩
    go_wp2
    go_ret
    exact ⟨⟨6, rfl, fun h => absurd h (by decide)⟩, (Mod.refl _ _).alloc _⟩
  cases h4 : keyB key with
  | false =>
    rw [h4] at HKey
    clear h4
    go_enter Tryz.func9, Tryz.ntmps9
    go_wp2_with fail
    refine HO.out.mono ?_
    rintro e w1 ⟨rfl, rfl⟩
    go_wp2_with fail
    refine HM.out.mono ?_
    rintro e w1 ⟨rfl, rfl⟩
    go_wp2_with fail
    refine HKey.out.mono ?_
    rintro e w1 ⟨rfl, rfl⟩
    go_wp2
    go_ret
    exact ⟨⟨7, rfl, fun h => absurd h (by decide)⟩, (Mod.refl _ _).alloc _⟩
  | true =>
  rw [h4] at HKey
  have H4 := Lib.hid h4
  clear h4
  cases h5 : valB val with
  | false =>
    rw [h5] at HVal
    clear h5
    go_enter Tryz.func9, Tryz.ntmps9
    go_wp2_with fail
    refine HO.out.mono ?_
    rintro e w1 ⟨rfl, rfl⟩
    go_wp2_with fail
    refine HM.out.mono ?_
    rintro e w1 ⟨rfl, rfl⟩
    go_wp2_with fail
    refine HKey.out.mono ?_
    rintro e w1 ⟨rfl, rfl⟩
    go_wp2_with fail
    refine HVal.out.mono ?_
    rintro e w1 ⟨rfl, rfl⟩
    go_wp2
    go_ret
    exact ⟨⟨7, rfl, fun h => absurd h (by decide)⟩, (Mod.refl _ _).alloc _⟩
  | true =>
  rw [h5] at HVal
  have H5 := Lib.hid h5
  clear h5
  by_cases h6 : old.toList = []
  case neg =>
    go_enter Tryz.func9, Tryz.ntmps9
    go_wp2_with fail
    refine HO.out.mono ?_
    rintro e w1 ⟨rfl, rfl⟩
    go_wp2_with fail
    refine HM.out.mono ?_
    rintro e w1 ⟨rfl, rfl⟩
    go_wp2_with fail
    refine HKey.out.mono ?_
    rintro e w1 ⟨rfl, rfl⟩
    go_wp2_with fail
    refine HVal.out.mono ?_
    rintro e w1 ⟨rfl, rfl⟩
    go_wp2
    go_ret
    exact ⟨⟨3, rfl, fun h => absurd h (by decide)⟩, (Mod.refl _ _).alloc _⟩
  by_cases h7 : node = 0
  case neg =>
    have h7b : (node != 0) = true := by simp; omega
    clear h7
    go_enter Tryz.func9, Tryz.ntmps9
    go_wp2_with fail
    refine HO.out.mono ?_
    rintro e w1 ⟨rfl, rfl⟩
    go_wp2_with fail
    refine HM.out.mono ?_
    rintro e w1 ⟨rfl, rfl⟩
    go_wp2_with fail
    refine HKey.out.mono ?_
    rintro e w1 ⟨rfl, rfl⟩
    go_wp2_with fail
    refine HVal.out.mono ?_
    rintro e w1 ⟨rfl, rfl⟩
    go_wp2_with fail
    refine HM.out.mono ?_
    rintro e w1 ⟨rfl, rfl⟩
    go_wp2
    go_ret
    exact ⟨⟨3, rfl, fun h => absurd h (by decide)⟩, (Mod.refl _ _).alloc _⟩
  subst h7
  have HA : Hid (Cm.Ok ⟨2, client, seq, key, val, old, 0⟩) := by
    refine ⟨⟨by simp only; omega, by simp only; omega⟩, ?_, ?_, ?_, ?_, ?_⟩
    · exact fun _ => ⟨⟨by simp only; omega, by simp only; omega⟩, ⟨by simp only; omega, by simp only; omega⟩, H4.out⟩
    · exact fun h => absurd (show ownB 2 = false from h) (by decide)
    · show (if (2 : Int) = 2 ∨ (2 : Int) = 5 then _ else _)
      rw [if_pos (by decide)]
      exact H5.out
    · show (if (2 : Int) = 5 then _ else _)
      rw [if_neg (by decide)]
      exact h6
    · show (if (2 : Int) = 7 ∨ (2 : Int) = 8 then _ else _)
      rw [if_neg (by decide)]
  go_enter Tryz.func9, Tryz.ntmps9
  go_wp2_with fail
  refine HO.out.mono ?_
  rintro e w1 ⟨rfl, rfl⟩
  go_wp2_with fail
  refine HM.out.mono ?_
  rintro e w1 ⟨rfl, rfl⟩
  go_wp2_with fail
  refine HKey.out.mono ?_
  rintro e w1 ⟨rfl, rfl⟩
  go_wp2_with fail
  refine HVal.out.mono ?_
  rintro e w1 ⟨rfl, rfl⟩
  go_wp2_with fail
  refine HM.out.mono ?_
  rintro e w1 ⟨rfl, rfl⟩
  go_wp2
  go_ret
  exact ⟨⟨0, rfl, fun _ => HA.out⟩, (Mod.refl _ _).alloc _⟩

set_option maxHeartbeats 2000000 in
theorem ref08_Check_get (client seq : Int) (key val old : ByteArray) (node : Int) (w : World) (hs : key.size ≤ 100000 ∧ val.size ≤ 100000 ∧ old.size ≤ 100000) :
    Calls Tryz.prog 9 #[.agg #[.int .i64 3, .int .i64 client, .int .i64 seq, .string key, .string val, .string old, .int .i64 node]] w fun e w' => (∃ k : Int, e = .returned (.int .i64 k) ∧ (k = 0 → Cm.Ok ⟨3, client, seq, key, val, old, node⟩)) ∧ Mod Non w w' := by
  have HO := Lib.hid (ref08_Owned 3 (w.alloc (.cells #[.int .i64 3, .int .i64 client, .int .i64 seq, .string key, .string val, .string old, .int .i64 node] 33)))
  have HM := Lib.hid (ref08_member 3 (w.alloc (.cells #[.int .i64 3, .int .i64 client, .int .i64 seq, .string key, .string val, .string old, .int .i64 node] 33)))
  have HKey := Lib.hid (ref05_Key key (w.alloc (.cells #[.int .i64 3, .int .i64 client, .int .i64 seq, .string key, .string val, .string old, .int .i64 node] 33)) hs.1)
  have HVal := Lib.hid (ref05_Val val (w.alloc (.cells #[.int .i64 3, .int .i64 client, .int .i64 seq, .string key, .string val, .string old, .int .i64 node] 33)) hs.2.1)
  have HOld := Lib.hid (ref05_Val old (w.alloc (.cells #[.int .i64 3, .int .i64 client, .int .i64 seq, .string key, .string val, .string old, .int .i64 node] 33)) hs.2.2)
  rw [show ownB 3 = true from rfl] at HO
  rw [show (((3 : Int) == 7) || ((3 : Int) == 8)) = false from rfl] at HM
  clear hs
  by_cases h0 : client < 1
  · go_enter Tryz.func9, Tryz.ntmps9
    go_wp2_with fail
    refine HO.out.mono ?_
    rintro e w1 ⟨rfl, rfl⟩
    go_wp2
    go_ret
    exact ⟨⟨6, rfl, fun h => absurd h (by decide)⟩, (Mod.refl _ _).alloc _⟩
  by_cases h1 : 8 < client
  · go_enter Tryz.func9, Tryz.ntmps9
    go_wp2_with fail
    refine HO.out.mono ?_
    rintro e w1 ⟨rfl, rfl⟩
    go_wp2
    go_ret
    exact ⟨⟨6, rfl, fun h => absurd h (by decide)⟩, (Mod.refl _ _).alloc _⟩
  by_cases h2 : seq < 1
  · go_enter Tryz.func9, Tryz.ntmps9
    go_wp2_with fail
    refine HO.out.mono ?_
    rintro e w1 ⟨rfl, rfl⟩
    go_wp2
    go_ret
    exact ⟨⟨6, rfl, fun h => absurd h (by decide)⟩, (Mod.refl _ _).alloc _⟩
  by_cases h3 : 4294967296 < seq
  · go_enter Tryz.func9, Tryz.ntmps9
    go_wp2_with fail
    refine HO.out.mono ?_
    rintro e w1 ⟨rfl, rfl⟩
    go_wp2
    go_ret
    exact ⟨⟨6, rfl, fun h => absurd h (by decide)⟩, (Mod.refl _ _).alloc _⟩
  cases h4 : keyB key with
  | false =>
    rw [h4] at HKey
    clear h4
    go_enter Tryz.func9, Tryz.ntmps9
    go_wp2_with fail
    refine HO.out.mono ?_
    rintro e w1 ⟨rfl, rfl⟩
    go_wp2_with fail
    refine HM.out.mono ?_
    rintro e w1 ⟨rfl, rfl⟩
    go_wp2_with fail
    refine HKey.out.mono ?_
    rintro e w1 ⟨rfl, rfl⟩
    go_wp2
    go_ret
    exact ⟨⟨7, rfl, fun h => absurd h (by decide)⟩, (Mod.refl _ _).alloc _⟩
  | true =>
  rw [h4] at HKey
  have H4 := Lib.hid h4
  clear h4
  by_cases h5 : val.toList = []
  case neg =>
    go_enter Tryz.func9, Tryz.ntmps9
    go_wp2_with fail
    refine HO.out.mono ?_
    rintro e w1 ⟨rfl, rfl⟩
    go_wp2_with fail
    refine HM.out.mono ?_
    rintro e w1 ⟨rfl, rfl⟩
    go_wp2_with fail
    refine HKey.out.mono ?_
    rintro e w1 ⟨rfl, rfl⟩
    go_wp2
    go_ret
    exact ⟨⟨3, rfl, fun h => absurd h (by decide)⟩, (Mod.refl _ _).alloc _⟩
  by_cases h6 : old.toList = []
  case neg =>
    go_enter Tryz.func9, Tryz.ntmps9
    go_wp2_with fail
    refine HO.out.mono ?_
    rintro e w1 ⟨rfl, rfl⟩
    go_wp2_with fail
    refine HM.out.mono ?_
    rintro e w1 ⟨rfl, rfl⟩
    go_wp2_with fail
    refine HKey.out.mono ?_
    rintro e w1 ⟨rfl, rfl⟩
    go_wp2
    go_ret
    exact ⟨⟨3, rfl, fun h => absurd h (by decide)⟩, (Mod.refl _ _).alloc _⟩
  by_cases h7 : node = 0
  case neg =>
    have h7b : (node != 0) = true := by simp; omega
    clear h7
    go_enter Tryz.func9, Tryz.ntmps9
    go_wp2_with fail
    refine HO.out.mono ?_
    rintro e w1 ⟨rfl, rfl⟩
    go_wp2_with fail
    refine HM.out.mono ?_
    rintro e w1 ⟨rfl, rfl⟩
    go_wp2_with fail
    refine HKey.out.mono ?_
    rintro e w1 ⟨rfl, rfl⟩
    go_wp2_with fail
    refine HM.out.mono ?_
    rintro e w1 ⟨rfl, rfl⟩
    go_wp2
    go_ret
    exact ⟨⟨3, rfl, fun h => absurd h (by decide)⟩, (Mod.refl _ _).alloc _⟩
  subst h7
  have HA : Hid (Cm.Ok ⟨3, client, seq, key, val, old, 0⟩) := by
    refine ⟨⟨by simp only; omega, by simp only; omega⟩, ?_, ?_, ?_, ?_, ?_⟩
    · exact fun _ => ⟨⟨by simp only; omega, by simp only; omega⟩, ⟨by simp only; omega, by simp only; omega⟩, H4.out⟩
    · exact fun h => absurd (show ownB 3 = false from h) (by decide)
    · show (if (3 : Int) = 2 ∨ (3 : Int) = 5 then _ else _)
      rw [if_neg (by decide)]
      exact h5
    · show (if (3 : Int) = 5 then _ else _)
      rw [if_neg (by decide)]
      exact h6
    · show (if (3 : Int) = 7 ∨ (3 : Int) = 8 then _ else _)
      rw [if_neg (by decide)]
  go_enter Tryz.func9, Tryz.ntmps9
  go_wp2_with fail
  refine HO.out.mono ?_
  rintro e w1 ⟨rfl, rfl⟩
  go_wp2_with fail
  refine HM.out.mono ?_
  rintro e w1 ⟨rfl, rfl⟩
  go_wp2_with fail
  refine HKey.out.mono ?_
  rintro e w1 ⟨rfl, rfl⟩
  go_wp2_with fail
  refine HM.out.mono ?_
  rintro e w1 ⟨rfl, rfl⟩
  go_wp2
  go_ret
  exact ⟨⟨0, rfl, fun _ => HA.out⟩, (Mod.refl _ _).alloc _⟩

set_option maxHeartbeats 2000000 in
theorem ref08_Check_del (client seq : Int) (key val old : ByteArray) (node : Int) (w : World) (hs : key.size ≤ 100000 ∧ val.size ≤ 100000 ∧ old.size ≤ 100000) :
    Calls Tryz.prog 9 #[.agg #[.int .i64 4, .int .i64 client, .int .i64 seq, .string key, .string val, .string old, .int .i64 node]] w fun e w' => (∃ k : Int, e = .returned (.int .i64 k) ∧ (k = 0 → Cm.Ok ⟨4, client, seq, key, val, old, node⟩)) ∧ Mod Non w w' := by
  have HO := Lib.hid (ref08_Owned 4 (w.alloc (.cells #[.int .i64 4, .int .i64 client, .int .i64 seq, .string key, .string val, .string old, .int .i64 node] 33)))
  have HM := Lib.hid (ref08_member 4 (w.alloc (.cells #[.int .i64 4, .int .i64 client, .int .i64 seq, .string key, .string val, .string old, .int .i64 node] 33)))
  have HKey := Lib.hid (ref05_Key key (w.alloc (.cells #[.int .i64 4, .int .i64 client, .int .i64 seq, .string key, .string val, .string old, .int .i64 node] 33)) hs.1)
  have HVal := Lib.hid (ref05_Val val (w.alloc (.cells #[.int .i64 4, .int .i64 client, .int .i64 seq, .string key, .string val, .string old, .int .i64 node] 33)) hs.2.1)
  have HOld := Lib.hid (ref05_Val old (w.alloc (.cells #[.int .i64 4, .int .i64 client, .int .i64 seq, .string key, .string val, .string old, .int .i64 node] 33)) hs.2.2)
  rw [show ownB 4 = true from rfl] at HO
  rw [show (((4 : Int) == 7) || ((4 : Int) == 8)) = false from rfl] at HM
  clear hs
  by_cases h0 : client < 1
  · go_enter Tryz.func9, Tryz.ntmps9
    go_wp2_with fail
    refine HO.out.mono ?_
    rintro e w1 ⟨rfl, rfl⟩
    go_wp2
    go_ret
    exact ⟨⟨6, rfl, fun h => absurd h (by decide)⟩, (Mod.refl _ _).alloc _⟩
  by_cases h1 : 8 < client
  · go_enter Tryz.func9, Tryz.ntmps9
    go_wp2_with fail
    refine HO.out.mono ?_
    rintro e w1 ⟨rfl, rfl⟩
    go_wp2
    go_ret
    exact ⟨⟨6, rfl, fun h => absurd h (by decide)⟩, (Mod.refl _ _).alloc _⟩
  by_cases h2 : seq < 1
  · go_enter Tryz.func9, Tryz.ntmps9
    go_wp2_with fail
    refine HO.out.mono ?_
    rintro e w1 ⟨rfl, rfl⟩
    go_wp2
    go_ret
    exact ⟨⟨6, rfl, fun h => absurd h (by decide)⟩, (Mod.refl _ _).alloc _⟩
  by_cases h3 : 4294967296 < seq
  · go_enter Tryz.func9, Tryz.ntmps9
    go_wp2_with fail
    refine HO.out.mono ?_
    rintro e w1 ⟨rfl, rfl⟩
    go_wp2
    go_ret
    exact ⟨⟨6, rfl, fun h => absurd h (by decide)⟩, (Mod.refl _ _).alloc _⟩
  cases h4 : keyB key with
  | false =>
    rw [h4] at HKey
    clear h4
    go_enter Tryz.func9, Tryz.ntmps9
    go_wp2_with fail
    refine HO.out.mono ?_
    rintro e w1 ⟨rfl, rfl⟩
    go_wp2_with fail
    refine HM.out.mono ?_
    rintro e w1 ⟨rfl, rfl⟩
    go_wp2_with fail
    refine HKey.out.mono ?_
    rintro e w1 ⟨rfl, rfl⟩
    go_wp2
    go_ret
    exact ⟨⟨7, rfl, fun h => absurd h (by decide)⟩, (Mod.refl _ _).alloc _⟩
  | true =>
  rw [h4] at HKey
  have H4 := Lib.hid h4
  clear h4
  by_cases h5 : val.toList = []
  case neg =>
    go_enter Tryz.func9, Tryz.ntmps9
    go_wp2_with fail
    refine HO.out.mono ?_
    rintro e w1 ⟨rfl, rfl⟩
    go_wp2_with fail
    refine HM.out.mono ?_
    rintro e w1 ⟨rfl, rfl⟩
    go_wp2_with fail
    refine HKey.out.mono ?_
    rintro e w1 ⟨rfl, rfl⟩
    go_wp2
    go_ret
    exact ⟨⟨3, rfl, fun h => absurd h (by decide)⟩, (Mod.refl _ _).alloc _⟩
  by_cases h6 : old.toList = []
  case neg =>
    go_enter Tryz.func9, Tryz.ntmps9
    go_wp2_with fail
    refine HO.out.mono ?_
    rintro e w1 ⟨rfl, rfl⟩
    go_wp2_with fail
    refine HM.out.mono ?_
    rintro e w1 ⟨rfl, rfl⟩
    go_wp2_with fail
    refine HKey.out.mono ?_
    rintro e w1 ⟨rfl, rfl⟩
    go_wp2
    go_ret
    exact ⟨⟨3, rfl, fun h => absurd h (by decide)⟩, (Mod.refl _ _).alloc _⟩
  by_cases h7 : node = 0
  case neg =>
    have h7b : (node != 0) = true := by simp; omega
    clear h7
    go_enter Tryz.func9, Tryz.ntmps9
    go_wp2_with fail
    refine HO.out.mono ?_
    rintro e w1 ⟨rfl, rfl⟩
    go_wp2_with fail
    refine HM.out.mono ?_
    rintro e w1 ⟨rfl, rfl⟩
    go_wp2_with fail
    refine HKey.out.mono ?_
    rintro e w1 ⟨rfl, rfl⟩
    go_wp2_with fail
    refine HM.out.mono ?_
    rintro e w1 ⟨rfl, rfl⟩
    go_wp2
    go_ret
    exact ⟨⟨3, rfl, fun h => absurd h (by decide)⟩, (Mod.refl _ _).alloc _⟩
  subst h7
  have HA : Hid (Cm.Ok ⟨4, client, seq, key, val, old, 0⟩) := by
    refine ⟨⟨by simp only; omega, by simp only; omega⟩, ?_, ?_, ?_, ?_, ?_⟩
    · exact fun _ => ⟨⟨by simp only; omega, by simp only; omega⟩, ⟨by simp only; omega, by simp only; omega⟩, H4.out⟩
    · exact fun h => absurd (show ownB 4 = false from h) (by decide)
    · show (if (4 : Int) = 2 ∨ (4 : Int) = 5 then _ else _)
      rw [if_neg (by decide)]
      exact h5
    · show (if (4 : Int) = 5 then _ else _)
      rw [if_neg (by decide)]
      exact h6
    · show (if (4 : Int) = 7 ∨ (4 : Int) = 8 then _ else _)
      rw [if_neg (by decide)]
  go_enter Tryz.func9, Tryz.ntmps9
  go_wp2_with fail
  refine HO.out.mono ?_
  rintro e w1 ⟨rfl, rfl⟩
  go_wp2_with fail
  refine HM.out.mono ?_
  rintro e w1 ⟨rfl, rfl⟩
  go_wp2_with fail
  refine HKey.out.mono ?_
  rintro e w1 ⟨rfl, rfl⟩
  go_wp2_with fail
  refine HM.out.mono ?_
  rintro e w1 ⟨rfl, rfl⟩
  go_wp2
  go_ret
  exact ⟨⟨0, rfl, fun _ => HA.out⟩, (Mod.refl _ _).alloc _⟩
end Go.Proofs.YtdclfdinhdaadaaGreatDoor

/- The reference of package cmd: the contract of Check. -/
namespace Go.Proofs.YtdclfdinhdaadaaGreatDoor
open Go.RowKit

set_option maxHeartbeats 2000000 in
theorem ref08_Check_cas (client seq : Int) (key val old : ByteArray) (node : Int) (w : World) (hs : key.size ≤ 100000 ∧ val.size ≤ 100000 ∧ old.size ≤ 100000) :
    Calls Tryz.prog 9 #[.agg #[.int .i64 5, .int .i64 client, .int .i64 seq, .string key, .string val, .string old, .int .i64 node]] w fun e w' => (∃ k : Int, e = .returned (.int .i64 k) ∧ (k = 0 → Cm.Ok ⟨5, client, seq, key, val, old, node⟩)) ∧ Mod Non w w' := by
  have HO := Lib.hid (ref08_Owned 5 (w.alloc (.cells #[.int .i64 5, .int .i64 client, .int .i64 seq, .string key, .string val, .string old, .int .i64 node] 33)))
  have HM := Lib.hid (ref08_member 5 (w.alloc (.cells #[.int .i64 5, .int .i64 client, .int .i64 seq, .string key, .string val, .string old, .int .i64 node] 33)))
  have HKey := Lib.hid (ref05_Key key (w.alloc (.cells #[.int .i64 5, .int .i64 client, .int .i64 seq, .string key, .string val, .string old, .int .i64 node] 33)) hs.1)
  have HVal := Lib.hid (ref05_Val val (w.alloc (.cells #[.int .i64 5, .int .i64 client, .int .i64 seq, .string key, .string val, .string old, .int .i64 node] 33)) hs.2.1)
  have HOld := Lib.hid (ref05_Val old (w.alloc (.cells #[.int .i64 5, .int .i64 client, .int .i64 seq, .string key, .string val, .string old, .int .i64 node] 33)) hs.2.2)
  rw [show ownB 5 = true from rfl] at HO
  rw [show (((5 : Int) == 7) || ((5 : Int) == 8)) = false from rfl] at HM
  clear hs
  by_cases h0 : client < 1
  · go_enter Tryz.func9, Tryz.ntmps9
    go_wp2_with fail
    refine HO.out.mono ?_
    rintro e w1 ⟨rfl, rfl⟩
    go_wp2
    go_ret
    exact ⟨⟨6, rfl, fun h => absurd h (by decide)⟩, (Mod.refl _ _).alloc _⟩
  by_cases h1 : 8 < client
  · go_enter Tryz.func9, Tryz.ntmps9
    go_wp2_with fail
    refine HO.out.mono ?_
    rintro e w1 ⟨rfl, rfl⟩
    go_wp2
    go_ret
    exact ⟨⟨6, rfl, fun h => absurd h (by decide)⟩, (Mod.refl _ _).alloc _⟩
  by_cases h2 : seq < 1
  · go_enter Tryz.func9, Tryz.ntmps9
    go_wp2_with fail
    refine HO.out.mono ?_
    rintro e w1 ⟨rfl, rfl⟩
    go_wp2
    go_ret
    exact ⟨⟨6, rfl, fun h => absurd h (by decide)⟩, (Mod.refl _ _).alloc _⟩
  by_cases h3 : 4294967296 < seq
  · go_enter Tryz.func9, Tryz.ntmps9
    go_wp2_with fail
    refine HO.out.mono ?_
    rintro e w1 ⟨rfl, rfl⟩
    go_wp2
    go_ret
    exact ⟨⟨6, rfl, fun h => absurd h (by decide)⟩, (Mod.refl _ _).alloc _⟩
  cases h4 : keyB key with
  | false =>
    rw [h4] at HKey
    clear h4
    go_enter Tryz.func9, Tryz.ntmps9
    go_wp2_with fail
    refine HO.out.mono ?_
    rintro e w1 ⟨rfl, rfl⟩
    go_wp2_with fail
    refine HM.out.mono ?_
    rintro e w1 ⟨rfl, rfl⟩
    go_wp2_with fail
    refine HKey.out.mono ?_
    rintro e w1 ⟨rfl, rfl⟩
    go_wp2
    go_ret
    exact ⟨⟨7, rfl, fun h => absurd h (by decide)⟩, (Mod.refl _ _).alloc _⟩
  | true =>
  rw [h4] at HKey
  have H4 := Lib.hid h4
  clear h4
  cases h5 : valB val with
  | false =>
    rw [h5] at HVal
    clear h5
    go_enter Tryz.func9, Tryz.ntmps9
    go_wp2_with fail
    refine HO.out.mono ?_
    rintro e w1 ⟨rfl, rfl⟩
    go_wp2_with fail
    refine HM.out.mono ?_
    rintro e w1 ⟨rfl, rfl⟩
    go_wp2_with fail
    refine HKey.out.mono ?_
    rintro e w1 ⟨rfl, rfl⟩
    go_wp2_with fail
    refine HVal.out.mono ?_
    rintro e w1 ⟨rfl, rfl⟩
    go_wp2
    go_ret
    exact ⟨⟨7, rfl, fun h => absurd h (by decide)⟩, (Mod.refl _ _).alloc _⟩
  | true =>
  rw [h5] at HVal
  have H5 := Lib.hid h5
  clear h5
  cases h6 : valB old with
  | false =>
    rw [h6] at HOld
    clear h6
    go_enter Tryz.func9, Tryz.ntmps9
    go_wp2_with fail
    refine HO.out.mono ?_
    rintro e w1 ⟨rfl, rfl⟩
    go_wp2_with fail
    refine HM.out.mono ?_
    rintro e w1 ⟨rfl, rfl⟩
    go_wp2_with fail
    refine HKey.out.mono ?_
    rintro e w1 ⟨rfl, rfl⟩
    go_wp2_with fail
    refine HVal.out.mono ?_
    rintro e w1 ⟨rfl, rfl⟩
    go_wp2_with fail
    refine HOld.out.mono ?_
    rintro e w1 ⟨rfl, rfl⟩
    go_wp2
    go_ret
    exact ⟨⟨7, rfl, fun h => absurd h (by decide)⟩, (Mod.refl _ _).alloc _⟩
  | true =>
  rw [h6] at HOld
  have H6 := Lib.hid h6
  clear h6
  by_cases h7 : node = 0
  case neg =>
    have h7b : (node != 0) = true := by simp; omega
    clear h7
    go_enter Tryz.func9, Tryz.ntmps9
    go_wp2_with fail
    refine HO.out.mono ?_
    rintro e w1 ⟨rfl, rfl⟩
    go_wp2_with fail
    refine HM.out.mono ?_
    rintro e w1 ⟨rfl, rfl⟩
    go_wp2_with fail
    refine HKey.out.mono ?_
    rintro e w1 ⟨rfl, rfl⟩
    go_wp2_with fail
    refine HVal.out.mono ?_
    rintro e w1 ⟨rfl, rfl⟩
    go_wp2_with fail
    refine HOld.out.mono ?_
    rintro e w1 ⟨rfl, rfl⟩
    go_wp2_with fail
    refine HM.out.mono ?_
    rintro e w1 ⟨rfl, rfl⟩
    go_wp2
    go_ret
    exact ⟨⟨3, rfl, fun h => absurd h (by decide)⟩, (Mod.refl _ _).alloc _⟩
  subst h7
  have HA : Hid (Cm.Ok ⟨5, client, seq, key, val, old, 0⟩) := by
    refine ⟨⟨by simp only; omega, by simp only; omega⟩, ?_, ?_, ?_, ?_, ?_⟩
    · exact fun _ => ⟨⟨by simp only; omega, by simp only; omega⟩, ⟨by simp only; omega, by simp only; omega⟩, H4.out⟩
    · exact fun h => absurd (show ownB 5 = false from h) (by decide)
    · show (if (5 : Int) = 2 ∨ (5 : Int) = 5 then _ else _)
      rw [if_pos (by decide)]
      exact H5.out
    · show (if (5 : Int) = 5 then _ else _)
      rw [if_pos (by decide)]
      exact H6.out
    · show (if (5 : Int) = 7 ∨ (5 : Int) = 8 then _ else _)
      rw [if_neg (by decide)]
  go_enter Tryz.func9, Tryz.ntmps9
  go_wp2_with fail
  refine HO.out.mono ?_
  rintro e w1 ⟨rfl, rfl⟩
  go_wp2_with fail
  refine HM.out.mono ?_
  rintro e w1 ⟨rfl, rfl⟩
  go_wp2_with fail
  refine HKey.out.mono ?_
  rintro e w1 ⟨rfl, rfl⟩
  go_wp2_with fail
  refine HVal.out.mono ?_
  rintro e w1 ⟨rfl, rfl⟩
  go_wp2_with fail
  refine HOld.out.mono ?_
  rintro e w1 ⟨rfl, rfl⟩
  go_wp2_with fail
  refine HM.out.mono ?_
  rintro e w1 ⟨rfl, rfl⟩
  go_wp2
  go_ret
  exact ⟨⟨0, rfl, fun _ => HA.out⟩, (Mod.refl _ _).alloc _⟩

set_option maxHeartbeats 2000000 in
theorem ref08_Check_activate (client seq : Int) (key val old : ByteArray) (node : Int) (w : World) (hs : key.size ≤ 100000 ∧ val.size ≤ 100000 ∧ old.size ≤ 100000) :
    Calls Tryz.prog 9 #[.agg #[.int .i64 6, .int .i64 client, .int .i64 seq, .string key, .string val, .string old, .int .i64 node]] w fun e w' => (∃ k : Int, e = .returned (.int .i64 k) ∧ (k = 0 → Cm.Ok ⟨6, client, seq, key, val, old, node⟩)) ∧ Mod Non w w' := by
  have HO := Lib.hid (ref08_Owned 6 (w.alloc (.cells #[.int .i64 6, .int .i64 client, .int .i64 seq, .string key, .string val, .string old, .int .i64 node] 33)))
  have HM := Lib.hid (ref08_member 6 (w.alloc (.cells #[.int .i64 6, .int .i64 client, .int .i64 seq, .string key, .string val, .string old, .int .i64 node] 33)))
  have HKey := Lib.hid (ref05_Key key (w.alloc (.cells #[.int .i64 6, .int .i64 client, .int .i64 seq, .string key, .string val, .string old, .int .i64 node] 33)) hs.1)
  have HVal := Lib.hid (ref05_Val val (w.alloc (.cells #[.int .i64 6, .int .i64 client, .int .i64 seq, .string key, .string val, .string old, .int .i64 node] 33)) hs.2.1)
  have HOld := Lib.hid (ref05_Val old (w.alloc (.cells #[.int .i64 6, .int .i64 client, .int .i64 seq, .string key, .string val, .string old, .int .i64 node] 33)) hs.2.2)
  rw [show ownB 6 = false from rfl] at HO
  rw [show (((6 : Int) == 7) || ((6 : Int) == 8)) = false from rfl] at HM
  clear hs
  by_cases h0 : client = 0
  case neg =>
    have h0b : (client != 0) = true := by simp; omega
    clear h0
    go_enter Tryz.func9, Tryz.ntmps9
    go_wp2_with fail
    refine HO.out.mono ?_
    rintro e w1 ⟨rfl, rfl⟩
    go_wp2_with fail
    refine HM.out.mono ?_
    rintro e w1 ⟨rfl, rfl⟩
    go_wp2
    go_ret
    exact ⟨⟨3, rfl, fun h => absurd h (by decide)⟩, (Mod.refl _ _).alloc _⟩
  subst h0
  by_cases h1 : seq = 0
  case neg =>
    have h1b : (seq != 0) = true := by simp; omega
    clear h1
    go_enter Tryz.func9, Tryz.ntmps9
    go_wp2_with fail
    refine HO.out.mono ?_
    rintro e w1 ⟨rfl, rfl⟩
    go_wp2_with fail
    refine HM.out.mono ?_
    rintro e w1 ⟨rfl, rfl⟩
    go_wp2
    go_ret
    exact ⟨⟨3, rfl, fun h => absurd h (by decide)⟩, (Mod.refl _ _).alloc _⟩
  subst h1
  by_cases h2 : key.toList = []
  case neg =>
    go_enter Tryz.func9, Tryz.ntmps9
    go_wp2_with fail
    refine HO.out.mono ?_
    rintro e w1 ⟨rfl, rfl⟩
    go_wp2_with fail
    refine HM.out.mono ?_
    rintro e w1 ⟨rfl, rfl⟩
    go_wp2
    go_ret
    exact ⟨⟨3, rfl, fun h => absurd h (by decide)⟩, (Mod.refl _ _).alloc _⟩
  by_cases h3 : val.toList = []
  case neg =>
    go_enter Tryz.func9, Tryz.ntmps9
    go_wp2_with fail
    refine HO.out.mono ?_
    rintro e w1 ⟨rfl, rfl⟩
    go_wp2_with fail
    refine HM.out.mono ?_
    rintro e w1 ⟨rfl, rfl⟩
    go_wp2
    go_ret
    exact ⟨⟨3, rfl, fun h => absurd h (by decide)⟩, (Mod.refl _ _).alloc _⟩
  by_cases h4 : old.toList = []
  case neg =>
    go_enter Tryz.func9, Tryz.ntmps9
    go_wp2_with fail
    refine HO.out.mono ?_
    rintro e w1 ⟨rfl, rfl⟩
    go_wp2_with fail
    refine HM.out.mono ?_
    rintro e w1 ⟨rfl, rfl⟩
    go_wp2
    go_ret
    exact ⟨⟨3, rfl, fun h => absurd h (by decide)⟩, (Mod.refl _ _).alloc _⟩
  by_cases h5 : node = 0
  case neg =>
    have h5b : (node != 0) = true := by simp; omega
    clear h5
    go_enter Tryz.func9, Tryz.ntmps9
    go_wp2_with fail
    refine HO.out.mono ?_
    rintro e w1 ⟨rfl, rfl⟩
    go_wp2_with fail
    refine HM.out.mono ?_
    rintro e w1 ⟨rfl, rfl⟩
    go_wp2_with fail
    refine HM.out.mono ?_
    rintro e w1 ⟨rfl, rfl⟩
    go_wp2
    go_ret
    exact ⟨⟨3, rfl, fun h => absurd h (by decide)⟩, (Mod.refl _ _).alloc _⟩
  subst h5
  have HA : Hid (Cm.Ok ⟨6, 0, 0, key, val, old, 0⟩) := by
    refine ⟨⟨by simp only; omega, by simp only; omega⟩, ?_, ?_, ?_, ?_, ?_⟩
    · exact fun h => absurd (show ownB 6 = true from h) (by decide)
    · exact fun _ => ⟨rfl, rfl, h2⟩
    · show (if (6 : Int) = 2 ∨ (6 : Int) = 5 then _ else _)
      rw [if_neg (by decide)]
      exact h3
    · show (if (6 : Int) = 5 then _ else _)
      rw [if_neg (by decide)]
      exact h4
    · show (if (6 : Int) = 7 ∨ (6 : Int) = 8 then _ else _)
      rw [if_neg (by decide)]
  go_enter Tryz.func9, Tryz.ntmps9
  go_wp2_with fail
  refine HO.out.mono ?_
  rintro e w1 ⟨rfl, rfl⟩
  go_wp2_with fail
  refine HM.out.mono ?_
  rintro e w1 ⟨rfl, rfl⟩
  go_wp2_with fail
  refine HM.out.mono ?_
  rintro e w1 ⟨rfl, rfl⟩
  go_wp2
  go_ret
  exact ⟨⟨0, rfl, fun _ => HA.out⟩, (Mod.refl _ _).alloc _⟩

set_option maxHeartbeats 2000000 in
theorem ref08_Check_add (client seq : Int) (key val old : ByteArray) (node : Int) (w : World) (hs : key.size ≤ 100000 ∧ val.size ≤ 100000 ∧ old.size ≤ 100000) :
    Calls Tryz.prog 9 #[.agg #[.int .i64 7, .int .i64 client, .int .i64 seq, .string key, .string val, .string old, .int .i64 node]] w fun e w' => (∃ k : Int, e = .returned (.int .i64 k) ∧ (k = 0 → Cm.Ok ⟨7, client, seq, key, val, old, node⟩)) ∧ Mod Non w w' := by
  have HO := Lib.hid (ref08_Owned 7 (w.alloc (.cells #[.int .i64 7, .int .i64 client, .int .i64 seq, .string key, .string val, .string old, .int .i64 node] 33)))
  have HM := Lib.hid (ref08_member 7 (w.alloc (.cells #[.int .i64 7, .int .i64 client, .int .i64 seq, .string key, .string val, .string old, .int .i64 node] 33)))
  have HKey := Lib.hid (ref05_Key key (w.alloc (.cells #[.int .i64 7, .int .i64 client, .int .i64 seq, .string key, .string val, .string old, .int .i64 node] 33)) hs.1)
  have HVal := Lib.hid (ref05_Val val (w.alloc (.cells #[.int .i64 7, .int .i64 client, .int .i64 seq, .string key, .string val, .string old, .int .i64 node] 33)) hs.2.1)
  have HOld := Lib.hid (ref05_Val old (w.alloc (.cells #[.int .i64 7, .int .i64 client, .int .i64 seq, .string key, .string val, .string old, .int .i64 node] 33)) hs.2.2)
  rw [show ownB 7 = false from rfl] at HO
  rw [show (((7 : Int) == 7) || ((7 : Int) == 8)) = true from rfl] at HM
  clear hs
  by_cases h0 : node < 1
  · go_enter Tryz.func9, Tryz.ntmps9
    go_wp2_with fail
    refine HO.out.mono ?_
    rintro e w1 ⟨rfl, rfl⟩
    go_wp2_with fail
    refine HM.out.mono ?_
    rintro e w1 ⟨rfl, rfl⟩
    go_wp2
    go_ret
    exact ⟨⟨6, rfl, fun h => absurd h (by decide)⟩, (Mod.refl _ _).alloc _⟩
  by_cases h1 : 9 < node
  · go_enter Tryz.func9, Tryz.ntmps9
    go_wp2_with fail
    refine HO.out.mono ?_
    rintro e w1 ⟨rfl, rfl⟩
    go_wp2_with fail
    refine HM.out.mono ?_
    rintro e w1 ⟨rfl, rfl⟩
    go_wp2
    go_ret
    exact ⟨⟨6, rfl, fun h => absurd h (by decide)⟩, (Mod.refl _ _).alloc _⟩
  by_cases h2 : client = 0
  case neg =>
    have h2b : (client != 0) = true := by simp; omega
    clear h2
    go_enter Tryz.func9, Tryz.ntmps9
    go_wp2_with fail
    refine HO.out.mono ?_
    rintro e w1 ⟨rfl, rfl⟩
    go_wp2_with fail
    refine HM.out.mono ?_
    rintro e w1 ⟨rfl, rfl⟩
    go_wp2
    go_ret
    exact ⟨⟨3, rfl, fun h => absurd h (by decide)⟩, (Mod.refl _ _).alloc _⟩
  subst h2
  by_cases h3 : seq = 0
  case neg =>
    have h3b : (seq != 0) = true := by simp; omega
    clear h3
    go_enter Tryz.func9, Tryz.ntmps9
    go_wp2_with fail
    refine HO.out.mono ?_
    rintro e w1 ⟨rfl, rfl⟩
    go_wp2_with fail
    refine HM.out.mono ?_
    rintro e w1 ⟨rfl, rfl⟩
    go_wp2
    go_ret
    exact ⟨⟨3, rfl, fun h => absurd h (by decide)⟩, (Mod.refl _ _).alloc _⟩
  subst h3
  by_cases h4 : key.toList = []
  case neg =>
    go_enter Tryz.func9, Tryz.ntmps9
    go_wp2_with fail
    refine HO.out.mono ?_
    rintro e w1 ⟨rfl, rfl⟩
    go_wp2_with fail
    refine HM.out.mono ?_
    rintro e w1 ⟨rfl, rfl⟩
    go_wp2
    go_ret
    exact ⟨⟨3, rfl, fun h => absurd h (by decide)⟩, (Mod.refl _ _).alloc _⟩
  by_cases h5 : val.toList = []
  case neg =>
    go_enter Tryz.func9, Tryz.ntmps9
    go_wp2_with fail
    refine HO.out.mono ?_
    rintro e w1 ⟨rfl, rfl⟩
    go_wp2_with fail
    refine HM.out.mono ?_
    rintro e w1 ⟨rfl, rfl⟩
    go_wp2
    go_ret
    exact ⟨⟨3, rfl, fun h => absurd h (by decide)⟩, (Mod.refl _ _).alloc _⟩
  by_cases h6 : old.toList = []
  case neg =>
    go_enter Tryz.func9, Tryz.ntmps9
    go_wp2_with fail
    refine HO.out.mono ?_
    rintro e w1 ⟨rfl, rfl⟩
    go_wp2_with fail
    refine HM.out.mono ?_
    rintro e w1 ⟨rfl, rfl⟩
    go_wp2
    go_ret
    exact ⟨⟨3, rfl, fun h => absurd h (by decide)⟩, (Mod.refl _ _).alloc _⟩
  have HA : Hid (Cm.Ok ⟨7, 0, 0, key, val, old, node⟩) := by
    refine ⟨⟨by simp only; omega, by simp only; omega⟩, ?_, ?_, ?_, ?_, ?_⟩
    · exact fun h => absurd (show ownB 7 = true from h) (by decide)
    · exact fun _ => ⟨rfl, rfl, h4⟩
    · show (if (7 : Int) = 2 ∨ (7 : Int) = 5 then _ else _)
      rw [if_neg (by decide)]
      exact h5
    · show (if (7 : Int) = 5 then _ else _)
      rw [if_neg (by decide)]
      exact h6
    · show (if (7 : Int) = 7 ∨ (7 : Int) = 8 then _ else _)
      rw [if_pos (by decide)]
      exact ⟨by simp only; omega, by simp only; omega⟩
  go_enter Tryz.func9, Tryz.ntmps9
  go_wp2_with fail
  refine HO.out.mono ?_
  rintro e w1 ⟨rfl, rfl⟩
  go_wp2_with fail
  refine HM.out.mono ?_
  rintro e w1 ⟨rfl, rfl⟩
  go_wp2_with fail
  refine HM.out.mono ?_
  rintro e w1 ⟨rfl, rfl⟩
  go_wp2
  go_ret
  exact ⟨⟨0, rfl, fun _ => HA.out⟩, (Mod.refl _ _).alloc _⟩

set_option maxHeartbeats 2000000 in
theorem ref08_Check_drop (client seq : Int) (key val old : ByteArray) (node : Int) (w : World) (hs : key.size ≤ 100000 ∧ val.size ≤ 100000 ∧ old.size ≤ 100000) :
    Calls Tryz.prog 9 #[.agg #[.int .i64 8, .int .i64 client, .int .i64 seq, .string key, .string val, .string old, .int .i64 node]] w fun e w' => (∃ k : Int, e = .returned (.int .i64 k) ∧ (k = 0 → Cm.Ok ⟨8, client, seq, key, val, old, node⟩)) ∧ Mod Non w w' := by
  have HO := Lib.hid (ref08_Owned 8 (w.alloc (.cells #[.int .i64 8, .int .i64 client, .int .i64 seq, .string key, .string val, .string old, .int .i64 node] 33)))
  have HM := Lib.hid (ref08_member 8 (w.alloc (.cells #[.int .i64 8, .int .i64 client, .int .i64 seq, .string key, .string val, .string old, .int .i64 node] 33)))
  have HKey := Lib.hid (ref05_Key key (w.alloc (.cells #[.int .i64 8, .int .i64 client, .int .i64 seq, .string key, .string val, .string old, .int .i64 node] 33)) hs.1)
  have HVal := Lib.hid (ref05_Val val (w.alloc (.cells #[.int .i64 8, .int .i64 client, .int .i64 seq, .string key, .string val, .string old, .int .i64 node] 33)) hs.2.1)
  have HOld := Lib.hid (ref05_Val old (w.alloc (.cells #[.int .i64 8, .int .i64 client, .int .i64 seq, .string key, .string val, .string old, .int .i64 node] 33)) hs.2.2)
  rw [show ownB 8 = false from rfl] at HO
  rw [show (((8 : Int) == 7) || ((8 : Int) == 8)) = true from rfl] at HM
  clear hs
  by_cases h0 : node < 1
  · go_enter Tryz.func9, Tryz.ntmps9
    go_wp2_with fail
    refine HO.out.mono ?_
    rintro e w1 ⟨rfl, rfl⟩
    go_wp2_with fail
    refine HM.out.mono ?_
    rintro e w1 ⟨rfl, rfl⟩
    go_wp2
    go_ret
    exact ⟨⟨6, rfl, fun h => absurd h (by decide)⟩, (Mod.refl _ _).alloc _⟩
  by_cases h1 : 9 < node
  · go_enter Tryz.func9, Tryz.ntmps9
    go_wp2_with fail
    refine HO.out.mono ?_
    rintro e w1 ⟨rfl, rfl⟩
    go_wp2_with fail
    refine HM.out.mono ?_
    rintro e w1 ⟨rfl, rfl⟩
    go_wp2
    go_ret
    exact ⟨⟨6, rfl, fun h => absurd h (by decide)⟩, (Mod.refl _ _).alloc _⟩
  by_cases h2 : client = 0
  case neg =>
    have h2b : (client != 0) = true := by simp; omega
    clear h2
    go_enter Tryz.func9, Tryz.ntmps9
    go_wp2_with fail
    refine HO.out.mono ?_
    rintro e w1 ⟨rfl, rfl⟩
    go_wp2_with fail
    refine HM.out.mono ?_
    rintro e w1 ⟨rfl, rfl⟩
    go_wp2
    go_ret
    exact ⟨⟨3, rfl, fun h => absurd h (by decide)⟩, (Mod.refl _ _).alloc _⟩
  subst h2
  by_cases h3 : seq = 0
  case neg =>
    have h3b : (seq != 0) = true := by simp; omega
    clear h3
    go_enter Tryz.func9, Tryz.ntmps9
    go_wp2_with fail
    refine HO.out.mono ?_
    rintro e w1 ⟨rfl, rfl⟩
    go_wp2_with fail
    refine HM.out.mono ?_
    rintro e w1 ⟨rfl, rfl⟩
    go_wp2
    go_ret
    exact ⟨⟨3, rfl, fun h => absurd h (by decide)⟩, (Mod.refl _ _).alloc _⟩
  subst h3
  by_cases h4 : key.toList = []
  case neg =>
    go_enter Tryz.func9, Tryz.ntmps9
    go_wp2_with fail
    refine HO.out.mono ?_
    rintro e w1 ⟨rfl, rfl⟩
    go_wp2_with fail
    refine HM.out.mono ?_
    rintro e w1 ⟨rfl, rfl⟩
    go_wp2
    go_ret
    exact ⟨⟨3, rfl, fun h => absurd h (by decide)⟩, (Mod.refl _ _).alloc _⟩
  by_cases h5 : val.toList = []
  case neg =>
    go_enter Tryz.func9, Tryz.ntmps9
    go_wp2_with fail
    refine HO.out.mono ?_
    rintro e w1 ⟨rfl, rfl⟩
    go_wp2_with fail
    refine HM.out.mono ?_
    rintro e w1 ⟨rfl, rfl⟩
    go_wp2
    go_ret
    exact ⟨⟨3, rfl, fun h => absurd h (by decide)⟩, (Mod.refl _ _).alloc _⟩
  by_cases h6 : old.toList = []
  case neg =>
    go_enter Tryz.func9, Tryz.ntmps9
    go_wp2_with fail
    refine HO.out.mono ?_
    rintro e w1 ⟨rfl, rfl⟩
    go_wp2_with fail
    refine HM.out.mono ?_
    rintro e w1 ⟨rfl, rfl⟩
    go_wp2
    go_ret
    exact ⟨⟨3, rfl, fun h => absurd h (by decide)⟩, (Mod.refl _ _).alloc _⟩
  have HA : Hid (Cm.Ok ⟨8, 0, 0, key, val, old, node⟩) := by
    refine ⟨⟨by simp only; omega, by simp only; omega⟩, ?_, ?_, ?_, ?_, ?_⟩
    · exact fun h => absurd (show ownB 8 = true from h) (by decide)
    · exact fun _ => ⟨rfl, rfl, h4⟩
    · show (if (8 : Int) = 2 ∨ (8 : Int) = 5 then _ else _)
      rw [if_neg (by decide)]
      exact h5
    · show (if (8 : Int) = 5 then _ else _)
      rw [if_neg (by decide)]
      exact h6
    · show (if (8 : Int) = 7 ∨ (8 : Int) = 8 then _ else _)
      rw [if_pos (by decide)]
      exact ⟨by simp only; omega, by simp only; omega⟩
  go_enter Tryz.func9, Tryz.ntmps9
  go_wp2_with fail
  refine HO.out.mono ?_
  rintro e w1 ⟨rfl, rfl⟩
  go_wp2_with fail
  refine HM.out.mono ?_
  rintro e w1 ⟨rfl, rfl⟩
  go_wp2_with fail
  refine HM.out.mono ?_
  rintro e w1 ⟨rfl, rfl⟩
  go_wp2
  go_ret
  exact ⟨⟨0, rfl, fun _ => HA.out⟩, (Mod.refl _ _).alloc _⟩

set_option maxHeartbeats 1000000 in
theorem ref08_Check (c : Cm) (w : World) (hs : c.key.size ≤ 100000 ∧ c.val.size ≤ 100000 ∧ c.old.size ≤ 100000) :
    Calls Tryz.prog 9 #[c.v] w fun e w' => (∃ k : Int, e = .returned (.int .i64 k) ∧ (k = 0 → c.Ok)) ∧ Mod Non w w' := by
  obtain ⟨kind, client, seq, key, val, old, node⟩ := c
  simp only at hs
  by_cases h1 : kind < 1
  · clear hs
    go_enter Tryz.func9, Tryz.ntmps9
    go_wp2
    go_ret
    exact ⟨⟨5, rfl, fun h => absurd h (by decide)⟩, (Mod.refl _ _).alloc _⟩
  by_cases h2 : 8 < kind
  · clear hs
    go_enter Tryz.func9, Tryz.ntmps9
    go_wp2
    go_ret
    exact ⟨⟨5, rfl, fun h => absurd h (by decide)⟩, (Mod.refl _ _).alloc _⟩
  have h : kind = 1 ∨ kind = 2 ∨ kind = 3 ∨ kind = 4 ∨ kind = 5 ∨ kind = 6 ∨ kind = 7 ∨ kind = 8 := by omega
  clear h1 h2
  rcases h with rfl | rfl | rfl | rfl | rfl | rfl | rfl | rfl
  · exact ref08_Check_nop client seq key val old node w hs
  · exact ref08_Check_put client seq key val old node w hs
  · exact ref08_Check_get client seq key val old node w hs
  · exact ref08_Check_del client seq key val old node w hs
  · exact ref08_Check_cas client seq key val old node w hs
  · exact ref08_Check_activate client seq key val old node w hs
  · exact ref08_Check_add client seq key val old node w hs
  · exact ref08_Check_drop client seq key val old node w hs
end Go.Proofs.YtdclfdinhdaadaaGreatDoor
