/- Package runes: the contracts of Plain, Val$1, all. -/
import Derived.Test.YtdclfdinhdaadaaGreatDoorRunesPlain
namespace Go.Proofs.YtdclfdinhdaadaaGreatDoor
open Go.RowKit

theorem ret_bool {a b : Bool} (h : a = b) : Ending.returned (.bool a) = .returned (.bool b) := by rw [h]
theorem i32_le {r : Nat} (h : r ≤ 1114111) : (r : Int) ≤ 1114111 := by omega

set_option maxHeartbeats 1000000 in
theorem runes_Plain (r : Nat) (w : World) :
    Calls Tryz.prog 135 #[.int .i32 r] w fun e w' => e = .returned (.bool (plainR r)) ∧ w = w' := by
  have HP : Hid (plainR r = ((decide (97 ≤ r) && decide (r ≤ 122)) || (decide (65 ≤ r) && decide (r ≤ 90)) || (decide (48 ≤ r) && decide (r ≤ 57)) || r == 45 || r == 95 || r == 46 || r == 58 || (decide (161 ≤ r) && r != 65533))) := rfl
  go_enter Tryz.func135, Tryz.ntmps135
  go_wp2
  all_goals
    go_ret
    refine ⟨ret_bool ?_, rfl⟩
    rw [HP.out, Bool.eq_iff_iff]
    simp_all
    try omega

theorem runes_Val1 (r : Nat) (w : World) :
    Calls Tryz.prog 136 #[.int .i32 r] w fun e w' => e = .returned (.bool (valR r)) ∧ w = w' := by
  go_enter Tryz.func136, Tryz.ntmps136
  go_wp2
  all_goals
    go_ret
    refine ⟨ret_bool ?_, rfl⟩
    unfold valR
    rw [Bool.eq_iff_iff]
    simp_all
    try omega

set_option maxHeartbeats 1000000 in
theorem runes_all_plain (s : ByteArray) (w : World) :
    Calls Tryz.prog 134 #[.string s, .func (.func 135) #[] #[]] w fun e w' => e = .returned (.bool ((rl s).all fun x => plainR x.1)) ∧ Mod Non w w' := by
  obtain ⟨q, HQ⟩ : ∃ q, Hid (((rl s).all fun x => plainR x.1) = q) := ⟨_, rfl⟩
  rw [HQ.out]
  go_enter Tryz.func134, Tryz.ntmps134
  go_wp2
  go_loopw [] (fun w' => ∃ (pos b : Nat), w' = w.iter s pos ∧ ((rlFrom s b pos).all fun x => plainR x.1) = q ∧ s.size ≤ pos + b) (fun w' => s.size - w'.iterPos w.heap.size)
  case atStart => exact ⟨0, s.size, rfl, HQ.out, by omega⟩
  case round =>
    obtain ⟨pos, b, rfl, hc, hb⟩ := hrel
    have HC := Lib.hid hc
    clear hc
    by_cases hp : pos < s.size
    · have hnx : ∀ ty, (Instr.next (.pointer (some ⟨w.heap.size, 0, none⟩)) true ty).run Tryz.prog (w.iter s pos) = _ := fun ty => run_next_any w s pos ty hp
      have hwd := width_pos s pos
      have hst : Hid (∀ f, rlFrom s (f + 1) pos = Utf8.decode s pos :: rlFrom s f (pos + (Utf8.decode s pos).2)) := fun f => rlFrom_step s f pos hp
      obtain ⟨r, hr⟩ : ∃ r, (Utf8.decode s pos).1 = r := ⟨_, rfl⟩
      obtain ⟨k, hk⟩ : ∃ k, (Utf8.decode s pos).2 = k := ⟨_, rfl⟩
      rw [hr, hk] at hnx
      rw [hk] at hwd
      have HR := Lib.hid hr
      have HK := Lib.hid hk
      clear hr hk
      obtain ⟨y, hy⟩ : ∃ y, plainR r = y := ⟨_, rfl⟩
      have HY := Lib.hid hy
      clear hy
      cases y
      · go_wp2_with fail
        refine (runes_Plain r _).mono ?_
        rintro e w1 ⟨rfl, rfl⟩
        rw [HY.out]
        go_wp2
        go_ret
        refine ⟨ret_bool ?_, mod_iter _ _ _⟩
        rw [← HC.out]
        cases b with
        | zero => omega
        | succ b => rw [hst.out, List.all_cons, HR.out, HY.out]; rfl
      · go_wp2_with fail
        refine (runes_Plain r _).mono ?_
        rintro e w1 ⟨rfl, rfl⟩
        rw [HY.out]
        go_wp2
        go_roundw
        case rel =>
          cases b with
          | zero => omega
          | succ b =>
            refine ⟨pos + k, b, rfl, ?_, by omega⟩
            rw [← HC.out, hst.out, List.all_cons, HR.out, HY.out, HK.out]; rfl
        case measure => simp; omega
    · have hnx : ∀ ty, (Instr.next (.pointer (some ⟨w.heap.size, 0, none⟩)) true ty).run Tryz.prog (w.iter s pos) = _ := fun ty => run_next_end w s pos ty hp
      go_wp2
      go_ret
      refine ⟨ret_bool ?_, mod_iter _ _ _⟩
      rw [← HC.out, rlFrom_end s b pos hp]; rfl

set_option maxHeartbeats 1000000 in
theorem runes_all_val (s : ByteArray) (w : World) :
    Calls Tryz.prog 134 #[.string s, .func (.func 136) #[] #[]] w fun e w' => e = .returned (.bool ((rl s).all fun x => valR x.1)) ∧ Mod Non w w' := by
  obtain ⟨q, HQ⟩ : ∃ q, Hid (((rl s).all fun x => valR x.1) = q) := ⟨_, rfl⟩
  rw [HQ.out]
  go_enter Tryz.func134, Tryz.ntmps134
  go_wp2
  go_loopw [] (fun w' => ∃ (pos b : Nat), w' = w.iter s pos ∧ ((rlFrom s b pos).all fun x => valR x.1) = q ∧ s.size ≤ pos + b) (fun w' => s.size - w'.iterPos w.heap.size)
  case atStart => exact ⟨0, s.size, rfl, HQ.out, by omega⟩
  case round =>
    obtain ⟨pos, b, rfl, hc, hb⟩ := hrel
    have HC := Lib.hid hc
    clear hc
    by_cases hp : pos < s.size
    · have hnx : ∀ ty, (Instr.next (.pointer (some ⟨w.heap.size, 0, none⟩)) true ty).run Tryz.prog (w.iter s pos) = _ := fun ty => run_next_any w s pos ty hp
      have hwd := width_pos s pos
      have hst : Hid (∀ f, rlFrom s (f + 1) pos = Utf8.decode s pos :: rlFrom s f (pos + (Utf8.decode s pos).2)) := fun f => rlFrom_step s f pos hp
      obtain ⟨r, hr⟩ : ∃ r, (Utf8.decode s pos).1 = r := ⟨_, rfl⟩
      obtain ⟨k, hk⟩ : ∃ k, (Utf8.decode s pos).2 = k := ⟨_, rfl⟩
      rw [hr, hk] at hnx
      rw [hk] at hwd
      have HR := Lib.hid hr
      have HK := Lib.hid hk
      clear hr hk
      obtain ⟨y, hy⟩ : ∃ y, valR r = y := ⟨_, rfl⟩
      have HY := Lib.hid hy
      clear hy
      cases y
      · go_wp2_with fail
        refine (runes_Val1 r _).mono ?_
        rintro e w1 ⟨rfl, rfl⟩
        rw [HY.out]
        go_wp2
        go_ret
        refine ⟨ret_bool ?_, mod_iter _ _ _⟩
        rw [← HC.out]
        cases b with
        | zero => omega
        | succ b => rw [hst.out, List.all_cons, HR.out, HY.out]; rfl
      · go_wp2_with fail
        refine (runes_Val1 r _).mono ?_
        rintro e w1 ⟨rfl, rfl⟩
        rw [HY.out]
        go_wp2
        go_roundw
        case rel =>
          cases b with
          | zero => omega
          | succ b =>
            refine ⟨pos + k, b, rfl, ?_, by omega⟩
            rw [← HC.out, hst.out, List.all_cons, HR.out, HY.out, HK.out]; rfl
        case measure => simp; omega
    · have hnx : ∀ ty, (Instr.next (.pointer (some ⟨w.heap.size, 0, none⟩)) true ty).run Tryz.prog (w.iter s pos) = _ := fun ty => run_next_end w s pos ty hp
      go_wp2
      go_ret
      refine ⟨ret_bool ?_, mod_iter _ _ _⟩
      rw [← HC.out, rlFrom_end s b pos hp]; rfl
end Go.Proofs.YtdclfdinhdaadaaGreatDoor
