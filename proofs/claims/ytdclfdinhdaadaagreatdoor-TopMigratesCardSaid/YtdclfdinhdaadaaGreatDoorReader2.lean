/- Package pack, the reader where all is well: the contracts of Number, Count, Raw, Text, Flag, Err, Done, NewReader. -/
import Derived.Test.YtdclfdinhdaadaaGreatDoorReader
namespace Go.Proofs.YtdclfdinhdaadaaGreatDoor
open Go.RowKit

theorem Rd.no {w : World} {g a : Nat} {l : List UInt8} (h : Rd w g l a) : w.cell? ⟨g, 2, none⟩ = some (.int .i64 0) := by
  obtain ⟨A, n, c, hb, _⟩ := h
  have := hb.cell 2
  simpa using this

set_option maxHeartbeats 1000000 in
theorem rd_counted (g a v t : Nat) (l : List UInt8) (most : Int) (w : World) (hr : Rd w g l a) (hg : gscan 0 0 (l.drop a) = .ok (v, t)) (hm : (v : Int) ≤ most) (hv : a + t + v ≤ l.length) :
    Calls Tryz.prog 140 #[.pointer (some ⟨g, 0, none⟩), .int .i64 most] w fun e w' => e = .returned (.int .i64 v) ∧ Rd w' g l (a + t) ∧ Mod (One g) w w' := by
  have HG := Lib.hid hg
  have HM := Lib.hid hm
  have e1 : ¬ (((l.length - (a + t) : Nat) : Int) < (v : Int)) := by omega
  clear hg hm hv
  go_enter Tryz.func140, Tryz.ntmps140
  go_wp2_with fail
  refine (rd_limited g a v t l most w hr HG.out HM.out).mono ?_
  rintro e w1 ⟨rfl, hr1, hm1⟩
  have c2 := hr1.no
  go_wp2_with fail
  refine (rd_left g (a + t) l w1 hr1).mono ?_
  rintro e w2 ⟨rfl, hm2⟩
  obtain ⟨q, HQ⟩ : ∃ q, Hid (l.length - (a + t) = q) := ⟨_, rfl⟩
  rw [HQ.out] at e1 ⊢
  go_wp2
  go_ret
  exact ⟨rfl, hr1.non hm2, hm1.trans' hm2.non⟩

set_option maxHeartbeats 1000000 in
theorem rd_Number (g a v t : Nat) (l : List UInt8) (most : Int) (w : World) (hr : Rd w g l a) (hg : gscan 0 0 (l.drop a) = .ok (v, t)) (hm : (v : Int) ≤ most) :
    Calls Tryz.prog 59 #[.pointer (some ⟨g, 0, none⟩), .int .i64 most] w fun e w' => e = .returned (.int .i64 v) ∧ Rd w' g l (a + t) ∧ Mod (One g) w w' := by
  have HG := Lib.hid hg
  have HM := Lib.hid hm
  clear hg hm
  obtain ⟨W2, hW2⟩ : ∃ W2, (w.alloc (.cells #[.pointer (some ⟨g, 0, none⟩)] 80)).alloc (.cells #[.int .i64 most] 3) = W2 := ⟨_, rfl⟩
  have hm0 : Mod Non w W2 := by rw [← hW2]; exact ((Mod.refl _ _).alloc _).alloc _
  have hr0 := hr.non hm0
  obtain ⟨H, hH⟩ : ∃ H, w.heap.size = H := ⟨_, rfl⟩
  have b0 : Blk W2 H 80 #[.pointer (some ⟨g, 0, none⟩)] := by rw [← hW2, ← hH]; exact (Blk.new w _ _).alloc _
  have b1 : Blk W2 (H + 1) 3 #[.int .i64 most] := by rw [← hW2, ← hH]; exact Blk.new1 w _ _ _
  have x0 := b0.cell 0
  have x1 := b1.cell 0
  simp at x0 x1
  have n2 := hr0.no
  have hC : Hid (Calls Tryz.prog 101 #[.pointer (some ⟨H, 0, none⟩), .pointer (some ⟨H + 1, 0, none⟩)] W2 fun e w' => e = .returned (.int .i64 v) ∧ Rd w' g l (a + t) ∧ Mod (One g) W2 w') := by
    clear n2 hW2
    show Calls _ _ _ _ _
    go_enter Tryz.func101, Tryz.ntmps101
    go_wp2_with fail
    refine (rd_limited g a v t l most W2 hr0 HG.out HM.out).mono ?_
    rintro e w1 ⟨rfl, hr1, hm1⟩
    go_wp2
    go_ret
    exact ⟨rfl, hr1, hm1⟩
  have hR : Hid (Calls Tryz.prog 100 #[.pointer (some ⟨g, 0, none⟩), .func (.func 101) #[] #[.pointer (some ⟨H, 0, none⟩), .pointer (some ⟨H + 1, 0, none⟩)]] W2 fun e w' => e = .returned (.int .i64 v) ∧ Rd w' g l (a + t) ∧ Mod (One g) W2 w') := by
    clear x0 x1 hW2
    show Calls _ _ _ _ _
    go_enter Tryz.func100, Tryz.ntmps100
    go_wp2_with fail
    refine hC.out.mono ?_
    rintro e w1 ⟨rfl, hr1, hm1⟩
    have n3 := hr1.no
    go_wp2
    go_ret
    exact ⟨rfl, hr1, hm1⟩
  have HW := Lib.hid hW2
  clear hW2 n2 b0 b1 hC
  go_enter Tryz.func59, Tryz.ntmps59
  go_wp2_with fail
  rw [HW.out]
  refine hR.out.mono ?_
  rintro e w1 ⟨rfl, hr1, hm1⟩
  go_wp2
  go_ret
  exact ⟨rfl, hr1, hm0.non.trans' hm1⟩

set_option maxHeartbeats 1000000 in
theorem rd_Count (g a v t : Nat) (l : List UInt8) (most : Int) (w : World) (hr : Rd w g l a) (hg : gscan 0 0 (l.drop a) = .ok (v, t)) (hm : (v : Int) ≤ most) (hv : a + t + v ≤ l.length) :
    Calls Tryz.prog 113 #[.pointer (some ⟨g, 0, none⟩), .int .i64 most] w fun e w' => e = .returned (.int .i64 v) ∧ Rd w' g l (a + t) ∧ Mod (One g) w w' := by
  have HG := Lib.hid hg
  have HM := Lib.hid hm
  clear hg hm
  obtain ⟨W2, hW2⟩ : ∃ W2, (w.alloc (.cells #[.pointer (some ⟨g, 0, none⟩)] 80)).alloc (.cells #[.int .i64 most] 3) = W2 := ⟨_, rfl⟩
  have hm0 : Mod Non w W2 := by rw [← hW2]; exact ((Mod.refl _ _).alloc _).alloc _
  have hr0 := hr.non hm0
  obtain ⟨H, hH⟩ : ∃ H, w.heap.size = H := ⟨_, rfl⟩
  have b0 : Blk W2 H 80 #[.pointer (some ⟨g, 0, none⟩)] := by rw [← hW2, ← hH]; exact (Blk.new w _ _).alloc _
  have b1 : Blk W2 (H + 1) 3 #[.int .i64 most] := by rw [← hW2, ← hH]; exact Blk.new1 w _ _ _
  have x0 := b0.cell 0
  have x1 := b1.cell 0
  simp at x0 x1
  have n2 := hr0.no
  have hC : Hid (Calls Tryz.prog 139 #[.pointer (some ⟨H, 0, none⟩), .pointer (some ⟨H + 1, 0, none⟩)] W2 fun e w' => e = .returned (.int .i64 v) ∧ Rd w' g l (a + t) ∧ Mod (One g) W2 w') := by
    clear n2 hW2
    show Calls _ _ _ _ _
    go_enter Tryz.func139, Tryz.ntmps139
    go_wp2_with fail
    refine (rd_counted g a v t l most W2 hr0 HG.out HM.out hv).mono ?_
    rintro e w1 ⟨rfl, hr1, hm1⟩
    go_wp2
    go_ret
    exact ⟨rfl, hr1, hm1⟩
  have hR : Hid (Calls Tryz.prog 100 #[.pointer (some ⟨g, 0, none⟩), .func (.func 139) #[] #[.pointer (some ⟨H, 0, none⟩), .pointer (some ⟨H + 1, 0, none⟩)]] W2 fun e w' => e = .returned (.int .i64 v) ∧ Rd w' g l (a + t) ∧ Mod (One g) W2 w') := by
    clear x0 x1 hW2
    show Calls _ _ _ _ _
    go_enter Tryz.func100, Tryz.ntmps100
    go_wp2_with fail
    refine hC.out.mono ?_
    rintro e w1 ⟨rfl, hr1, hm1⟩
    have n3 := hr1.no
    go_wp2
    go_ret
    exact ⟨rfl, hr1, hm1⟩
  have HW := Lib.hid hW2
  clear hW2 n2 b0 b1 hC
  go_enter Tryz.func113, Tryz.ntmps113
  go_wp2_with fail
  rw [HW.out]
  refine hR.out.mono ?_
  rintro e w1 ⟨rfl, hr1, hm1⟩
  go_wp2
  go_ret
  exact ⟨rfl, hr1, hm0.non.trans' hm1⟩
end Go.Proofs.YtdclfdinhdaadaaGreatDoor
