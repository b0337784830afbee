/- Package pack, the reader where all is well: the contracts of Flag, Err, Done, NewReader. -/
import Derived.Test.YtdclfdinhdaadaaGreatDoorReader3
namespace Go.Proofs.YtdclfdinhdaadaaGreatDoor
open Go.RowKit

set_option maxRecDepth 100000 in
set_option maxHeartbeats 1000000 in
theorem rd_flag (g a : Nat) (l : List UInt8) (x : UInt8) (w : World) (hr : Rd w g l a) (hx : l[a]? = some x) (hx1 : x.toNat ≤ 1) :
    Calls Tryz.prog 141 #[.pointer (some ⟨g, 0, none⟩)] w fun e w' => e = .returned (.bool ((x.toNat : Int) == 1)) ∧ Rd w' g l (a + 1) ∧ Mod (One g) w w' := by
  have hal : a < l.length := (List.getElem?_eq_some_iff.1 hx).1
  have e0 : ((((l.length - a : Nat) : Int)) == 0) = false := by simp; omega
  have hlen := hr.len
  go_enter Tryz.func141, Tryz.ntmps141
  go_wp2_with fail
  refine (rd_left g a l w hr).mono ?_
  rintro e w1 ⟨rfl, hm1⟩
  have hr1 := hr.non hm1
  obtain ⟨q, HQ⟩ : ∃ q, Hid (l.length - a = q) := ⟨_, rfl⟩
  rw [HQ.out] at e0 ⊢
  obtain ⟨A, n, c, hb, hrd, h1, h2, h3, h4, h5⟩ := hr1
  have c0 := hb.cell 0
  have c1 := hb.cell 1
  have f1 := hb.frozen 1
  simp at c0 c1
  obtain ⟨b, off, hA, _, hbg, hcc⟩ := hrd.row (by omega) (by rw [vbs_length]; omega)
  have cx := hcc a (.int .u8 (x.toNat : Int)) (by
    rw [vbs_get hal]
    have : l[a] = x := by rw [List.getElem?_eq_getElem hal] at hx; injection hx
    rw [this])
  subst hA
  obtain ⟨y, hy⟩ : ∃ y : Nat, x.toNat = y := ⟨_, rfl⟩
  rw [hy] at cx hx1
  have an : (a : Int) < n := by omega
  have y1 : ¬ (1 : Int) < y := by omega
  have hgo := fun j => Rd.go (w := w1.drewN j) (a' := a + 1) (hb.drewN j) (hrd.drewN j) h1 h2 (by omega) h4 h5
  have HGO := Lib.hid hgo
  have HY := Lib.hid hy
  clear hgo hcc hx hy hb hrd h3 h4 hx1
  go_wp2
  go_quiet (fail)
  go_wp2
  go_ret
  exact ⟨by rw [HY.out]; rfl, HGO.out _, (hm1.non.drewN _).setOne _⟩

theorem bit_flag (b : Bool) : (((if b = true then (1 : UInt8) else 0).toNat : Int) == 1) = b := by cases b <;> rfl

set_option maxHeartbeats 1000000 in
theorem rd_Flag (g a : Nat) (l : List UInt8) (b : Bool) (w : World) (hr : Rd w g l a) (hx : l[a]? = some (if b = true then 1 else 0)) :
    Calls Tryz.prog 114 #[.pointer (some ⟨g, 0, none⟩)] w fun e w' => e = .returned (.bool b) ∧ Rd w' g l (a + 1) ∧ Mod (One g) w w' := by
  have hC := Lib.hid (rd_flag g a l _ w hr hx (by cases b <;> decide))
  rw [bit_flag] at hC
  have n2 := hr.no
  have hR : Hid (Calls Tryz.prog 142 #[.pointer (some ⟨g, 0, none⟩), .func (.func 141) #[.pointer (some ⟨g, 0, none⟩)] #[]] w fun e w' => e = .returned (.bool b) ∧ Rd w' g l (a + 1) ∧ Mod (One g) w w') := by
    clear hx
    show Calls _ _ _ _ _
    go_enter Tryz.func142, Tryz.ntmps142
    go_wp2_with fail
    refine hC.out.mono ?_
    rintro e w1 ⟨rfl, hr1, hm1⟩
    have n3 := hr1.no
    go_wp2
    go_ret
    exact ⟨rfl, hr1, hm1⟩
  clear hx hC n2
  go_enter Tryz.func114, Tryz.ntmps114
  go_wp2_with fail
  refine hR.out.mono ?_
  rintro e w1 ⟨rfl, hr1, hm1⟩
  go_wp2
  go_ret
  exact ⟨rfl, hr1, hm1⟩

theorem rd_Err (g a : Nat) (l : List UInt8) (w : World) (hr : Rd w g l a) :
    Calls Tryz.prog 60 #[.pointer (some ⟨g, 0, none⟩)] w fun e w' => e = .returned (.int .i64 0) ∧ w = w' := by
  have n2 := hr.no
  go_enter Tryz.func60, Tryz.ntmps60
  go_wp2
  go_ret
  exact ⟨rfl, rfl⟩

theorem rd_Done (g : Nat) (l : List UInt8) (w : World) (hr : Rd w g l l.length) :
    Calls Tryz.prog 83 #[.pointer (some ⟨g, 0, none⟩)] w fun e w' => e = .returned (.int .i64 0) ∧ Mod Non w w' := by
  have hL := rd_left g l.length l w hr
  rw [Nat.sub_self] at hL
  have HL := Lib.hid hL
  clear hL
  go_enter Tryz.func83, Tryz.ntmps83
  go_wp2_with fail
  refine (rd_Err g l.length l w hr).mono ?_
  rintro e w1 ⟨rfl, rfl⟩
  go_wp2_with fail
  refine HL.out.mono ?_
  rintro e w1 ⟨rfl, hm1⟩
  go_wp2
  go_ret
  exact ⟨rfl, hm1⟩

theorem rd_New (A : Option Addr) (n c : Nat) (R : Nat → Prop) (l : List UInt8) (w : World) (hr : Reads w R 1 A n (vbs l)) (hn : n ≤ 10000000) :
    Calls Tryz.prog 58 #[.slice A n c] w fun e w' => ∃ g, e = .returned (.pointer (some ⟨g, 0, none⟩)) ∧ w.heap.size ≤ g ∧ Rd w' g l 0 ∧ Mod Non w w' := by
  have hll : l.length = n := by have := hr.1; rw [vbs_length, Nat.mul_one] at this; exact this
  have HL := Lib.hid hll
  clear hll
  go_enter Tryz.func58, Tryz.ntmps58
  go_wp2_with fail
  refine (slices_Clone A n c R l w hr (by rw [HL.out]; omega)).mono ?_
  rintro e w1 ⟨v1, rfl, ho1, hm1⟩
  have hcap : ∃ A1 n1 c1, v1 = .slice A1 n1 c1 ∧ n1 = n ∧ n1 ≤ c1 ∧ (c1 : Int) ≤ 9223372036854775807 := by
    rcases ho1.2 with ⟨h0, h00⟩ | ⟨g', cap, cur, h0, _, _, hc', hmx, _⟩
    · exact ⟨none, 0, 0, h0, by have := HL.out; omega, Nat.le_refl _, by omega⟩
    · exact ⟨_, _, cap, h0, HL.out, hc', by unfold maxLen at hmx; omega⟩
  obtain ⟨A1, n1, c1, rfl, hn1, hnc, hcm⟩ := hcap
  have HN := Lib.hid hn1
  clear hn1
  go_wp2
  go_ret
  refine ⟨w1.heap.size, rfl, hm1.size, ⟨A1, n1, c1, Blk.new w1 _ _, ?_, hnc, hcm, Nat.zero_le _, by rw [HN.out]; exact HL.out, by rw [HN.out]; exact hn⟩, hm1.alloc _⟩
  refine (ho1.reads.alloc _).more fun k hk hh => ?_
  exact (World.ownsRow.lt ho1 k hh.2.symm).2
end Go.Proofs.YtdclfdinhdaadaaGreatDoor
