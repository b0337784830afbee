/- Package answer: the contract of Put. -/
import Derived.Test.YtdclfdinhdaadaaGreatDoorMgA
namespace Go.Proofs.YtdclfdinhdaadaaGreatDoor
open Go.RowKit

theorem aenc_length (v : Int) {a : An} (ha : a.Ok) : (aenc v a).length ≤ 100 := by
  have h1 := vbytes_five (n := a.client.toNat) (by have := ha.client; omega)
  have h2 := vbytes_five (n := a.seq.toNat) (by have := ha.seq; omega)
  have h3 := vbytes_five (n := a.err.toNat) (by have := ha.err; omega)
  have h4 := vbytes_five (n := a.rev.toNat) (by have := ha.rev; omega)
  have h5 := vbytes_five (n := a.val.size) (by have := ha.val; omega)
  have h6 : a.val.data.toList.length ≤ 48 := by have := ha.val; simpa using this
  unfold aenc
  by_cases hv : v = 1
  · rw [if_pos hv]
    simp only [List.length_append, List.length_cons, List.length_nil]
    omega
  · rw [if_neg hv]
    simp only [List.length_append, List.length_cons, List.length_nil]
    omega

set_option maxRecDepth 100000 in
set_option maxHeartbeats 2000000 in
theorem answer_Put (g : Nat) (l : List UInt8) (v : Int) (a : An) (w : World) (ha : a.Ok) (hw : Wr w g l) (hl : l.length ≤ 1000000) :
    Calls Tryz.prog 34 #[.pointer (some ⟨g, 0, none⟩), .int .i64 v, a.v] w fun e w' => e = .returned (.tuple #[]) ∧ Wr w' g (l ++ aenc v a) ∧ Mod (One g) w w' := by
  have b1 := vbytes_five (n := a.client.toNat) (by have := ha.client; omega)
  have b2 := vbytes_five (n := a.seq.toNat) (by have := ha.seq; omega)
  have b3 := vbytes_five (n := a.err.toNat) (by have := ha.err; omega)
  have b5 := vbytes_five (n := a.val.size) (by have := ha.val; omega)
  have b6 : a.val.data.toList.length ≤ 48 := by have := ha.val; simpa using this
  have k1 : a.client ≤ 9223372036854775807 := by have := ha.client; omega
  have k2 : a.seq ≤ 9223372036854775807 := by have := ha.seq; omega
  have k3 : a.err ≤ 9223372036854775807 := by have := ha.err; omega
  have k4 : a.rev ≤ 9223372036854775807 := by have := ha.rev; omega
  have k5 : a.val.size ≤ 10000000 := by have := ha.val; omega
  have HE : Hid (aenc v a = vbytes a.client.toNat ++ vbytes a.seq.toNat ++ vbytes a.err.toNat ++ [if a.found = true then 1 else 0] ++ vbytes a.val.size ++ a.val.data.toList ++ (if v = 1 then [] else vbytes a.rev.toNat)) := rfl
  obtain ⟨cl, sq, er, fd, vl, rv⟩ := a
  simp only at b1 b2 b3 b5 b6 k1 k2 k3 k4 k5 HE
  have i0 : ∀ w, (Instr.index 118 (.agg #[.int .i64 cl, .int .i64 sq, .int .i64 er]) (.int .i64 0)).run Tryz.prog w = .ok (.int .i64 cl) w := fun w => by kernel_rfl
  have i1 : ∀ w, (Instr.index 118 (.agg #[.int .i64 cl, .int .i64 sq, .int .i64 er]) (.int .i64 1)).run Tryz.prog w = .ok (.int .i64 sq) w := fun w => by kernel_rfl
  have i2 : ∀ w, (Instr.index 118 (.agg #[.int .i64 cl, .int .i64 sq, .int .i64 er]) (.int .i64 2)).run Tryz.prog w = .ok (.int .i64 er) w := fun w => by kernel_rfl
  have hgl : g ≠ w.heap.size := by have := hw.lt; omega
  have hx : Hid (∀ {W : World}, Mod (One g) (w.alloc (.cells #[.int .i64 cl, .int .i64 sq, .int .i64 er, .bool fd, .string vl, .int .i64 rv] 57)) W → Blk W w.heap.size 57 #[.int .i64 cl, .int .i64 sq, .int .i64 er, .bool fd, .string vl, .int .i64 rv]) :=
    fun hm => (Blk.new w _ _).mod hm fun h => hgl h.symm
  have hw0 := hw.non ((Mod.refl Non w).alloc (.cells #[.int .i64 cl, .int .i64 sq, .int .i64 er, .bool fd, .string vl, .int .i64 rv] 57))
  have ha0 : Mod (One g) w (w.alloc (.cells #[.int .i64 cl, .int .i64 sq, .int .i64 er, .bool fd, .string vl, .int .i64 rv] 57)) := (Mod.refl _ w).alloc _
  clear hw
  go_enter Tryz.func34, Tryz.ntmps34
  go_wp2
  refine wp_loop_rounds 4 ?_
  rw [rounds_succ]
  go_wp2_with fail
  refine (wr_Number g l cl k1 _ hw0 (by omega)).mono ?_
  rintro e w1 ⟨rfl, hw1, hm1⟩
  go_wp2
  rw [rounds_succ]
  go_wp2_with fail
  refine (wr_Number g _ sq k2 _ hw1 (by simp only [List.length_append]; omega)).mono ?_
  rintro e w2 ⟨rfl, hw2, hm2⟩
  have hm12 := hm1.trans' hm2
  clear hm1 hm2 hw1
  go_wp2
  rw [rounds_succ]
  go_wp2_with fail
  refine (wr_Number g _ er k3 _ hw2 (by simp only [List.length_append]; omega)).mono ?_
  rintro e w3 ⟨rfl, hw3, hm3⟩
  have hm13 := hm12.trans' hm3
  have x3 := (hx.out hm13).cell 3
  simp at x3
  clear hm12 hm3 hw2
  go_wp2
  rw [rounds_succ]
  go_wp2_with fail
  refine (wr_Flag g _ fd _ hw3 (by simp only [List.length_append]; omega)).mono ?_
  rintro e w4 ⟨rfl, hw4, hm4⟩
  have hm14 := hm13.trans' hm4
  have y4 := (hx.out hm14).cell 4
  simp at y4
  clear hm13 hm4 hw3 x3
  go_wp2_with fail
  refine (wr_Text g _ vl _ hw4 (by simp only [List.length_append, List.length_cons, List.length_nil]; omega) k5).mono ?_
  rintro e w5 ⟨rfl, hw5, hm5⟩
  have hm15 := hm14.trans' hm5
  have z5 := (hx.out hm15).cell 5
  simp at z5
  clear hm14 hm5 hw4 y4
  have hmA := ha0.trans' hm15
  by_cases hv : v = 1
  · have hv1 : (v != 1) = false := by simp [hv]
    have hE : l ++ aenc v ⟨cl, sq, er, fd, vl, rv⟩ = l ++ vbytes cl.toNat ++ vbytes sq.toNat ++ vbytes er.toNat ++ [if fd = true then 1 else 0] ++ vbytes vl.size ++ vl.data.toList := by rw [HE.out, if_pos hv]; simp
    rw [← hE] at hw5
    clear hv hE
    go_wp2
    go_end0
    exact ⟨rfl, hw5, hmA⟩
  · have hv1 : (v != 1) = true := by simp [hv]
    have hE : l ++ aenc v ⟨cl, sq, er, fd, vl, rv⟩ = l ++ vbytes cl.toNat ++ vbytes sq.toNat ++ vbytes er.toNat ++ [if fd = true then 1 else 0] ++ vbytes vl.size ++ vl.data.toList ++ vbytes rv.toNat := by rw [HE.out, if_neg hv]; simp
    have HEE := Lib.hid hE
    clear hv hE
    go_wp2_with fail
    refine (wr_Number g _ rv k4 _ hw5 (by simp only [List.length_append, List.length_cons, List.length_nil]; omega)).mono ?_
    rintro e w6 ⟨rfl, hw6, hm6⟩
    rw [← HEE.out] at hw6
    go_wp2
    go_end0
    exact ⟨rfl, hw6, hmA.trans' hm6⟩
end Go.Proofs.YtdclfdinhdaadaaGreatDoor
