/- The reference's Same of images: yes where they are equal. -/
import Derived.Test.YtdclfdinhdaadaaGreatDoorRSame11G
import Derived.Test.YtdclfdinhdaadaaGreatDoorMgW
namespace Go.Proofs.YtdclfdinhdaadaaGreatDoor
open Go.RowKit

set_option maxRecDepth 100000 in
set_option maxHeartbeats 2000000 in
theorem ref30_Same (m : Im) (u v : Value) (R R' : Nat → Prop) (w : World) (hu : ImV R w u m) (hv : ImV R' w v m) (h0 : m.confs.length ≤ 1000) (hm_ : ∀ x ∈ m.confs, x.mem.length ≤ 100000) (h1 : m.st.pairs.length ≤ 100000) (h2 : m.st.sess.length ≤ 100000) :
    Calls Tryz.prog 22 #[u, v] w fun e w' => e = .returned (.bool true) ∧ Mod Non w w' := by
  obtain ⟨A0, n0, c0, A1, n1, c1, A2, n2, c2, rfl, a0, a1, a2⟩ := hu
  obtain ⟨B0, k0, d0, B1, k1, d1, B2, k2, d2, rfl, b0, b1, b2⟩ := hv
  have e0 : k0 = n0 := by rw [← a0.len, ← b0.len]
  have e1 : k1 = n1 := by have := a1.1; have := b1.1; rw [pcs_length] at *; omega
  have e2 : k2 = n2 := by have := a2.1; have := b2.1; rw [ecs_length] at *; omega
  subst e0 e1 e2
  have l0 := a0.len
  have l1 : k1 ≤ 100000 := by have := a1.1; rw [pcs_length] at this; omega
  have l2 : k2 ≤ 100000 := by have := a2.1; rw [ecs_length] at this; omega
  have HS1 := Lib.hid (fun w' (h : Mod Non w w') => ref11_Same A0 B0 k0 c0 d0 R R' m.confs w' (a0.non h) (b0.non h) (by omega) hm_)
  have HS2 := Lib.hid (fun w' (h : Mod Non w w') => ref25_Same m.st A1 A2 B1 B2 k1 c1 k2 c2 d1 d2 R R R' R' w' (a1.mod h fun _ _ _ h => h) (a2.mod h fun _ _ _ h => h) (b1.mod h fun _ _ _ h => h) (b2.mod h fun _ _ _ h => h) l1 l2)
  obtain ⟨ix, ac, cs, ⟨s, ps, ss⟩⟩ := m
  simp only at HS1 HS2
  have m0 := ((Mod.refl Non w).alloc (.cells #[.int .i64 ix, .int .i64 ac, .slice A0 k0 c0, .int .i64 s, .slice A1 k1 c1, .slice A2 k2 c2] 53)).alloc (.cells #[.int .i64 ix, .int .i64 ac, .slice B0 k0 d0, .int .i64 s, .slice B1 k1 d1, .slice B2 k2 d2] 53)
  have p0 := (Blk.new w 53 #[.int .i64 ix, .int .i64 ac, .slice A0 k0 c0, .int .i64 s, .slice A1 k1 c1, .slice A2 k2 c2]).alloc (.cells #[.int .i64 ix, .int .i64 ac, .slice B0 k0 d0, .int .i64 s, .slice B1 k1 d1, .slice B2 k2 d2] 53)
  have q0 := Blk.new1 w (.cells #[.int .i64 ix, .int .i64 ac, .slice A0 k0 c0, .int .i64 s, .slice A1 k1 c1, .slice A2 k2 c2] 53) 53 #[.int .i64 ix, .int .i64 ac, .slice B0 k0 d0, .int .i64 s, .slice B1 k1 d1, .slice B2 k2 d2]
  have M0 := Lib.hid m0
  have P0 := Lib.hid p0
  have Q0 := Lib.hid q0
  clear a0 a1 a2 b0 b1 b2 h0 hm_ h1 h2 l0 l1 l2 m0 p0 q0
  go_enter Tryz.func22, Tryz.ntmps22
  go_wp2_with fail
  refine (HS1.out _ M0.out).mono ?_
  rintro e w1 ⟨rfl, hm1⟩
  have p1 := P0.out.mod hm1 (fun h => h)
  have q1 := Q0.out.mod hm1 (fun h => h)
  have M1 := Lib.hid (M0.out.trans' hm1)
  have x3 := p1.cell 3
  have x4 := p1.cell 4
  have x5 := p1.cell 5
  have y3 := q1.cell 3
  have y4 := q1.cell 4
  have y5 := q1.cell 5
  simp at x3 x4 x5 y3 y4 y5
  clear p1 q1 M0 P0 Q0 hm1
  go_wp2_with fail
  refine (HS2.out _ M1.out).mono ?_
  rintro e w2 ⟨rfl, hm2⟩
  go_wp2
  go_ret
  exact ⟨rfl, M1.out.trans' hm2⟩
end Go.Proofs.YtdclfdinhdaadaaGreatDoor
