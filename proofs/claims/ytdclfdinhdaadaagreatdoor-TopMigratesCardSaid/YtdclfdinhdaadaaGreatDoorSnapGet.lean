/- Package snaptwo: the contracts of Get and Migrate. -/
import Derived.Test.YtdclfdinhdaadaaGreatDoorDecode2
namespace Go.Proofs.YtdclfdinhdaadaaGreatDoor
open Go.RowKit

theorem ok_up {ps : List Pa} {ss : List Se} (h : St.Ok ⟨1, ps, ss⟩) : St.Ok ⟨2, rev 1 ps, ss⟩ :=
  ⟨.inr rfl, rev_up h.pairs, h.sess, h.few, fun h => absurd h (show ¬ (2 : Int) = 1 by decide)⟩

set_option maxRecDepth 100000 in
set_option maxHeartbeats 1000000 in
theorem snaptwo_Get (v : Nat) (hv : v = 1 ∨ v = 2) (ps : List Pa) (ss : List Se) (A : Option Addr) (n c : Nat) (R : Nat → Prop) (w : World) (hr : Reads w R 1 A n (vbs (senc ⟨v, ps, ss⟩))) (hok : St.Ok ⟨v, ps, ss⟩) (hT : T8 w) (hn : n ≤ 10000000) :
    Calls Tryz.prog 13 #[.slice A n c] w fun e w' => ∃ v1 v2, e = .returned (.tuple #[stv v v1 v2, .int .i64 0]) ∧ OwnP w' w.heap.size v1 ps ∧ OwnE w' w.heap.size v2 ss ∧ Mod Non w w' := by
  have hl0 : (senc ⟨v, ps, ss⟩).drop 0 = vbytes v ++ (vbytes ps.length ++ (ps.flatMap (penc v) ++ (vbytes ss.length ++ (ss.flatMap (xenc v) ++ [])))) := senc_at ⟨v, ps, ss⟩
  obtain ⟨h1, _⟩ := at_num hl0 (by omega)
  have H1 := Lib.hid h1
  clear h1 hl0
  have hm0 := (Mod.refl Non w).alloc (.cells #[.int .i64 0, .slice none 0 0, .slice none 0 0] 25)
  have z0 := Blk.new w 25 #[.int .i64 0, .slice none 0 0, .slice none 0 0]
  rcases hv with rfl | rfl
  all_goals
    go_enter Tryz.func13, Tryz.ntmps13
    go_wp2_with fail
    refine (two_first _ _ _ A n c R _ (hr.mod hm0 fun _ _ _ h => h) H1.out (by omega) hn).mono ?_
    rintro e w1 ⟨g, rfl, hg, hr1, hm1⟩
    have z1 := z0.mod hm1 (fun h => h)
    have hm01 := hm0.trans' hm1
    have hr1 := hr.mod hm01 fun _ _ _ h => h
    clear hm1 hm0 z0 hg
    go_wp2_with fail
    first
      | refine (snapone_Decode ps ss A n c R _ hr1 hok (hT.non hm01) hn).mono ?_
      | refine (snaptwo_Decode ps ss A n c R _ hr1 hok (hT.non hm01) hn).mono ?_
    rintro e w2 ⟨v1, v2, rfl, ho1, ho2, hm2⟩
    have hz := hm01.size
    have hzz := z1.lt
    have z2 := z1.mod hm2 (fun h => h)
    have hm02 := hm01.trans' hm2
    obtain ⟨A1, m1, c1, rfl, hx1, hc1⟩ := ho1.form
    obtain ⟨A2, m2, c2, rfl, hx2, hc2⟩ := ho2.form
    have c0 := z2.cell 0
    have c1' := z2.cell 1
    have c2' := z2.cell 2
    have f0 := z2.frozen 0
    have f1 := z2.frozen 1
    have f2 := z2.frozen 2
    simp at c0 c1' c2'
    clear hm2 hm01 hr1 z1
    go_wp2_with fail
  · have r5 : Blk (((w2.setCell ⟨w.heap.size, 0, none⟩ (.int .i64 1)).setCell ⟨w.heap.size, 1, none⟩ (.slice A1 m1 c1)).setCell ⟨w.heap.size, 2, none⟩ (.slice A2 m2 c2)) w.heap.size 25 #[.int .i64 1, (.slice A1 m1 c1), (.slice A2 m2 c2)] := ((z2.set_ 0 (.int .i64 1)).set_ 1 (.slice A1 m1 c1)).set_ 2 (.slice A2 m2 c2)
    have hm5 : Mod (One w.heap.size) w2 (((w2.setCell ⟨w.heap.size, 0, none⟩ (.int .i64 1)).setCell ⟨w.heap.size, 1, none⟩ (.slice A1 m1 c1)).setCell ⟨w.heap.size, 2, none⟩ (.slice A2 m2 c2)) := (((Mod.refl _ _).setOne _).setOne _).setOne _
    refine bodyPost_ret (results_row_tmp rfl _ _ w.heap.size 25 #[.int .i64 1, (.slice A1 m1 c1), (.slice A2 m2 c2)] (0, 0) _ rfl r5 Tryz.underlying25 rfl (by kernel_rfl)) rfl ?_
    refine ⟨_, _, rfl, ?_, ?_, hm02.trans hm5 fun i hi h => by unfold One at h; omega⟩
    · exact OwnP.below (OwnP.mod ho1 hm5 fun g2 hg h => by have := (World.ownsRow.lt ho1 g2 hg).1; unfold One at h; omega) hz
    · exact OwnE.below (OwnE.mod ho2 hm5 fun g2 hg h => by have := (World.ownsRow.lt ho2 g2 hg).1; unfold One at h; omega) hz
  · have r5 : Blk (((w2.setCell ⟨w.heap.size, 0, none⟩ (.int .i64 2)).setCell ⟨w.heap.size, 1, none⟩ (.slice A1 m1 c1)).setCell ⟨w.heap.size, 2, none⟩ (.slice A2 m2 c2)) w.heap.size 25 #[.int .i64 2, (.slice A1 m1 c1), (.slice A2 m2 c2)] := ((z2.set_ 0 (.int .i64 2)).set_ 1 (.slice A1 m1 c1)).set_ 2 (.slice A2 m2 c2)
    have hm5 : Mod (One w.heap.size) w2 (((w2.setCell ⟨w.heap.size, 0, none⟩ (.int .i64 2)).setCell ⟨w.heap.size, 1, none⟩ (.slice A1 m1 c1)).setCell ⟨w.heap.size, 2, none⟩ (.slice A2 m2 c2)) := (((Mod.refl _ _).setOne _).setOne _).setOne _
    refine bodyPost_ret (results_row_tmp rfl _ _ w.heap.size 25 #[.int .i64 2, (.slice A1 m1 c1), (.slice A2 m2 c2)] (0, 0) _ rfl r5 Tryz.underlying25 rfl (by kernel_rfl)) rfl ?_
    refine ⟨_, _, rfl, ?_, ?_, hm02.trans hm5 fun i hi h => by unfold One at h; omega⟩
    · exact OwnP.below (OwnP.mod ho1 hm5 fun g2 hg h => by have := (World.ownsRow.lt ho1 g2 hg).1; unfold One at h; omega) hz
    · exact OwnE.below (OwnE.mod ho2 hm5 fun g2 hg h => by have := (World.ownsRow.lt ho2 g2 hg).1; unfold One at h; omega) hz

set_option maxRecDepth 100000 in
set_option maxHeartbeats 1000000 in
theorem snaptwo_Migrate (ps : List Pa) (ss : List Se) (A : Option Addr) (n c : Nat) (R : Nat → Prop) (w : World) (hr : Reads w R 1 A n (vbs (senc ⟨1, ps, ss⟩))) (hok : St.Ok ⟨1, ps, ss⟩) (hT : T8 w) (hn : n ≤ 10000000) :
    Calls Tryz.prog 12 #[.slice A n c] w fun e w' => ∃ v, e = .returned (.tuple #[v, .int .i64 0]) ∧ OwnB w' w.heap.size v (senc ⟨2, rev 1 ps, ss⟩) ∧ Mod Non w w' := by
  go_enter Tryz.func12, Tryz.ntmps12
  go_wp2_with fail
  refine (snapone_Decode ps ss A n c R _ hr hok hT hn).mono ?_
  rintro e w1 ⟨v1, v2, rfl, ho1, ho2, hm1⟩
  obtain ⟨A1, m1, c1, rfl, hx1, hc1⟩ := ho1.form
  obtain ⟨A2, m2, c2, rfl, hx2, hc2⟩ := ho2.form
  have a1 := (Mod.refl Non w1).alloc (.cells #[.int .i64 1, .slice A1 m1 c1, .slice A2 m2 c2] 25)
  have hm2 := hm1.trans' a1
  go_wp2_with fail
  refine (migr_Up ps ss A1 A2 m1 c1 m2 c2 _ _ _ (ho1.non a1).reads (ho2.non a1).reads hok (hT.non hm2)).mono ?_
  rintro e w3 ⟨g1, g2, rfl, ho3, ho4, hm3⟩
  have hm03 := hm2.trans' hm3
  have a3 := (Mod.refl Non w3).alloc (.cells #[.int .i64 2, .slice (some ⟨g1, 0, none⟩) m1 m1, .slice (some ⟨g2, 0, none⟩) m2 m2] 25)
  have hm4 := hm03.trans' a3
  have hok2 := ok_up hok
  clear hm1 hm2 hm3 hm03 a1 ho1 ho2
  go_wp2_with fail
  refine (snaptwo_Encode (rev 1 ps) ss (some ⟨g1, 0, none⟩) (some ⟨g2, 0, none⟩) m1 m1 m2 m2 _ _ _ (ho3.non a3).reads (ho4.non a3).reads hok2 (hT.non hm4)).mono ?_
  rintro e w5 ⟨v, rfl, ho5, hm5⟩
  go_wp2
  go_ret2
  exact ⟨v, rfl, ho5.below hm4.size, hm4.trans' hm5⟩
end Go.Proofs.YtdclfdinhdaadaaGreatDoor
