/- Package pack, the reader where all is well: the contracts of Raw, Text. -/
import Derived.Test.YtdclfdinhdaadaaGreatDoorReader2
import Derived.Deep.RegionHeld3
namespace Go.Proofs.YtdclfdinhdaadaaGreatDoor
open Go.RowKit

/-- 'b[lo:hi]', the address under one name -/
theorem run_bytes_slice (A Z : Option Addr) (n c lo hi : Nat) (h1 : lo ≤ hi) (h2 : hi ≤ c) (hZ : (if c = lo then A else A.map (·.add lo)) = Z) (L H : Int) (hL : L = lo) (hH : H = hi) (W : World) :
    (Instr.slice 35 (.slice A n c) (some (.int .i64 L)) (some (.int .i64 H)) none).run Tryz.prog W = .ok (.slice Z (hi - lo) (c - lo)) W := by
  have e0 : Tryz.prog.elem 35 = 5 := by kernel_rfl
  have e1 : (sizeOf 5).run Tryz.prog W = .ok 1 W := Tryz.sizeOf5 W
  subst hL hH
  rw [run_slice_lh W 35 A n c (by rw [e0]; exact Tryz.underlying35) .i64 .i64 _ _ (by omega) (by omega) (by omega), e0, e1]
  simp only [Result.andThen, sliced, Int.toNat_natCast, Nat.mul_one, hZ]

set_option maxRecDepth 100000 in
set_option maxHeartbeats 2000000 in
theorem rd_raw (g a v t : Nat) (l : List UInt8) (most : Int) (w : World) (hr : Rd w g l a) (hg : gscan 0 0 (l.drop a) = .ok (v, t)) (hm : (v : Int) ≤ most) (hv : a + t + v ≤ l.length) :
    Calls Tryz.prog 131 #[.pointer (some ⟨g, 0, none⟩), .int .i64 most] w fun e w' => ∃ x, e = .returned x ∧ OwnB w' w.heap.size x ((l.drop (a + t)).take v) ∧ Rd w' g l (a + t + v) ∧ Mod (One g) w w' := by
  have HG := Lib.hid hg
  have HM := Lib.hid hm
  have HV := Lib.hid hv
  have hlen : l.length ≤ 10000000 := hr.len.2
  have hgl := hr.lt
  have q1 : (((a + t : Nat) : Int) + v) = (a : Int) + t + v := by omega
  have q2 : IntKind.i64.wrap ((a : Int) + t + v - v) = (a : Int) + t := by rw [IntKind.wrap_i64]; omega
  have q3 : (0 : Int) ≤ (a : Int) + t := by omega
  clear hg hm
  go_enter Tryz.func131, Tryz.ntmps131
  go_wp2_with fail
  refine (rd_counted g a v t l most w hr HG.out HM.out HV.out).mono ?_
  rintro e w1 ⟨rfl, hr1, hm1⟩
  obtain ⟨A, n, c, hb, hrd, h1, h2, h3, h4, h5⟩ := hr1
  have c0 := hb.cell 0
  have c1 := hb.cell 1
  have c2 := hb.cell 2
  have f1 := hb.frozen 1
  simp at c0 c1 c2
  have hgo := Rd.go (a' := a + t + v) hb hrd h1 h2 hv h4 h5
  have ec : ((a + t + v : Nat) : Int) = (a : Int) + t + v := by omega
  have hb2 := hb.set_ 1 (.int .i64 ((a + t + v : Nat) : Int))
  have hrd2 := hrd.mod (Mod.one w1 g 1 (.int .i64 ((a + t + v : Nat) : Int))) fun k _ hk e => by simp only [One] at e; omega
  rw [ec] at hgo hb2 hrd2
  obtain ⟨W2, hW2⟩ : ∃ W2, w1.setCell ⟨g, 1, none⟩ (.int .i64 ((a : Int) + t + v)) = W2 := ⟨_, rfl⟩
  have hm2 : Mod (One g) w W2 := by rw [← hW2]; exact hm1.setOne _
  rw [hW2] at hgo hb2 hrd2
  have d0 := hb2.cell 0
  have d1 := hb2.cell 1
  simp at d0 d1
  have HW := Lib.hid hW2
  have hbody : Reads W2 (fun b => b < g) 1 (if c = a + t then A else A.map (·.add (a + t))) v (vbs ((l.drop (a + t)).take v)) := by
    have h6 := hrd2.cut (k := a + t) (cap := c) (by omega) h1
    rw [Nat.mul_one] at h6
    have h7 := h6.take (k := v) (by omega)
    simpa [vbs, List.map_drop, List.map_take] using h7
  have hbl : ((l.drop (a + t)).take v).length ≤ 140737488355328 := by rw [List.length_take]; omega
  have q4 : (a : Int) + t ≤ (a : Int) + t + v := by omega
  have q5 : (a : Int) + t + v ≤ (c : Int) := by omega
  have q6 : ((a : Int) + t).toNat = a + t := by omega
  have q7 : ((a : Int) + t + v).toNat = a + t + v := by omega
  have q8 : a + t + v - (a + t) = v := by omega
  have q15 : IntKind.i64.wrap ((a : Int) + t) = (a : Int) + t := by rw [IntKind.wrap_i64]; omega
  obtain ⟨Z, hZ⟩ : ∃ Z, (if c = a + t then A else A.map (·.add (a + t))) = Z := ⟨_, rfl⟩
  have hsl := fun W => run_bytes_slice A Z n c (a + t) (a + t + v) (by omega) (by omega) hZ ((a : Int) + t) ((a : Int) + t + v) (by omega) (by omega) W
  rw [q8] at hsl
  rw [hZ] at hbody
  clear hW2 ec hb hrd hb2 hrd2 hZ
  go_wp2
  clear c0 c1 c2 f1
  rw [HW.out]
  have HM2 := Lib.hid hm2
  have hg2 := hgo.lt
  have HGO := Lib.hid hgo
  clear hm2 hgo h3 h4 hm1
  go_region_held3 (fun w' => w'.cell? ⟨g, 0, none⟩ = some (.slice A n c) ∧ w'.cell? ⟨g, 1, none⟩ = some (.int .i64 ((a : Int) + t + v))) (go_keep)
    (first
      | (go_at_call 76
         refine (slices_Clone _ v _ _ ((l.drop (a + t)).take v) _ (by first | exact hbody | exact hbody.drewN _) hbl).mono ?_
         rintro e w3 ⟨v3, rfl, hown3, hm3⟩
         have s0 : w3.cell? ⟨g, 0, none⟩ = some (.slice A n c) := (hm3.cell (p := ⟨g, 0, none⟩) hg2 fun h => h).trans d0
         have s1 : w3.cell? ⟨g, 1, none⟩ = some (.int .i64 ((a : Int) + t + v)) := (hm3.cell (p := ⟨g, 1, none⟩) hg2 fun h => h).trans d1))
  go_wp2
  go_ret
  exact ⟨v3, rfl, hown3.below HM2.out.size, HGO.out.non hm3.undrew, HM2.out.trans' hm3.undrew.non⟩

set_option maxHeartbeats 1000000 in
theorem rd_Raw (g a v t : Nat) (l : List UInt8) (most : Int) (w : World) (hr : Rd w g l a) (hg : gscan 0 0 (l.drop a) = .ok (v, t)) (hm : (v : Int) ≤ most) (hv : a + t + v ≤ l.length) :
    Calls Tryz.prog 104 #[.pointer (some ⟨g, 0, none⟩), .int .i64 most] w fun e w' => ∃ x, e = .returned x ∧ OwnB w' w.heap.size x ((l.drop (a + t)).take v) ∧ Rd w' g l (a + t + v) ∧ Mod (One g) w w' := by
  have HG := Lib.hid hg
  have HM := Lib.hid hm
  clear hg hm
  obtain ⟨W2, hW2⟩ : ∃ W2, (w.alloc (.cells #[.pointer (some ⟨g, 0, none⟩)] 80)).alloc (.cells #[.int .i64 most] 3) = W2 := ⟨_, rfl⟩
  have hm0 : Mod Non w W2 := by rw [← hW2]; exact ((Mod.refl _ _).alloc _).alloc _
  have hr0 := hr.non hm0
  obtain ⟨H, hH⟩ : ∃ H, w.heap.size = H := ⟨_, rfl⟩
  have b0 : Blk W2 H 80 #[.pointer (some ⟨g, 0, none⟩)] := by rw [← hW2, ← hH]; exact (Blk.new w _ _).alloc _
  have b1 : Blk W2 (H + 1) 3 #[.int .i64 most] := by rw [← hW2, ← hH]; exact Blk.new1 w _ _ _
  have x0 := b0.cell 0
  have x1 := b1.cell 0
  simp at x0 x1
  have n2 := hr0.no
  have hC : Hid (Calls Tryz.prog 130 #[.pointer (some ⟨H, 0, none⟩), .pointer (some ⟨H + 1, 0, none⟩)] W2 fun e w' => ∃ x, e = .returned x ∧ OwnB w' W2.heap.size x ((l.drop (a + t)).take v) ∧ Rd w' g l (a + t + v) ∧ Mod (One g) W2 w') := by
    clear n2 hW2
    show Calls _ _ _ _ _
    go_enter Tryz.func130, Tryz.ntmps130
    go_wp2_with fail
    refine (rd_raw g a v t l most W2 hr0 HG.out HM.out hv).mono ?_
    rintro e w1 ⟨x, rfl, ho1, hr1, hm1⟩
    go_wp2
    go_ret
    exact ⟨x, rfl, ho1, hr1, hm1⟩
  have hR : Hid (Calls Tryz.prog 129 #[.pointer (some ⟨g, 0, none⟩), .func (.func 130) #[] #[.pointer (some ⟨H, 0, none⟩), .pointer (some ⟨H + 1, 0, none⟩)]] W2 fun e w' => ∃ x, e = .returned x ∧ OwnB w' W2.heap.size x ((l.drop (a + t)).take v) ∧ Rd w' g l (a + t + v) ∧ Mod (One g) W2 w') := by
    clear x0 x1 hW2
    show Calls _ _ _ _ _
    go_enter Tryz.func129, Tryz.ntmps129
    go_wp2_with fail
    refine hC.out.mono ?_
    rintro e w1 ⟨x, rfl, ho1, hr1, hm1⟩
    have n3 := hr1.no
    go_wp2
    go_ret
    exact ⟨x, rfl, ho1, hr1, hm1⟩
  have HW := Lib.hid hW2
  clear hW2 n2 b0 b1 hC
  go_enter Tryz.func104, Tryz.ntmps104
  go_wp2_with fail
  rw [HW.out]
  refine hR.out.mono ?_
  rintro e w1 ⟨x, rfl, ho1, hr1, hm1⟩
  go_wp2
  go_ret
  exact ⟨x, rfl, ho1.below (by have := hm0.size; omega), hr1, hm0.non.trans' hm1⟩

/-- 'string(b)' of a slice that reads as l -/
theorem text_of_bytes {w : World} {R : Nat → Prop} {A : Option Addr} {n c : Nat} {l : List UInt8} (hr : Reads w R 1 A n (vbs l)) : (convert 35 9 (.slice A n c)).run Tryz.prog w = .ok (.string ⟨l.toArray⟩) w := by
  have hl : l.length = n := by have := hr.1; rw [vbs_length, Nat.mul_one] at this; exact this
  subst hl
  rcases A with _ | ad
  · have h0 : l = [] := by
      rcases l with _ | ⟨x, r⟩
      · rfl
      · obtain ⟨ad, e, _⟩ := hr.2 (by simp); cases e
    subst h0
    exact run_convert_bytes_nil w 35 5 Tryz.underlying35 Tryz.underlying5 0 c 9 Tryz.underlying9
  · refine run_convert_bytes_back w 35 9 5 ad c l Tryz.underlying35 Tryz.underlying5 Tryz.underlying9 fun j hj => ?_
    obtain ⟨ad', e, _, _, hc⟩ := hr.2 (by omega)
    injection e with e; subst e
    exact hc j _ (vbs_get hj)

theorem rd_Text (g a v t : Nat) (l : List UInt8) (most : Int) (w : World) (hr : Rd w g l a) (hg : gscan 0 0 (l.drop a) = .ok (v, t)) (hm : (v : Int) ≤ most) (hv : a + t + v ≤ l.length) :
    Calls Tryz.prog 79 #[.pointer (some ⟨g, 0, none⟩), .int .i64 most] w fun e w' => e = .returned (.string ⟨((l.drop (a + t)).take v).toArray⟩) ∧ Rd w' g l (a + t + v) ∧ Mod (One g) w w' := by
  have HG := Lib.hid hg
  have HM := Lib.hid hm
  clear hg hm
  go_enter Tryz.func79, Tryz.ntmps79
  go_wp2_with fail
  refine (rd_Raw g a v t l most w hr HG.out HM.out hv).mono ?_
  rintro e w1 ⟨x, rfl, ho1, hr1, hm1⟩
  obtain ⟨A1, n1, c1, rfl, _, _⟩ := ho1.form
  have hrun := text_of_bytes (c := c1) ho1.reads
  obtain ⟨T, HT⟩ : ∃ T, Hid ((⟨((l.drop (a + t)).take v).toArray⟩ : ByteArray) = T) := ⟨_, rfl⟩
  rw [HT.out] at hrun
  go_wp2
  go_ret
  exact ⟨by rw [HT.out]; rfl, hr1, hm1⟩
end Go.Proofs.YtdclfdinhdaadaaGreatDoor
