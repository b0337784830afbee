/- The walk of FrameSpoilt. -/
import Derived.Test.YtlkifobajdafpaaDoorFrameNextIn
import Derived.Test.YtlkifobajdafpaaDoorOwnSet
import Derived.Test.YtlkifobajdafpaaDoorSpoiltPlain
namespace Go.Proofs.YtlkifobajdafpaaDoor
open Go.RowKit

theorem OwnB.form1 {w : World} {B : Nat} {v : Value} {l : List UInt8} (h : OwnB w B v l) (hn : 0 < l.length) : ∃ g c m, v = .slice (some ⟨g, 0, none⟩) m c ∧ m = l.length ∧ m ≤ c ∧ (c : Int) ≤ 9223372036854775807 ∧ B ≤ g := by
  rcases h.2 with ⟨_, h0⟩ | ⟨g, cap, cur, rfl, hb, _, hc, hm, _⟩
  · omega
  · exact ⟨g, cap, l.length, rfl, rfl, hc, by simp only [maxLen] at hm; omega, hb⟩

theorem wf_u8 (x : UInt8) : (Lit.int .u8 (x.toNat : Int)).wf = true := by
  have := x.toNat_lt
  have hmin : IntKind.u8.min = 0 := rfl
  have hmax : IntKind.u8.max = 255 := rfl
  simp only [Lit.wf, Bool.and_eq_true, decide_eq_true_eq]; omega

set_option maxRecDepth 100000 in
set_option maxHeartbeats 2000000 in
theorem spoilt_in (A : Option Addr) (n c a : Nat) (x : Nat → UInt8) (R : Nat → Prop) (l : List UInt8) (w : World) (hr : Reads w R 1 A n (vbs l)) (hT : Tab w) (hn : n ≤ 300) (ha : a + 4 ≤ n) (hx : ¬ ((x 0).toNat = 0 ∧ (x 1).toNat = 0 ∧ (x 2).toNat = 0 ∧ (x 3).toNat = 0)) :
    Calls Tryd.prog 4 #[.slice A n c, .int .i64 a, .agg #[.int .u8 (x 0).toNat, .int .u8 (x 1).toNat, .int .u8 (x 2).toNat, .int .u8 (x 3).toNat]] w fun e w' => e = .returned (.bool true) ∧ Mod Non w w' := by
  have q0 : ((n : Int) == 0) = false := by simp; omega
  have q1 : ¬ (300 : Int) < n := by omega
  have q2 : ¬ (a : Int) < 0 := by omega
  have q3 : ¬ (n : Int) ≤ a := by omega
  have q4 : ¬ (n : Int) < (a : Int) + 4 := by omega
  obtain ⟨r, qE, hrE⟩ := arr4_eq (x 0).toNat (x 1).toNat (x 2).toNat (x 3).toNat (wf_u8 _) (wf_u8 _) (wf_u8 _) (wf_u8 _)
  have hrf : r = false := by
    rw [Bool.eq_false_iff]
    intro h
    have := hrE.1 h
    exact hx (by omega)
  subst hrf
  clear hrE
  have HX := Lib.hid hx
  have hl := hr.1
  rw [vbs_length, Nat.mul_one] at hl
  have HFL : Hid ((fbytes l).length = (vbytes n).length + n + 4) := by show _ = _; rw [fbytes_length, hl]
  have HL := Lib.hid hl
  have h9 := vbytes_nine (n := n) (by omega)
  have h1 := vbytes_pos n
  obtain ⟨q, HQ⟩ : ∃ q, Hid ((vbytes n).length = q) := ⟨_, rfl⟩
  rw [HQ.out] at h9 h1
  clear hx hl
  go_enter Tryd.func4, Tryd.ntmps4
  go_wp2_with fail
  refine (frame_Add_yes none A 0 0 n c (fun _ => True) R [] l _ Reads.none_ (hr.alloc _) (by omega) (by omega) (by omega) (hT.non ((Mod.refl _ _).alloc _))).mono ?_
  rintro e w1 ⟨v1, rfl, hown1, hm1⟩
  rw [List.nil_append] at hown1
  obtain ⟨g, c1, m1, rfl, hml, hmc, hc1, hgB⟩ := hown1.form1 (by rw [HFL.out]; omega)
  have hmq : m1 = q + n + 4 := by rw [hml, HFL.out, HQ.out]
  obtain ⟨H, HH⟩ : ∃ H, Hid (H = w.heap.size) := ⟨_, rfl⟩
  have hbox : Blk w1 H 30 #[.int .u8 (x 0).toNat, .int .u8 (x 1).toNat, .int .u8 (x 2).toNat, .int .u8 (x 3).toNat] := by rw [HH.out]; exact (Blk.new w _ _).mod hm1 fun h => h
  rw [← HH.out]
  have hw1 : Mod Non w w1 := ((Mod.refl _ _).alloc _).trans' hm1
  have e1 : (m1 : Int) - (n : Int) - 4 = (q : Int) := by omega
  have e0 : wrap64 ((m1 : Int) - (n : Int)) = (m1 : Int) - n := by unfold wrap64; omega
  have e3 : (1 : Int) ≤ q := by omega
  have e4 : ¬ (m1 : Int) < (q : Int) + (a : Int) + 4 := by omega
  have HM := Lib.hid hmq
  clear hml hmq
  go_wp2
  go_loopw [10] (fun i wr => ∃ j : Nat, j ≤ 4 ∧ i = .int .i64 ((q + a + j : Nat) : Int) ∧ OwnB wr w.heap.size (.slice (some ⟨g, 0, none⟩) m1 c1) (sp (q + a) x (fbytes l) j) ∧
      Blk wr H 30 #[.int .u8 (x 0).toNat, .int .u8 (x 1).toNat, .int .u8 (x 2).toNat, .int .u8 (x 3).toNat] ∧ Mod Non w wr) (fun i _ => q + a + 4 - (intOf i).toNat)
  case atStart => exact ⟨0, by omega, by go_num, hown1.below (by simp), hbox, hw1⟩
  case round =>
    obtain ⟨j, hj, rfl, hown, hb, hmr⟩ := hrel
    by_cases hjl : j < 4
    · have hlen := sp_length (q + a) x (fbytes l) j
      rw [HFL.out, HQ.out] at hlen
      obtain ⟨L, hL⟩ : ∃ L, L = sp (q + a) x (fbytes l) j := ⟨_, rfl⟩
      rw [← hL] at hown hlen
      have hk : q + a + j < L.length := by omega
      obtain ⟨y, hy⟩ : ∃ y, y = L[q + a + j] := ⟨_, rfl⟩
      have c0 : wr.cell? ⟨g, q + a + j, none⟩ = some (.int .u8 (y.toNat : Int)) := by
        obtain ⟨b', off', hA', _, _, hcc⟩ := hown.reads.row (by omega) (by rw [vbs_length]; omega)
        injection hA' with hA'
        injection hA' with e1 e2 _
        have := hcc (q + a + j) _ (vbs_get hk)
        rw [← e1, ← e2, Nat.zero_add, ← hy] at this
        exact this
      have cb : wr.cell? ⟨H, j, none⟩ = some (.int .u8 ((x j).toNat : Int)) := by
        rw [hb.cell j]
        have : j = 0 ∨ j = 1 ∨ j = 2 ∨ j = 3 := by omega
        rcases this with rfl | rfl | rfl | rfl <;> rfl
      have E : bits .xor .u8 (y.toNat : Int) ((x j).toNat : Int) = ((y ^^^ x j).toNat : Int) := by rw [u8_xor_nat _ _ y.toNat_lt (x j).toNat_lt, UInt8.toNat_xor]
      have fz : wr.frozen? ⟨g, q + a + j, none⟩ = false := by
        rcases hown.2 with ⟨h0, _⟩ | ⟨g', cap, cur, hv, _, hh, _⟩
        · cases h0
        · injection hv with hv _ _
          injection hv with hv
          injection hv with hv _ _
          subst hv
          exact Blk.frozen (show Blk wr g 5 cur from hh) _
      have p1 : (0 : Int) ≤ (q : Int) + a + j := by omega
      have p2 : (q : Int) + a + j < (m1 : Int) := by have := HM.out; omega
      have p3 : (q : Int) + a + j < (q : Int) + a + 4 := by omega
      have p4 : wrap64 ((q : Int) + a + j - q) = (a : Int) + j := by unfold wrap64; omega
      have p5 : wrap64 ((a : Int) + j - a) = (j : Int) := by unfold wrap64; omega
      have p6 : (0 : Int) ≤ j := by omega
      have p7 : (j : Int) < 4 := by omega
      have p8 : ((q : Int) + a + j).toNat = q + a + j := by omega
      have p9 : (q : Int) + a + j - q = (a : Int) + j := by omega
      have p10 : (a : Int) + j - a = (j : Int) := by omega
      have HLL := Lib.hid hL
      have HYY := Lib.hid hy
      have HLN := Lib.hid hlen
      clear hL hy hlen
      simp only [Int.natCast_add]
      go_wp2
      go_region
      have hgH : w.heap.size + 1 ≤ g := by simpa using hgB
      have hS : sp (q + a) x (fbytes l) (j + 1) = L.set (q + a + j) (y ^^^ x j) := by
        rw [sp, ← HLL.out, List.getD_eq_getElem?_getD, List.getElem?_eq_getElem hk, ← HYY.out]; rfl
      have hown' := hown.set (q + a + j) (y ^^^ x j)
      rw [← hS] at hown'
      have hb' := hb.far (p := ⟨g, q + a + j, none⟩) (by have := HH.out; simp only; omega) (vb (y ^^^ x j))
      have hmr' := hmr.setCell (p := ⟨g, q + a + j, none⟩) (fun h => by simp only at h; omega) (vb (y ^^^ x j))
      go_wp2
      go_roundw
      case rel => exact ⟨j + 1, by omega, by go_num, hown', hb', hmr'.drew⟩
      case measure => simp [intOf]; omega
    · obtain rfl : j = 4 := by omega
      obtain ⟨l', hl', hsp, hne⟩ := spoilt_plain l a x (by rw [HL.out]; exact ha) HX.out
      have hln := HL.out
      rw [hln] at hl' hsp
      rw [HQ.out] at hsp
      rw [hsp] at hown
      have hv := HQ.out
      have hq : sameB (((vbytes n ++ l' ++ sum4 (crcK l)).drop (q + n)).take 4) (sum4 (crcK (((vbytes n ++ l' ++ sum4 (crcK l)).drop q).take n))) = false := by
        have d1 : (vbytes n ++ l' ++ sum4 (crcK l)).drop (q + n) = sum4 (crcK l) := by rw [List.drop_left' (by rw [List.length_append]; omega)]
        have d2 : ((vbytes n ++ l' ++ sum4 (crcK l)).drop q).take n = l' := by rw [List.append_assoc, List.drop_left' hv, List.take_left' hl']
        rw [d1, d2, List.take_of_length_le (by simp [sum4]), Bool.eq_false_iff]
        intro h
        exact hne (sum4_inj (crcK_lt _) (crcK_lt _) (sameB_iff.1 h))
      have hg : Calls Tryd.prog 24 #[.slice (some ⟨g, 0, none⟩) m1 c1, .int .i64 0] wr fun e w' => e = .returned (.tuple #[.int .i64 n, .int .i64 q, .int .i64 0]) ∧ wr = w' := by
        refine (varint_Get_in (some ⟨g, 0, none⟩) m1 c1 _ _ 0 wr hown.reads (by have := HM.out; omega) (by omega)).mono ?_
        rintro e w2 ⟨rfl, rfl⟩
        rw [List.drop_zero, List.append_assoc, gscan_vbytes n 0 0 _ (by omega) (.inr rfl)]
        simp [gres, hv]
      have hTr := hT.non hmr
      have HQQ := Lib.hid hq
      have HGG := Lib.hid hg
      clear hq hg hsp hne hl' hln hv
      go_wp2_with fail
      refine (frame_Next_bad (some ⟨g, 0, none⟩) m1 c1 0 n q _ _ wr hown.reads hmc hc1 (by omega) (by omega) (by have := HM.out; omega) hTr HQQ.out HGG.out).mono ?_
      rintro e w2 ⟨rfl, hm2⟩
      have hT2 := hTr.non hm2
      go_wp2_with fail
      refine (law03_awake _ hT2).mono ?_
      rintro e w3 ⟨rfl, hm3⟩
      go_wp2
      go_ret
      exact ⟨rfl, (hmr.trans' hm2).trans' hm3⟩
end Go.Proofs.YtlkifobajdafpaaDoor
