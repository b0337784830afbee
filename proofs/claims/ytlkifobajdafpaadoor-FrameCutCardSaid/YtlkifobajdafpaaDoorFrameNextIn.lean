/- Package frame: the contract of Next where the frame is as long as it says. -/
import Derived.Test.YtlkifobajdafpaaDoorFrameNext
import Derived.Deep.RegionHeld3
namespace Go.Proofs.YtlkifobajdafpaaDoor
open Go.RowKit

set_option maxRecDepth 100000 in
set_option maxHeartbeats 1000000 in
theorem frame_Next_bad (A : Option Addr) (len cap : Nat) (at_ : Int) (v f : Nat) (R : Nat → Prop) (l : List UInt8) (w : World) (hr : Reads w R 1 A len (vbs l)) (hc : len ≤ cap) (hcap : (cap : Int) ≤ 9223372036854775807) (hv1 : 1 ≤ v) (hv2 : v ≤ 65536) (hs : f + v + 4 ≤ len) (hT : Tab w) (hq : sameB ((l.drop (f + v)).take 4) (sum4 (crcK ((l.drop f).take v))) = false)
    (hg : Calls Tryd.prog 24 #[.slice A len cap, .int .i64 at_] w fun e w' => e = .returned (.tuple #[.int .i64 v, .int .i64 f, .int .i64 0]) ∧ w = w') :
    Calls Tryd.prog 12 #[.slice A len cap, .int .i64 at_] w fun e w' => e = .returned (.tuple #[.slice none 0 0, .int .i64 0, .int .i64 4]) ∧ Mod Non w w' := by
  have HG := Lib.hid hg
  have HQ := Lib.hid hq
  have e1 : mayK v = 0 := by unfold mayK; rw [if_neg (by omega), if_neg (by omega)]
  have e2 : wrap64 ((len : Int) - (f : Int)) = (len : Int) - f := by unfold wrap64; omega
  have e3 : ¬ ((len : Int) - (f : Int) < (v : Int) + 4) := by omega
  have e4 : wrap64 ((f : Int) + (v : Int)) = (f : Int) + v := by unfold wrap64; omega
  have e5 : wrap64 ((f : Int) + (v : Int) + 4) = (f : Int) + v + 4 := by unfold wrap64; omega
  have hv3 : (v : Int) ≤ 65536 := by omega
  clear hg hv2 hq
  go_enter Tryd.func12, Tryd.ntmps12
  go_wp2_with fail
  refine HG.out.mono ?_
  rintro e w1 ⟨rfl, rfl⟩
  go_wp2_with fail
  refine (frame_may v _).mono ?_
  rintro e w1 ⟨rfl, rfl⟩
  rw [e1]
  go_wp2
  rw [show f + v - f = v by omega]
  have hbody : Reads w R 1 (Option.map (fun x => x.add f) A) v (vbs ((l.drop f).take v)) := by
    have h1 := hr.cut (k := f) (cap := cap) (by omega) hc
    rw [if_neg (by omega), Nat.mul_one] at h1
    have h2 := h1.take (k := v) (by omega)
    simpa [vbs, List.map_drop, List.map_take] using h2
  have htail : Reads w R 1 (Option.map (fun x => x.add (f + v)) A) 4 (vbs ((l.drop (f + v)).take 4)) := by
    have h1 := hr.cut (k := f + v) (cap := cap) (by omega) hc
    rw [if_neg (by omega), Nat.mul_one] at h1
    have h2 := h1.take (k := 4) (by omega)
    simpa [vbs, List.map_drop, List.map_take] using h2
  have q1 : (0 : Int) ≤ (f : Int) + (v : Int) := by omega
  have q2 : (f : Int) + (v : Int) ≤ (f : Int) + (v : Int) + 4 := by omega
  have q3 : (f : Int) + (v : Int) + 4 ≤ (cap : Int) := by omega
  have q4 : (0 : Int) ≤ (f : Int) + (v : Int) + 4 := by omega
  have q5 : ((f : Int) + (v : Int)).toNat = f + v := by omega
  have q6 : ((f : Int) + (v : Int) + 4).toNat = f + v + 4 := by omega
  have q7 : f + v ≤ f + v + 4 := by omega
  have q8 : f + v + 4 ≤ cap := by omega
  have q9 : ¬ cap < f + v + 4 := by omega
  have q10 : ¬ (cap = f + v) := by omega
  have q11 : ¬ (cap - (f + v) = 0) := by omega
  have q12 : ¬ (cap ≤ f + v) := by omega
  have q13 : f + v ≤ cap := by omega
  have q14 : IntKind.i64.wrap ((f : Int) + (v : Int)) = (f : Int) + v := by rw [IntKind.wrap_i64]; omega
  generalize hA1 : Option.map (fun x => Addr.add x f) A = A1 at hbody ⊢
  go_region_held3 (fun _ => True) (trivial)
    (first
      | (go_at_call 20
         refine (frame_sum A1 v _ R _ _ (by first | exact hbody | exact hbody.drewN _) (by omega) (by first | exact hT | exact hT.non ((Mod.refl _ _).drew))).mono ?_
         rintro e w2 ⟨v2, rfl, hown2, hm2⟩
         obtain ⟨A3, m3, c3, rfl, hm3l, _⟩ := hown2.form)
      | (go_at_call 25
         refine (slices_Equal _ _ _ _ _ _ _ _ ((l.drop (f + v)).take 4) (sum4 (crcK ((l.drop f).take v))) _ (by exact (htail.mod hm2.undrew fun _ _ _ h => h)) hown2.reads (by simp [maxLen])).mono ?_
         rintro e w3 ⟨rfl, hm3⟩
         rw [HQ.out]))
  have hN : Mod Non w w3 := hm2.undrew.trans' hm3
  go_wp2
  go_ret3
  exact ⟨rfl, hN⟩

set_option maxRecDepth 100000 in
set_option maxHeartbeats 1000000 in
theorem frame_Next_ok (A : Option Addr) (len cap : Nat) (at_ : Int) (v f : Nat) (R : Nat → Prop) (l : List UInt8) (w : World) (hr : Reads w R 1 A len (vbs l)) (hc : len ≤ cap) (hcap : (cap : Int) ≤ 9223372036854775807) (hv1 : 1 ≤ v) (hv2 : v ≤ 65536) (hs : f + v + 4 ≤ len) (hT : Tab w) (hq : sameB ((l.drop (f + v)).take 4) (sum4 (crcK ((l.drop f).take v))) = true)
    (hg : Calls Tryd.prog 24 #[.slice A len cap, .int .i64 at_] w fun e w' => e = .returned (.tuple #[.int .i64 v, .int .i64 f, .int .i64 0]) ∧ w = w') :
    Calls Tryd.prog 12 #[.slice A len cap, .int .i64 at_] w fun e w' => ∃ v', e = .returned (.tuple #[v', .int .i64 ((f + v + 4 : Nat) : Int), .int .i64 0]) ∧ OwnB w' w.heap.size v' ((l.drop f).take v) ∧ Mod Non w w' := by
  have HG := Lib.hid hg
  have HQ := Lib.hid hq
  have e1 : mayK v = 0 := by unfold mayK; rw [if_neg (by omega), if_neg (by omega)]
  have e2 : wrap64 ((len : Int) - (f : Int)) = (len : Int) - f := by unfold wrap64; omega
  have e3 : ¬ ((len : Int) - (f : Int) < (v : Int) + 4) := by omega
  have e4 : wrap64 ((f : Int) + (v : Int)) = (f : Int) + v := by unfold wrap64; omega
  have e5 : wrap64 ((f : Int) + (v : Int) + 4) = (f : Int) + v + 4 := by unfold wrap64; omega
  have hv3 : (v : Int) ≤ 65536 := by omega
  clear hg hv2 hq
  go_enter Tryd.func12, Tryd.ntmps12
  go_wp2_with fail
  refine HG.out.mono ?_
  rintro e w1 ⟨rfl, rfl⟩
  go_wp2_with fail
  refine (frame_may v _).mono ?_
  rintro e w1 ⟨rfl, rfl⟩
  rw [e1]
  go_wp2
  rw [show f + v - f = v by omega]
  have hbody : Reads w R 1 (Option.map (fun x => x.add f) A) v (vbs ((l.drop f).take v)) := by
    have h1 := hr.cut (k := f) (cap := cap) (by omega) hc
    rw [if_neg (by omega), Nat.mul_one] at h1
    have h2 := h1.take (k := v) (by omega)
    simpa [vbs, List.map_drop, List.map_take] using h2
  have htail : Reads w R 1 (Option.map (fun x => x.add (f + v)) A) 4 (vbs ((l.drop (f + v)).take 4)) := by
    have h1 := hr.cut (k := f + v) (cap := cap) (by omega) hc
    rw [if_neg (by omega), Nat.mul_one] at h1
    have h2 := h1.take (k := 4) (by omega)
    simpa [vbs, List.map_drop, List.map_take] using h2
  have q1 : (0 : Int) ≤ (f : Int) + (v : Int) := by omega
  have q2 : (f : Int) + (v : Int) ≤ (f : Int) + (v : Int) + 4 := by omega
  have q3 : (f : Int) + (v : Int) + 4 ≤ (cap : Int) := by omega
  have q4 : (0 : Int) ≤ (f : Int) + (v : Int) + 4 := by omega
  have q5 : ((f : Int) + (v : Int)).toNat = f + v := by omega
  have q6 : ((f : Int) + (v : Int) + 4).toNat = f + v + 4 := by omega
  have q7 : f + v ≤ f + v + 4 := by omega
  have q8 : f + v + 4 ≤ cap := by omega
  have q9 : ¬ cap < f + v + 4 := by omega
  have q10 : ¬ (cap = f + v) := by omega
  have q11 : ¬ (cap - (f + v) = 0) := by omega
  have q12 : ¬ (cap ≤ f + v) := by omega
  have q13 : f + v ≤ cap := by omega
  have q14 : IntKind.i64.wrap ((f : Int) + (v : Int)) = (f : Int) + v := by rw [IntKind.wrap_i64]; omega
  generalize hA1 : Option.map (fun x => Addr.add x f) A = A1 at hbody ⊢
  go_region_held3 (fun _ => True) (trivial)
    (first
      | (go_at_call 20
         refine (frame_sum A1 v _ R _ _ (by first | exact hbody | exact hbody.drewN _) (by omega) (by first | exact hT | exact hT.non ((Mod.refl _ _).drew))).mono ?_
         rintro e w2 ⟨v2, rfl, hown2, hm2⟩
         obtain ⟨A3, m3, c3, rfl, hm3l, _⟩ := hown2.form)
      | (go_at_call 25
         refine (slices_Equal _ _ _ _ _ _ _ _ ((l.drop (f + v)).take 4) (sum4 (crcK ((l.drop f).take v))) _ (by exact (htail.mod hm2.undrew fun _ _ _ h => h)) hown2.reads (by simp [maxLen])).mono ?_
         rintro e w3 ⟨rfl, hm3⟩
         rw [HQ.out]))
  have hN : Mod Non w w3 := hm2.undrew.trans' hm3
  have hbl : ((l.drop f).take v).length ≤ 140737488355328 := by rw [List.length_take]; omega
  go_wp2_with fail
  refine (slices_Clone A1 v (cap - f) R ((l.drop f).take v) _ (by first | exact hbody.mod hN fun _ _ _ h => h) hbl).mono ?_
  rintro e w4 ⟨v4, rfl, hown4, hm4⟩
  have hown4' := hown4.below (B' := w.heap.size) hN.size
  have hN4 := hN.trans' hm4
  go_wp2
  go_ret3
  exact ⟨v4, by go_num, hown4', hN4⟩

end Go.Proofs.YtlkifobajdafpaaDoor
