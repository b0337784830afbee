/- The contract of the reference's Next where the frame is as long as it says. -/
import Derived.Test.YtlkifobajdafpaaDoorRefNext
namespace Go.Proofs.YtlkifobajdafpaaDoor
open Go.RowKit

set_option maxRecDepth 100000 in
set_option maxHeartbeats 1000000 in
theorem ref_Next_in (A : Option Addr) (len cap n : Nat) (v f : Nat) (R : Nat → Prop) (l : List UInt8) (w : World) (hr : Reads w R 1 A len (vbs l)) (hc : len ≤ cap) (hcap : (cap : Int) ≤ 9223372036854775807) (hmax : len ≤ 4611686018427387904) (hv1 : 1 ≤ v) (hv2 : v ≤ 65536) (hnf : n ≤ f) (hs : f + v + 4 ≤ len) (b : Bool)
    (hq : sameB (fbytes ((l.drop f).take v)) ((l.drop n).take (f - n + v + 4)) = b)
    (hg : Calls Tryd.prog 27 #[.slice A len cap, .int .i64 n] w fun e w' => e = .returned (.tuple #[.int .i64 v, .int .i64 f, .int .i64 0]) ∧ w = w') :
    Calls Tryd.prog 13 #[.slice A len cap, .int .i64 n] w fun e w' => e = .returned (.tuple (if b = true then #[.slice (A.map (·.add f)) v (cap - f), .int .i64 ((f + v + 4 : Nat) : Int), .int .i64 0] else #[.slice none 0 0, .int .i64 0, .int .i64 4])) ∧ Mod Non w w' := by
  have HG := Lib.hid hg
  have HQ := Lib.hid hq
  have e1 : ((v : Int) == 0) = false := by simp; omega
  have e2 : ¬ (65536 : Int) < v := by omega
  have e5 : (f : Int) ≤ 4611686018427387904 := by omega
  have e3 : ¬ (len : Int) < (f : Int) + v + 4 := by omega
  have q1 : (f : Int) ≤ (f : Int) + v := by omega
  have q2 : (n : Int) ≤ (f : Int) + v + 4 := by omega
  have q3 : (f : Int) + v + 4 ≤ (cap : Int) := by omega
  have q4 : (f : Int) + v ≤ (cap : Int) := by omega
  have q5 : ((f : Int) + v + 4).toNat = f + v + 4 := by omega
  have q6 : ((f : Int) + v).toNat = f + v := by omega
  have q7 : ¬ (cap = f) := by omega
  have q8 : ¬ (cap = n) := by omega
  have hbody : Reads w R 1 (A.map (·.add f)) v (vbs ((l.drop f).take v)) := by
    have h1 := hr.cut (k := f) (cap := cap) (by omega) hc
    rw [if_neg (by omega), Nat.mul_one] at h1
    have h2 := h1.take (k := v) (by omega)
    simpa [vbs, List.map_drop, List.map_take] using h2
  have hall : Reads w R 1 (A.map (·.add n)) (f - n + v + 4) (vbs ((l.drop n).take (f - n + v + 4))) := by
    have h1 := hr.cut (k := n) (cap := cap) (by omega) hc
    rw [if_neg (by omega), Nat.mul_one] at h1
    have h2 := h1.take (k := f - n + v + 4) (by omega)
    simpa [vbs, List.map_drop, List.map_take] using h2
  have hv3 : v ≤ 1000000 := by omega
  have hfb : Hid ((fbytes ((l.drop f).take v)).length ≤ maxLen) := by
    show _ ≤ _
    have h1 : ((l.drop f).take v).length ≤ v := List.length_take_le _ _
    have h2 := vbytes_nine (n := ((l.drop f).take v).length) (by omega)
    rw [fbytes_length]; unfold maxLen; omega
  have hv4 : Hid (f + v + 4 - n = f - n + v + 4) := by show _ = _; omega
  have hmx : f - n + v + 4 ≤ maxLen := by unfold maxLen; omega
  clear hg hv2 hq hs hnf hmax
  go_enter Tryd.func13, Tryd.ntmps13
  go_wp2_with fail
  refine HG.out.mono ?_
  rintro e w1 ⟨rfl, rfl⟩
  go_wp2_with fail
  refine (ref03_Frame _ v _ R _ _ hbody hv3).mono ?_
  rintro e w2 ⟨v2, rfl, hown2, hm2⟩
  obtain ⟨A3, m3, c3, rfl, hm3l, _⟩ := hown2.form
  go_wp2_with fail
  rw [hv4.out]
  refine (ref_Same _ _ _ _ _ _ _ R (fbytes ((l.drop f).take v)) ((l.drop n).take (f - n + v + 4)) _ hown2.reads (hall.mod hm2 fun _ _ _ h => h) (by rw [hm3l.out]; exact hfb.out)).mono ?_
  rintro e w3 ⟨rfl, hm3⟩
  rw [HQ.out]
  have hN := hm2.trans' hm3
  cases b
  · go_wp2
    go_ret3
    exact ⟨rfl, hN⟩
  · go_wp2
    go_ret3
    exact ⟨by simp, hN⟩
end Go.Proofs.YtlkifobajdafpaaDoor
