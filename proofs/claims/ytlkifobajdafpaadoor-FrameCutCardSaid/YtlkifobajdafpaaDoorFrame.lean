/- Package frame: the contracts of may, Len, sum, Add; of slices.Grow and slices.Concat as Add calls them. -/
import Derived.Test.YtlkifobajdafpaaDoorCrc
import Derived.Lib.AppendZerosOnto
namespace Go.Proofs.YtlkifobajdafpaaDoor
open Go.RowKit

def mayK (n : Int) : Int := if n ≤ 0 then 3 else if 65536 < n then 2 else 0

theorem frame_may (n : Int) (w : World) :
    Calls Tryd.prog 17 #[.int .i64 n] w fun e w' => e = .returned (.int .i64 (mayK n)) ∧ w = w' := by
  by_cases h : n ≤ 0
  · have HK : Hid (mayK n = 3) := by show _ = _; simp [mayK, h]
    go_enter Tryd.func17, Tryd.ntmps17
    go_wp2
    go_ret
    exact ⟨by rw [HK.out]; rfl, rfl⟩
  · by_cases h2 : 65536 < n
    · have HK : Hid (mayK n = 2) := by show _ = _; simp [mayK, h, h2]
      go_enter Tryd.func17, Tryd.ntmps17
      go_wp2
      go_ret
      exact ⟨by rw [HK.out]; rfl, rfl⟩
    · have HK : Hid (mayK n = 0) := by show _ = _; simp [mayK, h, h2]
      go_enter Tryd.func17, Tryd.ntmps17
      go_wp2
      go_ret
      exact ⟨by rw [HK.out]; rfl, rfl⟩

theorem frame_Len_no (n : Int) (w : World) (h : n ≤ 0 ∨ 65536 < n) :
    Calls Tryd.prog 9 #[.int .i64 n] w fun e w' => e = .returned (.int .i64 0) ∧ w = w' := by
  have e1 : (mayK n != 0) = true := by
    unfold mayK
    split
    · rfl
    · rw [if_pos (by omega)]; rfl
  go_enter Tryd.func9, Tryd.ntmps9
  go_wp2_with fail
  refine (frame_may n _).mono ?_
  rintro e w1 ⟨rfl, rfl⟩
  go_wp2
  go_ret
  exact ⟨rfl, rfl⟩
theorem frame_Len_yes (n : Nat) (w : World) (h1 : 1 ≤ n) (h2 : n ≤ 65536) :
    Calls Tryd.prog 9 #[.int .i64 n] w fun e w' => e = .returned (.int .i64 ((vbytes n).length + n + 4 : Nat)) ∧ w = w' := by
  have e1 : mayK n = 0 := by unfold mayK; rw [if_neg (by omega), if_neg (by omega)]
  have h9 := vbytes_nine (n := n) (by omega)
  go_enter Tryd.func9, Tryd.ntmps9
  go_wp2_with fail
  refine (frame_may n _).mono ?_
  rintro e w1 ⟨rfl, rfl⟩
  rw [e1]
  go_wp2_with fail
  refine (varint_Len n (by omega) w).mono ?_
  rintro e w1 ⟨rfl, rfl⟩
  simp only [Int.toNat_natCast]
  obtain ⟨q, HQ⟩ : ∃ q, Hid ((vbytes n).length = q) := ⟨_, rfl⟩
  rw [HQ.out] at h9 ⊢
  go_wp2
  go_ret
  exact ⟨by rw [HQ.out]; go_num, rfl⟩

def sum4 (s : Nat) : List UInt8 := [UInt8.ofNat (s % 256), UInt8.ofNat (s / 256 % 256), UInt8.ofNat (s / 65536 % 256), UInt8.ofNat (s / 16777216 % 256)]
theorem sum4_vbs (s : Nat) : vbs (sum4 s) = [.int .u8 ((s : Int) % 256), .int .u8 ((s : Int) / 256 % 256), .int .u8 ((s : Int) / 65536 % 256), .int .u8 ((s : Int) / 16777216 % 256)] := by
  simp only [vbs, sum4, List.map]
  rw [vb_of (by omega), vb_of (by omega), vb_of (by omega), vb_of (by omega)]
  rfl
theorem sum4_inj {a b : Nat} (ha : a < 4294967296) (hb : b < 4294967296) (h : sum4 a = sum4 b) : a = b := by
  have h1 : vbs (sum4 a) = vbs (sum4 b) := by rw [h]
  rw [sum4_vbs, sum4_vbs] at h1
  simp only [List.cons.injEq, Value.int.injEq, true_and, and_true] at h1
  omega

theorem frame_sum (A : Option Addr) (len cap : Nat) (R : Nat → Prop) (l : List UInt8) (w : World) (hr : Reads w R 1 A len (vbs l)) (hmax : len ≤ 4611686018427387904) (hT : Tab w) :
    Calls Tryd.prog 20 #[.slice A len cap] w fun e w' => ∃ v, e = .returned v ∧ OwnB w' w.heap.size v (sum4 (crcK l)) ∧ Mod Non w w' := by
  go_enter Tryd.func20, Tryd.ntmps20
  go_wp2_with fail
  refine (crc_Sum A len cap R l w hr hmax hT).mono ?_
  rintro e w1 ⟨rfl, rfl⟩
  have hs := crcK_lt l
  obtain ⟨s, HS⟩ : ∃ s, Hid (crcK l = s) := ⟨_, rfl⟩
  rw [HS.out] at hs ⊢
  go_wp2
  go_ret
  refine ⟨_, rfl, ?_, (Mod.refl _ _).alloc _⟩
  unfold OwnB
  rw [HS.out, sum4_vbs, show (s : Int) / 16777216 % 256 = (s : Int) / 16777216 by omega]
  exact World.ownsRow_lit (base := w.heap.size) (e := 5) (size := 1) w #[.int .u8 ((s : Int) % 256), .int .u8 ((s : Int) / 256 % 256), .int .u8 ((s : Int) / 65536 % 256), .int .u8 ((s : Int) / 16777216)] 4 (Nat.le_refl _) (by simp [maxLen]) rfl

theorem slices_Grow_nil (n : Nat) (w : World) (h1 : 1 ≤ n) (hn : n ≤ 140737488355328) :
    Calls Tryd.prog 29 #[.slice none 0 0, .int .i64 n] w fun e w' => ∃ v, e = .returned v ∧ OwnB w' w.heap.size v [] ∧ Mod Non w w' := by
  obtain ⟨i0, hi, hz0, hz1, hz2⟩ := info_parts byte_info
  obtain ⟨G, hG⟩ : ∃ G, G = grownCap w (0 + n) 0 5 := ⟨_, rfl⟩
  have hGn : n ≤ G := by rw [hG]; have := grownCap_ge w (0 + n) 0 5; omega
  have hGm : G ≤ maxLen := by rw [hG]; exact grownCap_le_maxLen w (0 + n) 0 5 (by unfold maxLen; omega)
  obtain ⟨cs, hcs, hrz⟩ : ∃ cs : Array Value, cs.size = G ∧ ∀ ty, (Builtin.append_ #[22, 3] ty #[.slice none 0 0, .int .i64 n]).run Tryd.prog w = .ok (.slice (some ⟨w.heap.size, 0, none⟩) n G) (w.drew.alloc (.cells cs 5)) := by
    refine ⟨([] : List Value).toArray ++ Builtin.zeroCells (Value.int .u8 0).cells n ++ Builtin.zeroCells (Value.int .u8 0).cells (G - n), ?_, fun ty => ?_⟩
    · simp [size_zeroCells, Value.cells]; omega
    · have h := Lib.run_append_grow_zeros w 22 3 ty 5 i0 (.int .u8 0) .i64 .i64 Tryd.underlying22 Tryd.underlying3 hi hz0 none 0 0 [] (run_firstCells_none _ _ _ _ _) n (by omega) (by omega) (by omega) (by omega) (by rw [hz2]; omega) (by rw [hz2]; exact growslice_fits (by omega) (by omega))
      rw [← hG, Nat.zero_add] at h
      exact h
  have hw : Mod Non w (w.drew.alloc (.cells cs 5)) := ((Mod.refl _ _).drew).alloc _
  have hown : OwnB (w.drew.alloc (.cells cs 5)) w.heap.size (.slice (some ⟨w.heap.size, 0, none⟩) 0 G) [] :=
    ⟨rfl, .inr ⟨w.heap.size, G, cs, rfl, Nat.le_refl _, Blk.new w.drew _ cs, Nat.zero_le _, hGm, by omega, by simp [vbs]⟩⟩
  have HRZ := Lib.hid hrz
  have h2 : ¬ ((n : Int) < 0) := by omega
  unfold maxLen at hGm
  clear hrz hG hcs hi hz0 hz1 hz2
  go_enter Tryd.func29, Tryd.ntmps29
  go_wp2_with (at_builtin; refine Lib.wpList_append_run _ rfl _ _ _ _ rfl _ _ rfl rfl _ _ (HRZ.out _) ?_)
  all_goals go_ret
  all_goals exact ⟨_, rfl, hown, hw⟩

set_option maxHeartbeats 1000000 in
theorem slices_Concat3 (b n1 c1 n2 c2 n3 c3 : Nat) (A1 A2 A3 : Option Addr) (R1 R2 R3 : Nat → Prop) (l1 l2 l3 : List UInt8) (w : World) (hb : Blk w b 22 #[.slice A1 n1 c1, .slice A2 n2 c2, .slice A3 n3 c3])
    (hr1 : Reads w R1 1 A1 n1 (vbs l1)) (hr2 : Reads w R2 1 A2 n2 (vbs l2)) (hr3 : Reads w R3 1 A3 n3 (vbs l3)) (hlo : 1 ≤ n1) (hmax : n1 + n2 + n3 ≤ 1000000) :
    Calls Tryd.prog 18 #[.slice (some ⟨b, 0, none⟩) 3 3] w fun e w' => ∃ v, e = .returned v ∧ OwnB w' w.heap.size v (l1 ++ l2 ++ l3) ∧ Mod Non w w' := by
  have x0 := hb.cell 0
  have x1 := hb.cell 1
  have x2 := hb.cell 2
  simp at x0 x1 x2
  go_enter Tryd.func18, Tryd.ntmps18
  go_wp2
  refine wp_loop_rounds 4 ?_
  rw [rounds_succ]
  go_wp2
  rw [rounds_succ]
  go_wp2
  rw [rounds_succ]
  go_wp2
  rw [rounds_succ]
  go_wp2_with fail
  rw [show ((n1 : Int) + n2 + n3) = ((n1 + n2 + n3 : Nat) : Int) by omega]
  refine (slices_Grow_nil (n1 + n2 + n3) _ (by omega) (by omega)).mono ?_
  rintro e w1 ⟨v1, rfl, hown1, hm1⟩
  have hl1 := hr1.1
  have hl2 := hr2.1
  have hl3 := hr3.1
  rw [vbs_length] at hl1 hl2 hl3
  have hb1 := hb.mod hm1 fun h => h
  have y0 := hb1.cell 0
  have y1 := hb1.cell 1
  have y2 := hb1.cell 2
  simp at y0 y1 y2
  have hs1 := hm1.size
  have hq1 : l1.length ≤ 1000000 := by omega
  have hq2 : l2.length ≤ 1000000 := by omega
  have hq3 : l3.length ≤ 1000000 := by omega
  clear hl1 hl2 hl3 x0 x1 x2
  go_wp2
  refine wp_loop_rounds 4 ?_
  rw [rounds_succ]
  go_wp2_with (at_builtin; refine wpList_append_bytes rfl (.tmp 31) (.tmp 32) rfl w.heap.size v1 [] rfl hown1 _ A1 n1 c1 l1 rfl (hr1.mod hm1 (fun _ _ _ h => h)) (by simp; omega) hs1 ?_; intro v2 w2 hown2 hm2 _)
  have hn2 := hown1.modNon hm1 hm2
  have hb2 := hb.mod hn2 fun h => h
  have z0 := hb2.cell 0
  have z1 := hb2.cell 1
  have z2 := hb2.cell 2
  simp at z0 z1 z2
  have hs2 := hn2.size
  clear hown1 hm1 hm2 y0 y1 y2 hb1
  go_wp2
  rw [rounds_succ]
  go_wp2_with (at_builtin; refine wpList_append_bytes rfl (.tmp 31) (.tmp 32) rfl w.heap.size v2 _ rfl hown2 _ A2 n2 c2 l2 rfl (hr2.mod hn2 (fun _ _ _ h => h)) (by simp; omega) hs2 ?_; intro v3 w3 hown3 hm3 _)
  have hn3 := hown2.modNon hn2 hm3
  have hb3 := hb.mod hn3 fun h => h
  have u0 := hb3.cell 0
  have u1 := hb3.cell 1
  have u2 := hb3.cell 2
  simp at u0 u1 u2
  have hs3 := hn3.size
  clear hown2 hn2 hm3 z0 z1 z2 hb2
  go_wp2
  rw [rounds_succ]
  go_wp2_with (at_builtin; refine wpList_append_bytes rfl (.tmp 31) (.tmp 32) rfl w.heap.size v3 _ rfl hown3 _ A3 n3 c3 l3 rfl (hr3.mod hn3 (fun _ _ _ h => h)) (by simp; omega) hs3 ?_; intro v4 w4 hown4 hm4 _)
  have hn4 := hown3.modNon hn3 hm4
  clear hown3 hn3 hm4 u0 u1 u2 hb3
  go_wp2
  rw [rounds_succ]
  go_wp2
  go_ret
  exact ⟨_, rfl, hown4, hn4⟩
end Go.Proofs.YtlkifobajdafpaaDoor
