/- Package frame: the contract of Add; the reference's Frame; 'awake' of the statements. -/
import Derived.Test.YtlkifobajdafpaaDoorFrame
namespace Go.Proofs.YtlkifobajdafpaaDoor
open Go.RowKit

/-- the bytes of a frame -/
def fbytes (l : List UInt8) : List UInt8 := vbytes l.length ++ l ++ sum4 (crcK l)
theorem fbytes_length (l : List UInt8) : (fbytes l).length = (vbytes l.length).length + l.length + 4 := by simp [fbytes, sum4]; omega

theorem frame_Add_no (A A2 : Option Addr) (n c n2 c2 : Nat) (w : World) (h : n2 = 0 ∨ 65536 < n2) :
    Calls Tryd.prog 8 #[.slice A n c, .slice A2 n2 c2] w fun e w' => e = .returned (.tuple #[.slice none 0 0, .int .i64 (mayK n2)]) ∧ w = w' := by
  have e1 : (mayK n2 != 0) = true := by
    unfold mayK
    split
    · rfl
    · rw [if_pos (by omega)]; rfl
  go_enter Tryd.func8, Tryd.ntmps8
  go_wp2_with fail
  refine (frame_may n2 _).mono ?_
  rintro e w1 ⟨rfl, rfl⟩
  obtain ⟨m, HM⟩ : ∃ m, Hid (mayK (n2 : Int) = m) := ⟨_, rfl⟩
  rw [HM.out] at e1 ⊢
  go_wp2
  go_ret2
  exact ⟨by rw [HM.out]; rfl, rfl⟩

set_option maxHeartbeats 1000000 in
theorem frame_Add_yes (A A2 : Option Addr) (n c n2 c2 : Nat) (R R2 : Nat → Prop) (b l : List UInt8) (w : World) (hr : Reads w R 1 A n (vbs b)) (hr2 : Reads w R2 1 A2 n2 (vbs l)) (h1 : 1 ≤ n2) (h2 : n2 ≤ 65536) (hn : n ≤ 100000) (hT : Tab w) :
    Calls Tryd.prog 8 #[.slice A n c, .slice A2 n2 c2] w fun e w' => ∃ v, e = .returned (.tuple #[v, .int .i64 0]) ∧ OwnB w' w.heap.size v (b ++ fbytes l) ∧ Mod Non w w' := by
  have e1 : mayK n2 = 0 := by unfold mayK; rw [if_neg (by omega), if_neg (by omega)]
  have hl := hr.1
  have hl2 := hr2.1
  rw [vbs_length, Nat.mul_one] at hl hl2
  have HL2 := Lib.hid hl2
  have h9 := vbytes_nine (n := n2) (by omega)
  have hbl : b.length ≤ 140737488355000 := by omega
  have hql : (b ++ vbytes n2).length ≤ 200000 := by rw [List.length_append]; omega
  have hqp : 1 ≤ (b ++ vbytes n2).length := by have := vbytes_pos n2; rw [List.length_append]; omega
  have HF : Hid (b ++ fbytes l = b ++ vbytes n2 ++ l ++ sum4 (crcK l)) := by show _ = _; unfold fbytes; rw [hl2]; simp
  clear hl hl2 h9
  go_enter Tryd.func8, Tryd.ntmps8
  go_wp2_with fail
  refine (frame_may n2 _).mono ?_
  rintro e w1 ⟨rfl, rfl⟩
  rw [e1]
  go_wp2_with fail
  refine (varint_Put A n c R b n2 (by omega) w hr hbl).mono ?_
  rintro e w1 ⟨v1, rfl, hown1, hm1⟩
  rw [Int.toNat_natCast] at hown1
  obtain ⟨A1, m1, c1, rfl, hm1l, _⟩ := hown1.form
  have hq1 : m1 ≤ 200000 := by rw [hm1l.out]; exact hql
  have hq2 : 1 ≤ m1 := by rw [hm1l.out]; exact hqp
  have hT1 := hT.non hm1
  clear hql hqp hm1l
  go_wp2_with fail
  refine (frame_sum A2 n2 c2 R2 l _ (hr2.mod hm1 fun _ _ _ h => h) (by omega) hT1).mono ?_
  rintro e w2 ⟨v2, rfl, hown2, hm2⟩
  obtain ⟨A3, m3, c3, rfl, hm3l, _⟩ := hown2.form
  have hq3 : m3 = 4 := hm3l.out
  subst hq3
  have hm12 := hm1.trans' hm2
  have hown1' := hown1.non hm2
  clear hm1 hm2 hown1 hT1 hm3l
  go_wp2_with fail
  refine (slices_Concat3 w2.heap.size m1 c1 n2 c2 4 c3 A1 A2 A3 _ _ _ (b ++ vbytes n2) l (sum4 (crcK l)) _ (Blk.new _ _ _) (hown1'.reads.alloc _) ((hr2.mod hm12 fun _ _ _ h => h).alloc _) (hown2.reads.alloc _) hq2 (by omega)).mono ?_
  rintro e w3 ⟨v3, rfl, hown3, hm3⟩
  have hmA : Mod Non w w3 := (hm12.alloc _).trans' hm3
  rw [← HF.out] at hown3
  have hown4 := hown3.below (B' := w.heap.size) (by have := hm12.size; simp only [World.size_alloc]; omega)
  go_wp2
  go_ret2
  exact ⟨v3, rfl, hown4, hmA⟩

theorem frame_byte (k : Nat) (K : Int) (h : K = k) : UInt8.ofNat K.toNat = UInt8.ofNat k := by rw [h, Int.toNat_natCast]

set_option maxHeartbeats 1000000 in
theorem ref03_Frame (A : Option Addr) (n c : Nat) (R : Nat → Prop) (l : List UInt8) (w : World) (hr : Reads w R 1 A n (vbs l)) (hn : n ≤ 1000000) :
    Calls Tryd.prog 11 #[.slice A n c] w fun e w' => ∃ v, e = .returned v ∧ OwnB w' w.heap.size v (fbytes l) ∧ Mod Non w w' := by
  have hl := hr.1
  rw [vbs_length, Nat.mul_one] at hl
  have h9 := vbytes_nine (n := n) (by omega)
  obtain ⟨x, hx⟩ : ∃ x, x = vbytes n := ⟨_, rfl⟩
  have hs := crcK_lt l
  obtain ⟨s, hs4⟩ : ∃ s, s = crcK l := ⟨_, rfl⟩
  have HF : Hid (fbytes l = x ++ l ++ [UInt8.ofNat (s % 256)] ++ [UInt8.ofNat (s / 256 % 256)] ++ [UInt8.ofNat (s / 65536 % 256)] ++ [UInt8.ofNat (s / 16777216 % 256)]) := by
    show _ = _
    unfold fbytes sum4
    rw [hx, hs4, hl]; simp
  have hxl : x.length ≤ 9 := by rw [hx]; exact h9
  have hll : l.length ≤ 1000000 := by omega
  have HX := Lib.hid hx
  have HS := Lib.hid hs4
  rw [← hs4] at hs
  clear hl h9 hx hs4
  go_enter Tryd.func11, Tryd.ntmps11
  go_wp2_with fail
  refine (ref_Bytes n (by omega) w).mono ?_
  rintro e w1 ⟨v1, rfl, hown1, hm1⟩
  rw [Int.toNat_natCast, ← HX.out] at hown1
  have hs1 := hm1.size
  go_wp2_with (at_builtin; refine wpList_append_bytes rfl (.tmp 8) (.tmp 9) rfl w.heap.size v1 _ rfl hown1 _ A n c l rfl (hr.mod hm1 (fun _ _ _ h => h)) (by omega) hs1 ?_; intro v2 w2 hown2 hm2 _)
  have hn2 := hown1.modNon hm1 hm2
  have hs2 := hn2.size
  clear hown1 hm1 hm2 hs1
  go_wp2_with fail
  refine (ref02_Sum A n c R l w2 (hr.mod hn2 fun _ _ _ h => h) (by omega)).mono ?_
  rintro e w3 ⟨rfl, rfl⟩
  rw [← HS.out]
  go_wp2
  refine wp_loop_rounds 5 ?_
  rw [rounds_succ]
  go_wp2_with (at_builtin; refine wpList_append_byte rfl (.tmp 17) (.tmp 21) rfl w.heap.size v2 _ rfl hown2 ((s : Int) % 256) (by omega) (by omega) rfl (by simp; omega) hs2 ?_; intro v3 w3 hown3 hm3 _)
  have hn3 := hown2.modNon hn2 hm3
  have hs3 := hn3.size
  clear hown2 hn2 hm3 hs2
  rw [frame_byte (s % 256) _ (by omega)] at hown3
  go_wp2
  rw [rounds_succ]
  go_wp2_with (at_builtin; refine wpList_append_byte rfl (.tmp 17) (.tmp 21) rfl w.heap.size v3 _ rfl hown3 ((s : Int) / 256 % 256) (by omega) (by omega) rfl (by simp; omega) hs3 ?_; intro v4 w4 hown4 hm4 _)
  have hn4 := hown3.modNon hn3 hm4
  have hs4 := hn4.size
  clear hown3 hn3 hm4 hs3
  rw [frame_byte (s / 256 % 256) _ (by omega)] at hown4
  go_wp2
  rw [rounds_succ]
  go_wp2_with (at_builtin; refine wpList_append_byte rfl (.tmp 17) (.tmp 21) rfl w.heap.size v4 _ rfl hown4 ((s : Int) / 256 / 256 % 256) (by omega) (by omega) rfl (by simp; omega) hs4 ?_; intro v5 w5 hown5 hm5 _)
  have hn5 := hown4.modNon hn4 hm5
  have hs5 := hn5.size
  clear hown4 hn4 hm5 hs4
  rw [frame_byte (s / 65536 % 256) _ (by omega)] at hown5
  go_wp2
  rw [rounds_succ]
  go_wp2_with (at_builtin; refine wpList_append_byte rfl (.tmp 17) (.tmp 21) rfl w.heap.size v5 _ rfl hown5 ((s : Int) / 256 / 256 / 256 % 256) (by omega) (by omega) rfl (by simp; omega) hs5 ?_; intro v6 w6 hown6 hm6 _)
  have hn6 := hown5.modNon hn5 hm6
  clear hown5 hn5 hm6 hs5
  rw [frame_byte (s / 16777216 % 256) _ (by omega), ← HF.out] at hown6
  go_wp2
  rw [rounds_succ]
  go_wp2
  go_ret
  exact ⟨_, rfl, hown6, hn6⟩
end Go.Proofs.YtlkifobajdafpaaDoor
