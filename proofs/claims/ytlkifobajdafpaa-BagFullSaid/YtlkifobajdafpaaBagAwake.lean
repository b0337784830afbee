/- 'awake' of the statements on package bag returns true and turns nothing that was there. -/
import Derived.Test.YtlkifobajdafpaaBagStep2
namespace Go.Proofs.Ytlkifobajdafpaa
open Go.RowKit

set_option maxHeartbeats 1000000 in
theorem bag_awake (w : World) :
    Calls Try.prog 22 #[] w fun e w' => e = .returned (.bool true) ∧ Mod Non w w' := by
  go_enter Try.func22, Try.ntmps22
  go_wp2_with fail
  refine (bag_New _).mono ?_
  rintro e w1 ⟨rfl, hb1, hm1⟩
  obtain ⟨B, HB⟩ : ∃ b, Hid (b = w.heap.size) := ⟨_, rfl⟩
  rw [← HB.out] at hb1 ⊢
  have hs1 := hm1.size
  have hsB : B < w1.heap.size := hb1.lt
  go_wp2_with fail
  refine (bag_Put_ok B B none 0 0 [] 1 2 none 0 0 [] w1 hb1 (OwnP.nil _ _) (by omega) (by omega) (by omega) (by omega) (by omega) (by omega) RdB.nil (by simp) (Nat.le_refl _)).mono ?_
  rintro e w2 ⟨A2, n2, c2, v2, rfl, hd2, hb2, hown2, hm2, hf2⟩
  obtain ⟨g2, cap2, m2, rfl, hml2, hmc2, hcm2⟩ := hown2.form1 (by simp)
  simp at hml2
  subst hml2
  have hg2 : B < g2 := by
    rcases hf2 with h | ⟨g, h, hg⟩
    · simp [Value.ownBlock] at h
    · simp [Value.ownBlock] at h; omega
  have hw2 : Mod Non w w2 := hm1.trans hm2 fun i hi h => by
    rcases h with h | h
    · have := HB.out; omega
    · simp [Value.ownBlock] at h
  go_wp2_with fail
  refine (bag_Twice_yes B B g2 1 cap2 0 [⟨1, 2, A2, n2, c2⟩] ⟨1, 2, A2, n2, c2⟩ w2 (fun r w' => r = true ∧ ∃ (A' : Option Addr) (n' c' : Nat) (v' : Value), RdB w' B A' n' [] ∧
      Blk w' B 76 #[v'] ∧ OwnP w' B v' ([⟨1, 2, A2, n2, c2⟩] ++ [⟨1, 2, A', n', c'⟩]) ∧ Mod (fun k => k = B ∨ (Value.slice (some ⟨g2, 0, none⟩) 1 cap2).ownBlock = some k) w2 w' ∧ (v'.ownBlock = (Value.slice (some ⟨g2, 0, none⟩) 1 cap2).ownBlock ∨ ∃ g, v'.ownBlock = some g ∧ w2.heap.size ≤ g)) hb2 hown2 (by omega) rfl ?_).mono ?_
  · refine (bag_Put_ok B B _ 1 cap2 _ 1 2 A2 n2 c2 [] w2 hb2 hown2 (by omega) (by omega) (by omega) (by omega) (by omega) (by omega) hd2 (by simp) (Nat.le_refl _)).mono ?_
    rintro e w3 ⟨A3, n3, c3, v3, rfl, h1, h2, h3, h4, h5⟩
    exact ⟨true, rfl, rfl, A3, n3, c3, v3, h1, h2, h3, h4, h5⟩
  rintro e w3 ⟨r, rfl, rfl, A3, n3, c3, v3, hd3, hb3, hown3, hm3, hf3⟩
  obtain ⟨g3, cap3, m3, rfl, hml3, hmc3, hcm3⟩ := hown3.form1 (by simp)
  simp at hml3
  subst hml3
  have hs2 := hm2.size
  have hg3 : B < g3 := by
    rcases hf3 with h | ⟨g, h, hg⟩
    · simp [Value.ownBlock] at h; omega
    · simp [Value.ownBlock] at h; omega
  have hw3 : Mod Non w w3 := hw2.trans hm3 fun i hi h => by
    rcases h with h | h
    · have := HB.out; omega
    · simp [Value.ownBlock] at h; have := HB.out; omega
  clear hf2 hf3 hm2 hm3 hown2 hd2 hd3 hb2
  go_wp2_with fail
  refine (bag_Len B _ 2 cap3 _ hb3).mono ?_
  rintro e w4 ⟨rfl, rfl⟩
  go_wp2_with fail
  refine (bag_Lose_yes B B g3 2 cap3 1 _ _ w3 hb3 hown3 (by omega) rfl hmc3 hcm3).mono ?_
  rintro e w4 ⟨rfl, hb4, hown4, hm4⟩
  have hw4 : Mod Non w w4 := hw3.trans hm4 fun i hi h => by have := HB.out; omega
  go_wp2_with fail
  refine (bag_Len B _ 1 cap3 _ hb4).mono ?_
  rintro e w5 ⟨rfl, rfl⟩
  go_wp2
  go_ret
  exact ⟨rfl, hw4⟩
end Go.Proofs.Ytlkifobajdafpaa
