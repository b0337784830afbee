/- Package kvone: the contract of Check where all is well. -/
import Derived.Test.YtdclfdinhdaadaaGreatDoorMgD
import Derived.Test.YtdclfdinhdaadaaGreatDoorTakeG
namespace Go.Proofs.YtdclfdinhdaadaaGreatDoor
open Go.RowKit

def ltB (a b : ByteArray) : Bool := Op.bytesLess a.toList b.toList
def leB (a b : ByteArray) : Bool := ltB a b || a.toList == b.toList
/-- a pair's texts may be -/
def Pa.Ok (p : Pa) : Prop := keyB p.key = true ∧ valB p.val = true
/-- the keys rise -/
def Rise (ps : List Pa) : Prop := ps.Pairwise fun a b => leB b.key a.key = false

theorem rise_at {ps : List Pa} (h : Rise ps) {k : Nat} {p q : Pa} (hq : ps[k]? = some q) (hp : ps[k + 1]? = some p) : leB p.key q.key = false := by
  obtain ⟨h1, rfl⟩ := List.getElem?_eq_some_iff.1 hq
  obtain ⟨h2, rfl⟩ := List.getElem?_eq_some_iff.1 hp
  exact List.pairwise_iff_getElem.1 h k (k + 1) h1 h2 (by omega)

set_option maxRecDepth 100000 in
set_option maxHeartbeats 4000000 in
theorem kvone_Check (A : Option Addr) (n c : Nat) (R : Nat → Prop) (ps : List Pa) (w : World) (hr : Reads w R 3 A n (pcs ps)) (hn : n ≤ 64) (hok : ∀ p ∈ ps, p.Ok ∧ p.rev = 0) (hs : Rise ps) (hT : T8 w) :
    Calls Tryz.prog 72 #[.slice A n c] w fun e w' => e = .returned (.int .i64 0) ∧ Mod Non w w' := by
  have hl : ps.length = n := by have := hr.1; rw [pcs_length] at this; omega
  have HL := Lib.hid hl
  have HS := Lib.hid hs
  have HOK := Lib.hid hok
  have h64 : ¬ (64 : Int) < n := by omega
  have h64d : decide ((64 : Int) < n) = false := by simpa using h64
  have h64e : decide (64 < n) = false := by simp; omega
  clear hl hs hok
  go_enter Tryz.func72, Tryz.ntmps72
  go_wp2
  go_loopw [10] (fun i wr => ∃ k : Nat, k ≤ n ∧ i = .int .i64 k ∧ Mod Non w wr) (fun i _ => n - (intOf i).toNat)
  case atStart => exact ⟨0, by omega, rfl, Mod.refl _ _⟩
  case round =>
    obtain ⟨k, hk, rfl, hm⟩ := hrel
    by_cases hlt : k < n
    · have hrr := hr.mod hm fun _ _ _ h => h
      obtain ⟨b, off, ⟨key, val, rev⟩, hA, hbk, _, hpk, d0, d1, d2⟩ := hrr.pa hlt
      obtain ⟨⟨o1, o2⟩, o3⟩ := HOK.out _ (List.mem_of_getElem? hpk)
      simp only at d0 d1 d2 o1 o2 o3
      subst o3
      have hkn : (k : Int) < n := by omega
      have hT1 : T8 (wr.alloc (.cells #[.string key, .string val, .int .i64 0] 42)) := hT.non (hm.alloc _)
      have HH : Hid (∀ W', Mod Non (wr.alloc (.cells #[.string key, .string val, .int .i64 0] 42)) W' → Blk W' wr.heap.size 42 #[.string key, .string val, .int .i64 0]) := fun W' hm' => (Blk.new wr _ _).mod hm' fun h => h
      have hma : Mod Non w (wr.alloc (.cells #[.string key, .string val, .int .i64 0] 42)) := hm.alloc _
      have HPK := Lib.hid hpk
      have HM := Lib.hid hma
      have hprev : 0 < k → ∃ qk, wr.cell? ⟨b, off + (k - 1) * 3, none⟩ = some (.string qk) ∧ leB key qk = false := by
        intro h0
        obtain ⟨b2, off2, q, hA2, _, _, hqk, e0, _, _⟩ := hrr.pa (k := k - 1) (by omega)
        rw [hA] at hA2
        injection hA2 with hA2
        injection hA2 with e1 e2 _
        subst e1 e2
        exact ⟨q.key, e0, rise_at (p := ⟨key, val, 0⟩) HS.out hqk (by rw [show k - 1 + 1 = k by omega]; exact hpk)⟩
      clear hpk hma hrr hm
      subst hA
      by_cases hk0 : k = 0
      · subst hk0
        simp only [Nat.zero_mul, Nat.add_zero] at d0 d1 d2
        rw [show ((0 : Nat) : Int) = 0 from rfl]
        go_wp2
        -- REGION1
        refine wp_region_held_drew (S := (fun w' => w'.cell? ⟨wr.heap.size, 0, none⟩ = some (.string key) ∧ w'.cell? ⟨wr.heap.size, 1, none⟩ = some (.string val) ∧ w'.cell? ⟨wr.heap.size, 2, none⟩ = some (.int .i64 0) ∧ Mod Non (wr.alloc (.cells #[.string key, .string val, .int .i64 0] 42)) w')) (by kernel_rfl) (⟨by simp, by simp, by simp, (Mod.refl _ _).drew⟩) (fun hHeld => ?_)
        refine take_run (i := 0) (some 15) rfl rfl (by kernel_rfl) (by kernel_rfl) (by kernel_rfl) (fun _ _ _ h => h) rfl (by assumption) (by intro w hSw; (try dsimp only at hSw); go_simp; (try with_reducible rfl)) ?_
        simp only [Act.put, List.setIfInBounds_toArray, List.set_cons_zero, List.set_cons_succ]
        refine take_run (i := 1) (some 16) rfl rfl (by kernel_rfl) (by kernel_rfl) (by kernel_rfl) (fun _ _ _ h => h) rfl (by assumption) (by intro w hSw; (try dsimp only at hSw); go_simp; (try with_reducible rfl)) ?_
        simp only [Act.put, List.setIfInBounds_toArray, List.set_cons_zero, List.set_cons_succ]
        refine take_run (i := 2) (some 17) rfl rfl (by kernel_rfl) (by kernel_rfl) (by kernel_rfl) (fun _ _ _ h => h) rfl (by assumption) (by intro w hSw; (try dsimp only at hSw); go_simp; (try with_reducible rfl)) ?_
        simp only [Act.put, List.setIfInBounds_toArray, List.set_cons_zero, List.set_cons_succ]
        refine take_skip (i := 3) (some 18) rfl rfl (by kernel_rfl) (by kernel_rfl) (by kernel_rfl) (fun _ _ _ h => h) rfl (by assumption) ?_
        simp only [Act.put, List.setIfInBounds_toArray, List.set_cons_zero, List.set_cons_succ]
        refine take_skip (i := 4) (some 19) rfl rfl (by kernel_rfl) (by kernel_rfl) (by kernel_rfl) (fun _ _ _ h => h) rfl (by assumption) ?_
        simp only [Act.put, List.setIfInBounds_toArray, List.set_cons_zero, List.set_cons_succ]
        refine take_skip (i := 5) (some 20) rfl rfl (by kernel_rfl) (by kernel_rfl) (by kernel_rfl) (fun _ _ _ h => h) rfl (by assumption) ?_
        simp only [Act.put, List.setIfInBounds_toArray, List.set_cons_zero, List.set_cons_succ]
        refine take_skip (i := 6) (some 21) rfl rfl (by kernel_rfl) (by kernel_rfl) (by kernel_rfl) (fun _ _ _ h => h) rfl (by assumption) ?_
        simp only [Act.put, List.setIfInBounds_toArray, List.set_cons_zero, List.set_cons_succ]
        refine take_skip (i := 7) (some 22) rfl rfl (by kernel_rfl) (by kernel_rfl) (by kernel_rfl) (fun _ _ _ h => h) rfl (by assumption) ?_
        simp only [Act.put, List.setIfInBounds_toArray, List.set_cons_zero, List.set_cons_succ]
        refine take_skip (i := 8) (some 23) rfl rfl (by kernel_rfl) (by kernel_rfl) (by kernel_rfl) (fun _ _ _ h => h) rfl (by assumption) ?_
        simp only [Act.put, List.setIfInBounds_toArray, List.set_cons_zero, List.set_cons_succ]
        refine take_skip (i := 9) (some 24) rfl rfl (by kernel_rfl) (by kernel_rfl) (by kernel_rfl) (fun _ _ _ h => h) rfl (by assumption) ?_
        simp only [Act.put, List.setIfInBounds_toArray, List.set_cons_zero, List.set_cons_succ]
        refine take_skip (i := 10) (some 25) rfl rfl (by kernel_rfl) (by kernel_rfl) (by kernel_rfl) (fun _ _ _ h => h) rfl (by assumption) ?_
        simp only [Act.put, List.setIfInBounds_toArray, List.set_cons_zero, List.set_cons_succ]
        refine take_skip (i := 11) (some 26) rfl rfl (by kernel_rfl) (by kernel_rfl) (by kernel_rfl) (fun _ _ _ h => h) rfl (by assumption) ?_
        simp only [Act.put, List.setIfInBounds_toArray, List.set_cons_zero, List.set_cons_succ]
        refine take_run (i := 12) (some 27) rfl rfl (by kernel_rfl) (by kernel_rfl) (by kernel_rfl) (fun _ _ _ h => h) rfl (by assumption) (by intro w hSw; (try dsimp only at hSw); go_simp; (try with_reducible rfl)) ?_
        simp only [Act.put, List.setIfInBounds_toArray, List.set_cons_zero, List.set_cons_succ]
        refine take_run (i := 13) (some 28) rfl rfl (by kernel_rfl) (by kernel_rfl) (by kernel_rfl) (fun _ _ _ h => h) rfl (by assumption) (by intro w hSw; (try dsimp only at hSw); go_simp; (try with_reducible rfl)) ?_
        simp only [Act.put, List.setIfInBounds_toArray, List.set_cons_zero, List.set_cons_succ]
        refine take_run (i := 14) (some 29) rfl rfl (by kernel_rfl) (by kernel_rfl) (by kernel_rfl) (fun _ _ _ h => h) rfl (by assumption) (by intro w hSw; (try dsimp only at hSw); go_simp; (try with_reducible rfl)) ?_
        simp only [Act.put, List.setIfInBounds_toArray, List.set_cons_zero, List.set_cons_succ]
        refine take_run (i := 15) (some 30) rfl rfl (by kernel_rfl) (by kernel_rfl) (by kernel_rfl) (fun _ _ _ h => h) rfl (by assumption) (by intro w hSw; (try dsimp only at hSw); go_simp; (try with_reducible rfl)) ?_
        simp only [Act.put, List.setIfInBounds_toArray, List.set_cons_zero, List.set_cons_succ]
        refine wpAnyH_ready (rs := [16]) (by kernel_rfl) (by simp) ?_
        refine AllReadyH.cons rfl (fun K hK => ?_) AllReadyH.nil
        go_simp
        refine (runes_Key key _ (hT1.non hHeld.2.2.2)).mono ?_
        rintro e w2 ⟨rfl, hm2⟩
        rw [o1]
        have hm3 := hHeld.2.2.2.trans' hm2
        have b3 := HH.out _ hm3
        clear hHeld
        refine hK.out _ _ (⟨by simpa using b3.cell 0, by simpa using b3.cell 1, by simpa using b3.cell 2, hm3⟩) (fun hHeld => ?_)
        clear hK K
        refine take_run (i := 17) (some 32) rfl rfl (by kernel_rfl) (by kernel_rfl) (by kernel_rfl) (fun _ _ _ h => h) rfl (by assumption) (by intro w hSw; (try dsimp only at hSw); go_simp; (try with_reducible rfl)) ?_
        simp only [Act.put, List.setIfInBounds_toArray, List.set_cons_zero, List.set_cons_succ]
        refine take_run (i := 18) (some 33) rfl rfl (by kernel_rfl) (by kernel_rfl) (by kernel_rfl) (fun _ _ _ h => h) rfl (by assumption) (by intro w hSw; (try dsimp only at hSw); go_simp; (try with_reducible rfl)) ?_
        simp only [Act.put, List.setIfInBounds_toArray, List.set_cons_zero, List.set_cons_succ]
        refine take_run (i := 19) (some 34) rfl rfl (by kernel_rfl) (by kernel_rfl) (by kernel_rfl) (fun _ _ _ h => h) rfl (by assumption) (by intro w hSw; (try dsimp only at hSw); go_simp; (try with_reducible rfl)) ?_
        simp only [Act.put, List.setIfInBounds_toArray, List.set_cons_zero, List.set_cons_succ]
        refine take_run (i := 20) (some 35) rfl rfl (by kernel_rfl) (by kernel_rfl) (by kernel_rfl) (fun _ _ _ h => h) rfl (by assumption) (by intro w hSw; (try dsimp only at hSw); go_simp; (try with_reducible rfl)) ?_
        simp only [Act.put, List.setIfInBounds_toArray, List.set_cons_zero, List.set_cons_succ]
        refine take_run (i := 21) (some 36) rfl rfl (by kernel_rfl) (by kernel_rfl) (by kernel_rfl) (fun _ _ _ h => h) rfl (by assumption) (by intro w hSw; (try dsimp only at hSw); go_simp; (try with_reducible rfl)) ?_
        simp only [Act.put, List.setIfInBounds_toArray, List.set_cons_zero, List.set_cons_succ]
        refine wpAnyH_ready (rs := [22]) (by kernel_rfl) (by simp) ?_
        refine AllReadyH.cons rfl (fun K hK => ?_) AllReadyH.nil
        go_simp
        refine (runes_Val val _ (hT1.non hHeld.2.2.2)).mono ?_
        rintro e w4 ⟨rfl, hm4⟩
        rw [o2]
        have hm5 := hHeld.2.2.2.trans' hm4
        have b5 := HH.out _ hm5
        clear hHeld
        refine hK.out _ _ (⟨by simpa using b5.cell 0, by simpa using b5.cell 1, by simpa using b5.cell 2, hm5⟩) (fun hHeld => ?_)
        clear hK K
        refine take_run (i := 23) (some 38) rfl rfl (by kernel_rfl) (by kernel_rfl) (by kernel_rfl) (fun _ _ _ h => h) rfl (by assumption) (by intro w hSw; (try dsimp only at hSw); go_simp; (try with_reducible rfl)) ?_
        simp only [Act.put, List.setIfInBounds_toArray, List.set_cons_zero, List.set_cons_succ]
        refine take_run (i := 24) (some 39) rfl rfl (by kernel_rfl) (by kernel_rfl) (by kernel_rfl) (fun _ _ _ h => h) rfl (by assumption) (by intro w hSw; (try dsimp only at hSw); go_simp; (try with_reducible rfl)) ?_
        simp only [Act.put, List.setIfInBounds_toArray, List.set_cons_zero, List.set_cons_succ]
        refine take_run (i := 25) (some 40) rfl rfl (by kernel_rfl) (by kernel_rfl) (by kernel_rfl) (fun _ _ _ h => h) rfl (by assumption) (by intro w hSw; (try dsimp only at hSw); go_simp; (try with_reducible rfl)) ?_
        simp only [Act.put, List.setIfInBounds_toArray, List.set_cons_zero, List.set_cons_succ]
        refine take_run (i := 26) (some 41) rfl rfl (by kernel_rfl) (by kernel_rfl) (by kernel_rfl) (fun _ _ _ h => h) rfl (by assumption) (by intro w hSw; (try dsimp only at hSw); go_simp; (try with_reducible rfl)) ?_
        simp only [Act.put, List.setIfInBounds_toArray, List.set_cons_zero, List.set_cons_succ]
        refine take_run (i := 27) (some 42) rfl rfl (by kernel_rfl) (by kernel_rfl) (by kernel_rfl) (fun _ _ _ h => h) rfl (by assumption) (by intro w hSw; (try dsimp only at hSw); go_simp; (try with_reducible rfl)) ?_
        simp only [Act.put, List.setIfInBounds_toArray, List.set_cons_zero, List.set_cons_succ]
        refine take_run (i := 28) (some 43) rfl rfl (by kernel_rfl) (by kernel_rfl) (by kernel_rfl) (fun _ _ _ h => h) rfl (by assumption) (by intro w hSw; (try dsimp only at hSw); go_simp; (try with_reducible rfl)) ?_
        simp only [Act.put, List.setIfInBounds_toArray, List.set_cons_zero, List.set_cons_succ]
        refine take_run (i := 29) (some 44) rfl rfl (by kernel_rfl) (by kernel_rfl) (by kernel_rfl) (fun _ _ _ h => h) rfl (by assumption) (by intro w hSw; (try dsimp only at hSw); go_simp; (try with_reducible rfl)) ?_
        simp only [Act.put, List.setIfInBounds_toArray, List.set_cons_zero, List.set_cons_succ]
        refine wpAnyH_done (by kernel_rfl) ?_ _
        -- END1
        clear hT1
        go_wp2
        go_roundw
        case rel => exact ⟨1, by omega, rfl, HM.out.trans' hHeld.2.2.2⟩
        case measure => simp [intOf]; omega
      · have hk0' : (0 : Int) < (k : Int) := by omega
        have hk1' : decide ((0 : Int) < (k : Int)) = true := by simpa using hk0'
        have hk2' : decide (0 < k) = true := by simp; omega
        have q1 : wrap64 ((k : Int) - 1) = (k : Int) - 1 := by unfold wrap64; omega
        have q0 : IntKind.i64.wrap ((k : Int) - 1) = (k : Int) - 1 := by rw [IntKind.wrap_i64]; omega
        have q2 : (0 : Int) ≤ (k : Int) - 1 := by omega
        have q5 : (1 : Int) ≤ (k : Int) := by omega
        have q3 : (k : Int) - 1 < (n : Int) := by omega
        have q4 : ((k : Int) - 1).toNat = k - 1 := by omega
        obtain ⟨qk, dq0, hle⟩ := hprev (by omega)
        unfold leB ltB at hle
        rw [Bool.or_eq_false_iff] at hle
        obtain ⟨l1, l2⟩ := hle
        have HQ : Hid (∀ W', Mod Non (wr.alloc (.cells #[.string key, .string val, .int .i64 0] 42)) W' → W'.cell? ⟨b, off + (k - 1) * 3, none⟩ = some (.string qk)) :=
          fun W' hm' => (((Mod.refl Non wr).alloc _).trans' hm').cell (p := ⟨b, off + (k - 1) * 3, none⟩) hbk (fun h => h) |>.trans dq0
        have dq := HQ.out _ (Mod.refl _ _)
        go_wp2

        -- REGION2
        refine wp_region_held_drew (S := (fun w' => w'.cell? ⟨wr.heap.size, 0, none⟩ = some (.string key) ∧ w'.cell? ⟨wr.heap.size, 1, none⟩ = some (.string val) ∧ w'.cell? ⟨wr.heap.size, 2, none⟩ = some (.int .i64 0) ∧ w'.cell? ⟨b, off + (k - 1) * 3, none⟩ = some (.string qk) ∧ Mod Non (wr.alloc (.cells #[.string key, .string val, .int .i64 0] 42)) w')) (by kernel_rfl) (⟨by simp, by simp, by simp, dq, (Mod.refl _ _).drew⟩) (fun hHeld => ?_)
        refine take_run (i := 0) (some 15) rfl rfl (by kernel_rfl) (by kernel_rfl) (by kernel_rfl) (fun _ _ _ h => h) rfl (by assumption) (by intro w hSw; (try dsimp only at hSw); go_simp; (try with_reducible rfl)) ?_
        simp only [Act.put, List.setIfInBounds_toArray, List.set_cons_zero, List.set_cons_succ]
        refine take_run (i := 1) (some 16) rfl rfl (by kernel_rfl) (by kernel_rfl) (by kernel_rfl) (fun _ _ _ h => h) rfl (by assumption) (by intro w hSw; (try dsimp only at hSw); go_simp; (try with_reducible rfl)) ?_
        simp only [Act.put, List.setIfInBounds_toArray, List.set_cons_zero, List.set_cons_succ]
        refine take_run (i := 2) (some 17) rfl rfl (by kernel_rfl) (by kernel_rfl) (by kernel_rfl) (fun _ _ _ h => h) rfl (by assumption) (by intro w hSw; (try dsimp only at hSw); go_simp; (try with_reducible rfl)) ?_
        simp only [Act.put, List.setIfInBounds_toArray, List.set_cons_zero, List.set_cons_succ]
        refine take_run (i := 3) (some 18) rfl rfl (by kernel_rfl) (by kernel_rfl) (by kernel_rfl) (fun _ _ _ h => h) rfl (by assumption) (by intro w hSw; (try dsimp only at hSw); go_simp; (try with_reducible rfl)) ?_
        simp only [Act.put, List.setIfInBounds_toArray, List.set_cons_zero, List.set_cons_succ]
        refine take_run (i := 4) (some 19) rfl rfl (by kernel_rfl) (by kernel_rfl) (by kernel_rfl) (fun _ _ _ h => h) rfl (by assumption) (by intro w hSw; (try dsimp only at hSw); go_simp; (try with_reducible rfl)) ?_
        simp only [Act.put, List.setIfInBounds_toArray, List.set_cons_zero, List.set_cons_succ]
        refine take_run (i := 5) (some 20) rfl rfl (by kernel_rfl) (by kernel_rfl) (by kernel_rfl) (fun _ _ _ h => h) rfl (by assumption) (by intro w hSw; (try dsimp only at hSw); go_simp; (try with_reducible rfl)) ?_
        simp only [Act.put, List.setIfInBounds_toArray, List.set_cons_zero, List.set_cons_succ]
        refine take_run (i := 6) (some 21) rfl rfl (by kernel_rfl) (by kernel_rfl) (by kernel_rfl) (fun _ _ _ h => h) rfl (by assumption) (by intro w hSw; (try dsimp only at hSw); go_simp; (try with_reducible rfl)) ?_
        simp only [Act.put, List.setIfInBounds_toArray, List.set_cons_zero, List.set_cons_succ]
        refine take_run (i := 7) (some 22) rfl rfl (by kernel_rfl) (by kernel_rfl) (by kernel_rfl) (fun _ _ _ h => h) rfl (by assumption) (by intro w hSw; (try dsimp only at hSw); go_simp; (try with_reducible rfl)) ?_
        simp only [Act.put, List.setIfInBounds_toArray, List.set_cons_zero, List.set_cons_succ]
        refine take_run (i := 8) (some 23) rfl rfl (by kernel_rfl) (by kernel_rfl) (by kernel_rfl) (fun _ _ _ h => h) rfl (by assumption) (by intro w hSw; (try dsimp only at hSw); go_simp; (try with_reducible rfl)) ?_
        simp only [Act.put, List.setIfInBounds_toArray, List.set_cons_zero, List.set_cons_succ]
        refine take_run (i := 9) (some 24) rfl rfl (by kernel_rfl) (by kernel_rfl) (by kernel_rfl) (fun _ _ _ h => h) rfl (by assumption) (by intro w hSw; (try dsimp only at hSw); go_simp; (try with_reducible rfl)) ?_
        simp only [Act.put, List.setIfInBounds_toArray, List.set_cons_zero, List.set_cons_succ]
        refine take_run (i := 10) (some 25) rfl rfl (by kernel_rfl) (by kernel_rfl) (by kernel_rfl) (fun _ _ _ h => h) rfl (by assumption) (by intro w hSw; (try dsimp only at hSw); go_simp; (try with_reducible rfl)) ?_
        simp only [Act.put, List.setIfInBounds_toArray, List.set_cons_zero, List.set_cons_succ]
        refine take_run (i := 11) (some 26) rfl rfl (by kernel_rfl) (by kernel_rfl) (by kernel_rfl) (fun _ _ _ h => h) rfl (by assumption) (by intro w hSw; (try dsimp only at hSw); go_simp; (try with_reducible rfl)) ?_
        simp only [Act.put, List.setIfInBounds_toArray, List.set_cons_zero, List.set_cons_succ]
        refine take_run (i := 12) (some 27) rfl rfl (by kernel_rfl) (by kernel_rfl) (by kernel_rfl) (fun _ _ _ h => h) rfl (by assumption) (by intro w hSw; (try dsimp only at hSw); go_simp; (try with_reducible rfl)) ?_
        simp only [Act.put, List.setIfInBounds_toArray, List.set_cons_zero, List.set_cons_succ]
        refine take_run (i := 13) (some 28) rfl rfl (by kernel_rfl) (by kernel_rfl) (by kernel_rfl) (fun _ _ _ h => h) rfl (by assumption) (by intro w hSw; (try dsimp only at hSw); go_simp; (try with_reducible rfl)) ?_
        simp only [Act.put, List.setIfInBounds_toArray, List.set_cons_zero, List.set_cons_succ]
        refine take_run (i := 14) (some 29) rfl rfl (by kernel_rfl) (by kernel_rfl) (by kernel_rfl) (fun _ _ _ h => h) rfl (by assumption) (by intro w hSw; (try dsimp only at hSw); go_simp; (try with_reducible rfl)) ?_
        simp only [Act.put, List.setIfInBounds_toArray, List.set_cons_zero, List.set_cons_succ]
        refine take_run (i := 15) (some 30) rfl rfl (by kernel_rfl) (by kernel_rfl) (by kernel_rfl) (fun _ _ _ h => h) rfl (by assumption) (by intro w hSw; (try dsimp only at hSw); go_simp; (try with_reducible rfl)) ?_
        simp only [Act.put, List.setIfInBounds_toArray, List.set_cons_zero, List.set_cons_succ]
        refine wpAnyH_ready (rs := [16]) (by kernel_rfl) (by simp) ?_
        refine AllReadyH.cons rfl (fun K hK => ?_) AllReadyH.nil
        go_simp
        refine (runes_Key key _ (hT1.non hHeld.2.2.2.2)).mono ?_
        rintro e w2 ⟨rfl, hm2⟩
        rw [o1]
        have hm3 := hHeld.2.2.2.2.trans' hm2
        have b3 := HH.out _ hm3
        clear hHeld
        have dq3 := HQ.out _ hm3
        refine hK.out _ _ (⟨by simpa using b3.cell 0, by simpa using b3.cell 1, by simpa using b3.cell 2, dq3, hm3⟩) (fun hHeld => ?_)
        clear hK K
        refine take_run (i := 17) (some 32) rfl rfl (by kernel_rfl) (by kernel_rfl) (by kernel_rfl) (fun _ _ _ h => h) rfl (by assumption) (by intro w hSw; (try dsimp only at hSw); go_simp; (try with_reducible rfl)) ?_
        simp only [Act.put, List.setIfInBounds_toArray, List.set_cons_zero, List.set_cons_succ]
        refine take_run (i := 18) (some 33) rfl rfl (by kernel_rfl) (by kernel_rfl) (by kernel_rfl) (fun _ _ _ h => h) rfl (by assumption) (by intro w hSw; (try dsimp only at hSw); go_simp; (try with_reducible rfl)) ?_
        simp only [Act.put, List.setIfInBounds_toArray, List.set_cons_zero, List.set_cons_succ]
        refine take_run (i := 19) (some 34) rfl rfl (by kernel_rfl) (by kernel_rfl) (by kernel_rfl) (fun _ _ _ h => h) rfl (by assumption) (by intro w hSw; (try dsimp only at hSw); go_simp; (try with_reducible rfl)) ?_
        simp only [Act.put, List.setIfInBounds_toArray, List.set_cons_zero, List.set_cons_succ]
        refine take_run (i := 20) (some 35) rfl rfl (by kernel_rfl) (by kernel_rfl) (by kernel_rfl) (fun _ _ _ h => h) rfl (by assumption) (by intro w hSw; (try dsimp only at hSw); go_simp; (try with_reducible rfl)) ?_
        simp only [Act.put, List.setIfInBounds_toArray, List.set_cons_zero, List.set_cons_succ]
        refine take_run (i := 21) (some 36) rfl rfl (by kernel_rfl) (by kernel_rfl) (by kernel_rfl) (fun _ _ _ h => h) rfl (by assumption) (by intro w hSw; (try dsimp only at hSw); go_simp; (try with_reducible rfl)) ?_
        simp only [Act.put, List.setIfInBounds_toArray, List.set_cons_zero, List.set_cons_succ]
        refine wpAnyH_ready (rs := [22]) (by kernel_rfl) (by simp) ?_
        refine AllReadyH.cons rfl (fun K hK => ?_) AllReadyH.nil
        go_simp
        refine (runes_Val val _ (hT1.non hHeld.2.2.2.2)).mono ?_
        rintro e w4 ⟨rfl, hm4⟩
        rw [o2]
        have hm5 := hHeld.2.2.2.2.trans' hm4
        have b5 := HH.out _ hm5
        clear hHeld
        have dq5 := HQ.out _ hm5
        refine hK.out _ _ (⟨by simpa using b5.cell 0, by simpa using b5.cell 1, by simpa using b5.cell 2, dq5, hm5⟩) (fun hHeld => ?_)
        clear hK K
        refine take_run (i := 23) (some 38) rfl rfl (by kernel_rfl) (by kernel_rfl) (by kernel_rfl) (fun _ _ _ h => h) rfl (by assumption) (by intro w hSw; (try dsimp only at hSw); go_simp; (try with_reducible rfl)) ?_
        simp only [Act.put, List.setIfInBounds_toArray, List.set_cons_zero, List.set_cons_succ]
        refine take_run (i := 24) (some 39) rfl rfl (by kernel_rfl) (by kernel_rfl) (by kernel_rfl) (fun _ _ _ h => h) rfl (by assumption) (by intro w hSw; (try dsimp only at hSw); go_simp; (try with_reducible rfl)) ?_
        simp only [Act.put, List.setIfInBounds_toArray, List.set_cons_zero, List.set_cons_succ]
        refine take_run (i := 25) (some 40) rfl rfl (by kernel_rfl) (by kernel_rfl) (by kernel_rfl) (fun _ _ _ h => h) rfl (by assumption) (by intro w hSw; (try dsimp only at hSw); go_simp; (try with_reducible rfl)) ?_
        simp only [Act.put, List.setIfInBounds_toArray, List.set_cons_zero, List.set_cons_succ]
        refine take_run (i := 26) (some 41) rfl rfl (by kernel_rfl) (by kernel_rfl) (by kernel_rfl) (fun _ _ _ h => h) rfl (by assumption) (by intro w hSw; (try dsimp only at hSw); go_simp; (try with_reducible rfl)) ?_
        simp only [Act.put, List.setIfInBounds_toArray, List.set_cons_zero, List.set_cons_succ]
        refine take_run (i := 27) (some 42) rfl rfl (by kernel_rfl) (by kernel_rfl) (by kernel_rfl) (fun _ _ _ h => h) rfl (by assumption) (by intro w hSw; (try dsimp only at hSw); go_simp; (try with_reducible rfl)) ?_
        simp only [Act.put, List.setIfInBounds_toArray, List.set_cons_zero, List.set_cons_succ]
        refine take_run (i := 28) (some 43) rfl rfl (by kernel_rfl) (by kernel_rfl) (by kernel_rfl) (fun _ _ _ h => h) rfl (by assumption) (by intro w hSw; (try dsimp only at hSw); go_simp; (try with_reducible rfl)) ?_
        simp only [Act.put, List.setIfInBounds_toArray, List.set_cons_zero, List.set_cons_succ]
        refine take_run (i := 29) (some 44) rfl rfl (by kernel_rfl) (by kernel_rfl) (by kernel_rfl) (fun _ _ _ h => h) rfl (by assumption) (by intro w hSw; (try dsimp only at hSw); go_simp; (try with_reducible rfl)) ?_
        simp only [Act.put, List.setIfInBounds_toArray, List.set_cons_zero, List.set_cons_succ]
        refine wpAnyH_done (by kernel_rfl) ?_ _
        -- END2
        clear hT1
        go_wp2
        go_roundw
        case rel => exact ⟨k + 1, by omega, by go_num, HM.out.trans' hHeld.2.2.2.2⟩
        case measure => simp [intOf]; omega
    · have hkn : ¬ (k : Int) < n := by omega
      go_wp2
      go_ret
      exact ⟨rfl, hm⟩
end Go.Proofs.YtdclfdinhdaadaaGreatDoor
