/- Package bag: the contracts of Put. -/
import Derived.Test.YtlkifobajdafpaaBag
import Derived.Deep.RegionLaw
namespace Go.Proofs.Ytlkifobajdafpaa
open Go.RowKit

theorem run_packet1 (w : World) (a b : Int) (A : Option Addr) (n c : Nat) :
    (Instr.buildSlice 46 1 #[(0, .agg #[.int .i64 a, .int .i64 b, .slice A n c])]).run Try.prog w = .ok (.slice (some ⟨w.heap.size, 0, none⟩) 1 1) (w.alloc (.cells #[.int .i64 a, .int .i64 b, .slice A n c] 48)) := by kernel_rfl

theorem packet_info : (Try.prog.info? 48).map (fun i => (i.zero, i.size, i.bytes)) = some (some (.agg #[.int .i64 0, .int .i64 0, .slice none 0 0]), 3, 40) := by kernel_rfl

set_option maxRecDepth 100000 in
set_option maxHeartbeats 2000000 in
theorem bag_Put_ok (b B : Nat) (A : Option Addr) (n c : Nat) (qs : List Pv) (f t : Int) (A2 : Option Addr) (n2 c2 : Nat) (d : List UInt8) (w : World) (hb : Blk w b 76 #[.slice A n c]) (hown : OwnP w B (.slice A n c) qs)
    (hn : n < 512) (hf1 : 1 ≤ f) (hf9 : f ≤ 9) (ht1 : 1 ≤ t) (ht9 : t ≤ 9) (hne : f ≠ t) (hd : RdB w B A2 n2 d) (hl : d.length ≤ 140737488355328) (hBb : B ≤ b) :
    Calls Try.prog 33 #[.pointer (some ⟨b, 0, none⟩), .agg #[.int .i64 f, .int .i64 t, .slice A2 n2 c2]] w fun e w' => ∃ (A' : Option Addr) (n' c' : Nat) (v' : Value), e = .returned (.bool true) ∧ RdB w' B A' n' d ∧
      Blk w' b 76 #[v'] ∧ OwnP w' B v' (qs ++ [⟨f, t, A', n', c'⟩]) ∧ Mod (fun k => k = b ∨ (Value.slice A n c).ownBlock = some k) w w' ∧ (v'.ownBlock = (Value.slice A n c).ownBlock ∨ ∃ g, v'.ownBlock = some g ∧ w.heap.size ≤ g) := by
  obtain ⟨i0, hi, hz0, hz1, hz2⟩ := info_parts packet_info
  have Hi := Lib.hid hi; have Hz0 := Lib.hid hz0; have Hz1 := Lib.hid hz1; have Hz2 := Lib.hid hz2
  clear hi hz0 hz1 hz2
  have hft : (f == t) = false := by simp [hne]
  have c0 := hb.cell 0
  have f0 := hb.frozen 0
  have hlt := hb.lt
  simp at c0
  clear hne
  go_enter Try.func33, Try.ntmps33
  go_wp2_with fail
  refine (bag_node_yes f _ hf1 hf9).mono ?_
  rintro e w1 ⟨rfl, rfl⟩
  go_wp2_with fail
  refine (bag_node_yes t _ ht1 ht9).mono ?_
  rintro e w1 ⟨rfl, rfl⟩
  go_wp2_with fail
  obtain ⟨P, HP⟩ : ∃ P, Hid (P = w.heap.size) := ⟨_, rfl⟩
  obtain ⟨w0, hw0⟩ : ∃ w0, w0 = w.alloc (.cells #[.int .i64 f, .int .i64 t, .slice A2 n2 c2] 48) := ⟨_, rfl⟩
  have hb0 : Blk w0 b 76 #[.slice A n c] := by rw [hw0]; exact hb.alloc _
  have hown0 : OwnP w0 B (.slice A n c) qs := by rw [hw0]; exact hown.alloc _
  have hd0 : RdB w0 B A2 n2 d := by rw [hw0]; exact hd.kp (Kp.non ((Mod.refl _ _).alloc _))
  have hP0 : Blk w0 P 48 #[.int .i64 f, .int .i64 t, .slice A2 n2 c2] := by rw [hw0, HP.out]; exact Blk.new _ _ _
  have hm0 : Mod Non w w0 := by rw [hw0]; exact (Mod.refl _ _).alloc _
  rw [← HP.out, ← hw0]
  have HW0 := Lib.hid hw0
  have hB0 : B ≤ w0.heap.size := by have := hm0.size; omega
  have hPb : P ≠ b := by have := HP.out; omega
  have hvP : ¬ (Value.slice A n c).ownBlock = some P := fun h => by have := (World.ownsRow.lt hown P h).2; have := HP.out; omega
  have hvb : ¬ (Value.slice A n c).ownBlock = some b := own_ne_blk hown hb (by decide)
  clear hw0 c0 f0
  have c0 := hb0.cell 0
  have f0 := hb0.frozen 0
  have p0 := hP0.cell 0
  have p1 := hP0.cell 1
  have p2 := hP0.cell 2
  simp at c0 p0 p1 p2
  have hql := hown0.form
  obtain ⟨_, _, _, hqe, hql, _⟩ := hql
  have hqn : qs.length = n := by injection hqe with _ h2 _; rw [← hql.out, h2]
  have hmx : qs.length + 1 ≤ maxLen := by simp only [maxLen]; omega
  have hmb : (qs.length + 1) * 40 ≤ 140737488355328 := by omega
  have HQN := Lib.hid hqn
  clear hqe hql hqn
  go_region_law
    (first
      | (go_simp
         go_at_call 41
         refine (bag_copied f t A2 n2 c2 d B _ (by exact hd0.drew) hl (by exact hB0)).mono ?_
         rintro e w1 ⟨A', n', c', rfl, hd1, hm1⟩
         have hb1 : Blk w1 b 76 #[.slice A n c] := Blk.mod (w := w0.drew) hb0 hm1 fun h => h
         have hP1 : Blk w1 P 48 #[.int .i64 f, .int .i64 t, .slice A2 n2 c2] := Blk.mod (w := w0.drew) hP0 hm1 fun h => h
         have hown1 : OwnP w1 B (.slice A n c) qs := OwnP.non (w := w0.drew) hown0 hm1
         have hB1 : B ≤ (w1.alloc (.cells #[.int .i64 f, .int .i64 t, .slice A' n' c'] 48)).heap.size := by have := hm1.size; simp only [World.size_alloc]; have h2 : w0.drew.heap.size = w0.heap.size := rfl; omega
         have hnews : ∀ u ∈ [Value.int .i64 f, .int .i64 t, .slice A' n' c'], u.oneCell' = true := by intro u hu; simp at hu; rcases hu with rfl | rfl | rfl <;> rfl
         have hbl1 : b < w1.heap.size := hb1.lt
         have c01 := hb1.cell 0
         have p01 := hP1.cell 0
         have p11 := hP1.cell 1
         have p21 := hP1.cell 2
         simp at c01 p01 p11 p21)
      | (refine step_append_any _ (by rfl) (.tmp 41) (.tmp 44) _ (by rfl) B 48 i0 _ 3 40 Try.underlying46 Hi.out Hz0.out Hz1.out Hz2.out rfl (by omega) (.slice A n c) qs.length (pcs qs) (by rfl)
           (by exact hown1.alloc _) (fun _ => True) _ 1 1 [.int .i64 f, .int .i64 t, .slice A' n' c'] (by rfl) (by exact reads_new w1 #[.int .i64 f, .int .i64 t, .slice A' n' c'] _ _ trivial 3 rfl) hnews hmx hmb (by exact hB1) ?_
         intro v2 w2 hown2 hg2 hat2
         have hm2 := mod_of_grown hg2
         have hownP : OwnP w2 B v2 (qs ++ [⟨f, t, A', n', c'⟩]) := by unfold OwnP; rw [pcs_append, List.length_append]; exact hown2
         clear hown2 hg2
         obtain ⟨A5, n5, c5, rfl, hl5, _⟩ := hownP.form
         have hb2 : Blk w2 b 76 #[.slice A n c] := (hb1.alloc _).mod hm2 hvb
         have hP2 : Blk w2 P 48 #[.int .i64 f, .int .i64 t, .slice A2 n2 c2] := (hP1.alloc _).mod hm2 hvP
         have c02 := hb2.cell 0
         have f02 := hb2.frozen 0
         have p02 := hP2.cell 0
         have p12 := hP2.cell 1
         have p22 := hP2.cell 2
         simp at c02 p02 p12 p22))
  all_goals
    have hb3 := hb2.set_ 0 (.slice A5 n5 c5)
    have hown3 : OwnP (w2.setCell ⟨b, 0, none⟩ (.slice A5 n5 c5)) B (.slice A5 n5 c5) (qs ++ [⟨f, t, A', n', c'⟩]) := hownP.mod (Mod.one _ _ _ _) (fun g hg hg' => by unfold One at hg'; subst hg'; exact own_ne_blk hownP hb2 (by decide) hg)
    have hd3 : RdB (w2.setCell ⟨b, 0, none⟩ (.slice A5 n5 c5)) B A' n' d := hd1.kp ((((Kp.non ((Mod.refl Non w1).alloc _)).trans (Kp.of_mod hm2 (fun k _ hk => (hown1.alloc _).nb k hk)))).setCell hb2 (by decide) hBb _)
    have hmod : Mod (fun k => k = b ∨ (Value.slice A n c).ownBlock = some k) w (w2.setCell ⟨b, 0, none⟩ (.slice A5 n5 c5)) :=
      (((((hm0.trans' hm1.undrew).alloc _).non).trans hm2 (fun _ _ h => .inr h)).trans (Mod.one _ _ _ _) (fun _ _ h => .inl h))
    have hat3 : (Value.slice A5 n5 c5).ownBlock = (Value.slice A n c).ownBlock ∨ ∃ g, (Value.slice A5 n5 c5).ownBlock = some g ∧ w.heap.size ≤ g := by
      rcases hat2 with h | h
      · exact .inl h
      · refine .inr ⟨_, h, ?_⟩
        have h1 := hm0.size
        have h2 := hm1.undrew.size
        simp only [World.size_alloc]
        omega
    clear hb2 hownP hd1 hm2 hat2 hm1 hb1 hP1 hown1 hP2
    go_wp2
    go_ret
    exact ⟨A', n', c', _, rfl, hd3, hb3, hown3, hmod, hat3⟩

set_option maxRecDepth 100000 in
set_option maxHeartbeats 2000000 in
theorem bag_Put_no (b : Nat) (A : Option Addr) (n c : Nat) (f t : Int) (A2 : Option Addr) (n2 c2 : Nat) (w : World) (hb : Blk w b 76 #[.slice A n c])
    (h : (f < 1 ∨ 9 < f) ∨ (t < 1 ∨ 9 < t) ∨ f = t ∨ 512 ≤ n) :
    Calls Try.prog 33 #[.pointer (some ⟨b, 0, none⟩), .agg #[.int .i64 f, .int .i64 t, .slice A2 n2 c2]] w fun e w' => e = .returned (.bool false) ∧ Mod Non w w' := by
  have c0 := hb.cell 0
  have hlt := hb.lt
  simp at c0
  by_cases hf : f < 1 ∨ 9 < f
  · go_enter Try.func33, Try.ntmps33
    go_wp2_with fail
    refine (bag_node_no f _ hf).mono ?_
    rintro e w1 ⟨rfl, rfl⟩
    go_wp2
    go_ret
    exact ⟨rfl, (Mod.refl _ _).alloc _⟩
  · by_cases ht : t < 1 ∨ 9 < t
    · go_enter Try.func33, Try.ntmps33
      go_wp2_with fail
      refine (bag_node_yes f _ (by omega) (by omega)).mono ?_
      rintro e w1 ⟨rfl, rfl⟩
      go_wp2_with fail
      refine (bag_node_no t _ ht).mono ?_
      rintro e w1 ⟨rfl, rfl⟩
      go_wp2
      go_ret
      exact ⟨rfl, (Mod.refl _ _).alloc _⟩
    · by_cases hft : f = t
      · have e1 : (f == t) = true := by simp [hft]
        clear hft
        go_enter Try.func33, Try.ntmps33
        go_wp2_with fail
        refine (bag_node_yes f _ (by omega) (by omega)).mono ?_
        rintro e w1 ⟨rfl, rfl⟩
        go_wp2_with fail
        refine (bag_node_yes t _ (by omega) (by omega)).mono ?_
        rintro e w1 ⟨rfl, rfl⟩
        go_wp2
        go_ret
        exact ⟨rfl, (Mod.refl _ _).alloc _⟩
      · have e1 : (f == t) = false := by simp [hft]
        have hn : (512 : Int) ≤ n := by omega
        clear hft h
        go_enter Try.func33, Try.ntmps33
        go_wp2_with fail
        refine (bag_node_yes f _ (by omega) (by omega)).mono ?_
        rintro e w1 ⟨rfl, rfl⟩
        go_wp2_with fail
        refine (bag_node_yes t _ (by omega) (by omega)).mono ?_
        rintro e w1 ⟨rfl, rfl⟩
        go_wp2
        go_ret
        exact ⟨rfl, (Mod.refl _ _).alloc _⟩

theorem bag_Put_nil (f t : Int) (A2 : Option Addr) (n2 c2 : Nat) (w : World) :
    Calls Try.prog 33 #[.pointer none, .agg #[.int .i64 f, .int .i64 t, .slice A2 n2 c2]] w fun e w' => e = .returned (.bool false) ∧ Mod Non w w' := by
  go_enter Try.func33, Try.ntmps33
  go_wp2
  go_ret
  exact ⟨rfl, (Mod.refl _ _).alloc _⟩
end Go.Proofs.Ytlkifobajdafpaa
