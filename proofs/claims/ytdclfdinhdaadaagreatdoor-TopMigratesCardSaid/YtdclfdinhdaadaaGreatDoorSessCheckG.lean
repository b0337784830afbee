/- Package sess: the contract of Check where all is well. -/
import Derived.Test.YtdclfdinhdaadaaGreatDoorMgD
namespace Go.Proofs.YtdclfdinhdaadaaGreatDoor
open Go.RowKit

/-- sessions that may be -/
structure SesOk (ss : List Se) : Prop where
  each : ∀ s ∈ ss, s.last.client = s.client ∧ s.last.seq = s.seq ∧ s.last.May
  rise : ss.Pairwise fun a b => a.client < b.client

theorem ses_at {ss : List Se} (h : SesOk ss) {k : Nat} {p q : Se} (hq : ss[k]? = some q) (hp : ss[k + 1]? = some p) : q.client < p.client := by
  obtain ⟨h1, rfl⟩ := List.getElem?_eq_some_iff.1 hq
  obtain ⟨h2, rfl⟩ := List.getElem?_eq_some_iff.1 hp
  exact List.pairwise_iff_getElem.1 h.rise k (k + 1) h1 h2 (by omega)

set_option maxRecDepth 100000 in
set_option maxHeartbeats 4000000 in
theorem sess_Check (A : Option Addr) (n c : Nat) (R : Nat → Prop) (ss : List Se) (w : World) (hr : Reads w R 8 A n (ecs ss)) (hn : n ≤ 100000) (hok : SesOk ss) (hT : T8 w) :
    Calls Tryz.prog 69 #[.slice A n c] w fun e w' => e = .returned (.int .i64 0) ∧ Mod Non w w' := by
  have HOK := Lib.hid hok
  clear hok
  go_enter Tryz.func69, Tryz.ntmps69
  go_wp2
  go_loopw [7] (fun i wr => ∃ k : Nat, k ≤ n ∧ i = .int .i64 k ∧ Mod Non w wr) (fun i _ => n - (intOf i).toNat)
  case atStart => exact ⟨0, by omega, rfl, Mod.refl _ _⟩
  case round =>
    obtain ⟨k, hk, rfl, hm⟩ := hrel
    by_cases hlt : k < n
    · have hrr := hr.mod hm fun _ _ _ h => h
      obtain ⟨b, off, s, hA, hbk, _, hpk, d0, d1, d2, d3, d4, d5, d6, d7⟩ := hrr.se hlt
      obtain ⟨o1, o2, o3⟩ := HOK.out.each _ (List.mem_of_getElem? hpk)
      obtain ⟨cl, sq, ⟨lc, ls, le, lf, lv, lr⟩⟩ := s
      simp only at o1 o2 d0 d1 d2 d3 d4 d5 d6 d7
      subst o1 o2
      have hkn : (k : Int) < n := by omega
      have hprev : 0 < k → ∃ q : Int, wr.cell? ⟨b, off + (k - 1) * 8, none⟩ = some (.int .i64 q) ∧ q < lc := by
        intro h0
        obtain ⟨b2, off2, q, hA2, _, _, hqk, e0, _⟩ := hrr.se (k := k - 1) (by omega)
        rw [hA] at hA2
        injection hA2 with hA2
        injection hA2 with e1 e2 _
        subst e1 e2
        exact ⟨q.client, e0, ses_at HOK.out hqk (by rw [show k - 1 + 1 = k by omega]; exact hpk)⟩
      subst hA
      have HM := Lib.hid hm
      have H3 := Lib.hid o3
      have HRR := Lib.hid hrr
      clear hpk hrr hm o3
      by_cases hk0 : k = 0
      · subst hk0
        simp only [Nat.zero_mul, Nat.add_zero] at d0 d1 d2 d3 d4 d5 d6 d7
        rw [show ((0 : Nat) : Int) = 0 from rfl]
        clear hprev
        go_wp2
        go_quiet (fail)
        go_wp2_with fail
        refine (answer_Check ⟨lc, ls, le, lf, lv, lr⟩ _ H3.out (hT.non ((HM.out.alloc _).drewN _))).mono ?_
        rintro e w1 ⟨rfl, hm1⟩
        have hm2 := ((HM.out.alloc _).drewN _).trans' hm1
        have HM2 := Lib.hid hm2
        clear hm1 hm2
        go_wp2
        go_roundw
        case rel => exact ⟨1, by omega, by go_num, HM2.out⟩
        case measure => simp [intOf]; omega
      · have hk0' : (0 : Int) < (k : Int) := by omega
        have hk1' : decide ((0 : Int) < (k : Int)) = true := by simpa using hk0'
        have hk2' : decide (0 < k) = true := by simp; omega
        have q0 : IntKind.i64.wrap ((k : Int) - 1) = (k : Int) - 1 := by rw [IntKind.wrap_i64]; omega
        have q2 : (0 : Int) ≤ (k : Int) - 1 := by omega
        have q3 : (k : Int) - 1 < (n : Int) := by omega
        have q4 : ((k : Int) - 1).toNat = k - 1 := by omega
        have q5 : (1 : Int) ≤ (k : Int) := by omega
        obtain ⟨qc, dq0, hle⟩ := hprev (by omega)
        have hle1 : ¬ lc ≤ qc := by omega
        have hle2 : decide (lc ≤ qc) = false := by simpa using hle1
        have HLE := Lib.hid hle
        have hle3 : decide (qc < lc) = true := by simpa using hle
        clear hprev hle
        go_wp2
        go_quiet (fail)
        go_wp2_with fail
        refine (answer_Check ⟨lc, ls, le, lf, lv, lr⟩ _ H3.out (hT.non ((HM.out.alloc _).drewN _))).mono ?_
        rintro e w1 ⟨rfl, hm1⟩
        have hm2 := ((HM.out.alloc _).drewN _).trans' hm1
        have HM2 := Lib.hid hm2
        clear hm1 hm2 hle1 HLE
        go_wp2
        go_roundw
        case rel => exact ⟨k + 1, by omega, by go_num, HM2.out⟩
        case measure => simp [intOf]; omega
    · have hkn : ¬ (k : Int) < n := by omega
      go_wp2
      go_ret
      exact ⟨rfl, hm⟩
end Go.Proofs.YtdclfdinhdaadaaGreatDoor
