/- Packages kvtwo, migr: the contracts of Plain and Check where all is well, and of Clone and Up. -/
import Derived.Test.YtdclfdinhdaadaaGreatDoorContainsG
import Derived.Test.YtdclfdinhdaadaaGreatDoorPairSetG
import Derived.Test.YtdclfdinhdaadaaGreatDoorKvCheckG
namespace Go.Proofs.YtdclfdinhdaadaaGreatDoor
open Go.RowKit

/-- pairs with another revision -/
def rev (r : Int) (ps : List Pa) : List Pa := ps.map fun p => { p with rev := r }

theorem rev_length (r : Int) (ps : List Pa) : (rev r ps).length = ps.length := by simp [rev]
theorem rev_set (r : Int) (ps : List Pa) (k : Nat) (h : k < ps.length) : (rev r (ps.take k) ++ ps.drop k).set k { ps[k] with rev := r } = rev r (ps.take (k + 1)) ++ ps.drop (k + 1) := by
  have hl : (rev r (ps.take k)).length = k := by rw [rev_length, List.length_take]; omega
  rw [List.set_append_right _ _ (by omega), List.drop_eq_getElem_cons h, hl, Nat.sub_self, List.set_cons_zero, List.take_succ_eq_append_getElem h]
  unfold rev
  rw [List.map_append, List.append_assoc]
  rfl

/-- a state -/
structure St where
  schema : Int
  pairs : List Pa
  sess : List Se

/-- pairs that may be, in a schema -/
structure PasOk (v : Int) (ps : List Pa) : Prop where
  few : ps.length ≤ 64
  each : ∀ p ∈ ps, p.Ok ∧ (if v = 1 then p.rev = 0 else 1 ≤ p.rev ∧ p.rev ≤ 4294967296)
  rise : Rise ps

/-- a state that may be -/
structure St.Ok (s : St) : Prop where
  schema : s.schema = 1 ∨ s.schema = 2
  pairs : PasOk s.schema s.pairs
  sess : SesOk s.sess
  few : s.sess.length ≤ 100000
  revs : s.schema = 1 → ∀ x ∈ s.sess, x.last.rev = 0

theorem rev_ok {ps : List Pa} (h : PasOk 2 ps) : PasOk 1 (rev 0 ps) := by
  refine ⟨by simpa [rev] using h.few, ?_, ?_⟩
  · intro p hp
    simp only [rev, List.mem_map] at hp
    obtain ⟨q, hq, rfl⟩ := hp
    exact ⟨(h.each q hq).1, rfl⟩
  · exact List.Pairwise.map _ (fun a b h => h) h.rise

theorem rev_up {ps : List Pa} (h : PasOk 1 ps) : PasOk 2 (rev 1 ps) := by
  refine ⟨by simpa [rev] using h.few, ?_, ?_⟩
  · intro p hp
    simp only [rev, List.mem_map] at hp
    obtain ⟨q, hq, rfl⟩ := hp
    exact ⟨(h.each q hq).1, by simp⟩
  · exact List.Pairwise.map _ (fun a b h => h) h.rise

set_option maxHeartbeats 1000000 in
theorem kvtwo_Plain (A : Option Addr) (n c : Nat) (R : Nat → Prop) (ps : List Pa) (w : World) (hr : Reads w R 3 A n (pcs ps)) (hn : n ≤ 100000) :
    Calls Tryz.prog 112 #[.slice A n c] w fun e w' => ∃ v, e = .returned v ∧ OwnP w' w.heap.size v (rev 0 ps) ∧ Mod Non w w' := by
  have hl : ps.length = n := by have := hr.1; rw [pcs_length] at this; omega
  go_enter Tryz.func112, Tryz.ntmps112
  go_wp2_with fail
  refine (slices_Clone_Pa A n c R ps _ hr (by omega)).mono ?_
  rintro e w1 ⟨v, rfl, hown, hm1⟩
  obtain ⟨A2, m, c2, rfl, hm2, hc2⟩ := hown.form
  have hmn : m = n := by have := hm2.out; omega
  subst hmn
  clear hm2 hr
  have HL := Lib.hid hl
  clear hl
  go_wp2_with fail
  go_loopw [9] (fun i wr => ∃ k : Nat, k ≤ m ∧ i = .int .i64 k ∧ OwnP wr w.heap.size (.slice A2 m c2) (rev 0 (ps.take k) ++ ps.drop k) ∧ Mod Non w wr) (fun i _ => m - (intOf i).toNat)
  case atStart => exact ⟨0, by omega, rfl, by simpa [rev] using hown, hm1⟩
  case round =>
    obtain ⟨k, hk, rfl, ho, hm⟩ := hrel
    have hle : (rev 0 (ps.take k) ++ ps.drop k).length = m := by simp [rev]; have := HL.out; omega
    by_cases hlt : k < m
    · obtain ⟨g, cur, rfl, hg1, hg2, hblk⟩ := ho.at (by omega)
      have hkn : (k : Int) < m := by omega
      have hkq : k < ps.length := by have := HL.out; omega
      have hpk : (rev 0 (ps.take k) ++ ps.drop k)[k]? = some ps[k] := by
        rw [List.getElem?_append_right (by simp [rev]; omega)]
        simp [rev, Nat.min_eq_left (Nat.le_of_lt hkq), hkq]
      have HO := Lib.hid ho
      have HPK := Lib.hid hpk
      clear ho hpk hle
      obtain ⟨b, off, p, hA, hb, _, hp, d0, d1, d2⟩ := HO.out.reads.pa hlt
      injection hA with hA
      injection hA with e1 e2 _
      subst e1 e2
      simp only [Nat.zero_add] at d0 d1 d2
      clear hp
      have f2 := hblk.frozen (k * 3 + 2)
      have HM := Lib.hid hm
      clear hm hm1 hown
      go_wp2
      go_roundw
      case rel =>
        refine ⟨k + 1, by omega, by go_num, ?_, HM.out.setCell (p := ⟨g, k * 3 + 2, none⟩) (fun h => absurd h (Nat.not_lt.2 hg1)) _⟩
        have := HO.out.setRev HPK.out 0
        rwa [rev_set] at this
      case measure => simp [intOf]; omega
    · have hkn : ¬ (k : Int) < m := by omega
      have hkm : k = m := by omega
      subst hkm
      go_wp2
      go_ret
      refine ⟨_, rfl, ?_, hm⟩
      rwa [List.take_of_length_le (by have := HL.out; omega), List.drop_eq_nil_of_le (by have := HL.out; omega), List.append_nil] at ho
theorem kvtwo_Check (A : Option Addr) (n c : Nat) (R : Nat → Prop) (ps : List Pa) (w : World) (hr : Reads w R 3 A n (pcs ps)) (hok : PasOk 2 ps) (hT : T8 w) :
    Calls Tryz.prog 73 #[.slice A n c] w fun e w' => e = .returned (.int .i64 0) ∧ Mod Non w w' := by
  have hl : ps.length = n := by have := hr.1; rw [pcs_length] at this; omega
  have hn : n ≤ 64 := by have := hok.few; omega
  have HL := Lib.hid hl
  clear hl
  go_enter Tryz.func73, Tryz.ntmps73
  go_wp2_with fail
  refine (pair_ContainsFunc A n c R ps _ hr (by omega) fun p hp => by simpa using (hok.each p hp).2).mono ?_
  rintro e w1 ⟨rfl, hm1⟩
  go_wp2_with fail
  refine (kvtwo_Plain A n c R ps _ (hr.mod hm1 fun _ _ _ h => h) (by omega)).mono ?_
  rintro e w2 ⟨v, rfl, hown, hm2⟩
  obtain ⟨A2, m, c2, rfl, hm3, hc2⟩ := hown.form
  have hm12 := hm1.trans' hm2
  have H1 := rev_ok hok
  have hm64 : m ≤ 64 := by have := hm3.out; rw [rev_length] at this; have := HL.out; omega
  clear hm3
  go_wp2_with fail
  refine (kvone_Check A2 m c2 _ (rev 0 ps) _ hown.reads hm64 (fun p hp => by simpa using H1.each p hp) H1.rise (hT.non hm12)).mono ?_
  rintro e w3 ⟨rfl, hm4⟩
  go_wp2
  go_ret
  exact ⟨rfl, hm12.trans' hm4⟩

/-- a state's value, as it stands -/
abbrev stv (v : Int) (p q : Value) : Value := .agg #[.int .i64 v, p, q]

theorem migr_Check (s : St) (A1 A2 : Option Addr) (n1 c1 n2 c2 : Nat) (R1 R2 : Nat → Prop) (w : World) (h1 : Reads w R1 3 A1 n1 (pcs s.pairs)) (h2 : Reads w R2 8 A2 n2 (ecs s.sess)) (hok : s.Ok) (hT : T8 w) :
    Calls Tryz.prog 31 #[stv s.schema (.slice A1 n1 c1) (.slice A2 n2 c2)] w fun e w' => e = .returned (.int .i64 0) ∧ Mod Non w w' := by
  obtain ⟨v, ps, ss⟩ := s
  simp only at h1 h2
  obtain ⟨o1, o2, o3, o4, o5⟩ := hok
  simp only at o1 o2 o3 o4 o5
  have hl1 : n1 ≤ 64 := by have := h1.1; rw [pcs_length] at this; have := o2.few; omega
  have hl2 : n2 ≤ 100000 := by have := h2.1; rw [ecs_length] at this; omega
  have H5 := Lib.hid o5
  clear o5 o4
  rcases o1 with rfl | rfl
  · go_enter Tryz.func31, Tryz.ntmps31
    go_wp2_with fail
    have hm0 := (Mod.refl Non w).alloc (.cells #[.int .i64 1, .slice A1 n1 c1, .slice A2 n2 c2] 25)
    refine (sess_Check A2 n2 c2 R2 ss _ (h2.mod hm0 fun _ _ _ h => h) hl2 o3 (hT.non hm0)).mono ?_
    rintro e w1 ⟨rfl, hm1⟩
    have b0 := (Blk.new w 25 #[.int .i64 1, .slice A1 n1 c1, .slice A2 n2 c2]).mod hm1 (fun h => h)
    have e0 := b0.cell 0
    have e1 := b0.cell 1
    have e2 := b0.cell 2
    simp at e0 e1 e2
    have hm01 := hm0.trans' hm1
    go_wp2_with fail
    refine (sess_ContainsFunc A2 n2 c2 R2 ss _ (h2.mod hm01 fun _ _ _ h => h) hl2 (H5.out trivial)).mono ?_
    rintro e w2 ⟨rfl, hm2⟩
    have b0 := b0.mod hm2 (fun h => h)
    have e0 := b0.cell 0
    have e1 := b0.cell 1
    have e2 := b0.cell 2
    simp at e0 e1 e2
    have hm02 := hm01.trans' hm2
    go_wp2_with fail
    refine (kvone_Check A1 n1 c1 R1 ps _ (h1.mod hm02 fun _ _ _ h => h) hl1 (fun p hp => by simpa using o2.each p hp) o2.rise (hT.non hm02)).mono ?_
    rintro e w3 ⟨rfl, hm3⟩
    go_wp2
    go_ret
    exact ⟨rfl, hm02.trans' hm3⟩
  · go_enter Tryz.func31, Tryz.ntmps31
    go_wp2_with fail
    have hm0 := (Mod.refl Non w).alloc (.cells #[.int .i64 2, .slice A1 n1 c1, .slice A2 n2 c2] 25)
    refine (sess_Check A2 n2 c2 R2 ss _ (h2.mod hm0 fun _ _ _ h => h) hl2 o3 (hT.non hm0)).mono ?_
    rintro e w1 ⟨rfl, hm1⟩
    have b0 := (Blk.new w 25 #[.int .i64 2, .slice A1 n1 c1, .slice A2 n2 c2]).mod hm1 (fun h => h)
    have e0 := b0.cell 0
    have e1 := b0.cell 1
    have e2 := b0.cell 2
    simp at e0 e1 e2
    have hm01 := hm0.trans' hm1
    go_wp2_with fail
    refine (kvtwo_Check A1 n1 c1 R1 ps _ (h1.mod hm01 fun _ _ _ h => h) o2 (hT.non hm01)).mono ?_
    rintro e w3 ⟨rfl, hm3⟩
    go_wp2
    go_ret
    exact ⟨rfl, hm01.trans' hm3⟩
end Go.Proofs.YtdclfdinhdaadaaGreatDoor
