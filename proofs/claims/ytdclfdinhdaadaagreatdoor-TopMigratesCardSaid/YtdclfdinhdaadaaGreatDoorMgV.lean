/- A state's bytes: plain. -/
import Derived.Test.YtdclfdinhdaadaaGreatDoorMigrUpG
import Derived.Test.YtdclfdinhdaadaaGreatDoorAnswerPutG
namespace Go.Proofs.YtdclfdinhdaadaaGreatDoor
open Go.RowKit

/-- a pair's bytes, in a schema -/
def penc (v : Int) (p : Pa) : List UInt8 := vbytes p.key.size ++ p.key.data.toList ++ (if v = 1 then [] else vbytes p.rev.toNat) ++ vbytes p.val.size ++ p.val.data.toList
/-- a session's bytes -/
def xenc (v : Int) (x : Se) : List UInt8 := aenc v x.last
def pencs (v : Int) (ps : List Pa) : List UInt8 := ps.flatMap (penc v)
def xencs (v : Int) (ss : List Se) : List UInt8 := ss.flatMap (xenc v)
/-- a state's bytes -/
def senc (s : St) : List UInt8 := vbytes s.schema.toNat ++ vbytes s.pairs.length ++ pencs s.schema s.pairs ++ vbytes s.sess.length ++ xencs s.schema s.sess

theorem keyB_size {s : ByteArray} (h : keyB s = true) : 1 ≤ s.size ∧ s.size ≤ 24 := by
  unfold keyB at h
  simp only [Bool.and_eq_true, decide_eq_true_eq] at h
  exact ⟨h.1.1.1, h.1.1.2⟩
theorem valB_size {s : ByteArray} (h : valB s = true) : s.size ≤ 48 := by
  unfold valB at h
  simp only [Bool.and_eq_true, decide_eq_true_eq] at h
  exact h.1.1

theorem penc_length {v : Int} {p : Pa} (h : p.Ok) (hr : p.rev ≤ 4294967296) : (penc v p).length ≤ 100 := by
  have k1 := keyB_size h.1
  have k2 := valB_size h.2
  have h1 := vbytes_five (n := p.key.size) (by omega)
  have h2 := vbytes_five (n := p.val.size) (by omega)
  have h3 := vbytes_five (n := p.rev.toNat) (by omega)
  have h4 : p.key.data.toList.length = p.key.size := by simp
  have h5 : p.val.data.toList.length = p.val.size := by simp
  unfold penc
  by_cases hv : v = 1
  · rw [if_pos hv]
    simp only [List.length_append, List.length_nil]
    omega
  · rw [if_neg hv]
    simp only [List.length_append]
    omega
theorem penc_two {v : Int} {p : Pa} : 2 ≤ (penc v p).length := by
  have h1 := vbytes_pos p.key.size
  have h2 := vbytes_pos p.val.size
  unfold penc
  simp only [List.length_append]
  omega
theorem flat_le {α : Type} (f : α → List UInt8) (m : Nat) : ∀ (l : List α), (∀ x ∈ l, (f x).length ≤ m) → (l.flatMap f).length ≤ l.length * m
  | [], _ => by simp
  | a :: l, h => by
    have h1 := flat_le f m l fun x hx => h x (by simp [hx])
    have h2 := h a (by simp)
    rw [List.flatMap_cons, List.length_append, List.length_cons, Nat.succ_mul]
    omega
theorem flat_ge {α : Type} (f : α → List UInt8) : ∀ (l : List α), (∀ x ∈ l, 1 ≤ (f x).length) → l.length ≤ (l.flatMap f).length
  | [], _ => by simp
  | a :: l, h => by
    have h1 := flat_ge f l fun x hx => h x (by simp [hx])
    have h2 := h a (by simp)
    rw [List.flatMap_cons, List.length_append, List.length_cons]
    omega
theorem flat_take {α β : Type} (f : α → List β) (l : List α) {k : Nat} {x : α} (h : l[k]? = some x) : (l.take (k + 1)).flatMap f = (l.take k).flatMap f ++ f x := by
  obtain ⟨h1, h2⟩ := List.getElem?_eq_some_iff.1 h
  rw [List.take_succ_eq_append_getElem h1, h2, List.flatMap_append]
  simp
theorem pencs_take {v : Int} {ps : List Pa} {k : Nat} (h : ∀ p ∈ ps, p.Ok ∧ p.rev ≤ 4294967296) : (pencs v (ps.take k)).length ≤ ps.length * 100 :=
  Nat.le_trans (flat_le (penc v) 100 _ fun p hp => penc_length (h p (List.mem_of_mem_take hp)).1 (h p (List.mem_of_mem_take hp)).2) (Nat.mul_le_mul_right _ (by rw [List.length_take]; omega))
theorem xencs_take {v : Int} {ss : List Se} {k : Nat} (h : ∀ s ∈ ss, s.last.Ok) : (xencs v (ss.take k)).length ≤ ss.length * 100 :=
  Nat.le_trans (flat_le (xenc v) 100 _ fun p hp => aenc_length v (h p (List.mem_of_mem_take hp))) (Nat.mul_le_mul_right _ (by rw [List.length_take]; omega))

/-- there are at most eight sessions -/
theorem ses_few {ss : List Se} (h : SesOk ss) : ss.length ≤ 8 := by
  have key : ∀ (l : List Se) (m : Int), (∀ s ∈ l, m ≤ s.client ∧ s.client ≤ 8) → l.Pairwise (fun a b => a.client < b.client) → m ≤ 9 → (l.length : Int) ≤ 9 - m := by
    intro l
    induction l with
    | nil => intro m _ _ h3; simp; omega
    | cons a l ih =>
      intro m h1 h2 _
      have ha := h1 a (by simp)
      rw [List.pairwise_cons] at h2
      have := ih (a.client + 1) (fun s hs => ⟨by have := h2.1 s hs; omega, (h1 s (by simp [hs])).2⟩) h2.2 (by omega)
      rw [List.length_cons]
      omega
  have := key ss 1 (fun s hs => by have h1 := h.each s hs; have h2 := h1.2.2.1.client; omega) h.rise (by omega)
  omega
end Go.Proofs.YtdclfdinhdaadaaGreatDoor

/- Package snapone: the contract of Encode. -/
namespace Go.Proofs.YtdclfdinhdaadaaGreatDoor
open Go.RowKit

theorem pas_bound {v : Int} {ps : List Pa} (h : PasOk v ps) : ∀ p ∈ ps, p.Ok ∧ p.rev ≤ 4294967296 := fun p hp => by
  obtain ⟨h1, h2⟩ := h.each p hp
  refine ⟨h1, ?_⟩
  by_cases hv : v = 1
  · rw [if_pos hv] at h2; omega
  · rw [if_neg hv] at h2; omega

set_option maxRecDepth 100000 in
set_option maxHeartbeats 1000000 in
theorem snapone_Encode (ps : List Pa) (ss : List Se) (A1 A2 : Option Addr) (n1 c1 n2 c2 : Nat) (R1 R2 : Nat → Prop) (w : World) (h1 : Reads w R1 3 A1 n1 (pcs ps)) (h2 : Reads w R2 8 A2 n2 (ecs ss)) (hok : St.Ok ⟨1, ps, ss⟩) (hT : T8 w) :
    Calls Tryz.prog 11 #[stv 1 (.slice A1 n1 c1) (.slice A2 n2 c2)] w fun e w' => ∃ v, e = .returned (.tuple #[v, .int .i64 0]) ∧ OwnB w' w.heap.size v (senc ⟨1, ps, ss⟩) ∧ Mod Non w w' := by
  have hl1 : n1 = ps.length := by have := h1.1; rw [pcs_length] at this; omega
  have hl2 : n2 = ss.length := by have := h2.1; rw [ecs_length] at this; omega
  have hn1 : n1 ≤ 64 := by have := hok.pairs.few; simp only at this; omega
  have hn2 : n2 ≤ 8 := by have := ses_few hok.sess; simp only at this; omega
  have HL1 := Lib.hid hl1
  have HL2 := Lib.hid hl2
  have PB : Hid (∀ p ∈ ps, p.Ok ∧ p.rev ≤ 4294967296) := pas_bound hok.pairs
  have SB : Hid (∀ s ∈ ss, s.last.Ok) := fun s hs => (hok.sess.each s hs).2.2.1
  have v1 : (vbytes 1).length ≤ 5 := vbytes_five (by omega)
  have v2 : (vbytes n1).length ≤ 5 := vbytes_five (by omega)
  have v3 : (vbytes n2).length ≤ 5 := vbytes_five (by omega)
  clear hl1 hl2
  go_enter Tryz.func11, Tryz.ntmps11
  go_wp2_with fail
  have hm0 := (Mod.refl Non w).alloc (.cells #[.int .i64 1, .slice A1 n1 c1, .slice A2 n2 c2] 25)
  have b0 := Blk.new w 25 #[.int .i64 1, .slice A1 n1 c1, .slice A2 n2 c2]
  refine (migr_Check ⟨1, ps, ss⟩ A1 A2 n1 c1 n2 c2 R1 R2 _ (h1.mod hm0 fun _ _ _ h => h) (h2.mod hm0 fun _ _ _ h => h) hok (hT.non hm0)).mono ?_
  rintro e w1 ⟨rfl, hm1⟩
  have b1 := b0.mod hm1 (fun h => h)
  have hm01 := hm0.trans' hm1
  have e10 := b1.cell 0
  simp at e10
  have hlb := b1.lt
  clear hm0 hm1 b0
  go_wp2_with fail
  have hwa := Wr.new w1
  have hma := (Mod.refl Non w1).alloc (.cells #[.slice none 0 0] 74)
  obtain ⟨g, hg⟩ : ∃ g, g = w1.heap.size := ⟨_, rfl⟩
  rw [← hg] at hwa hlb ⊢
  have HG := Lib.hid hg
  clear hg
  refine (wr_Number g [] 1 (by omega) _ hwa (by simp)).mono ?_
  rintro e w2 ⟨rfl, hw2, hm2⟩
  rw [List.nil_append] at hw2
  have hm12 : Mod (One g) w1 w2 := hma.non.trans' hm2
  have b2 := b1.mod hm12 (by unfold One; omega)
  have e20 := b2.cell 1
  simp at e20
  clear hm2 hma hwa e10
  go_wp2_with fail
  refine (wr_Number g _ n1 (by omega) _ hw2 (by show (vbytes 1).length ≤ _; omega)).mono ?_
  rintro e w3 ⟨rfl, hw3, hm3⟩
  have hm13 := hm12.trans' hm3
  have b3 := b1.mod hm13 (by unfold One; omega)
  have e30 := b3.cell 1
  have e31 := b3.cell 2
  simp at e30 e31
  have hm03 : Mod Non w w3 := hm01.trans hm13 (fun i hi h => by unfold One at h; have := hm01.size; have := HG.out; omega)
  clear hm3 hm12 b2 e20 b1
  have hr1 := h1.mod hm03 fun _ _ _ h => h
  have hr2 := h2.mod hm03 fun _ _ _ h => h
  obtain ⟨L0, hL0⟩ : ∃ L0, L0 = vbytes 1 ++ vbytes n1 := ⟨_, rfl⟩
  have hw3' : Wr w3 g L0 := by rw [hL0]; simpa using hw3
  have HL0 := Lib.hid hL0
  have hLl : L0.length ≤ 10 := by rw [hL0, List.length_append]; omega
  clear hw3 hL0
  go_wp2_with fail
  go_loopw [30] (fun i wr => ∃ k : Nat, k ≤ n1 ∧ i = .int .i64 k ∧ Wr wr g (L0 ++ pencs 1 (ps.take k)) ∧ Mod (One g) w3 wr) (fun i _ => n1 - (intOf i).toNat)
  case atStart => exact ⟨0, by omega, rfl, by simpa [pencs] using hw3', Mod.refl _ _⟩
  case round =>
    obtain ⟨k, hk, rfl, hw, hm⟩ := hrel
    clear hw3'
    have hLK : (pencs 1 (ps.take k)).length ≤ 6400 := by have := pencs_take (v := 1) (k := k) PB.out; have := HL1.out; omega
    by_cases hlt : k < n1
    · have hmw : Mod Non w wr := hm03.trans hm (fun i hi h => by unfold One at h; have := hm01.size; have := HG.out; omega)
      have hrr := h1.mod hmw fun _ _ _ h => h
      obtain ⟨b, off, ⟨key, val, rv⟩, hA, hbk, _, hpk, d0, d1, d2⟩ := hrr.pa hlt
      obtain ⟨o1, o2⟩ := PB.out _ (List.mem_of_getElem? hpk)
      obtain ⟨k1, k2⟩ := o1
      have k1 := (keyB_size k1).2
      have k2 := valB_size k2
      have HRV := Lib.hid o2
      simp only at d0 d1 d2 k1 k2 HRV
      have hkn : (k : Int) < n1 := by omega
      subst hA
      have hgl := hw.lt
      have HPK := Lib.hid hpk
      have HM := Lib.hid hm
      clear hpk hrr hm hmw o2
      have hwn := hw.non ((Mod.refl Non wr).alloc (.cells #[.string key, .string val, .int .i64 rv] 42))
      have bn := Blk.new wr 42 #[.string key, .string val, .int .i64 rv]
      have kv1 := vbytes_five (n := key.size) (by omega)
      have kv2 := vbytes_five (n := val.size) (by omega)
      have kd : key.data.toList.length = key.size := by simp
      have HLK : Hid ((L0 ++ pencs 1 (ps.take k) ++ vbytes key.size ++ key.data.toList).length ≤ 7000) := by show _ ≤ _; simp only [List.length_append]; omega
      have HLK0 : Hid ((L0 ++ pencs 1 (ps.take k)).length ≤ 7000) := by show _ ≤ _; simp only [List.length_append]; omega
      clear hLK kv1 kv2 kd
      go_wp2_with fail
      refine (wr_Text g _ key _ hwn (by have := HLK0.out; omega) (by omega)).mono ?_
      rintro e w1 ⟨rfl, hw1, hm1⟩
      have b1 := bn.mod hm1 (by unfold One; omega)
      have e1 := b1.cell 1
      have e2 := b1.cell 2
      simp at e1 e2
      have hm1 := ((Mod.refl (One g) wr).alloc (.cells #[.string key, .string val, .int .i64 rv] 42)).trans' hm1
      go_wp2_with fail
      refine (wr_Text g _ val _ hw1 (by have q1 := HLK.out; simp only [List.length_append] at q1 ⊢; omega) (by omega)).mono ?_
      rintro e w2 ⟨rfl, hw2, hm2⟩
      have HM2 := Lib.hid (HM.out.trans' (hm1.trans' hm2))
      have hw2' : Wr w2 g (L0 ++ pencs 1 (ps.take (k + 1))) := by
        rw [show pencs 1 (ps.take (k + 1)) = pencs 1 (ps.take k) ++ penc 1 ⟨key, val, rv⟩ from flat_take _ _ HPK.out]
        simpa [penc, List.append_assoc] using hw2
      clear hm1 hm2 hw2 hw1 b1 e1 e2
      go_wp2
      go_roundw
      case rel => exact ⟨k + 1, by omega, by go_num, hw2', HM2.out⟩
      case measure => simp [intOf]; omega
    · have hkn : ¬ (k : Int) < n1 := by omega
      have hkm : k = n1 := by omega
      subst hkm
      rw [List.take_of_length_le (by have := HL1.out; omega)] at hw hLK

      obtain ⟨wo, rfl⟩ : ∃ wo, wo = wr := ⟨_, rfl⟩
      have b4 := b3.mod hm (by unfold One; have := HG.out; omega)
      have e40 := b4.cell 2
      simp at e40
      have hm04 : Mod Non w wo := hm03.trans hm (fun i hi h => by unfold One at h; have := hm01.size; have := HG.out; omega)
      clear hm hm13 b3 hr1 hr2 e30 e31
      go_wp2_with fail
      refine (wr_Number g _ n2 (by omega) _ hw (by simp only [List.length_append]; omega)).mono ?_
      rintro e w5 ⟨rfl, hw5, hm5⟩
      rw [Int.toNat_natCast] at hw5
      have b5 := b4.mod hm5 (by unfold One; have := HG.out; omega)
      have e50 := b5.cell 2
      simp at e50
      have hm05 : Mod Non w w5 := hm04.trans hm5 (fun i hi h => by unfold One at h; have := hm01.size; have := HG.out; omega)
      have hlt5 := hm01.size
      obtain ⟨L1, hL1⟩ : ∃ L1, L1 = L0 ++ pencs 1 ps ++ vbytes n2 := ⟨_, rfl⟩
      rw [← hL1] at hw5
      have HL1' := Lib.hid hL1
      have hLl1 : L1.length ≤ 7000 := by rw [hL1]; simp only [List.length_append]; omega
      clear hw hm5 b4 e40 hL1 hm04
      go_wp2_with fail
      go_loopw [51] (fun i wr => ∃ k : Nat, k ≤ n2 ∧ i = .int .i64 k ∧ Wr wr g (L1 ++ xencs 1 (ss.take k)) ∧ Mod (One g) w5 wr) (fun i _ => n2 - (intOf i).toNat)
      case atStart => exact ⟨0, by omega, rfl, by simpa [xencs] using hw5, Mod.refl _ _⟩
      case round =>
        rename_i k0 _
        obtain ⟨k, hk, rfl, hw, hm⟩ := hrel
        clear hw5
        have hLK : (xencs 1 (ss.take k)).length ≤ 800 := by have := xencs_take (v := 1) (k := k) SB.out; have := HL2.out; omega
        by_cases hlt : k < n2
        · have hmw : Mod Non w wr := hm05.trans hm (fun i hi h => by unfold One at h; have := HG.out; omega)
          have hrr := h2.mod hmw fun _ _ _ h => h
          obtain ⟨b, off, s, hA, hbk, _, hpk, d0, d1, d2, d3, d4, d5, d6, d7⟩ := hrr.se hlt
          have o1 := SB.out _ (List.mem_of_getElem? hpk)
          obtain ⟨cl, sq, ⟨lc, ls, le, lf, lv, lr⟩⟩ := s
          simp only at d0 d1 d2 d3 d4 d5 d6 d7 o1
          have hkn : (k : Int) < n2 := by omega
          subst hA
          have hgl := hw.lt
          have HPK := Lib.hid hpk
          have HM := Lib.hid hm
          have HO1 := Lib.hid o1
          have HLK : Hid ((L1 ++ xencs 1 (ss.take k)).length ≤ 1000000) := by show _ ≤ _; simp only [List.length_append]; omega
          clear hpk hrr hm hmw o1 hLK
          have hwn := hw.non ((Mod.refl Non wr).alloc (.cells #[.int .i64 cl, .int .i64 sq, .int .i64 lc, .int .i64 ls, .int .i64 le, .bool lf, .string lv, .int .i64 lr] 68))
          go_wp2_with fail
          refine (answer_Put g _ 1 ⟨lc, ls, le, lf, lv, lr⟩ _ HO1.out hwn HLK.out).mono ?_
          rintro e w6 ⟨rfl, hw6, hm6⟩
          have HM6 := Lib.hid (HM.out.trans' (((Mod.refl (One g) wr).alloc (.cells #[.int .i64 cl, .int .i64 sq, .int .i64 lc, .int .i64 ls, .int .i64 le, .bool lf, .string lv, .int .i64 lr] 68)).trans' hm6))
          have hw6' : Wr w6 g (L1 ++ xencs 1 (ss.take (k + 1))) := by
            rw [show xencs 1 (ss.take (k + 1)) = xencs 1 (ss.take k) ++ xenc 1 ⟨cl, sq, ⟨lc, ls, le, lf, lv, lr⟩⟩ from flat_take _ _ HPK.out]
            simpa [xenc, List.append_assoc] using hw6
          clear hm6 hw6 hwn
          go_wp2
          go_roundw
          case rel => exact ⟨k + 1, by omega, by go_num, hw6', HM6.out⟩
          case measure => simp [intOf]; omega
        · have hkn : ¬ (k : Int) < n2 := by omega
          have hkm : k = n2 := by omega
          subst hkm
          rw [List.take_of_length_le (by have := HL2.out; omega)] at hw hLK
          have HM7 : Hid (Mod Non w wr) := hm05.trans hm (fun i hi h => by unfold One at h; have := HG.out; omega)
          have hle := HM7.out.size
          clear hm
          go_wp2_with fail
          refine (wr_Bytes g _ _ hw (by simp only [List.length_append]; omega)).mono ?_
          rintro e w8 ⟨v8, rfl, hown8, hm8⟩
          go_wp2
          go_ret2
          refine ⟨v8, rfl, ?_, HM7.out.trans' hm8⟩
          have : senc ⟨1, ps, ss⟩ = L1 ++ xencs 1 ss := by
            rw [HL1'.out, HL0.out]
            show vbytes 1 ++ vbytes ps.length ++ pencs 1 ps ++ vbytes ss.length ++ xencs 1 ss = _
            rw [← HL1.out, ← HL2.out]
          rw [this]
          exact hown8.below hle
end Go.Proofs.YtdclfdinhdaadaaGreatDoor

/- Package snaptwo: the contract of Encode. -/
namespace Go.Proofs.YtdclfdinhdaadaaGreatDoor
open Go.RowKit

set_option maxRecDepth 100000 in
set_option maxHeartbeats 1000000 in
theorem snaptwo_Encode (ps : List Pa) (ss : List Se) (A1 A2 : Option Addr) (n1 c1 n2 c2 : Nat) (R1 R2 : Nat → Prop) (w : World) (h1 : Reads w R1 3 A1 n1 (pcs ps)) (h2 : Reads w R2 8 A2 n2 (ecs ss)) (hok : St.Ok ⟨2, ps, ss⟩) (hT : T8 w) :
    Calls Tryz.prog 38 #[stv 2 (.slice A1 n1 c1) (.slice A2 n2 c2)] w fun e w' => ∃ v, e = .returned (.tuple #[v, .int .i64 0]) ∧ OwnB w' w.heap.size v (senc ⟨2, ps, ss⟩) ∧ Mod Non w w' := by
  have hl1 : n1 = ps.length := by have := h1.1; rw [pcs_length] at this; omega
  have hl2 : n2 = ss.length := by have := h2.1; rw [ecs_length] at this; omega
  have hn1 : n1 ≤ 64 := by have := hok.pairs.few; simp only at this; omega
  have hn2 : n2 ≤ 8 := by have := ses_few hok.sess; simp only at this; omega
  have HL1 := Lib.hid hl1
  have HL2 := Lib.hid hl2
  have PB : Hid (∀ p ∈ ps, p.Ok ∧ p.rev ≤ 4294967296) := pas_bound hok.pairs
  have SB : Hid (∀ s ∈ ss, s.last.Ok) := fun s hs => (hok.sess.each s hs).2.2.1
  have v1 : (vbytes 2).length ≤ 5 := vbytes_five (by omega)
  have v2 : (vbytes n1).length ≤ 5 := vbytes_five (by omega)
  have v3 : (vbytes n2).length ≤ 5 := vbytes_five (by omega)
  clear hl1 hl2
  go_enter Tryz.func38, Tryz.ntmps38
  go_wp2_with fail
  have hm0 := (Mod.refl Non w).alloc (.cells #[.int .i64 2, .slice A1 n1 c1, .slice A2 n2 c2] 25)
  have b0 := Blk.new w 25 #[.int .i64 2, .slice A1 n1 c1, .slice A2 n2 c2]
  refine (migr_Check ⟨2, ps, ss⟩ A1 A2 n1 c1 n2 c2 R1 R2 _ (h1.mod hm0 fun _ _ _ h => h) (h2.mod hm0 fun _ _ _ h => h) hok (hT.non hm0)).mono ?_
  rintro e w1 ⟨rfl, hm1⟩
  have b1 := b0.mod hm1 (fun h => h)
  have hm01 := hm0.trans' hm1
  have e10 := b1.cell 0
  simp at e10
  have hlb := b1.lt
  clear hm0 hm1 b0
  go_wp2_with fail
  have hwa := Wr.new w1
  have hma := (Mod.refl Non w1).alloc (.cells #[.slice none 0 0] 74)
  obtain ⟨g, hg⟩ : ∃ g, g = w1.heap.size := ⟨_, rfl⟩
  rw [← hg] at hwa hlb ⊢
  have HG := Lib.hid hg
  clear hg
  refine (wr_Number g [] 2 (by omega) _ hwa (by simp)).mono ?_
  rintro e w2 ⟨rfl, hw2, hm2⟩
  rw [List.nil_append] at hw2
  have hm12 : Mod (One g) w1 w2 := hma.non.trans' hm2
  have b2 := b1.mod hm12 (by unfold One; omega)
  have e20 := b2.cell 1
  simp at e20
  clear hm2 hma hwa e10
  go_wp2_with fail
  refine (wr_Number g _ n1 (by omega) _ hw2 (by show (vbytes 2).length ≤ _; omega)).mono ?_
  rintro e w3 ⟨rfl, hw3, hm3⟩
  have hm13 := hm12.trans' hm3
  have b3 := b1.mod hm13 (by unfold One; omega)
  have e30 := b3.cell 1
  have e31 := b3.cell 2
  simp at e30 e31
  have hm03 : Mod Non w w3 := hm01.trans hm13 (fun i hi h => by unfold One at h; have := hm01.size; have := HG.out; omega)
  clear hm3 hm12 b2 e20 b1
  have hr1 := h1.mod hm03 fun _ _ _ h => h
  have hr2 := h2.mod hm03 fun _ _ _ h => h
  obtain ⟨L0, hL0⟩ : ∃ L0, L0 = vbytes 2 ++ vbytes n1 := ⟨_, rfl⟩
  have hw3' : Wr w3 g L0 := by rw [hL0]; simpa using hw3
  have HL0 := Lib.hid hL0
  have hLl : L0.length ≤ 10 := by rw [hL0, List.length_append]; omega
  clear hw3 hL0
  go_wp2_with fail
  go_loopw [30] (fun i wr => ∃ k : Nat, k ≤ n1 ∧ i = .int .i64 k ∧ Wr wr g (L0 ++ pencs 2 (ps.take k)) ∧ Mod (One g) w3 wr) (fun i _ => n1 - (intOf i).toNat)
  case atStart => exact ⟨0, by omega, rfl, by simpa [pencs] using hw3', Mod.refl _ _⟩
  case round =>
    obtain ⟨k, hk, rfl, hw, hm⟩ := hrel
    clear hw3'
    have hLK : (pencs 2 (ps.take k)).length ≤ 6400 := by have := pencs_take (v := 2) (k := k) PB.out; have := HL1.out; omega
    by_cases hlt : k < n1
    · have hmw : Mod Non w wr := hm03.trans hm (fun i hi h => by unfold One at h; have := hm01.size; have := HG.out; omega)
      have hrr := h1.mod hmw fun _ _ _ h => h
      obtain ⟨b, off, ⟨key, val, rv⟩, hA, hbk, _, hpk, d0, d1, d2⟩ := hrr.pa hlt
      obtain ⟨o1, o2⟩ := PB.out _ (List.mem_of_getElem? hpk)
      obtain ⟨k1, k2⟩ := o1
      have k1 := (keyB_size k1).2
      have k2 := valB_size k2
      have HRV := Lib.hid o2
      simp only at d0 d1 d2 k1 k2 HRV
      have hkn : (k : Int) < n1 := by omega
      subst hA
      have hgl := hw.lt
      have HPK := Lib.hid hpk
      have HM := Lib.hid hm
      clear hpk hrr hm hmw o2
      have hwn := hw.non ((Mod.refl Non wr).alloc (.cells #[.string key, .string val, .int .i64 rv] 42))
      have bn := Blk.new wr 42 #[.string key, .string val, .int .i64 rv]
      have kv1 := vbytes_five (n := key.size) (by omega)
      have kv2 := vbytes_five (n := val.size) (by omega)
      have kd : key.data.toList.length = key.size := by simp
      have HLK : Hid ((L0 ++ pencs 2 (ps.take k) ++ vbytes key.size ++ key.data.toList).length ≤ 7000) := by show _ ≤ _; simp only [List.length_append]; omega
      have HLK0 : Hid ((L0 ++ pencs 2 (ps.take k)).length ≤ 7000) := by show _ ≤ _; simp only [List.length_append]; omega
      clear hLK kv1 kv2 kd
      go_wp2_with fail
      refine (wr_Text g _ key _ hwn (by have := HLK0.out; omega) (by omega)).mono ?_
      rintro e w1 ⟨rfl, hw1, hm1⟩
      have b1 := bn.mod hm1 (by unfold One; omega)
      have e1 := b1.cell 1
      have e2 := b1.cell 2
      simp at e1 e2
      have hm1 := ((Mod.refl (One g) wr).alloc (.cells #[.string key, .string val, .int .i64 rv] 42)).trans' hm1
      have HB2 : Hid (Blk w1 wr.heap.size 42 #[.string key, .string val, .int .i64 rv]) := b1
      clear b1
      go_wp2_with fail
      refine (wr_Number g _ rv (by have := HRV.out; omega) _ hw1 (by have q1 := HLK.out; simp only [List.length_append] at q1 ⊢; omega)).mono ?_
      rintro e w1b ⟨rfl, hw1b, hm1b⟩
      have b1 := HB2.out.mod hm1b (by unfold One; omega)
      have e1 := b1.cell 1
      simp at e1
      have hm1 := hm1.trans' hm1b
      go_wp2_with fail
      refine (wr_Text g _ val _ hw1b (by have q1 := HLK.out; have q2 := vbytes_five (n := rv.toNat) (by have := HRV.out; omega); simp only [List.length_append] at q1 ⊢; omega) (by omega)).mono ?_
      rintro e w2 ⟨rfl, hw2, hm2⟩
      have HM2 := Lib.hid (HM.out.trans' (hm1.trans' hm2))
      have hw2' : Wr w2 g (L0 ++ pencs 2 (ps.take (k + 1))) := by
        rw [show pencs 2 (ps.take (k + 1)) = pencs 2 (ps.take k) ++ penc 2 ⟨key, val, rv⟩ from flat_take _ _ HPK.out]
        simpa [penc, List.append_assoc] using hw2
      clear hm1 hm2 hw2 hw1 b1 e1 e2
      go_wp2
      go_roundw
      case rel => exact ⟨k + 1, by omega, by go_num, hw2', HM2.out⟩
      case measure => simp [intOf]; omega
    · have hkn : ¬ (k : Int) < n1 := by omega
      have hkm : k = n1 := by omega
      subst hkm
      rw [List.take_of_length_le (by have := HL1.out; omega)] at hw hLK

      obtain ⟨wo, rfl⟩ : ∃ wo, wo = wr := ⟨_, rfl⟩
      have b4 := b3.mod hm (by unfold One; have := HG.out; omega)
      have e40 := b4.cell 2
      simp at e40
      have hm04 : Mod Non w wo := hm03.trans hm (fun i hi h => by unfold One at h; have := hm01.size; have := HG.out; omega)
      clear hm hm13 b3 hr1 hr2 e30 e31
      go_wp2_with fail
      refine (wr_Number g _ n2 (by omega) _ hw (by simp only [List.length_append]; omega)).mono ?_
      rintro e w5 ⟨rfl, hw5, hm5⟩
      rw [Int.toNat_natCast] at hw5
      have b5 := b4.mod hm5 (by unfold One; have := HG.out; omega)
      have e50 := b5.cell 2
      simp at e50
      have hm05 : Mod Non w w5 := hm04.trans hm5 (fun i hi h => by unfold One at h; have := hm01.size; have := HG.out; omega)
      have hlt5 := hm01.size
      obtain ⟨L1, hL1⟩ : ∃ L1, L1 = L0 ++ pencs 2 ps ++ vbytes n2 := ⟨_, rfl⟩
      rw [← hL1] at hw5
      have HL1' := Lib.hid hL1
      have hLl1 : L1.length ≤ 7000 := by rw [hL1]; simp only [List.length_append]; omega
      clear hw hm5 b4 e40 hL1 hm04
      go_wp2_with fail
      go_loopw [55] (fun i wr => ∃ k : Nat, k ≤ n2 ∧ i = .int .i64 k ∧ Wr wr g (L1 ++ xencs 2 (ss.take k)) ∧ Mod (One g) w5 wr) (fun i _ => n2 - (intOf i).toNat)
      case atStart => exact ⟨0, by omega, rfl, by simpa [xencs] using hw5, Mod.refl _ _⟩
      case round =>
        rename_i k0 _
        obtain ⟨k, hk, rfl, hw, hm⟩ := hrel
        clear hw5
        have hLK : (xencs 2 (ss.take k)).length ≤ 800 := by have := xencs_take (v := 2) (k := k) SB.out; have := HL2.out; omega
        by_cases hlt : k < n2
        · have hmw : Mod Non w wr := hm05.trans hm (fun i hi h => by unfold One at h; have := HG.out; omega)
          have hrr := h2.mod hmw fun _ _ _ h => h
          obtain ⟨b, off, s, hA, hbk, _, hpk, d0, d1, d2, d3, d4, d5, d6, d7⟩ := hrr.se hlt
          have o1 := SB.out _ (List.mem_of_getElem? hpk)
          obtain ⟨cl, sq, ⟨lc, ls, le, lf, lv, lr⟩⟩ := s
          simp only at d0 d1 d2 d3 d4 d5 d6 d7 o1
          have hkn : (k : Int) < n2 := by omega
          subst hA
          have hgl := hw.lt
          have HPK := Lib.hid hpk
          have HM := Lib.hid hm
          have HO1 := Lib.hid o1
          have HLK : Hid ((L1 ++ xencs 2 (ss.take k)).length ≤ 1000000) := by show _ ≤ _; simp only [List.length_append]; omega
          clear hpk hrr hm hmw o1 hLK
          have hwn := hw.non ((Mod.refl Non wr).alloc (.cells #[.int .i64 cl, .int .i64 sq, .int .i64 lc, .int .i64 ls, .int .i64 le, .bool lf, .string lv, .int .i64 lr] 68))
          go_wp2_with fail
          refine (answer_Put g _ 2 ⟨lc, ls, le, lf, lv, lr⟩ _ HO1.out hwn HLK.out).mono ?_
          rintro e w6 ⟨rfl, hw6, hm6⟩
          have HM6 := Lib.hid (HM.out.trans' (((Mod.refl (One g) wr).alloc (.cells #[.int .i64 cl, .int .i64 sq, .int .i64 lc, .int .i64 ls, .int .i64 le, .bool lf, .string lv, .int .i64 lr] 68)).trans' hm6))
          have hw6' : Wr w6 g (L1 ++ xencs 2 (ss.take (k + 1))) := by
            rw [show xencs 2 (ss.take (k + 1)) = xencs 2 (ss.take k) ++ xenc 2 ⟨cl, sq, ⟨lc, ls, le, lf, lv, lr⟩⟩ from flat_take _ _ HPK.out]
            simpa [xenc, List.append_assoc] using hw6
          clear hm6 hw6 hwn
          go_wp2
          go_roundw
          case rel => exact ⟨k + 1, by omega, by go_num, hw6', HM6.out⟩
          case measure => simp [intOf]; omega
        · have hkn : ¬ (k : Int) < n2 := by omega
          have hkm : k = n2 := by omega
          subst hkm
          rw [List.take_of_length_le (by have := HL2.out; omega)] at hw hLK
          have HM7 : Hid (Mod Non w wr) := hm05.trans hm (fun i hi h => by unfold One at h; have := HG.out; omega)
          have hle := HM7.out.size
          clear hm
          go_wp2_with fail
          refine (wr_Bytes g _ _ hw (by simp only [List.length_append]; omega)).mono ?_
          rintro e w8 ⟨v8, rfl, hown8, hm8⟩
          go_wp2
          go_ret2
          refine ⟨v8, rfl, ?_, HM7.out.trans' hm8⟩
          have : senc ⟨2, ps, ss⟩ = L1 ++ xencs 2 ss := by
            rw [HL1'.out, HL0.out]
            show vbytes 2 ++ vbytes ps.length ++ pencs 2 ps ++ vbytes ss.length ++ xencs 2 ss = _
            rw [← HL1.out, ← HL2.out]
          rw [this]
          exact hown8.below hle
end Go.Proofs.YtdclfdinhdaadaaGreatDoor
