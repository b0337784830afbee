/- Plain laws of the application: a state that may be stays one; both schemas answer alike, and say the same. -/
import Derived.Test.YtdclfdinhdaadaaGreatDoorApplyG
import Derived.Test.YtdclfdinhdaadaaGreatDoorMgR
import Derived.Test.YtdclfdinhdaadaaGreatDoorMgI
namespace Go.Proofs.YtdclfdinhdaadaaGreatDoor
open Go.RowKit

theorem swith_mem {ss : List Se} {a : An} {q : Se} (h : q ∈ swith ss a) : q = seOf a ∨ q ∈ ss := by
  unfold swith at h
  split at h
  · rcases List.mem_or_eq_of_mem_set h with h | h
    · exact .inr h
    · exact .inl h
  · rcases List.mem_append.1 h with h | h
    · exact .inr (List.mem_of_mem_take h)
    · rcases List.mem_cons.1 h with h | h
      · exact .inl h
      · exact .inr (List.mem_of_mem_drop h)

theorem swith_rise {ss : List Se} (a : An) (hs : SesOk ss) : (swith ss a).Pairwise fun x y => x.client < y.client := by
  obtain ⟨m, hm⟩ : ∃ m, m = slb a.client ss := ⟨_, rfl⟩
  have hle : m ≤ ss.length := by rw [hm]; exact takeWhile_le _ _
  unfold swith
  rw [← hm]
  split
  · next h =>
    obtain ⟨x, hx, he⟩ := sfd_some h
    rw [← hm] at hx
    obtain ⟨hml, hxm⟩ := List.getElem?_eq_some_iff.1 hx
    rw [List.pairwise_iff_getElem]
    intro i j hi hj hij
    have g : ∀ (k : Nat) (hk : k < (ss.set m (seOf a)).length), ((ss.set m (seOf a))[k]).client = (ss[k]'(by simpa using hk)).client := by
      intro k hk
      rw [List.getElem_set]
      split
      · next e =>
        subst e
        rw [hxm, he]
        rfl
      · rfl
    rw [g i hi, g j hj]
    exact List.pairwise_iff_getElem.1 hs.rise i j (by simpa using hi) (by simpa using hj) hij
  · next h =>
    rw [Bool.not_eq_true] at h
    have ha : ∀ x ∈ ss.take m, x.client < (seOf a).client := by
      intro x hx
      obtain ⟨i, hi⟩ := List.mem_iff_getElem?.1 hx
      rw [List.getElem?_take] at hi
      split at hi
      · next hlt => exact (slb_iff hs a.client i x hi).2 (hm ▸ hlt)
      · cases hi
    have hb : ∀ x ∈ ss.drop m, (seOf a).client < x.client := by
      intro x hx
      obtain ⟨i, hi⟩ := List.mem_iff_getElem?.1 hx
      rw [List.getElem?_drop] at hi
      have h1 : ¬ x.client < a.client := by
        rw [slb_iff hs a.client (m + i) x hi]
        omega
      have h2 : x.client ≠ a.client := by
        intro he
        rcases Nat.eq_zero_or_pos i with h0 | h0
        · subst h0
          unfold sfd at h
          rw [← hm, show ss[m]? = some x from hi] at h
          simp [he] at h
        · have hlt : m < ss.length := by have := (List.getElem?_eq_some_iff.1 hi).1; omega
          have h2 := List.pairwise_iff_getElem.1 hs.rise m (m + i) hlt (List.getElem?_eq_some_iff.1 hi).1 (by omega)
          rw [(List.getElem?_eq_some_iff.1 hi).2, he] at h2
          have := (slb_iff hs a.client m ss[m] (List.getElem?_eq_getElem hlt)).1 h2
          omega
      show a.client < x.client
      omega
    rw [List.pairwise_append, List.pairwise_cons]
    refine ⟨hs.rise.sublist (List.take_sublist _ _), ⟨hb, hs.rise.sublist (List.drop_sublist _ _)⟩, ?_⟩
    intro x hx y hy
    rcases List.mem_cons.1 hy with rfl | hy
    · exact ha x hx
    · exact Int.lt_trans (ha x hx) (hb y hy)

theorem swith_ok {ss : List Se} {a : An} (hs : SesOk ss) (ha : a.May) : SesOk (swith ss a) := by
  refine ⟨fun x hx => ?_, swith_rise a hs⟩
  rcases swith_mem hx with rfl | hx
  · exact ⟨rfl, rfl, ha⟩
  · exact hs.each x hx

theorem empty_val : valB ⟨#[]⟩ = true := by decide
theorem val_48 {s : ByteArray} (hv : valB s = true) : s.size ≤ 48 := by
  unfold valB at hv
  simp only [Bool.and_eq_true, decide_eq_true_eq] at hv
  exact hv.1.1
theorem anOf_may {c : Cm} (hc : c.Ok) (ho : ownB c.kind = true) {e r : Int} {f : Bool} {v : ByteArray} (he : 0 ≤ e ∧ e ≤ 17) (hr : 0 ≤ r ∧ r ≤ 4294967296) (hv : valB v = true) : (anOf c e f v r).May :=
  ⟨⟨(hc.own ho).1, (hc.own ho).2.1, he, val_48 hv, hr⟩, hv⟩
theorem pfind_val {ps : List Pa} {v : Int} (h : PasOk v ps) (t : ByteArray) : valB (pfind t ps).val = true := by
  rcases pfind_mem t ps with h0 | ⟨h1, _⟩
  · rw [h0]; exact empty_val
  · exact (h.each _ h1).1.2

theorem cmd_val {c : Cm} (hc : c.Ok) (h : c.kind = 2 ∨ c.kind = 5) : keyB c.key = true ∧ valB c.val = true := by
  have hv := hc.val
  rw [if_pos h] at hv
  refine ⟨(hc.own ?_).2.2, hv⟩
  rcases h with h | h <;> rw [h] <;> rfl

theorem kdo1_may {ps : List Pa} {c : Cm} {v : Int} (h : PasOk v ps) (hc : c.Ok) (ho : ownB c.kind = true) : (kdo1 ps c).2.May ∧ (kdo1 ps c).2.rev = 0 := by
  unfold kdo1
  split
  · simp only
    split
    · exact ⟨anOf_may hc ho (by decide) (by decide) (pfind_val h _), rfl⟩
    · exact ⟨anOf_may hc ho (by decide) (by decide) empty_val, rfl⟩
  · split
    · exact ⟨anOf_may hc ho (by decide) (by decide) (pfind_val h _), rfl⟩
    · exact ⟨anOf_may hc ho (by decide) (by decide) (pfind_val h _), rfl⟩
theorem kdo2_snd (ps : List Pa) (c : Cm) : (kdo2 ps c).2 = (kdo1 ps c).2 := by
  unfold kdo2
  split <;> rfl
theorem kcas_may {ps : List Pa} {c : Cm} (h : PasOk 2 ps) (hc : c.Ok) (ho : ownB c.kind = true) : (kcas ps c).2.May := by
  have hr := pfind_rev_ok h c.key
  unfold kcas
  split
  · exact anOf_may hc ho (by decide) (by decide) empty_val
  · split
    · exact anOf_may hc ho (by decide) (by have := rnext_ok hr.1 hr.2; omega) (pfind_val h _)
    · exact anOf_may hc ho (by decide) hr (pfind_val h _)
theorem kcas_ok {ps : List Pa} {c : Cm} (h : PasOk 2 ps) (hk : keyB c.key = true ∧ valB c.val = true) : PasOk 2 (kcas ps c).1 := by
  have hr := rnext_ok (pfind_rev_ok h c.key).1 (pfind_rev_ok h c.key).2
  unfold kcas
  split
  · exact h
  · next hf =>
    have hf : pfd c.key ps = true := by simpa using hf
    split
    · refine ⟨?_, ?_, pset_rise _ h.rise⟩
      · simp only
        rw [pset_length]
        simp only
        rw [if_pos hf]
        exact h.few
      · intro q hq
        rcases pset_mem hq with rfl | hq
        · exact ⟨hk, by rw [if_neg (by decide)]; exact hr⟩
        · exact h.each q hq
    · exact h
theorem kdo3_may {ps : List Pa} {c : Cm} (h : PasOk 2 ps) (hc : c.Ok) (ho : ownB c.kind = true) : (kdo3 ps c).2.May := by
  unfold kdo3
  split
  · exact kcas_may h hc ho
  · rw [kdo2_snd]; exact (kdo1_may h hc ho).1
theorem kdo3_ok {ps : List Pa} {c : Cm} (h : PasOk 2 ps) (hc : c.Ok) : PasOk 2 (kdo3 ps c).1 := by
  unfold kdo3
  split
  · next h5 => exact kcas_ok h (cmd_val hc (.inr h5))
  · exact kdo2_ok h fun h2 => cmd_val hc (.inl h2)

theorem ses_len {ss : List Se} (h : SesOk ss) : ss.length ≤ 100000 := by have := ses_few h; omega

theorem clientP_ok {s : St} {c : Cm} (h : s.Ok) (hc : c.Ok) (ho : ownB c.kind = true) : (clientP s c).1.Ok := by
  obtain ⟨v, ps, ss⟩ := s
  unfold clientP
  split
  · exact h
  · split
    · exact h
    · split
      · exact h
      · rcases h.schema with hv | hv
        · simp only at hv
          subst hv
          simp only [if_pos]
          have hm := kdo1_may h.pairs hc ho
          have hs := swith_ok h.sess hm.1
          refine ⟨.inl rfl, kdo1_ok h.pairs fun h2 => cmd_val hc (.inl h2), hs, ses_len hs, fun _ x hx => ?_⟩
          rcases swith_mem hx with rfl | hx
          · exact hm.2
          · exact h.revs rfl x hx
        · simp only at hv
          subst hv
          rw [if_neg (show ¬ (2 : Int) = 1 by decide)]
          have hs := swith_ok h.sess (kdo3_may h.pairs hc ho)
          exact ⟨.inr rfl, kdo3_ok h.pairs hc, hs, ses_len hs, fun h1 => absurd (show (2 : Int) = 1 from h1) (by decide)⟩

theorem applyP_ok {s : St} {c : Cm} (h : s.Ok) (hc : c.Ok) : (applyP s c).1.Ok := by
  unfold applyP
  split
  · next ho => exact clientP_ok h hc ho
  · split
    · next h6 =>
      obtain ⟨v, ps, ss⟩ := s
      obtain ⟨_, hv⟩ := h6
      simp only at hv
      subst hv
      exact ok_up h
    · exact h

/-- commands, one behind the other: the state, the answers -/
def runP (s : St) : List Cm → St × List An
  | [] => (s, [])
  | c :: l => ((runP (applyP s c).1 l).1, (applyP s c).2 :: (runP (applyP s c).1 l).2)
theorem runP_snoc (l : List Cm) : ∀ (s : St) (c : Cm), runP s (l ++ [c]) = ((applyP (runP s l).1 c).1, (runP s l).2 ++ [(applyP (runP s l).1 c).2]) := by
  induction l with
  | nil => intro s c; rfl
  | cons a l ih =>
    intro s c
    rw [List.cons_append, runP, ih]
    rfl
theorem runP_ok {l : List Cm} : ∀ {s : St}, s.Ok → (∀ c ∈ l, c.Ok) → (runP s l).1.Ok := by
  induction l with
  | nil => intro s h _; exact h
  | cons a l ih =>
    intro s h hc
    exact ih (applyP_ok h (hc a (by simp))) fun c h' => hc c (by simp [h'])
theorem runP_length (l : List Cm) : ∀ (s : St), (runP s l).2.length = l.length := by
  induction l with
  | nil => intro s; rfl
  | cons a l ih => intro s; simp [runP, ih]

/-- a state of the older schema and one of the newer say the same -/
def Alike (s t : St) : Prop := s.schema = 1 ∧ t.schema = 2 ∧ s.pairs = rev 0 t.pairs ∧ s.sess = t.sess
theorem clientP_alike {s t : St} {c : Cm} (h : Alike s t) (h1 : hasB 1 c.kind = true) : (clientP s c).2 = (clientP t c).2 ∧ Alike (clientP s c).1 (clientP t c).1 := by
  obtain ⟨v, ps, ss⟩ := s
  obtain ⟨v', qs, ss'⟩ := t
  obtain ⟨e1, e2, e3, e4⟩ := h
  simp only at e1 e2 e3 e4
  subst e1 e2 e3 e4
  have h5 : ¬ c.kind = 5 := by
    intro h5
    rw [h5] at h1
    exact absurd h1 (by decide)
  have h2 : hasB 2 c.kind = true := by
    unfold hasB at h1 ⊢
    simp at h1 ⊢
    omega
  unfold clientP
  simp only
  split
  · exact ⟨rfl, rfl, rfl, rfl, rfl⟩
  · split
    · exact ⟨rfl, rfl, rfl, rfl, rfl⟩
    · rw [h1, h2]
      simp only [Bool.true_eq_false, if_false, if_pos]
      rw [if_neg (by decide)]
      have e : kdo3 qs c = kdo2 qs c := by unfold kdo3; rw [if_neg h5]
      rw [rev_kdo2, e]
      exact ⟨rfl, rfl, rfl, rfl, rfl⟩
theorem applyP_alike {s t : St} {c : Cm} (h : Alike s t) (h1 : hasB 1 c.kind = true) (h6 : ¬ c.kind = 6) : (applyP s c).2 = (applyP t c).2 ∧ Alike (applyP s c).1 (applyP t c).1 := by
  unfold applyP
  split
  · exact clientP_alike h h1
  · rw [if_neg (fun hh => h6 hh.1), if_neg (fun hh => h6 hh.1)]
    exact ⟨rfl, h⟩
theorem runP_alike {l : List Cm} : ∀ {s t : St}, Alike s t → (∀ c ∈ l, hasB 1 c.kind = true ∧ ¬ c.kind = 6) → (runP s l).2 = (runP t l).2 ∧ Alike (runP s l).1 (runP t l).1 := by
  induction l with
  | nil => intro s t h _; exact ⟨rfl, h⟩
  | cons a l ih =>
    intro s t h hc
    obtain ⟨k1, k2⟩ := hc a (by simp)
    obtain ⟨g1, g2⟩ := applyP_alike h k1 k2
    obtain ⟨g3, g4⟩ := ih g2 fun c h' => hc c (by simp [h'])
    refine ⟨?_, g4⟩
    show _ :: _ = _ :: _
    rw [g1, g3]
theorem alike_up {s : St} (h : s.Ok) (h1 : s.schema = 1) : Alike s ⟨2, rev 1 s.pairs, s.sess⟩ := by
  refine ⟨h1, rfl, ?_, rfl⟩
  simp only
  rw [rev_rev, rev_zero]
  intro p hp
  have := (h.pairs.each p hp).2
  rwa [if_pos h1] at this
end Go.Proofs.YtdclfdinhdaadaaGreatDoor

/- Package app: the contract of Run. -/
namespace Go.Proofs.YtdclfdinhdaadaaGreatDoor
open Go.RowKit

/-- block g holds the state t, whose rows lie in memory that keeps to R -/
def StB (R : Nat → Prop) (w : World) (g : Nat) (t : St) : Prop :=
  ∃ A1 n1 c1 A2 n2 c2, Blk w g 25 #[.int .i64 t.schema, .slice A1 n1 c1, .slice A2 n2 c2] ∧ Reads w R 3 A1 n1 (pcs t.pairs) ∧ Reads w R 8 A2 n2 (ecs t.sess)

/-- Three results: a struct in memory, two values. -/
theorem results_row_tmp_tmp {P : Program} {fn : Func} {p u x : Tmp} {ty : TypeId} (h : fn.results = #[.cell p ty, .tmp u, .tmp x]) (tmps : Array Value) (w : World) (g : Nat) (t : TypeId) (cs : Array Value) (fr : Nat × Nat) (d : TypeDesc)
    (hp : tmps.getD p undef = .pointer (some ⟨g, 0, none⟩)) (hg : w.heap[g]? = some (.cells cs t fr))
    (hu : P.underlying ty = some d) (hd : (match d with | .struct _ | .array _ _ => true | _ => false) = true) (hi : (P.info? ty).map (·.size) = some cs.size) :
    (results fn tmps).run P w = .ok (.tuple #[.agg cs, tmps.getD u undef, tmps.getD x undef]) w := by
  have hp1 : tmps[p]?.getD undef = .pointer (some ⟨g, 0, none⟩) := by simpa using hp
  simp [results, h, hp1, asAddr, run_loadVar_row w g t ty cs fr d hg hu hd hi]

set_option maxRecDepth 100000 in
set_option maxHeartbeats 4000000 in
theorem app_Run (s : St) (cs : List Cm) (A1 A2 A3 : Option Addr) (n1 c1 n2 c2 n3 c3 : Nat) (R1 R2 R3 : Nat → Prop) (w : World) (h1 : Reads w R1 3 A1 n1 (pcs s.pairs)) (h2 : Reads w R2 8 A2 n2 (ecs s.sess)) (h3 : Reads w R3 7 A3 n3 (ccs cs)) (hok : s.Ok) (hc : ∀ c ∈ cs, c.Ok) (hT : T8 w) (hn3 : n3 ≤ 10000) :
    Calls Tryz.prog 14 #[stv s.schema (.slice A1 n1 c1) (.slice A2 n2 c2), .slice A3 n3 c3] w fun e w' => ∃ u v, e = .returned (.tuple #[u, v, .int .i64 0]) ∧ StV (fun k => w.heap.size ≤ k) w' u (runP s cs).1 ∧ OwnA w' w.heap.size v (runP s cs).2 ∧ Mod Non w w' := by
  have hl3 : cs.length = n3 := by have := h3.1; rw [ccs_length] at this; omega
  have hl1 : n1 ≤ 100000 := by have := hok.pairs.few; have := h1.1; rw [pcs_length] at this; omega
  have hl2 : n2 ≤ 100000 := by have := hok.few; have := h2.1; rw [ecs_length] at this; omega
  obtain ⟨v, hv⟩ : ∃ v, v = s.schema := ⟨_, rfl⟩
  rw [← hv]
  have HV := Lib.hid hv
  have HOK := Lib.hid hok
  have HC := Lib.hid hc
  have HL3 := Lib.hid hl3
  clear hv hok hc hl3
  have m0 := ((Mod.refl Non w).alloc (.cells #[.int .i64 v, .slice A1 n1 c1, .slice A2 n2 c2] 25)).alloc (.cells #[.int .i64 0, .slice none 0 0, .slice none 0 0] 25)
  have s0 := (Blk.new w 25 #[.int .i64 v, .slice A1 n1 c1, .slice A2 n2 c2]).alloc (.cells #[.int .i64 0, .slice none 0 0, .slice none 0 0] 25)
  have q0 := Blk.new1 w (.cells #[.int .i64 v, .slice A1 n1 c1, .slice A2 n2 c2] 25) 25 #[.int .i64 0, .slice none 0 0, .slice none 0 0]
  have hck := migr_Check s A1 A2 n1 c1 n2 c2 R1 R2 _ (h1.mod m0 fun _ _ _ h => h) (h2.mod m0 fun _ _ _ h => h) HOK.out (hT.non m0)
  rw [← HV.out] at hck
  have HCK := Lib.hid hck
  clear hck
  go_enter Tryz.func14, Tryz.ntmps14
  go_wp2_with fail
  refine HCK.out.mono ?_
  rintro e w2 ⟨rfl, hm1⟩
  have s2 := s0.mod hm1 (fun h => h)
  have q2 := q0.mod hm1 (fun h => h)
  have m2 := m0.trans' hm1
  clear s0 q0 m0 hm1 HCK
  have es0 := s2.cell 0
  have es1 := s2.cell 1
  have es2 := s2.cell 2
  simp at es0 es1 es2
  have HCL := Lib.hid (migr_Clone v s.pairs s.sess A1 A2 n1 c1 n2 c2 R1 R2 w2 (h1.mod m2 fun _ _ _ h => h) (h2.mod m2 fun _ _ _ h => h) hl1 hl2)
  go_wp2_with fail
  refine HCL.out.mono ?_
  rintro e w3 ⟨g1, g2, rfl, o1, o2, hg12, hm3⟩
  have hz2 := q2.lt
  have s3 := s2.mod hm3 (fun h => h)
  have q3 := q2.mod hm3 (fun h => h)
  have m3 := m2.trans' hm3
  clear s2 q2 m2 hm3 es0 es1 es2 HCL hg12 h1 h2
  have ns1 := own_ne_blk o1 s3 (by decide)
  have ns2 := own_ne_blk o2 s3 (by decide)
  obtain ⟨W4, hW4⟩ : ∃ W4, W4 = ((w3.setCell ⟨w.heap.size, 0, none⟩ (.int .i64 v)).setCell ⟨w.heap.size, 1, none⟩ (.slice (some ⟨g1, 0, none⟩) n1 n1)).setCell ⟨w.heap.size, 2, none⟩ (.slice (some ⟨g2, 0, none⟩) n2 n2) := ⟨_, rfl⟩
  have hm4 := (((Mod.refl (One w.heap.size) w3).setOne (i := 0) (.int .i64 v)).setOne (i := 1) (.slice (some ⟨g1, 0, none⟩) n1 n1)).setOne (i := 2) (.slice (some ⟨g2, 0, none⟩) n2 n2)
  have s4 := ((s3.set_ 0 (.int .i64 v)).set_ 1 (.slice (some ⟨g1, 0, none⟩) n1 n1)).set_ 2 (.slice (some ⟨g2, 0, none⟩) n2 n2)
  rw [← hW4] at hm4 s4
  have q4 := q3.mod hm4 (fun h => by unfold One at h; omega)
  have m4 := m3.trans hm4 fun i hi h => by unfold One at h; omega
  have e1 := (o1.mod hm4 (fun g hg h => ns1 (hg.trans (congrArg some h)))).reads
  have e2 := (o2.mod hm4 (fun g hg h => ns2 (hg.trans (congrArg some h)))).reads
  have HW4 := Lib.hid hW4
  have ff0 := s3.frozen 0
  have ff1 := s3.frozen 1
  have ff2 := s3.frozen 2
  have fs0 := s3.cell 0
  have fs1 := s3.cell 1
  have fs2 := s3.cell 2
  simp at fs0 fs1 fs2
  have hz3 := m3.size
  clear s3 q3 m3 o1 o2 hW4 hm4 ns1 ns2
  have HST : Hid (StB (fun k => w.heap.size + 2 ≤ k) W4 w.heap.size s) := ⟨_, _, _, _, _, _, by rw [← HV.out]; exact s4, e1.more fun k _ h => by have := h.1; omega, e2.more fun k _ h => by have := h.1; omega⟩
  clear s4 e1 e2
  have HQ4 := Lib.hid q4
  have HM4 := Lib.hid m4
  clear q4 m4
  go_wp2_with fail
  rw [← HW4.out]
  clear ff0 ff1 ff2 fs0 fs1 fs2 HW4
  go_loopw [8, 24] (fun o i wr => ∃ k : Nat, k ≤ n3 ∧ i = .int .i64 k ∧ StB (fun k => w.heap.size + 2 ≤ k) wr w.heap.size (runP s (cs.take k)).1 ∧ OwnA wr w.heap.size o (runP s (cs.take k)).2 ∧ Blk wr (w.heap.size + 1) 25 #[.int .i64 0, .slice none 0 0, .slice none 0 0] ∧ Mod Non w wr) (fun _ i _ => n3 - (intOf i).toNat)
  case atStart => exact ⟨0, by omega, rfl, HST.out, OwnA.nil _ _, HQ4.out, HM4.out⟩
  case round =>
    obtain ⟨k, hk, rfl, hst, ho, hq, hm⟩ := hrel
    clear HST HQ4 HM4
    obtain ⟨B1, p1, d1, B2, p2, d2, sb, r1, r2⟩ := hst
    obtain ⟨t, ht⟩ : ∃ t, t = (runP s (cs.take k)).1 := ⟨_, rfl⟩
    obtain ⟨ans, has⟩ : ∃ ans, ans = (runP s (cs.take k)).2 := ⟨_, rfl⟩
    rw [← ht] at sb r1 r2
    rw [← has] at ho
    have HT := Lib.hid ht
    have HAS := Lib.hid has
    have hlk : ans.length ≤ 100000 := by rw [has, runP_length, List.length_take]; omega
    clear ht has
    have hg1 := hq.lt
    have hg0 : w.heap.size < wr.heap.size := by omega
    have HM := Lib.hid hm
    obtain ⟨A8, n8, c8, rfl, hn8, hc8⟩ := ho.form
    clear hn8
    by_cases hlt : k < n3
    · obtain ⟨b, off, c, hA, hbk, _, hck, d0, d1c, d2c, d3, d4, d5, d6⟩ := (h3.mod hm fun _ _ _ h => h).cm hlt
      subst hA
      have hkn : (k : Int) < n3 := by omega
      have hcok := HC.out c (List.mem_of_getElem? hck)
      have htok : t.Ok := by rw [HT.out]; exact runP_ok HOK.out fun x hx => HC.out x (List.mem_of_mem_take hx)
      have HCK := Lib.hid hck
      have m1 := hm.alloc (.cells #[.int .i64 c.kind, .int .i64 c.client, .int .i64 c.seq, .string c.key, .string c.val, .string c.old, .int .i64 c.node] 33)
      have hap := app_Apply t c B1 B2 p1 d1 p2 d2 _ _ (wr.alloc (.cells #[.int .i64 c.kind, .int .i64 c.client, .int .i64 c.seq, .string c.key, .string c.val, .string c.old, .int .i64 c.node] 33)) (r1.alloc _) (r2.alloc _) htok hcok (hT.non m1)
      obtain ⟨ap, hapq⟩ : ∃ ap, ap = applyP t c := ⟨_, rfl⟩
      rw [← hapq] at hap
      have HAPQ := Lib.hid hapq
      obtain ⟨tv, htv⟩ : ∃ tv, tv = t.schema := ⟨_, rfl⟩
      rw [← htv] at hap sb
      have HTV := Lib.hid htv
      have HAP := Lib.hid hap
      clear hap hapq htv hck hcok htok hm r1 r2
      have s1 := sb.alloc (.cells #[.int .i64 c.kind, .int .i64 c.client, .int .i64 c.seq, .string c.key, .string c.val, .string c.old, .int .i64 c.node] 33)
      have q1 := hq.alloc (.cells #[.int .i64 c.kind, .int .i64 c.client, .int .i64 c.seq, .string c.key, .string c.val, .string c.old, .int .i64 c.node] 33)
      have o1 := ho.non ((Mod.refl Non wr).alloc (.cells #[.int .i64 c.kind, .int .i64 c.client, .int .i64 c.seq, .string c.key, .string c.val, .string c.old, .int .i64 c.node] 33))
      have es0 := sb.cell 0
      have es1 := sb.cell 1
      have es2 := sb.cell 2
      simp at es0 es1 es2
      obtain ⟨kind, client, seq, key, val, old, node⟩ := c
      simp only at d0 d1c d2c d3 d4 d5 d6 s1 q1 o1 m1
      clear sb hq ho
      go_wp2_with fail
      refine HAP.out.mono ?_
      rintro e w6 ⟨u, rfl, hu, hm6⟩
      have s6 := s1.mod hm6 (fun h => h)
      have q6 := q1.mod hm6 (fun h => h)
      have o6 := o1.non hm6
      have m6 := m1.trans' hm6
      have hs6 := s6.lt
      have hq6 := q6.lt
      have hr6 : ∀ g, (Value.slice A8 n8 c8).ownBlock = some g → g < (wr.alloc (.cells #[.int .i64 kind, .int .i64 client, .int .i64 seq, .string key, .string val, .string old, .int .i64 node] 33)).heap.size := fun g h => (World.ownsRow.lt o1 g h).2
      clear s1 q1 o1 m1 es0 es1 es2 d0 d1c d2c d3 d4 d5 d6 HAP hm6
      obtain ⟨⟨av, aps, ass⟩, ⟨xa, xb, xc, xd, xe, xf⟩⟩ := ap
      obtain ⟨A5, n5, c5, A6, n6, c6, rfl, k1, k2⟩ := hu
      simp only at k1 k2
      have hd1 : ¬ w6.heap.size = w.heap.size := by omega
      have hd2 : ¬ w6.heap.size + 1 = w.heap.size := by omega
      have s7 := (s6.alloc (.cells #[.int .i64 av, .slice A5 n5 c5, .slice A6 n6 c6] 25)).alloc (.cells #[.int .i64 xa, .int .i64 xb, .int .i64 xc, .bool xd, .string xe, .int .i64 xf] 57)
      have q7 := (q6.alloc (.cells #[.int .i64 av, .slice A5 n5 c5, .slice A6 n6 c6] 25)).alloc (.cells #[.int .i64 xa, .int .i64 xb, .int .i64 xc, .bool xd, .string xe, .int .i64 xf] 57)
      have m7 := (m6.alloc (.cells #[.int .i64 av, .slice A5 n5 c5, .slice A6 n6 c6] 25)).alloc (.cells #[.int .i64 xa, .int .i64 xb, .int .i64 xc, .bool xd, .string xe, .int .i64 xf] 57)
      have o7 := o6.non (((Mod.refl Non w6).alloc (.cells #[.int .i64 av, .slice A5 n5 c5, .slice A6 n6 c6] 25)).alloc (.cells #[.int .i64 xa, .int .i64 xb, .int .i64 xc, .bool xd, .string xe, .int .i64 xf] 57))
      have x7 := (Blk.new w6 25 #[.int .i64 av, .slice A5 n5 c5, .slice A6 n6 c6]).alloc (.cells #[.int .i64 xa, .int .i64 xb, .int .i64 xc, .bool xd, .string xe, .int .i64 xf] 57)
      have y7 := Blk.new1 w6 (.cells #[.int .i64 av, .slice A5 n5 c5, .slice A6 n6 c6] 25) 57 #[.int .i64 xa, .int .i64 xb, .int .i64 xc, .bool xd, .string xe, .int .i64 xf]
      have k3 := (k1.alloc (.cells #[.int .i64 av, .slice A5 n5 c5, .slice A6 n6 c6] 25)).alloc (.cells #[.int .i64 xa, .int .i64 xb, .int .i64 xc, .bool xd, .string xe, .int .i64 xf] 57)
      have k4 := (k2.alloc (.cells #[.int .i64 av, .slice A5 n5 c5, .slice A6 n6 c6] 25)).alloc (.cells #[.int .i64 xa, .int .i64 xb, .int .i64 xc, .bool xd, .string xe, .int .i64 xf] 57)
      obtain ⟨W7, hW7⟩ : ∃ W7, W7 = (w6.alloc (.cells #[.int .i64 av, .slice A5 n5 c5, .slice A6 n6 c6] 25)).alloc (.cells #[.int .i64 xa, .int .i64 xb, .int .i64 xc, .bool xd, .string xe, .int .i64 xf] 57) := ⟨_, rfl⟩
      rw [← hW7] at s7 q7 m7 o7 x7 y7 k3 k4
      have HW7 := Lib.hid hW7
      clear hW7 s6 q6 o6 m6 k1 k2
      have HR6 := Lib.hid hr6
      clear hr6
      go_wp2_with (with_reducible (show wpList _ _ _ (⟨some 39, _, _, _, _, _⟩ :: _) _ _); refine Hid.out ?_)
      rw [← HW7.out]
      have zs0 := s7.cell 0
      have zs1 := s7.cell 1
      have zs2 := s7.cell 2
      have zx0 := x7.cell 0
      have zx1 := x7.cell 1
      have zx2 := x7.cell 2
      simp at zs0 zs1 zs2 zx0 zx1 zx2
      have fs0 := s7.frozen 0
      have fs1 := s7.frozen 1
      have fs2 := s7.frozen 2
      refine Lib.hid ?_
      go_wp2_with (with_reducible (show wpList _ _ _ (⟨some 41, _, _, _, _, _⟩ :: _) _ _); refine Hid.out ?_)
      obtain ⟨W8, hW8⟩ : ∃ W8, W8 = ((W7.setCell ⟨w.heap.size, 0, none⟩ (.int .i64 av)).setCell ⟨w.heap.size, 1, none⟩ (.slice A5 n5 c5)).setCell ⟨w.heap.size, 2, none⟩ (.slice A6 n6 c6) := ⟨_, rfl⟩
      have s8 := ((s7.set_ 0 (.int .i64 av)).set_ 1 (.slice A5 n5 c5)).set_ 2 (.slice A6 n6 c6)
      have hm8 := (((Mod.refl (One w.heap.size) W7).setOne (i := 0) (.int .i64 av)).setOne (i := 1) (.slice A5 n5 c5)).setOne (i := 2) (.slice A6 n6 c6)
      rw [← hW8] at s8 hm8 ⊢
      have no7 := own_ne_blk o7 s7 (by decide)
      have q8 := q7.mod hm8 (fun h => by unfold One at h; omega)
      have y8 := y7.mod hm8 (fun h => by unfold One at h; omega)
      have o8 := o7.mod hm8 (fun g hg h => no7 (hg.trans (congrArg some h)))
      have m8 := m7.trans hm8 fun i hi h => by unfold One at h; omega
      have hsz1 : w.heap.size < (wr.alloc (.cells #[.int .i64 kind, .int .i64 client, .int .i64 seq, .string key, .string val, .string old, .int .i64 node] 33)).heap.size := by simp; omega
      have k5 := k3.mod hm8 (fun k _ hr h => by unfold One at h; have hr : (wr.alloc (.cells #[.int .i64 kind, .int .i64 client, .int .i64 seq, .string key, .string val, .string old, .int .i64 node] 33)).heap.size ≤ k := hr; omega)
      have k6 := k4.mod hm8 (fun k _ hr h => by unfold One at h; have hr : (wr.alloc (.cells #[.int .i64 kind, .int .i64 client, .int .i64 seq, .string key, .string val, .string old, .int .i64 node] 33)).heap.size ≤ k := hr; omega)
      have no8 := own_ne_blk o8 s8 (by decide)
      have nq8 := own_ne_blk o8 q8 (by decide)
      clear hW8 s7 q7 o7 m7 x7 y7 k3 k4 hm8 zs0 zs1 zs2 zx0 zx1 zx2 fs0 fs1 fs2 no7 hsz1
      have zy0 := y8.cell 0
      have zy1 := y8.cell 1
      have zy2 := y8.cell 2
      have zy3 := y8.cell 3
      have zy4 := y8.cell 4
      have zy5 := y8.cell 5
      simp at zy0 zy1 zy2 zy3 zy4 zy5
      have hz8 := m8.size
      refine Lib.hid ?_
      go_wp2_with (at_builtin; refine wpList_append_An rfl (.tmp 40) (.tmp 42) rfl w.heap.size _ ans rfl o8 ⟨xa, xb, xc, xd, xe, xf⟩ W8.heap.size rfl rfl hlk (by omega) ?_; intro v9 w9 hown9 hm9)
      go_roundw
      case rel =>
        have e1 : cs.take (k + 1) = cs.take k ++ [⟨kind, client, seq, key, val, old, node⟩] := by
          obtain ⟨z1, z2⟩ := List.getElem?_eq_some_iff.1 HCK.out
          rw [List.take_succ_eq_append_getElem z1, z2]
        have e2 : runP s (cs.take (k + 1)) = (⟨av, aps, ass⟩, ans ++ [⟨xa, xb, xc, xd, xe, xf⟩]) := by
          rw [e1, runP_snoc, ← HT.out, ← HAS.out, ← HAPQ.out]
        refine ⟨k + 1, by omega, by go_num, ?_, ?_, ?_, ?_⟩
        · rw [e2]
          refine ⟨A5, n5, c5, A6, n6, c6, s8.mod hm9 no8, ?_, ?_⟩
          · refine (k5.mod hm9 ?_).more ?_
            · intro j _ hj h
              have hj : (wr.alloc (.cells #[.int .i64 kind, .int .i64 client, .int .i64 seq, .string key, .string val, .string old, .int .i64 node] 33)).heap.size ≤ j := hj
              have := HR6.out j h
              omega
            · intro j _ hj
              have hj : (wr.alloc (.cells #[.int .i64 kind, .int .i64 client, .int .i64 seq, .string key, .string val, .string old, .int .i64 node] 33)).heap.size ≤ j := hj
              have : (wr.alloc (.cells #[.int .i64 kind, .int .i64 client, .int .i64 seq, .string key, .string val, .string old, .int .i64 node] 33)).heap.size = wr.heap.size + 1 := by simp
              omega
          · refine (k6.mod hm9 ?_).more ?_
            · intro j _ hj h
              have hj : (wr.alloc (.cells #[.int .i64 kind, .int .i64 client, .int .i64 seq, .string key, .string val, .string old, .int .i64 node] 33)).heap.size ≤ j := hj
              have := HR6.out j h
              omega
            · intro j _ hj
              have hj : (wr.alloc (.cells #[.int .i64 kind, .int .i64 client, .int .i64 seq, .string key, .string val, .string old, .int .i64 node] 33)).heap.size ≤ j := hj
              have : (wr.alloc (.cells #[.int .i64 kind, .int .i64 client, .int .i64 seq, .string key, .string val, .string old, .int .i64 node] 33)).heap.size = wr.heap.size + 1 := by simp
              omega
        · rw [e2]; exact hown9
        · exact q8.mod hm9 nq8
        · exact m8.trans hm9 fun i hi h => by have := (World.ownsRow.lt o8 i h).1; omega
      case measure => simp [intOf]; omega
    · have hkn : ¬ (k : Int) < n3 := by omega
      have hkm : cs.take k = cs := List.take_of_length_le (by rw [HL3.out]; omega)
      have HT2 : Hid (t = (runP s cs).1) := by show _ = _; rw [HT.out, hkm]
      have HAS2 : Hid (ans = (runP s cs).2) := by show _ = _; rw [HAS.out, hkm]
      have hF := (((((Mod.refl (One (w.heap.size + 1)) wr).setOne (i := 0) (.int .i64 t.schema)).setOne (i := 1) (.slice B1 p1 d1)).setOne (i := 2) (.slice B2 p2 d2)))
      have q9 := ((hq.set_ 0 (.int .i64 t.schema)).set_ 1 (.slice B1 p1 d1)).set_ 2 (.slice B2 p2 d2)
      obtain ⟨tv, htv⟩ : ∃ tv, tv = t.schema := ⟨_, rfl⟩
      rw [← htv] at sb hF q9
      have HTV := Lib.hid htv
      have nq := own_ne_blk ho hq (by decide)
      obtain ⟨W9, hW9⟩ : ∃ W9, W9 = ((wr.setCell ⟨w.heap.size + 1, 0, none⟩ (.int .i64 tv)).setCell ⟨w.heap.size + 1, 1, none⟩ (.slice B1 p1 d1)).setCell ⟨w.heap.size + 1, 2, none⟩ (.slice B2 p2 d2) := ⟨_, rfl⟩
      rw [← hW9] at hF q9
      have HQ9 := Lib.hid q9
      have HM9 := Lib.hid (hm.trans hF fun i hi h => by unfold One at h; omega)
      have HO9 := Lib.hid (ho.mod hF (fun g hg h => nq (hg.trans (congrArg some h))))
      have HRR := Lib.hid (show Reads wr (fun k => w.heap.size + 2 ≤ k) 3 B1 p1 (pcs t.pairs) ∧ Reads wr (fun k => w.heap.size + 2 ≤ k) 8 B2 p2 (ecs t.sess) from ⟨r1, r2⟩)
      have HF := Lib.hid hF
      have HW9 := Lib.hid hW9
      clear htv hkm q9 hF nq r1 r2 hm ho hW9
      have es0 := sb.cell 0
      have es1 := sb.cell 1
      have es2 := sb.cell 2
      have eq0 := hq.cell 0
      have eq1 := hq.cell 1
      have eq2 := hq.cell 2
      simp at es0 es1 es2 eq0 eq1 eq2
      have fq0 := hq.frozen 0
      have fq1 := hq.frozen 1
      have fq2 := hq.frozen 2
      clear sb hq
      go_wp2_with fail
      refine bodyPost_ret (results_row_tmp_tmp rfl _ _ (w.heap.size + 1) 25 #[.int .i64 tv, .slice B1 p1 d1, .slice B2 p2 d2] (0, 0) _ rfl (by rw [← HW9.out]; exact HQ9.out) Tryz.underlying25 rfl (by kernel_rfl)) rfl ?_
      rw [← HW9.out]
      refine ⟨_, _, rfl, ?_, ?_, HM9.out⟩
      · rw [← HT2.out, HTV.out]
        refine ⟨_, _, _, _, _, _, rfl, (HRR.out.1.mod HF.out ?_).more ?_, (HRR.out.2.mod HF.out ?_).more ?_⟩
        · intro j _ hj h; have hj : w.heap.size + 2 ≤ j := hj; unfold One at h; omega
        · intro j _ hj; have hj : w.heap.size + 2 ≤ j := hj; omega
        · intro j _ hj h; have hj : w.heap.size + 2 ≤ j := hj; unfold One at h; omega
        · intro j _ hj; have hj : w.heap.size + 2 ≤ j := hj; omega
      · rw [← HAS2.out]
        exact HO9.out
end Go.Proofs.YtdclfdinhdaadaaGreatDoor

/- Images; slices.Clone of numbers; package app: Empty; package window: First, Check; package snaptwo: Put. -/
namespace Go.Proofs.YtdclfdinhdaadaaGreatDoor
open Go.RowKit

/-- an image -/
structure Im where
  index : Int
  active : Int
  confs : List Cf
  st : St
abbrev imv (i a : Int) (c : Value) (v : Int) (p s : Value) : Value := .agg #[.int .i64 i, .int .i64 a, c, .int .i64 v, p, s]
/-- the value v is the image m, in memory that keeps to R -/
def ImV (R : Nat → Prop) (w : World) (v : Value) (m : Im) : Prop :=
  ∃ A0 n0 c0 A1 n1 c1 A2 n2 c2, v = imv m.index m.active (.slice A0 n0 c0) m.st.schema (.slice A1 n1 c1) (.slice A2 n2 c2) ∧ Confs w R A0 n0 m.confs ∧ Reads w R 3 A1 n1 (pcs m.st.pairs) ∧ Reads w R 8 A2 n2 (ecs m.st.sess)
section
variable {R R' S : Nat → Prop} {w w' : World} {v : Value} {m : Im}
theorem ImV.mod (h : ImV R w v m) (hm : Mod S w w') (hS : ∀ k, k < w.heap.size → R k → ¬ S k) : ImV R w' v m := by
  obtain ⟨A0, n0, c0, A1, n1, c1, A2, n2, c2, h1, h2, h3, h4⟩ := h
  exact ⟨A0, n0, c0, A1, n1, c1, A2, n2, c2, h1, h2.mod hm hS, h3.mod hm hS, h4.mod hm hS⟩
theorem ImV.non (h : ImV R w v m) (hm : Mod Non w w') : ImV R w' v m := h.mod hm fun _ _ _ h => h
theorem ImV.more (h : ImV R w v m) (hR : ∀ k, k < w.heap.size → R k → R' k) : ImV R' w v m := by
  obtain ⟨A0, n0, c0, A1, n1, c1, A2, n2, c2, h1, h2, h3, h4⟩ := h
  exact ⟨A0, n0, c0, A1, n1, c1, A2, n2, c2, h1, h2.more hR, h3.more hR, h4.more hR⟩
end
/-- an image that may be -/
structure Im.Ok (m : Im) : Prop where
  index : 0 ≤ m.index ∧ m.index ≤ 4294967296
  active : 0 ≤ m.active ∧ m.active ≤ m.index
  confs : CfsOk m.confs
  few : m.confs.length ≤ 64
  st : m.st.Ok
  schema : m.st.schema = if 0 < m.active then 2 else 1

theorem mem_few {l : List Int} (h : MemOk l) : l.length ≤ 9 := by
  have key : ∀ (l : List Int) (m : Int), (∀ s ∈ l, m ≤ s ∧ s ≤ 9) → l.Pairwise (fun a b => a < b) → m ≤ 10 → (l.length : Int) ≤ 10 - m := by
    intro l
    induction l with
    | nil => intro m _ _ h3; simp; omega
    | cons a l ih =>
      intro m h1 h2 _
      have ha := h1 a (by simp)
      rw [List.pairwise_cons] at h2
      have := ih (a + 1) (fun s hs => ⟨by have := h2.1 s hs; omega, (h1 s (by simp [hs])).2⟩) h2.2 (by omega)
      rw [List.length_cons]
      omega
  have := key l 1 h.each h.rise (by omega)
  omega

theorem vis_one (l : List Int) : ∀ u ∈ vis l, u.oneCell' = true := by
  intro u hu
  obtain ⟨x, _, rfl⟩ := List.mem_map.1 hu
  rfl
theorem OwnI.made (w : World) : OwnI (w.alloc (.cells #[] 3)) w.heap.size (.slice (some ⟨w.heap.size, 0, none⟩) 0 0) [] := World.ownsRow_made w #[] 0 (Nat.le_refl _) (by simp [maxLen]) rfl
theorem wpList_append_vis {w : World} {ops : Array Oper} {rest : List Oper} {o : Oper} {a : Act} {Q : Exit → Act → World → Prop} (hgd : o.guard = none) (s x : Operand)
    (ho : o.op = .call { callee := .builtin .append, args := #[s, x], argTypes := #[50, 50] })
    (B : Nat) (v : Value) (l : List Int) (hs : a.eval s = v) (hown : OwnI w B v l) (R : Nat → Prop) (A : Option Addr) (n c : Nat) (m : List Int) (hx : a.eval x = .slice A n c) (hr : Reads w R 1 A n (vis m))
    (hlen : l.length + m.length ≤ 1000000) (hB : B ≤ w.heap.size)
    (h : ∀ v' w', OwnI w' B v' (l ++ m) → Mod (fun g => v.ownBlock = some g) w w' → wpList Tryz.prog ops Q rest (a.put o.dst v') w') : wpList Tryz.prog ops Q (o :: rest) a w := by
  obtain ⟨i0, hi, hz0, hz1, hz2⟩ := info_parts int_info
  have hn : n = m.length := by have := hr.1; rw [vis_length] at this; omega
  subst hn
  refine wpList_append_any w hgd s x 50 ho B 3 i0 _ 1 8 Tryz.underlying50 hi hz0 hz1 hz2 rfl (by omega) v l.length (vis l) hs hown R A m.length c (vis m) hx hr (vis_one m) (by unfold maxLen; omega) (by omega) hB ?_
  intro v' w' h1 h2 _
  refine h v' w' ?_ (mod_of_grown h2)
  unfold OwnI
  rw [show vis (l ++ m) = vis l ++ vis m by simp [vis], List.length_append]
  exact h1

theorem slices_Clone_I (A : Option Addr) (n c : Nat) (R : Nat → Prop) (l : List Int) (w : World) (hr : Reads w R 1 A n (vis l)) (hl : l.length ≤ 100000) :
    Calls Tryz.prog 45 #[.slice A n c] w fun e w' => ∃ v, e = .returned v ∧ OwnI w' w.heap.size v l ∧ Mod Non w w' := by
  have qT : ∀ (w : World) (a : Option Addr) (n c n' c' : Nat), (binOp .eql 50 (.slice a n c) (.slice none n' c')).run Tryz.prog w = .ok (.bool a.isNone) w := fun w a n c n' c' => Lib.run_eql_slice_nil w _ _ a n c n' c' Tryz.underlying50
  cases A with
  | none =>
    have hn : l = [] := by
      have h1 := hr.1
      rcases Nat.eq_zero_or_pos n with h0 | h0
      · subst h0
        rw [vis_length] at h1
        exact List.eq_nil_of_length_eq_zero (by omega)
      · obtain ⟨ad, h, _⟩ := hr.2 h0
        cases h
    subst hn
    go_enter Tryz.func45, Tryz.ntmps45
    go_wp2
    go_ret
    exact ⟨_, rfl, OwnI.nil _ _, Mod.refl _ _⟩
  | some ad =>
    go_enter Tryz.func45, Tryz.ntmps45
    go_wp2_with (at_builtin; refine wpList_append_vis rfl (.tmp 5) (.tmp 6) rfl w.heap.size _ [] rfl (OwnI.made _) R (some ad) n c l rfl (hr.alloc _) (by simp; omega) (by simp) ?_; intro v' w' hown' hm')
    go_ret
    exact ⟨_, rfl, by simpa using hown', (OwnI.made w).modNon ((Mod.refl _ _).alloc _) hm'⟩

theorem app_Empty (w : World) : Calls Tryz.prog 47 #[] w fun e w' => e = .returned (stv 1 (.slice none 0 0) (.slice none 0 0)) ∧ Mod Non w w' := by
  have m0 := (Mod.refl Non w).alloc (.cells #[.int .i64 1, .slice none 0 0, .slice none 0 0] 25)
  have s0 := Blk.new w 25 #[.int .i64 1, .slice none 0 0, .slice none 0 0]
  go_enter Tryz.func47, Tryz.ntmps47
  go_wp2_with fail
  refine bodyPost_ret (results_row rfl _ _ w.heap.size 25 #[.int .i64 1, .slice none 0 0, .slice none 0 0] (0, 0) _ rfl s0 Tryz.underlying25 rfl (by kernel_rfl)) rfl ?_
  exact ⟨rfl, m0⟩

theorem snaptwo_Put (s : St) (A1 A2 : Option Addr) (n1 c1 n2 c2 : Nat) (R1 R2 : Nat → Prop) (w : World) (h1 : Reads w R1 3 A1 n1 (pcs s.pairs)) (h2 : Reads w R2 8 A2 n2 (ecs s.sess)) (hok : s.Ok) (hT : T8 w) :
    Calls Tryz.prog 54 #[stv s.schema (.slice A1 n1 c1) (.slice A2 n2 c2)] w fun e w' => ∃ v, e = .returned (.tuple #[v, .int .i64 0]) ∧ OwnB w' w.heap.size v (senc s) ∧ Mod Non w w' := by
  obtain ⟨v, ps, ss⟩ := s
  simp only at h1 h2
  rcases hok.schema with hv | hv
  · simp only at hv
    subst hv
    have m0 := (Mod.refl Non w).alloc (.cells #[.int .i64 1, .slice A1 n1 c1, .slice A2 n2 c2] 25)
    have HC := Lib.hid (snapone_Encode ps ss A1 A2 n1 c1 n2 c2 R1 R2 _ (h1.mod m0 fun _ _ _ h => h) (h2.mod m0 fun _ _ _ h => h) hok (hT.non m0))
    clear h1 h2
    go_enter Tryz.func54, Tryz.ntmps54
    go_wp2_with fail
    refine HC.out.mono ?_
    rintro e w1 ⟨v, rfl, ho, hm⟩
    go_wp2
    go_ret2
    exact ⟨_, rfl, ho.below (by simp), m0.trans' hm⟩
  · simp only at hv
    subst hv
    have m0 := (Mod.refl Non w).alloc (.cells #[.int .i64 2, .slice A1 n1 c1, .slice A2 n2 c2] 25)
    have HC := Lib.hid (snaptwo_Encode ps ss A1 A2 n1 c1 n2 c2 R1 R2 _ (h1.mod m0 fun _ _ _ h => h) (h2.mod m0 fun _ _ _ h => h) hok (hT.non m0))
    clear h1 h2
    go_enter Tryz.func54, Tryz.ntmps54
    go_wp2_with fail
    refine HC.out.mono ?_
    rintro e w1 ⟨v, rfl, ho, hm⟩
    go_wp2
    go_ret2
    exact ⟨_, rfl, ho.below (by simp), m0.trans' hm⟩

theorem vers_Format (a : Int) (w : World) : Calls Tryz.prog 90 #[.int .i64 a] w fun e w' => e = .returned (.int .i64 (if 0 < a then 2 else 1)) ∧ w = w' := by
  by_cases h : 0 < a
  · rw [if_pos h]
    go_enter Tryz.func90, Tryz.ntmps90
    go_wp2
    go_ret
    exact ⟨rfl, rfl⟩
  · rw [if_neg h]
    go_enter Tryz.func90, Tryz.ntmps90
    go_wp2
    go_ret
    exact ⟨rfl, rfl⟩
end Go.Proofs.YtdclfdinhdaadaaGreatDoor

/- Package window: the contracts of Check, First. -/
namespace Go.Proofs.YtdclfdinhdaadaaGreatDoor
open Go.RowKit

theorem cf_len {cs : List Cf} (h : CfsOk cs) : ∀ x ∈ cs, x.mem.length ≤ 100000 := fun x hx => by have := mem_few (h.each x hx).1; omega

set_option maxRecDepth 100000 in
set_option maxHeartbeats 4000000 in
theorem window_Check (m : Im) (A0 A1 A2 : Option Addr) (n0 c0 n1 c1 n2 c2 : Nat) (R0 R1 R2 : Nat → Prop) (w : World) (h0 : Confs w R0 A0 n0 m.confs) (h1 : Reads w R1 3 A1 n1 (pcs m.st.pairs)) (h2 : Reads w R2 8 A2 n2 (ecs m.st.sess)) (hok : m.Ok) (hT : T8 w) :
    Calls Tryz.prog 49 #[imv m.index m.active (.slice A0 n0 c0) m.st.schema (.slice A1 n1 c1) (.slice A2 n2 c2)] w fun e w' => e = .returned (.int .i64 0) ∧ Mod Non w w' := by
  obtain ⟨ix, ac, cs, ⟨v, ps, ss⟩⟩ := m
  obtain ⟨⟨i1, i2⟩, ⟨a1, a2⟩, kcs, kfew, kst, ksch⟩ := hok
  simp only at h0 h1 h2 i1 i2 a1 a2 kcs kfew kst ksch
  have hn0 : n0 ≤ 64 := by have := h0.len; omega
  have m0 := (Mod.refl Non w).alloc (.cells #[.int .i64 ix, .int .i64 ac, .slice A0 n0 c0, .int .i64 v, .slice A1 n1 c1, .slice A2 n2 c2] 53)
  have b0 := Blk.new w 53 #[.int .i64 ix, .int .i64 ac, .slice A0 n0 c0, .int .i64 v, .slice A1 n1 c1, .slice A2 n2 c2]
  have HCC := Lib.hid (conf_Check A0 n0 c0 R0 cs _ (h0.non m0) (by omega) (cf_len kcs))
  have HMC := Lib.hid (fun w' (hm : Mod Non w w') => migr_Check ⟨v, ps, ss⟩ A1 A2 n1 c1 n2 c2 R1 R2 w' (h1.mod hm fun _ _ _ h => h) (h2.mod hm fun _ _ _ h => h) kst (hT.non hm))
  have HVF : Hid (∀ w', Calls Tryz.prog 90 #[.int .i64 ac] w' fun e w'' => e = .returned (.int .i64 v) ∧ w' = w'') := by
    intro w'
    have := vers_Format ac w'
    rw [← ksch] at this
    exact this
  have HK := Lib.hid kcs
  clear h0 h1 h2 kcs kst ksch
  go_enter Tryz.func49, Tryz.ntmps49
  go_wp2_with fail
  refine HCC.out.mono ?_
  rintro e w1 ⟨⟨k, rfl, hk⟩, hm1⟩
  have hk0 : k = 0 := hk.2 HK.out
  subst hk0
  have b1 := b0.mod hm1 (fun h => h)
  have m1 := m0.trans' hm1
  clear hk HCC m0 b0 hm1
  have e0 := b1.cell 0
  have e1 := b1.cell 1
  have e3 := b1.cell 3
  have e4 := b1.cell 4
  have e5 := b1.cell 5
  simp at e0 e1 e3 e4 e5
  go_wp2_with fail
  refine (HMC.out _ m1).mono ?_
  rintro e w2 ⟨rfl, hm2⟩
  have b2 := b1.mod hm2 (fun h => h)
  have m2 := m1.trans' hm2
  clear b1 hm2 m1 e0 e1 e3 e4 e5 HMC
  have e1 := b2.cell 1
  have e3 := b2.cell 3
  simp at e1 e3
  go_wp2_with fail
  go_quiet ((go_at_call 90; exact quiet_left (HVF.out _)))
  go_wp2
  go_ret
  exact ⟨rfl, m2.drewN _⟩

/-- the image with which all begins -/
def im0 (l : List Int) : Im := ⟨0, 0, [⟨1, l⟩], ⟨1, [], []⟩⟩
theorem cfs0 (l : List Int) : CfsOk [⟨1, l⟩] ↔ MemOk l := by
  constructor
  · intro h
    exact (h.each ⟨1, l⟩ (by simp)).1
  · intro h
    exact ⟨⟨_, rfl, rfl⟩, fun c hc => by simp at hc; subst hc; exact ⟨h, show (1 : Int) ≤ 4294967296 by decide⟩, by simp⟩
theorem st0_ok : St.Ok ⟨1, [], []⟩ := by
  refine ⟨.inl rfl, ⟨by simp, fun p hp => ?_, ?_⟩, ⟨fun s hs => ?_, ?_⟩, by simp, fun _ x hx => ?_⟩
  · simp at hp
  · exact List.Pairwise.nil
  · simp at hs
  · exact List.Pairwise.nil
  · simp at hx
theorem im0_ok {l : List Int} (h : MemOk l) : (im0 l).Ok := by
  refine ⟨?_, ?_, (cfs0 l).2 h, ?_, st0_ok, rfl⟩
  · exact ⟨show (0 : Int) ≤ 0 by decide, show (0 : Int) ≤ 4294967296 by decide⟩
  · exact ⟨show (0 : Int) ≤ 0 by decide, show (0 : Int) ≤ 0 by decide⟩
  · exact show 1 ≤ 64 by decide

/-- Two results, the first a struct in memory. -/
def FirstPost (R : Nat → Prop) (w' : World) (l : List Int) (e : Ending) : Prop := ∃ (u : Value) (k : Int), e = .returned (.tuple #[u, .int .i64 k]) ∧ (k = 0 ↔ MemOk l) ∧ (MemOk l → ImV R w' u (im0 l))

set_option maxRecDepth 100000 in
set_option maxHeartbeats 4000000 in
theorem window_First (A : Option Addr) (n c : Nat) (R : Nat → Prop) (l : List Int) (w : World) (hr : Reads w R 1 A n (vis l)) (hn : l.length ≤ 1000) :
    Calls Tryz.prog 18 #[.slice A n c] w fun e w' => FirstPost (fun k => w.heap.size ≤ k) w' l e ∧ Mod Non w w' := by
  have m0 := (Mod.refl Non w).alloc (.cells #[.int .i64 0, .int .i64 0, .slice none 0 0, .int .i64 0, .slice none 0 0, .slice none 0 0] 53)
  have b0 := Blk.new w 53 #[.int .i64 0, .int .i64 0, .slice none 0 0, .int .i64 0, .slice none 0 0, .slice none 0 0]
  have HCL := Lib.hid (slices_Clone_I A n c R l _ (hr.mod m0 fun _ _ _ h => h) (by omega))
  clear hr
  go_enter Tryz.func18, Tryz.ntmps18
  go_wp2_with fail
  refine HCL.out.mono ?_
  rintro e w1 ⟨v1, rfl, ho, hm1⟩
  have b1 := b0.mod hm1 (fun h => h)
  have m1 := m0.trans' hm1
  clear b0 m0 hm1 HCL
  obtain ⟨A1, n1, c1, rfl, hn1, hc1⟩ := ho.form
  have hrd := ho.reads
  have hg1 := b1.lt
  have m2 := m1.alloc (.cells #[.int .i64 1, .slice A1 n1 c1] 90)
  have b2 := b1.alloc (.cells #[.int .i64 1, .slice A1 n1 c1] 90)
  have HCF : Hid (Confs (w1.alloc (.cells #[.int .i64 1, .slice A1 n1 c1] 90)) (fun k => w.heap.size + 1 ≤ k) (some ⟨w1.heap.size, 0, none⟩) 1 [⟨1, l⟩]) := by
    refine ⟨[⟨1, A1, n1, c1⟩], ?_, rfl, ?_⟩
    · have := reads_new w1 #[.int .i64 1, .slice A1 n1 c1] 90 (fun k => w.heap.size + 1 ≤ k) (by show _ ≤ _; omega) 2 rfl
      simpa [vcs, Cv.cells] using this
    · intro i v c hv hc
      have : i = 0 := by
        have := (List.getElem?_eq_some_iff.1 hv).1
        simp at this
        exact this
      subst this
      simp at hv hc
      subst hv hc
      exact ⟨rfl, (hrd.alloc _).more fun k _ h => by have := h.1; simp only [World.size_alloc] at this; exact this⟩
  obtain ⟨W2, hW2⟩ : ∃ W2, W2 = w1.alloc (.cells #[.int .i64 1, .slice A1 n1 c1] 90) := ⟨_, rfl⟩
  rw [← hW2] at m2 b2 HCF
  have HW2 := Lib.hid hW2
  have HCC := Lib.hid (conf_Check (some ⟨w1.heap.size, 0, none⟩) 1 1 _ [⟨1, l⟩] W2 HCF.out (by omega) (by simp; omega))
  clear hW2 ho hrd hn1 b1 m1
  go_wp2_with fail
  rw [← HW2.out]
  refine HCC.out.mono ?_
  rintro e w3 ⟨⟨k, rfl, hk⟩, hm3⟩
  have b3 := b2.mod hm3 (fun h => h)
  have m3 := m2.trans' hm3
  have HC3 := Lib.hid (HCF.out.non hm3)
  have HK := Lib.hid (hk.trans (cfs0 l))
  clear hk HCC hm3 b2 m2 HW2 HCF
  by_cases hk0 : k = 0
  · subst hk0
    have HMO := Lib.hid (HK.out.1 rfl)
    have HEM := Lib.hid (app_Empty w3)
    go_wp2_with fail
    refine HEM.out.mono ?_
    rintro e w4 ⟨rfl, hm4⟩
    have b4 := b3.mod hm4 (fun h => h)
    have m4 := m3.trans' hm4
    have hF := ((((((Mod.refl (One w.heap.size) w4).setOne (i := 0) (.int .i64 0)).setOne (i := 1) (.int .i64 0)).setOne (i := 2) (.slice (some ⟨w1.heap.size, 0, none⟩) 1 1)).setOne (i := 3) (.int .i64 1)).setOne (i := 4) (.slice none 0 0)).setOne (i := 5) (.slice none 0 0)
    have b5 := (((((b4.set_ 0 (.int .i64 0)).set_ 1 (.int .i64 0)).set_ 2 (.slice (some ⟨w1.heap.size, 0, none⟩) 1 1)).set_ 3 (.int .i64 1)).set_ 4 (.slice none 0 0)).set_ 5 (.slice none 0 0)
    have m5 := m4.trans hF fun i hi h => by unfold One at h; omega
    have HC5 := Lib.hid ((HC3.out.non hm4).mod hF (fun j _ hj h => by have hj : w.heap.size + 1 ≤ j := hj; unfold One at h; omega))
    have HB5 := Lib.hid b5
    have HM5 := Lib.hid m5
    have e0 := b4.cell 0
    have e1 := b4.cell 1
    have e2 := b4.cell 2
    have e3 := b4.cell 3
    have e4 := b4.cell 4
    have e5 := b4.cell 5
    simp at e0 e1 e2 e3 e4 e5
    have f0 := b4.frozen 0
    have f1 := b4.frozen 1
    have f2 := b4.frozen 2
    have f3 := b4.frozen 3
    have f4 := b4.frozen 4
    have f5 := b4.frozen 5
    clear b3 m3 hm4 hF b5 m5 b4 m4 HC3 HEM
    go_wp2_with fail
    refine bodyPost_ret (results_row_tmp rfl _ _ w.heap.size 53 #[.int .i64 0, .int .i64 0, .slice (some ⟨w1.heap.size, 0, none⟩) 1 1, .int .i64 1, .slice none 0 0, .slice none 0 0] (0, 0) _ rfl HB5.out Tryz.underlying53 rfl (by kernel_rfl)) rfl ?_
    exact ⟨⟨_, 0, rfl, by simpa using HK.out, fun _ => ⟨_, _, _, _, _, _, _, _, _, rfl, HC5.out.more fun k _ h => by have h : w.heap.size + 1 ≤ k := h; omega, Reads.none_, Reads.none_⟩⟩, HM5.out⟩
  · have hk1 : (k != 0) = true := by simp [hk0]
    have HNO := Lib.hid (show ¬ MemOk l from fun h => hk0 (HK.out.2 h))
    have hF := ((((((Mod.refl (One w.heap.size) w3).setOne (i := 0) (.int .i64 0)).setOne (i := 1) (.int .i64 0)).setOne (i := 2) (.slice none 0 0)).setOne (i := 3) (.int .i64 0)).setOne (i := 4) (.slice none 0 0)).setOne (i := 5) (.slice none 0 0)
    have b5 := (((((b3.set_ 0 (.int .i64 0)).set_ 1 (.int .i64 0)).set_ 2 (.slice none 0 0)).set_ 3 (.int .i64 0)).set_ 4 (.slice none 0 0)).set_ 5 (.slice none 0 0)
    have m5 := m3.trans hF fun i hi h => by unfold One at h; omega
    have HB5 := Lib.hid b5
    have HM5 := Lib.hid m5
    have e0 := b3.cell 0
    have e1 := b3.cell 1
    have e2 := b3.cell 2
    have e3 := b3.cell 3
    have e4 := b3.cell 4
    have e5 := b3.cell 5
    simp at e0 e1 e2 e3 e4 e5
    have f0 := b3.frozen 0
    have f1 := b3.frozen 1
    have f2 := b3.frozen 2
    have f3 := b3.frozen 3
    have f4 := b3.frozen 4
    have f5 := b3.frozen 5
    clear hF b5 m5 b3 m3 HC3 hk0
    go_wp2_with fail
    refine bodyPost_ret (results_row_tmp rfl _ _ w.heap.size 53 #[.int .i64 0, .int .i64 0, .slice none 0 0, .int .i64 0, .slice none 0 0, .slice none 0 0] (0, 0) _ rfl HB5.out Tryz.underlying53 rfl (by kernel_rfl)) rfl ?_
    exact ⟨⟨_, k, rfl, HK.out, fun h => absurd h HNO.out⟩, HM5.out⟩
end Go.Proofs.YtdclfdinhdaadaaGreatDoor

/- Package image: the contract of Encode. -/
namespace Go.Proofs.YtdclfdinhdaadaaGreatDoor
open Go.RowKit

/-- a conf's bytes -/
def nencs (l : List Int) : List UInt8 := l.flatMap fun x => vbytes x.toNat
def cenc (c : Cf) : List UInt8 := vbytes c.from_.toNat ++ vbytes c.mem.length ++ nencs c.mem
def cencs (cs : List Cf) : List UInt8 := cs.flatMap cenc
/-- an image's bytes -/
def ienc (m : Im) : List UInt8 := vbytes m.st.schema.toNat ++ vbytes m.index.toNat ++ (if m.st.schema = 2 then vbytes m.active.toNat else []) ++ vbytes m.confs.length ++ cencs m.confs ++ vbytes (senc m.st).length ++ senc m.st

theorem nencs_length {l : List Int} (h : ∀ x ∈ l, 1 ≤ x ∧ x ≤ 9) (hl : l.length ≤ 9) : (nencs l).length ≤ 45 :=
  Nat.le_trans (flat_le (fun x : Int => vbytes x.toNat) 5 l fun x hx => vbytes_five (by have := h x hx; omega)) (by omega)
theorem nencs_take {l : List Int} (h : ∀ x ∈ l, 1 ≤ x ∧ x ≤ 9) (hl : l.length ≤ 9) (k : Nat) : (nencs (l.take k)).length ≤ 45 :=
  nencs_length (fun x hx => h x (List.mem_of_mem_take hx)) (by rw [List.length_take]; omega)
theorem cenc_length {c : Cf} (h : MemOk c.mem) (hf : c.from_ ≤ 4294967296) : (cenc c).length ≤ 55 := by
  unfold cenc
  have h1 := vbytes_five (n := c.from_.toNat) (by omega)
  have h9 := mem_few h
  have h2 := vbytes_five (n := c.mem.length) (by omega)
  have h3 := nencs_length h.each h9
  simp only [List.length_append]
  omega
theorem cencs_length {cs : List Cf} (h : ∀ c ∈ cs, MemOk c.mem ∧ c.from_ ≤ 4294967296) (hl : cs.length ≤ 64) : (cencs cs).length ≤ 3520 :=
  Nat.le_trans (flat_le cenc 55 cs fun c hc => cenc_length (h c hc).1 (h c hc).2) (by omega)
theorem cencs_take {cs : List Cf} (h : ∀ c ∈ cs, MemOk c.mem ∧ c.from_ ≤ 4294967296) (hl : cs.length ≤ 64) (k : Nat) : (cencs (cs.take k)).length ≤ 3520 :=
  cencs_length (fun x hx => h x (List.mem_of_mem_take hx)) (by rw [List.length_take]; omega)
theorem senc_length {s : St} (h : s.Ok) : (senc s).length ≤ 7300 := by
  unfold senc
  have h64 := h.pairs.few
  have h8 := ses_few h.sess
  have h1 := vbytes_five (n := s.schema.toNat) (by rcases h.schema with h | h <;> rw [h] <;> decide)
  have h2 := vbytes_five (n := s.pairs.length) (by omega)
  have h3 := vbytes_five (n := s.sess.length) (by omega)
  have h4 : (pencs s.schema s.pairs).length ≤ 6400 := Nat.le_trans (flat_le (penc s.schema) 100 _ fun p hp => penc_length (pas_bound h.pairs p hp).1 (pas_bound h.pairs p hp).2) (by omega)
  have h5 : (xencs s.schema s.sess).length ≤ 800 := Nat.le_trans (flat_le (xenc s.schema) 100 _ fun p hp => aenc_length s.schema (h.sess.each p hp).2.2.1) (by omega)
  simp only [List.length_append]
  omega

set_option maxRecDepth 100000 in
set_option maxHeartbeats 4000000 in
theorem image_Encode1 (ix ac : Int) (cs : List Cf) (ps : List Pa) (ss : List Se) (A0 A1 A2 : Option Addr) (n0 c0 n1 c1 n2 c2 : Nat) (R0 R1 R2 : Nat → Prop) (w : World) (h0 : Confs w R0 A0 n0 cs) (h1 : Reads w R1 3 A1 n1 (pcs ps)) (h2 : Reads w R2 8 A2 n2 (ecs ss)) (hok : Im.Ok ⟨ix, ac, cs, ⟨1, ps, ss⟩⟩) (hT : T8 w) :
    Calls Tryz.prog 20 #[imv ix ac (.slice A0 n0 c0) 1 (.slice A1 n1 c1) (.slice A2 n2 c2)] w fun e w' => ∃ v, e = .returned (.tuple #[v, .int .i64 0]) ∧ OwnB w' w.heap.size v (ienc ⟨ix, ac, cs, ⟨1, ps, ss⟩⟩) ∧ Mod Non w w' := by
  have hl0 := h0.len
  have HL0 := Lib.hid hl0
  have hn0 : n0 ≤ 64 := by have := hok.few; simp only at this; omega
  have hi1 : 0 ≤ ix := hok.index.1
  have hi2 : ix ≤ 4294967296 := hok.index.2
  have ha1 : 0 ≤ ac := hok.active.1
  have ha2 : ac ≤ 4294967296 := by have := hok.active.2; simp only at this; omega
  have HOK := Lib.hid hok
  have HCE : Hid (∀ c ∈ cs, MemOk c.mem ∧ c.from_ ≤ 4294967296) := hok.confs.each
  have HFW : Hid (cs.length ≤ 64) := hok.few
  have HSL := Lib.hid (senc_length hok.st)
  have m0 := (Mod.refl Non w).alloc (.cells #[.int .i64 ix, .int .i64 ac, .slice A0 n0 c0, .int .i64 1, .slice A1 n1 c1, .slice A2 n2 c2] 53)
  have b0 := Blk.new w 53 #[.int .i64 ix, .int .i64 ac, .slice A0 n0 c0, .int .i64 1, .slice A1 n1 c1, .slice A2 n2 c2]
  have HWC := Lib.hid (window_Check ⟨ix, ac, cs, ⟨1, ps, ss⟩⟩ A0 A1 A2 n0 c0 n1 c1 n2 c2 R0 R1 R2 _ (h0.non m0) (h1.mod m0 fun _ _ _ h => h) (h2.mod m0 fun _ _ _ h => h) hok (hT.non m0))
  have HPT := Lib.hid (fun w' (hm : Mod Non w w') => snaptwo_Put ⟨1, ps, ss⟩ A1 A2 n1 c1 n2 c2 R1 R2 w' (h1.mod hm fun _ _ _ h => h) (h2.mod hm fun _ _ _ h => h) hok.st (hT.non hm))
  clear hok hl0 h1 h2
  go_enter Tryz.func20, Tryz.ntmps20
  go_wp2_with fail
  refine HWC.out.mono ?_
  rintro e w1 ⟨rfl, hm1⟩
  have b1 := b0.mod hm1 (fun h => h)
  have m1 := m0.trans' hm1
  clear b0 m0 hm1 HWC
  have e2 := b1.cell 2
  have e3 := b1.cell 3
  have e4 := b1.cell 4
  have e5 := b1.cell 5
  simp at e2 e3 e4 e5
  have hz1 := b1.lt
  go_wp2_with fail
  refine (HPT.out _ m1).mono ?_
  rintro e w2 ⟨sv, rfl, hs, hm2⟩
  obtain ⟨A5, n5, c5, rfl, hn5, hc5⟩ := hs.form
  have hsr := hs.reads
  have HN5 : Hid (n5 = (senc ⟨1, ps, ss⟩).length) := hn5.out
  have b2 := b1.mod hm2 (fun h => h)
  have m2 := m1.trans' hm2
  clear b1 hm2 e2 e3 e4 e5 HPT hs hn5 m1
  have wn := Wr.new w2
  have mn := (Mod.refl Non w2).alloc (.cells #[.slice none 0 0] 74)
  have mn1 : Mod (One w2.heap.size) w2 _ := mn.non
  have b3 := b2.alloc (.cells #[.slice none 0 0] 74)
  have hb2 := b2.lt
  obtain ⟨g, hg⟩ : ∃ g, g = w2.heap.size := ⟨_, rfl⟩
  rw [← hg] at wn mn1
  have HG := Lib.hid hg
  have hgb : ¬ w.heap.size = g := by omega
  have hgl : w.heap.size < g := by omega
  have e3 := b3.cell 3
  simp at e3
  clear hg mn b2 hb2
  have HB3 := Lib.hid b3
  have HMN := Lib.hid mn1
  clear b3 mn1
  go_wp2_with fail
  have HH := Lib.hid (fun w' (hm : Mod Non w w') => (h0.more (R' := fun k => k < w.heap.size) fun k hk _ => hk).non hm)
  have M2 := Lib.hid m2
  clear h0 m2
  rw [← HG.out]
  refine (wr_Number g [] (1 : Int) (by decide) _ wn (by simp)).mono ?_
  rintro e x0 ⟨rfl, hw0, hm0⟩
  have hb0 := HB3.out.mod hm0 (fun h => hgb h)
  have HX0 := Lib.hid (HMN.out.trans' hm0)
  rw [List.nil_append, show (1 : Int).toNat = 1 from rfl] at hw0
  have vb0 := vbytes_five (n := 1) (by omega)
  obtain ⟨L0, hL0⟩ : ∃ L0, L0 = vbytes 1 := ⟨_, rfl⟩
  rw [← hL0] at hw0
  have hl0 : L0.length ≤ 5 := by rw [hL0]; omega
  have HL0' := Lib.hid hL0
  have f0 := hb0.cell 0
  have f1 := hb0.cell 1
  have f2 := hb0.cell 2
  have f3 := hb0.cell 3
  simp at f0 f1 f2 f3
  have HB0 := Lib.hid hb0
  clear hL0 hm0 hb0 vb0 wn e3  
  go_wp2_with fail
  refine (wr_Number g L0 ix (by omega) _ hw0 (by omega)).mono ?_
  rintro e x1 ⟨rfl, hw1, hm1⟩
  have hb1 := HB0.out.mod hm1 (fun h => hgb h)
  have HX1 := Lib.hid (HX0.out.trans' hm1)
  have vb1 := vbytes_five (n := (ix : Int).toNat) (by omega)
  obtain ⟨L1, hL1⟩ : ∃ L1, L1 = L0 ++ vbytes (ix : Int).toNat := ⟨_, rfl⟩
  rw [← hL1] at hw1
  have hl1 : L1.length ≤ 10 := by rw [hL1]; rw [List.length_append]; omega
  have HL1' := Lib.hid hL1
  have f0 := hb1.cell 0
  have f1 := hb1.cell 1
  have f2 := hb1.cell 2
  have f3 := hb1.cell 3
  simp at f0 f1 f2 f3
  have HB1 := Lib.hid hb1
  clear hL1 hm1 hb1 vb1   hl0 hw0
  go_wp2_with fail
  refine (wr_Number g L1 (n0 : Int) (by omega) _ hw1 (by omega)).mono ?_
  rintro e x2 ⟨rfl, hw2, hm2⟩
  have hb2 := HB1.out.mod hm2 (fun h => hgb h)
  have HX2 := Lib.hid (HX1.out.trans' hm2)
  rw [Int.toNat_natCast] at hw2
  have vb2 := vbytes_five (n := n0) (by omega)
  obtain ⟨L2, hL2⟩ : ∃ L2, L2 = L1 ++ vbytes n0 := ⟨_, rfl⟩
  rw [← hL2] at hw2
  have hl2 : L2.length ≤ 15 := by rw [hL2]; rw [List.length_append]; omega
  have HL2' := Lib.hid hL2
  have f0 := hb2.cell 0
  have f1 := hb2.cell 1
  have f2 := hb2.cell 2
  have f3 := hb2.cell 3
  simp at f0 f1 f2 f3
  have HB2 := Lib.hid hb2
  clear hL2 hm2 hb2 vb2   hl1 hw1
  go_wp2_with fail
  clear f0 f1 f2 f3
  go_loopw [57] (fun i wr => ∃ k : Nat, k ≤ n0 ∧ i = .int .i64 k ∧ Wr wr g (L2 ++ cencs (cs.take k)) ∧ Mod (One g) w2 wr) (fun i _ => n0 - (intOf i).toNat)
  case atStart => exact ⟨0, by omega, rfl, by simpa [cencs] using hw2, HX2.out⟩
  case round =>
    obtain ⟨k, hk, rfl, hw, hm⟩ := hrel
    clear hw2
    have HM := Lib.hid hm
    have hmw : Mod Non w wr := M2.out.trans hm (fun i hi h => by unfold One at h; omega)
    have hct := cencs_take HCE.out HFW.out k
    have hlk : (L2 ++ cencs (cs.take k)).length ≤ 5000 := by rw [List.length_append]; omega
    clear hm
    by_cases hlt : k < n0
    · obtain ⟨b, off, c, A', n', c', hA, hbk, _, hck, d0, d1, dm⟩ := (HH.out wr hmw).at_ hlt
      subst hA
      have hkn : (k : Int) < n0 := by omega
      have hgr := hw.lt
      obtain ⟨cmo, cfr⟩ := HCE.out c (List.mem_of_getElem? hck)
      have hm9 := mem_few cmo
      have hn' : n' = c.mem.length := by have := dm.1; rw [vis_length] at this; omega
      have HCM := Lib.hid cmo
      have HCK := Lib.hid hck
      have HN' := Lib.hid hn'
      have hn9 : n' ≤ 9 := by omega
      obtain ⟨cf, hcf⟩ : ∃ cf, cf = c.from_ := ⟨_, rfl⟩
      rw [← hcf] at d0 cfr
      have HCF := Lib.hid hcf
      have HDM := Lib.hid dm
      have vf := vbytes_five (n := cf.toNat) (by omega)
      have vn := vbytes_five (n := n') (by omega)
      have hwn := hw.non ((Mod.refl Non wr).alloc (.cells #[.int .i64 cf, .slice A' n' c'] 90))
      have hmn := (Mod.refl (One g) wr).alloc (.cells #[.int .i64 cf, .slice A' n' c'] 90)
      have bn := Blk.new wr 90 #[.int .i64 cf, .slice A' n' c']
      have hgc : ¬ wr.heap.size = g := by omega
      obtain ⟨Lk, hLk⟩ : ∃ Lk, Lk = L2 ++ cencs (cs.take k) := ⟨_, rfl⟩
      rw [← hLk] at hwn hlk
      have HLK := Lib.hid hLk
      clear hw hck cmo hm9 hn' hcf dm hLk hct hmw
      go_wp2_with fail
      refine (wr_Number g Lk cf (by omega) _ hwn (by omega)).mono ?_
      rintro e y1 ⟨rfl, hy1, hm1⟩
      have b1 := bn.mod hm1 (fun h => hgc h)
      have HM1 := Lib.hid (hmn.trans' hm1)
      have g1 := b1.cell 1
      simp at g1
      clear bn hmn hm1 hwn
      go_wp2_with fail
      refine (wr_Number g (Lk ++ vbytes cf.toNat) n' (by omega) _ hy1 (by rw [List.length_append]; omega)).mono ?_
      rintro e y2 ⟨rfl, hy2, hm2⟩
      rw [Int.toNat_natCast] at hy2
      have b2 := b1.mod hm2 (fun h => hgc h)
      have HM2 := Lib.hid (HM1.out.trans' hm2)
      have g1 := b2.cell 1
      simp at g1
      obtain ⟨Lm, hLm⟩ : ∃ Lm, Lm = Lk ++ vbytes cf.toNat ++ vbytes n' := ⟨_, rfl⟩
      rw [← hLm] at hy2
      have hlm : Lm.length ≤ 5010 := by rw [hLm, List.length_append, List.length_append]; omega
      have HLM := Lib.hid hLm
      obtain ⟨wo, hwo⟩ : ∃ wo, wo = wr := ⟨_, rfl⟩
      rw [← hwo] at HM HM1 HM2 HDM hgr hgc hbk d0 d1 b2 ⊢
      clear b1 hm2 hy1 hLm
      go_wp2_with fail
      clear g1 b2
      go_loopw [73] (fun i wr => ∃ j : Nat, j ≤ n' ∧ i = .int .i64 j ∧ Wr wr g (Lm ++ nencs (c.mem.take j)) ∧ Mod (One g) wo wr) (fun i _ => n' - (intOf i).toNat)
      case atStart => exact ⟨0, by omega, rfl, by simpa [nencs] using hy2, HM2.out⟩
      case round =>
        obtain ⟨j, hj, rfl, hwj, hmj⟩ := hrel
        clear hy2
        have HMJ := Lib.hid hmj
        have hnt := nencs_take HCM.out.each (by have := HN'.out; omega) j
        have hlj : (Lm ++ nencs (c.mem.take j)).length ≤ 6000 := by rw [List.length_append]; omega
        by_cases hjt : j < n'
        · obtain ⟨b5, off5, x, hA5, _, _, hxj, q0⟩ := (HDM.out.mod hmj (fun q _ hq h => by have hq : q < w.heap.size := hq; unfold One at h; omega)).num hjt
          subst hA5
          have hjn : (j : Int) < n' := by omega
          have hx9 := HCM.out.each x (List.mem_of_getElem? hxj)
          have HXJ := Lib.hid hxj
          have hx9' : x ≤ 9223372036854775807 := by omega
          clear hxj hmj hnt hx9
          go_wp2_with fail
          refine (wr_Number g _ x hx9' _ hwj (by omega)).mono ?_
          rintro e y5 ⟨rfl, hy5, hm5⟩
          have HM5 := Lib.hid (HMJ.out.trans' hm5)
          have hw5 : Wr y5 g (Lm ++ nencs (c.mem.take (j + 1))) := by
            rw [show nencs (c.mem.take (j + 1)) = nencs (c.mem.take j) ++ vbytes x.toNat from flat_take _ _ HXJ.out, ← List.append_assoc]
            exact hy5
          clear hm5 hy5 hwj
          go_wp2
          go_roundw
          case rel => exact ⟨j + 1, by omega, by go_num, hw5, HM5.out⟩
          case measure => simp [intOf]; omega
        · have hjn : ¬ (j : Int) < n' := by omega
          have hjm : c.mem.take j = c.mem := List.take_of_length_le (by have := HN'.out; omega)
          rw [hjm] at hwj
          have hw6 : Wr wr g (L2 ++ cencs (cs.take (k + 1))) := by
            rw [show cencs (cs.take (k + 1)) = cencs (cs.take k) ++ cenc c from flat_take _ _ HCK.out, ← List.append_assoc, ← HLK.out]
            unfold cenc
            rw [← HCF.out, ← HN'.out, ← List.append_assoc, ← List.append_assoc, ← HLM.out]
            exact hwj
          have HM6 := Lib.hid (HM.out.trans' hmj)
          clear hjm hwj hmj hnt hlj
          go_wp2
          go_roundw
          case rel => exact ⟨k + 1, by omega, by go_num, hw6, HM6.out⟩
          case measure => simp [intOf]; omega
    · have hkn : ¬ (k : Int) < n0 := by omega
      have hkm : cs.take k = cs := List.take_of_length_le (by rw [HL0.out]; omega)
      rw [hkm] at hw hlk
      have hrs := hsr.mod HM.out (fun q hq _ h => by unfold One at h; rw [← HG.out] at hq; omega)
      have hn5 : n5 ≤ 7300 := by rw [HN5.out]; exact HSL.out
      have v5 := vbytes_five (n := n5) (by omega)
      have HMW := Lib.hid hmw
      clear hkm hct hmw
      go_wp2_with fail
      refine (wr_Raw g _ A5 n5 c5 _ _ _ hw (by omega) hrs (by omega)).mono ?_
      rintro e y1 ⟨rfl, hy1, hm1⟩
      have M1 := Lib.hid (HM.out.trans' hm1)
      have hly : (L2 ++ cencs cs ++ vbytes n5 ++ senc ⟨1, ps, ss⟩).length ≤ 30000 := by
        have := HSL.out
        rw [List.length_append, List.length_append]
        omega
      clear hw hm1 hrs
      go_wp2_with fail
      refine (wr_Bytes g _ _ hy1 (by omega)).mono ?_
      rintro e y2 ⟨v8, rfl, ho8, hm8⟩
      have M8 : Hid (Mod Non w y2) := (M2.out.trans M1.out (fun i hi h => by unfold One at h; omega)).trans' hm8
      obtain ⟨A8, n8, c8, rfl, hn8, hc8⟩ := ho8.form
      have hn8' : n8 ≤ 30000 := by rw [hn8.out]; exact hly
      have hz := (M2.out.trans M1.out (fun i hi h => by unfold One at h; omega)).size
      have HO8 := Lib.hid (ho8.below hz)
      clear hn8 ho8 hy1 hm8 hz hly hlk
      go_wp2
      go_ret2
      refine ⟨_, rfl, ?_, M8.out⟩
      have e : ienc ⟨ix, ac, cs, ⟨1, ps, ss⟩⟩ = L2 ++ cencs cs ++ vbytes n5 ++ senc ⟨1, ps, ss⟩ := by
        rw [HL2'.out, HL1'.out, HL0'.out, HN5.out, ← HL0.out]
        unfold ienc
        simp
      rw [e]
      exact HO8.out

set_option maxRecDepth 100000 in
set_option maxHeartbeats 4000000 in
theorem image_Encode2 (ix ac : Int) (cs : List Cf) (ps : List Pa) (ss : List Se) (A0 A1 A2 : Option Addr) (n0 c0 n1 c1 n2 c2 : Nat) (R0 R1 R2 : Nat → Prop) (w : World) (h0 : Confs w R0 A0 n0 cs) (h1 : Reads w R1 3 A1 n1 (pcs ps)) (h2 : Reads w R2 8 A2 n2 (ecs ss)) (hok : Im.Ok ⟨ix, ac, cs, ⟨2, ps, ss⟩⟩) (hT : T8 w) :
    Calls Tryz.prog 20 #[imv ix ac (.slice A0 n0 c0) 2 (.slice A1 n1 c1) (.slice A2 n2 c2)] w fun e w' => ∃ v, e = .returned (.tuple #[v, .int .i64 0]) ∧ OwnB w' w.heap.size v (ienc ⟨ix, ac, cs, ⟨2, ps, ss⟩⟩) ∧ Mod Non w w' := by
  have hl0 := h0.len
  have HL0 := Lib.hid hl0
  have hn0 : n0 ≤ 64 := by have := hok.few; simp only at this; omega
  have hi1 : 0 ≤ ix := hok.index.1
  have hi2 : ix ≤ 4294967296 := hok.index.2
  have ha1 : 0 ≤ ac := hok.active.1
  have ha2 : ac ≤ 4294967296 := by have := hok.active.2; simp only at this; omega
  have HOK := Lib.hid hok
  have HCE : Hid (∀ c ∈ cs, MemOk c.mem ∧ c.from_ ≤ 4294967296) := hok.confs.each
  have HFW : Hid (cs.length ≤ 64) := hok.few
  have HSL := Lib.hid (senc_length hok.st)
  have m0 := (Mod.refl Non w).alloc (.cells #[.int .i64 ix, .int .i64 ac, .slice A0 n0 c0, .int .i64 2, .slice A1 n1 c1, .slice A2 n2 c2] 53)
  have b0 := Blk.new w 53 #[.int .i64 ix, .int .i64 ac, .slice A0 n0 c0, .int .i64 2, .slice A1 n1 c1, .slice A2 n2 c2]
  have HWC := Lib.hid (window_Check ⟨ix, ac, cs, ⟨2, ps, ss⟩⟩ A0 A1 A2 n0 c0 n1 c1 n2 c2 R0 R1 R2 _ (h0.non m0) (h1.mod m0 fun _ _ _ h => h) (h2.mod m0 fun _ _ _ h => h) hok (hT.non m0))
  have HPT := Lib.hid (fun w' (hm : Mod Non w w') => snaptwo_Put ⟨2, ps, ss⟩ A1 A2 n1 c1 n2 c2 R1 R2 w' (h1.mod hm fun _ _ _ h => h) (h2.mod hm fun _ _ _ h => h) hok.st (hT.non hm))
  clear hok hl0 h1 h2
  go_enter Tryz.func20, Tryz.ntmps20
  go_wp2_with fail
  refine HWC.out.mono ?_
  rintro e w1 ⟨rfl, hm1⟩
  have b1 := b0.mod hm1 (fun h => h)
  have m1 := m0.trans' hm1
  clear b0 m0 hm1 HWC
  have e2 := b1.cell 2
  have e3 := b1.cell 3
  have e4 := b1.cell 4
  have e5 := b1.cell 5
  simp at e2 e3 e4 e5
  have hz1 := b1.lt
  go_wp2_with fail
  refine (HPT.out _ m1).mono ?_
  rintro e w2 ⟨sv, rfl, hs, hm2⟩
  obtain ⟨A5, n5, c5, rfl, hn5, hc5⟩ := hs.form
  have hsr := hs.reads
  have HN5 : Hid (n5 = (senc ⟨2, ps, ss⟩).length) := hn5.out
  have b2 := b1.mod hm2 (fun h => h)
  have m2 := m1.trans' hm2
  clear b1 hm2 e2 e3 e4 e5 HPT hs hn5 m1
  have wn := Wr.new w2
  have mn := (Mod.refl Non w2).alloc (.cells #[.slice none 0 0] 74)
  have mn1 : Mod (One w2.heap.size) w2 _ := mn.non
  have b3 := b2.alloc (.cells #[.slice none 0 0] 74)
  have hb2 := b2.lt
  obtain ⟨g, hg⟩ : ∃ g, g = w2.heap.size := ⟨_, rfl⟩
  rw [← hg] at wn mn1
  have HG := Lib.hid hg
  have hgb : ¬ w.heap.size = g := by omega
  have hgl : w.heap.size < g := by omega
  have e3 := b3.cell 3
  simp at e3
  clear hg mn b2 hb2
  have HB3 := Lib.hid b3
  have HMN := Lib.hid mn1
  clear b3 mn1
  go_wp2_with fail
  have HH := Lib.hid (fun w' (hm : Mod Non w w') => (h0.more (R' := fun k => k < w.heap.size) fun k hk _ => hk).non hm)
  have M2 := Lib.hid m2
  clear h0 m2
  rw [← HG.out]
  refine (wr_Number g [] (2 : Int) (by decide) _ wn (by simp)).mono ?_
  rintro e x0 ⟨rfl, hw0, hm0⟩
  have hb0 := HB3.out.mod hm0 (fun h => hgb h)
  have HX0 := Lib.hid (HMN.out.trans' hm0)
  rw [List.nil_append, show (2 : Int).toNat = 2 from rfl] at hw0
  have vb0 := vbytes_five (n := 2) (by omega)
  obtain ⟨L0, hL0⟩ : ∃ L0, L0 = vbytes 2 := ⟨_, rfl⟩
  rw [← hL0] at hw0
  have hl0 : L0.length ≤ 5 := by rw [hL0]; omega
  have HL0' := Lib.hid hL0
  have f0 := hb0.cell 0
  have f1 := hb0.cell 1
  have f2 := hb0.cell 2
  have f3 := hb0.cell 3
  simp at f0 f1 f2 f3
  have HB0 := Lib.hid hb0
  clear hL0 hm0 hb0 vb0 wn e3  
  go_wp2_with fail
  refine (wr_Number g L0 ix (by omega) _ hw0 (by omega)).mono ?_
  rintro e x1 ⟨rfl, hw1, hm1⟩
  have hb1 := HB0.out.mod hm1 (fun h => hgb h)
  have HX1 := Lib.hid (HX0.out.trans' hm1)
  have vb1 := vbytes_five (n := (ix : Int).toNat) (by omega)
  obtain ⟨L1, hL1⟩ : ∃ L1, L1 = L0 ++ vbytes (ix : Int).toNat := ⟨_, rfl⟩
  rw [← hL1] at hw1
  have hl1 : L1.length ≤ 10 := by rw [hL1]; rw [List.length_append]; omega
  have HL1' := Lib.hid hL1
  have f0 := hb1.cell 0
  have f1 := hb1.cell 1
  have f2 := hb1.cell 2
  have f3 := hb1.cell 3
  simp at f0 f1 f2 f3
  have HB1 := Lib.hid hb1
  clear hL1 hm1 hb1 vb1   hl0 hw0
  go_wp2_with fail
  refine (wr_Number g L1 ac (by omega) _ hw1 (by omega)).mono ?_
  rintro e x2 ⟨rfl, hw2, hm2⟩
  have hb2 := HB1.out.mod hm2 (fun h => hgb h)
  have HX2 := Lib.hid (HX1.out.trans' hm2)
  have vb2 := vbytes_five (n := (ac : Int).toNat) (by omega)
  obtain ⟨L2, hL2⟩ : ∃ L2, L2 = L1 ++ vbytes (ac : Int).toNat := ⟨_, rfl⟩
  rw [← hL2] at hw2
  have hl2 : L2.length ≤ 15 := by rw [hL2]; rw [List.length_append]; omega
  have HL2' := Lib.hid hL2
  have f0 := hb2.cell 0
  have f1 := hb2.cell 1
  have f2 := hb2.cell 2
  have f3 := hb2.cell 3
  simp at f0 f1 f2 f3
  have HB2 := Lib.hid hb2
  clear hL2 hm2 hb2 vb2   hl1 hw1
  go_wp2_with fail
  refine (wr_Number g L2 (n0 : Int) (by omega) _ hw2 (by omega)).mono ?_
  rintro e x3 ⟨rfl, hw3, hm3⟩
  have hb3 := HB2.out.mod hm3 (fun h => hgb h)
  have HX3 := Lib.hid (HX2.out.trans' hm3)
  rw [Int.toNat_natCast] at hw3
  have vb3 := vbytes_five (n := n0) (by omega)
  obtain ⟨L3, hL3⟩ : ∃ L3, L3 = L2 ++ vbytes n0 := ⟨_, rfl⟩
  rw [← hL3] at hw3
  have hl3 : L3.length ≤ 20 := by rw [hL3]; rw [List.length_append]; omega
  have HL3' := Lib.hid hL3
  have f0 := hb3.cell 0
  have f1 := hb3.cell 1
  have f2 := hb3.cell 2
  have f3 := hb3.cell 3
  simp at f0 f1 f2 f3
  have HB3 := Lib.hid hb3
  clear hL3 hm3 hb3 vb3   hl2 hw2
  go_wp2_with fail
  clear f0 f1 f2 f3
  go_loopw [57] (fun i wr => ∃ k : Nat, k ≤ n0 ∧ i = .int .i64 k ∧ Wr wr g (L3 ++ cencs (cs.take k)) ∧ Mod (One g) w2 wr) (fun i _ => n0 - (intOf i).toNat)
  case atStart => exact ⟨0, by omega, rfl, by simpa [cencs] using hw3, HX3.out⟩
  case round =>
    obtain ⟨k, hk, rfl, hw, hm⟩ := hrel
    clear hw3
    have HM := Lib.hid hm
    have hmw : Mod Non w wr := M2.out.trans hm (fun i hi h => by unfold One at h; omega)
    have hct := cencs_take HCE.out HFW.out k
    have hlk : (L3 ++ cencs (cs.take k)).length ≤ 5000 := by rw [List.length_append]; omega
    clear hm
    by_cases hlt : k < n0
    · obtain ⟨b, off, c, A', n', c', hA, hbk, _, hck, d0, d1, dm⟩ := (HH.out wr hmw).at_ hlt
      subst hA
      have hkn : (k : Int) < n0 := by omega
      have hgr := hw.lt
      obtain ⟨cmo, cfr⟩ := HCE.out c (List.mem_of_getElem? hck)
      have hm9 := mem_few cmo
      have hn' : n' = c.mem.length := by have := dm.1; rw [vis_length] at this; omega
      have HCM := Lib.hid cmo
      have HCK := Lib.hid hck
      have HN' := Lib.hid hn'
      have hn9 : n' ≤ 9 := by omega
      obtain ⟨cf, hcf⟩ : ∃ cf, cf = c.from_ := ⟨_, rfl⟩
      rw [← hcf] at d0 cfr
      have HCF := Lib.hid hcf
      have HDM := Lib.hid dm
      have vf := vbytes_five (n := cf.toNat) (by omega)
      have vn := vbytes_five (n := n') (by omega)
      have hwn := hw.non ((Mod.refl Non wr).alloc (.cells #[.int .i64 cf, .slice A' n' c'] 90))
      have hmn := (Mod.refl (One g) wr).alloc (.cells #[.int .i64 cf, .slice A' n' c'] 90)
      have bn := Blk.new wr 90 #[.int .i64 cf, .slice A' n' c']
      have hgc : ¬ wr.heap.size = g := by omega
      obtain ⟨Lk, hLk⟩ : ∃ Lk, Lk = L3 ++ cencs (cs.take k) := ⟨_, rfl⟩
      rw [← hLk] at hwn hlk
      have HLK := Lib.hid hLk
      clear hw hck cmo hm9 hn' hcf dm hLk hct hmw
      go_wp2_with fail
      refine (wr_Number g Lk cf (by omega) _ hwn (by omega)).mono ?_
      rintro e y1 ⟨rfl, hy1, hm1⟩
      have b1 := bn.mod hm1 (fun h => hgc h)
      have HM1 := Lib.hid (hmn.trans' hm1)
      have g1 := b1.cell 1
      simp at g1
      clear bn hmn hm1 hwn
      go_wp2_with fail
      refine (wr_Number g (Lk ++ vbytes cf.toNat) n' (by omega) _ hy1 (by rw [List.length_append]; omega)).mono ?_
      rintro e y2 ⟨rfl, hy2, hm2⟩
      rw [Int.toNat_natCast] at hy2
      have b2 := b1.mod hm2 (fun h => hgc h)
      have HM2 := Lib.hid (HM1.out.trans' hm2)
      have g1 := b2.cell 1
      simp at g1
      obtain ⟨Lm, hLm⟩ : ∃ Lm, Lm = Lk ++ vbytes cf.toNat ++ vbytes n' := ⟨_, rfl⟩
      rw [← hLm] at hy2
      have hlm : Lm.length ≤ 5010 := by rw [hLm, List.length_append, List.length_append]; omega
      have HLM := Lib.hid hLm
      obtain ⟨wo, hwo⟩ : ∃ wo, wo = wr := ⟨_, rfl⟩
      rw [← hwo] at HM HM1 HM2 HDM hgr hgc hbk d0 d1 b2 ⊢
      clear b1 hm2 hy1 hLm
      go_wp2_with fail
      clear g1 b2
      go_loopw [73] (fun i wr => ∃ j : Nat, j ≤ n' ∧ i = .int .i64 j ∧ Wr wr g (Lm ++ nencs (c.mem.take j)) ∧ Mod (One g) wo wr) (fun i _ => n' - (intOf i).toNat)
      case atStart => exact ⟨0, by omega, rfl, by simpa [nencs] using hy2, HM2.out⟩
      case round =>
        obtain ⟨j, hj, rfl, hwj, hmj⟩ := hrel
        clear hy2
        have HMJ := Lib.hid hmj
        have hnt := nencs_take HCM.out.each (by have := HN'.out; omega) j
        have hlj : (Lm ++ nencs (c.mem.take j)).length ≤ 6000 := by rw [List.length_append]; omega
        by_cases hjt : j < n'
        · obtain ⟨b5, off5, x, hA5, _, _, hxj, q0⟩ := (HDM.out.mod hmj (fun q _ hq h => by have hq : q < w.heap.size := hq; unfold One at h; omega)).num hjt
          subst hA5
          have hjn : (j : Int) < n' := by omega
          have hx9 := HCM.out.each x (List.mem_of_getElem? hxj)
          have HXJ := Lib.hid hxj
          have hx9' : x ≤ 9223372036854775807 := by omega
          clear hxj hmj hnt hx9
          go_wp2_with fail
          refine (wr_Number g _ x hx9' _ hwj (by omega)).mono ?_
          rintro e y5 ⟨rfl, hy5, hm5⟩
          have HM5 := Lib.hid (HMJ.out.trans' hm5)
          have hw5 : Wr y5 g (Lm ++ nencs (c.mem.take (j + 1))) := by
            rw [show nencs (c.mem.take (j + 1)) = nencs (c.mem.take j) ++ vbytes x.toNat from flat_take _ _ HXJ.out, ← List.append_assoc]
            exact hy5
          clear hm5 hy5 hwj
          go_wp2
          go_roundw
          case rel => exact ⟨j + 1, by omega, by go_num, hw5, HM5.out⟩
          case measure => simp [intOf]; omega
        · have hjn : ¬ (j : Int) < n' := by omega
          have hjm : c.mem.take j = c.mem := List.take_of_length_le (by have := HN'.out; omega)
          rw [hjm] at hwj
          have hw6 : Wr wr g (L3 ++ cencs (cs.take (k + 1))) := by
            rw [show cencs (cs.take (k + 1)) = cencs (cs.take k) ++ cenc c from flat_take _ _ HCK.out, ← List.append_assoc, ← HLK.out]
            unfold cenc
            rw [← HCF.out, ← HN'.out, ← List.append_assoc, ← List.append_assoc, ← HLM.out]
            exact hwj
          have HM6 := Lib.hid (HM.out.trans' hmj)
          clear hjm hwj hmj hnt hlj
          go_wp2
          go_roundw
          case rel => exact ⟨k + 1, by omega, by go_num, hw6, HM6.out⟩
          case measure => simp [intOf]; omega
    · have hkn : ¬ (k : Int) < n0 := by omega
      have hkm : cs.take k = cs := List.take_of_length_le (by rw [HL0.out]; omega)
      rw [hkm] at hw hlk
      have hrs := hsr.mod HM.out (fun q hq _ h => by unfold One at h; rw [← HG.out] at hq; omega)
      have hn5 : n5 ≤ 7300 := by rw [HN5.out]; exact HSL.out
      have v5 := vbytes_five (n := n5) (by omega)
      have HMW := Lib.hid hmw
      clear hkm hct hmw
      go_wp2_with fail
      refine (wr_Raw g _ A5 n5 c5 _ _ _ hw (by omega) hrs (by omega)).mono ?_
      rintro e y1 ⟨rfl, hy1, hm1⟩
      have M1 := Lib.hid (HM.out.trans' hm1)
      have hly : (L3 ++ cencs cs ++ vbytes n5 ++ senc ⟨2, ps, ss⟩).length ≤ 30000 := by
        have := HSL.out
        rw [List.length_append, List.length_append]
        omega
      clear hw hm1 hrs
      go_wp2_with fail
      refine (wr_Bytes g _ _ hy1 (by omega)).mono ?_
      rintro e y2 ⟨v8, rfl, ho8, hm8⟩
      have M8 : Hid (Mod Non w y2) := (M2.out.trans M1.out (fun i hi h => by unfold One at h; omega)).trans' hm8
      obtain ⟨A8, n8, c8, rfl, hn8, hc8⟩ := ho8.form
      have hn8' : n8 ≤ 30000 := by rw [hn8.out]; exact hly
      have hz := (M2.out.trans M1.out (fun i hi h => by unfold One at h; omega)).size
      have HO8 := Lib.hid (ho8.below hz)
      clear hn8 ho8 hy1 hm8 hz hly hlk
      go_wp2
      go_ret2
      refine ⟨_, rfl, ?_, M8.out⟩
      have e : ienc ⟨ix, ac, cs, ⟨2, ps, ss⟩⟩ = L3 ++ cencs cs ++ vbytes n5 ++ senc ⟨2, ps, ss⟩ := by
        rw [HL3'.out, HL2'.out, HL1'.out, HL0'.out, HN5.out, ← HL0.out]
        unfold ienc
        simp [List.append_assoc]
      rw [e]
      exact HO8.out

theorem image_Encode (m : Im) (A0 A1 A2 : Option Addr) (n0 c0 n1 c1 n2 c2 : Nat) (R0 R1 R2 : Nat → Prop) (w : World) (h0 : Confs w R0 A0 n0 m.confs) (h1 : Reads w R1 3 A1 n1 (pcs m.st.pairs)) (h2 : Reads w R2 8 A2 n2 (ecs m.st.sess)) (hok : m.Ok) (hT : T8 w) :
    Calls Tryz.prog 20 #[imv m.index m.active (.slice A0 n0 c0) m.st.schema (.slice A1 n1 c1) (.slice A2 n2 c2)] w fun e w' => ∃ v, e = .returned (.tuple #[v, .int .i64 0]) ∧ OwnB w' w.heap.size v (ienc m) ∧ Mod Non w w' := by
  obtain ⟨ix, ac, cs, ⟨v, ps, ss⟩⟩ := m
  rcases hok.st.schema with hv | hv
  · simp only at hv
    subst hv
    exact image_Encode1 ix ac cs ps ss A0 A1 A2 n0 c0 n1 c1 n2 c2 R0 R1 R2 w h0 h1 h2 hok hT
  · simp only at hv
    subst hv
    exact image_Encode2 ix ac cs ps ss A0 A1 A2 n0 c0 n1 c1 n2 c2 R0 R1 R2 w h0 h1 h2 hok hT
end Go.Proofs.YtdclfdinhdaadaaGreatDoor

/- The statements' early: true, and it turns nothing that was there. -/
namespace Go.Proofs.YtdclfdinhdaadaaGreatDoor
open Go.RowKit

theorem one_ok : MemOk [1] := ⟨by simp, fun x hx => by simp at hx; subst hx; decide, by simp⟩
theorem ienc_one : (ienc (im0 [1])).length = 10 := by
  simp [ienc, im0, cencs, cenc, nencs, senc, pencs, xencs, vbytes_small]

set_option maxRecDepth 100000 in
set_option maxHeartbeats 4000000 in
theorem top_early (w : World) (hT : T8 w) :
    Calls Tryz.prog 8 #[] w fun e w' => e = .returned (.bool true) ∧ Mod Non w w' := by
  have m0 := (Mod.refl Non w).alloc (.cells #[.int .i64 1] 3)
  have HF := Lib.hid (window_First (some ⟨w.heap.size, 0, none⟩) 1 1 (fun _ => True) [1] _ (reads_one w (.int .i64 1) 3 (fun _ => True) trivial) (by simp))
  go_enter Tryz.func8, Tryz.ntmps8
  go_wp2_with fail
  refine HF.out.mono ?_
  rintro e w1 ⟨⟨u, k, rfl, hk, hu⟩, hm1⟩
  have hk0 : k = 0 := hk.2 one_ok
  subst hk0
  have hu1 := hu one_ok
  have m1 := m0.trans' hm1
  obtain ⟨A0, n0, c0, A1, n1, c1, A2, n2, c2, rfl, r0, r1, r2⟩ := hu1
  have m2 := m1.alloc (.cells #[.int .i64 0, .int .i64 0, .slice A0 n0 c0, .int .i64 1, .slice A1 n1 c1, .slice A2 n2 c2] 53)
  have mm := (Mod.refl Non w1).alloc (.cells #[.int .i64 0, .int .i64 0, .slice A0 n0 c0, .int .i64 1, .slice A1 n1 c1, .slice A2 n2 c2] 53)
  have HE := Lib.hid (image_Encode (im0 [1]) A0 A1 A2 n0 c0 n1 c1 n2 c2 _ _ _ _ (r0.non mm) (r1.mod mm fun _ _ _ h => h) (r2.mod mm fun _ _ _ h => h) (im0_ok one_ok) (hT.non m2))
  clear hk hu m0 hm1 m1 r0 r1 r2 mm HF
  go_wp2_with fail
  refine HE.out.mono ?_
  rintro e w3 ⟨v, rfl, ho, hm3⟩
  obtain ⟨A5, n5, c5, rfl, hn5, hc5⟩ := ho.form
  have h10 : n5 = 10 := by rw [hn5.out]; exact ienc_one
  subst h10
  have m3 := m2.trans' hm3
  clear ho hn5 hm3 m2 HE
  go_wp2
  go_ret
  exact ⟨rfl, m3⟩
end Go.Proofs.YtdclfdinhdaadaaGreatDoor

/- The references: Same of pairs, sessions, states, answers: yes where they are. -/
namespace Go.Proofs.YtdclfdinhdaadaaGreatDoor
open Go.RowKit

set_option maxRecDepth 100000 in
set_option maxHeartbeats 4000000 in
theorem ref23_Same (A B : Option Addr) (n c d : Nat) (R R' : Nat → Prop) (xs : List Pa) (w : World) (hr : Reads w R 3 A n (pcs xs)) (hr' : Reads w R' 3 B n (pcs xs)) (hn : n ≤ 100000) :
    Calls Tryz.prog 43 #[.slice A n c, .slice B n d] w fun e w' => e = .returned (.bool true) ∧ Mod Non w w' := by
  go_enter Tryz.func43, Tryz.ntmps43
  go_wp2
  go_loopw [5] (fun i wr => ∃ k : Nat, k ≤ n ∧ i = .int .i64 k ∧ Mod Non w wr) (fun i _ => n - (intOf i).toNat)
  case atStart => exact ⟨0, by omega, rfl, Mod.refl _ _⟩
  case round =>
    obtain ⟨k, hk, rfl, hm⟩ := hrel
    have h1 := hr.mod hm fun _ _ _ h => h
    have h2 := hr'.mod hm fun _ _ _ h => h
    have HM := Lib.hid hm
    clear hm
    by_cases hlt : k < n
    · obtain ⟨b, off, p, hA, hbk, _, hpk, d0, d1, d2⟩ := h1.pa hlt
      obtain ⟨b', off', p', hB, hbk', _, hpk', e0, e1, e2⟩ := h2.pa hlt
      rw [hpk] at hpk'
      injection hpk' with hpk'
      subst hpk' hA hB
      have hkn : (k : Int) < n := by omega
      obtain ⟨key, val, rv⟩ := p
      simp only at d0 d1 d2 e0 e1 e2
      clear h1 h2 hpk
      go_wp2
      go_region
      go_wp2
      go_roundw
      case rel => exact ⟨k + 1, by omega, by go_num, HM.out.drew⟩
      case measure => simp [intOf]; omega
    · have hkn : ¬ (k : Int) < n := by omega
      go_wp2
      go_ret
      exact ⟨rfl, HM.out⟩

set_option maxRecDepth 100000 in
set_option maxHeartbeats 4000000 in
theorem ref22_Same (A B : Option Addr) (n c d : Nat) (R R' : Nat → Prop) (xs : List Se) (w : World) (hr : Reads w R 8 A n (ecs xs)) (hr' : Reads w R' 8 B n (ecs xs)) (hn : n ≤ 100000) :
    Calls Tryz.prog 44 #[.slice A n c, .slice B n d] w fun e w' => e = .returned (.bool true) ∧ Mod Non w w' := by
  go_enter Tryz.func44, Tryz.ntmps44
  go_wp2
  go_loopw [5] (fun i wr => ∃ k : Nat, k ≤ n ∧ i = .int .i64 k ∧ Mod Non w wr) (fun i _ => n - (intOf i).toNat)
  case atStart => exact ⟨0, by omega, rfl, Mod.refl _ _⟩
  case round =>
    obtain ⟨k, hk, rfl, hm⟩ := hrel
    have h1 := hr.mod hm fun _ _ _ h => h
    have h2 := hr'.mod hm fun _ _ _ h => h
    have HM := Lib.hid hm
    clear hm
    by_cases hlt : k < n
    · obtain ⟨b, off, p, hA, hbk, _, hpk, d0, d1, d2, d3, d4, d5, d6, d7⟩ := h1.se hlt
      obtain ⟨b', off', p', hB, hbk', _, hpk', e0, e1, e2, e3, e4, e5, e6, e7⟩ := h2.se hlt
      rw [hpk] at hpk'
      injection hpk' with hpk'
      subst hpk' hA hB
      have hkn : (k : Int) < n := by omega
      obtain ⟨cl, sq, ⟨lc, ls, le, lf, lv, lr⟩⟩ := p
      simp only at d0 d1 d2 d3 d4 d5 d6 d7 e0 e1 e2 e3 e4 e5 e6 e7
      clear h1 h2 hpk
      go_wp2
      go_region
      go_wp2
      go_roundw
      case rel => exact ⟨k + 1, by omega, by go_num, HM.out.drew⟩
      case measure => simp [intOf]; omega
    · have hkn : ¬ (k : Int) < n := by omega
      go_wp2
      go_ret
      exact ⟨rfl, HM.out⟩

set_option maxRecDepth 100000 in
set_option maxHeartbeats 4000000 in
theorem ref28_Answers (A B : Option Addr) (n c d : Nat) (R R' : Nat → Prop) (xs : List An) (w : World) (hr : Reads w R 6 A n (acs xs)) (hr' : Reads w R' 6 B n (acs xs)) (hn : n ≤ 100000) :
    Calls Tryz.prog 15 #[.slice A n c, .slice B n d] w fun e w' => e = .returned (.bool true) ∧ Mod Non w w' := by
  go_enter Tryz.func15, Tryz.ntmps15
  go_wp2
  go_loopw [5] (fun i wr => ∃ k : Nat, k ≤ n ∧ i = .int .i64 k ∧ Mod Non w wr) (fun i _ => n - (intOf i).toNat)
  case atStart => exact ⟨0, by omega, rfl, Mod.refl _ _⟩
  case round =>
    obtain ⟨k, hk, rfl, hm⟩ := hrel
    have h1 := hr.mod hm fun _ _ _ h => h
    have h2 := hr'.mod hm fun _ _ _ h => h
    have HM := Lib.hid hm
    clear hm
    by_cases hlt : k < n
    · obtain ⟨b, off, p, hA, hbk, _, hpk, d0, d1, d2, d3, d4, d5⟩ := h1.an hlt
      obtain ⟨b', off', p', hB, hbk', _, hpk', e0, e1, e2, e3, e4, e5⟩ := h2.an hlt
      rw [hpk] at hpk'
      injection hpk' with hpk'
      subst hpk' hA hB
      have hkn : (k : Int) < n := by omega
      obtain ⟨lc, ls, le, lf, lv, lr⟩ := p
      simp only at d0 d1 d2 d3 d4 d5 e0 e1 e2 e3 e4 e5
      clear h1 h2 hpk
      go_wp2
      go_region
      go_wp2
      go_roundw
      case rel => exact ⟨k + 1, by omega, by go_num, HM.out.drew⟩
      case measure => simp [intOf]; omega
    · have hkn : ¬ (k : Int) < n := by omega
      go_wp2
      go_ret
      exact ⟨rfl, HM.out⟩

set_option maxHeartbeats 4000000 in
theorem ref25_Same (s : St) (A1 A2 B1 B2 : Option Addr) (n1 c1 n2 c2 d1 d2 : Nat) (R1 R2 R1' R2' : Nat → Prop) (w : World) (h1 : Reads w R1 3 A1 n1 (pcs s.pairs)) (h2 : Reads w R2 8 A2 n2 (ecs s.sess))
    (g1 : Reads w R1' 3 B1 n1 (pcs s.pairs)) (g2 : Reads w R2' 8 B2 n2 (ecs s.sess)) (hn1 : n1 ≤ 100000) (hn2 : n2 ≤ 100000) :
    Calls Tryz.prog 16 #[stv s.schema (.slice A1 n1 c1) (.slice A2 n2 c2), stv s.schema (.slice B1 n1 d1) (.slice B2 n2 d2)] w fun e w' => e = .returned (.bool true) ∧ Mod Non w w' := by
  obtain ⟨v, ps, ss⟩ := s
  simp only at h1 h2 g1 g2
  have m0 := ((Mod.refl Non w).alloc (.cells #[.int .i64 v, .slice A1 n1 c1, .slice A2 n2 c2] 25)).alloc (.cells #[.int .i64 v, .slice B1 n1 d1, .slice B2 n2 d2] 25)
  have s0 := (Blk.new w 25 #[.int .i64 v, .slice A1 n1 c1, .slice A2 n2 c2]).alloc (.cells #[.int .i64 v, .slice B1 n1 d1, .slice B2 n2 d2] 25)
  have b0 := Blk.new1 w (.cells #[.int .i64 v, .slice A1 n1 c1, .slice A2 n2 c2] 25) 25 #[.int .i64 v, .slice B1 n1 d1, .slice B2 n2 d2]
  have C1 := Lib.hid (ref23_Same A1 B1 n1 c1 d1 R1 R1' ps _ (h1.mod m0 fun _ _ _ h => h) (g1.mod m0 fun _ _ _ h => h) hn1)
  have C2 := Lib.hid (fun w' (hm : Mod Non w w') => ref22_Same A2 B2 n2 c2 d2 R2 R2' ss w' (h2.mod hm fun _ _ _ h => h) (g2.mod hm fun _ _ _ h => h) hn2)
  clear h1 h2 g1 g2
  go_enter Tryz.func16, Tryz.ntmps16
  go_wp2_with fail
  refine C1.out.mono ?_
  rintro e w1 ⟨rfl, hm1⟩
  have s1 := s0.mod hm1 (fun h => h)
  have b1 := b0.mod hm1 (fun h => h)
  have m1 := m0.trans' hm1
  clear s0 b0 m0 hm1 C1
  have es0 := s1.cell 0
  have es1 := s1.cell 1
  have es2 := s1.cell 2
  have eb0 := b1.cell 0
  have eb1 := b1.cell 1
  have eb2 := b1.cell 2
  simp at es0 es1 es2 eb0 eb1 eb2
  go_wp2_with fail
  refine (C2.out _ m1).mono ?_
  rintro e w2 ⟨rfl, hm2⟩
  have m2 := m1.trans' hm2
  clear s1 b1 m1 hm2 C2 es0 es1 es2 eb0 eb1 eb2
  go_wp2
  go_ret
  exact ⟨rfl, m2⟩
theorem ref25_Same_v (s : St) (u v : Value) (R R' : Nat → Prop) (w : World) (hu : StV R w u s) (hv : StV R' w v s) (h1 : s.pairs.length ≤ 100000) (h2 : s.sess.length ≤ 100000) :
    Calls Tryz.prog 16 #[u, v] w fun e w' => e = .returned (.bool true) ∧ Mod Non w w' := by
  obtain ⟨A1, n1, c1, A2, n2, c2, rfl, r1, r2⟩ := hu
  obtain ⟨B1, m1, d1, B2, m2, d2, rfl, q1, q2⟩ := hv
  have e1 : n1 = s.pairs.length := by have := r1.1; rw [pcs_length] at this; omega
  have e2 : m1 = s.pairs.length := by have := q1.1; rw [pcs_length] at this; omega
  have e3 : n2 = s.sess.length := by have := r2.1; rw [ecs_length] at this; omega
  have e4 : m2 = s.sess.length := by have := q2.1; rw [ecs_length] at this; omega
  subst e1 e2 e3 e4
  exact ref25_Same s A1 A2 B1 B2 _ c1 _ c2 d1 d2 _ _ _ _ w r1 r2 q1 q2 h1 h2
end Go.Proofs.YtdclfdinhdaadaaGreatDoor
