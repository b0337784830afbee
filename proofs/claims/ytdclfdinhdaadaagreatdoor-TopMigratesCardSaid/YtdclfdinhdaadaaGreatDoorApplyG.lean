/- Package app: the contract of Apply. -/
import Derived.Test.YtdclfdinhdaadaaGreatDoorMgI
import Derived.Test.YtdclfdinhdaadaaGreatDoorCmdCheckG
import Derived.Test.YtdclfdinhdaadaaGreatDoorMgY
import Derived.Test.YtdclfdinhdaadaaGreatDoorMgF
namespace Go.Proofs.YtdclfdinhdaadaaGreatDoor
open Go.RowKit

/-- a command, done -/
def applyP (s : St) (c : Cm) : St × An :=
  if ownB c.kind = true then clientP s c
  else if c.kind = 6 ∧ s.schema = 1 then (⟨2, rev 1 s.pairs, s.sess⟩, anZ) else (s, anZ)

theorem results_row_row_tmp {P : Program} {fn : Func} {s p u : Tmp} {ty ty' : TypeId} (h : fn.results = #[.cell s ty', .cell p ty, .tmp u]) (tmps : Array Value) (w : World) (g' : Nat) (t' : TypeId) (cs' : Array Value) (fr' : Nat × Nat) (d' : TypeDesc) (g : Nat) (t : TypeId) (cs : Array Value) (fr : Nat × Nat) (d : TypeDesc)
    (hp' : tmps.getD s undef = .pointer (some ⟨g', 0, none⟩)) (hg' : w.heap[g']? = some (.cells cs' t' fr'))
    (hu' : P.underlying ty' = some d') (hd' : (match d' with | .struct _ | .array _ _ => true | _ => false) = true) (hi' : (P.info? ty').map (·.size) = some cs'.size)
    (hp : tmps.getD p undef = .pointer (some ⟨g, 0, none⟩)) (hg : w.heap[g]? = some (.cells cs t fr))
    (hu : P.underlying ty = some d) (hd : (match d with | .struct _ | .array _ _ => true | _ => false) = true) (hi : (P.info? ty).map (·.size) = some cs.size) :
    (results fn tmps).run P w = .ok (.tuple #[.agg cs', .agg cs, tmps.getD u undef]) w := by
  have hp1 : tmps[p]?.getD undef = .pointer (some ⟨g, 0, none⟩) := by simpa using hp
  have hp2 : tmps[s]?.getD undef = .pointer (some ⟨g', 0, none⟩) := by simpa using hp'
  simp [results, h, hp1, hp2, asAddr, run_loadVar_row w g t ty cs fr d hg hu hd hi, run_loadVar_row w g' t' ty' cs' fr' d' hg' hu' hd' hi']

theorem own_kinds {c : Cm} (h : ownB c.kind = true) : c.kind = 2 ∨ c.kind = 3 ∨ c.kind = 4 ∨ c.kind = 5 := by
  simpa [ownB, or_assoc] using h

theorem client_any (s : St) (c : Cm) (A1 A2 : Option Addr) (n1 c1 n2 c2 : Nat) (R1 R2 : Nat → Prop) (w : World) (h1 : Reads w R1 3 A1 n1 (pcs s.pairs)) (h2 : Reads w R2 8 A2 n2 (ecs s.sess)) (hok : s.Ok) (hk : ownB c.kind = true) :
    Calls Tryz.prog 88 #[stv s.schema (.slice A1 n1 c1) (.slice A2 n2 c2), c.v] w fun e w' => ∃ u, e = .returned (.tuple #[u, (clientP s c).2.v]) ∧ StV (fun k => R1 k ∨ R2 k ∨ w.heap.size ≤ k) w' u (clientP s c).1 ∧ Mod Non w w' := by
  obtain ⟨v, ps, ss⟩ := s
  rcases hok.schema with h | h
  · simp only at h
    subst h
    exact app_client1 ps ss c A1 A2 n1 c1 n2 c2 R1 R2 w h1 h2 hok (ses_few hok.sess) (own_kinds hk)
  · simp only at h
    subst h
    exact app_client2 ps ss c A1 A2 n1 c1 n2 c2 R1 R2 w h1 h2 hok (ses_few hok.sess) (own_kinds hk)

def upS (s : St) : St := if s.schema = 1 then ⟨2, rev 1 s.pairs, s.sess⟩ else ⟨0, [], []⟩
theorem up_any (s : St) (A1 A2 : Option Addr) (n1 c1 n2 c2 : Nat) (R1 R2 : Nat → Prop) (w : World) (h1 : Reads w R1 3 A1 n1 (pcs s.pairs)) (h2 : Reads w R2 8 A2 n2 (ecs s.sess)) (hok : s.Ok) (hT : T8 w) :
    Calls Tryz.prog 37 #[stv s.schema (.slice A1 n1 c1) (.slice A2 n2 c2)] w fun e w' => ∃ u, e = .returned (.tuple #[u, .int .i64 (if s.schema = 1 then 0 else 12)]) ∧ StV (fun k => w.heap.size ≤ k) w' u (upS s) ∧ Mod Non w w' := by
  obtain ⟨v, ps, ss⟩ := s
  rcases hok.schema with h | h
  · simp only at h
    subst h
    refine (migr_Up ps ss A1 A2 n1 c1 n2 c2 R1 R2 w h1 h2 hok hT).mono ?_
    rintro e w' ⟨g1, g2, rfl, o1, o2, hm⟩
    exact ⟨_, rfl, ⟨_, _, _, _, _, _, rfl, o1.reads.more fun _ _ h => h.1, o2.reads.more fun _ _ h => h.1⟩, hm⟩
  · simp only at h
    subst h
    refine (migr_Up2 ps ss A1 A2 n1 c1 n2 c2 R1 R2 w h1 h2 hok hT).mono ?_
    rintro e w' ⟨rfl, hm⟩
    exact ⟨_, rfl, ⟨_, _, _, _, _, _, rfl, Reads.none_, Reads.none_⟩, hm⟩

set_option maxRecDepth 100000 in
set_option maxHeartbeats 4000000 in
theorem app_Apply (s : St) (c : Cm) (A1 A2 : Option Addr) (n1 c1 n2 c2 : Nat) (R1 R2 : Nat → Prop) (w : World) (h1 : Reads w R1 3 A1 n1 (pcs s.pairs)) (h2 : Reads w R2 8 A2 n2 (ecs s.sess)) (hok : s.Ok) (hc : c.Ok) (hT : T8 w) :
    Calls Tryz.prog 42 #[stv s.schema (.slice A1 n1 c1) (.slice A2 n2 c2), c.v] w fun e w' => ∃ u, e = .returned (.tuple #[u, (applyP s c).2.v, .int .i64 0]) ∧ StV (fun k => w.heap.size ≤ k) w' u (applyP s c).1 ∧ Mod Non w w' := by
  have hn1 : s.pairs.length = n1 := by have := h1.1; rw [pcs_length] at this; omega
  have hn2 : s.sess.length = n2 := by have := h2.1; rw [ecs_length] at this; omega
  have hl1 : n1 ≤ 100000 := by have := hok.pairs.few; omega
  have hl2 : n2 ≤ 100000 := by have := hok.few; omega
  obtain ⟨v, hv⟩ : ∃ v, v = s.schema := ⟨_, rfl⟩
  obtain ⟨ap, hap⟩ : ∃ ap, ap = applyP s c := ⟨_, rfl⟩
  rw [← hv, ← hap]
  have HV := Lib.hid hv
  have HAP := Lib.hid hap
  have HOK := Lib.hid hok
  have HC := Lib.hid hc
  obtain ⟨C, hC⟩ : ∃ C, C = c := ⟨_, rfl⟩
  have HCC := Lib.hid hC
  rw [← hC]
  obtain ⟨kind, client, seq, key, val, old, node⟩ := C
  clear hv hap hok hc hC hn1 hn2
  have m0 := ((((Mod.refl Non w).alloc (.cells #[.int .i64 v, .slice A1 n1 c1, .slice A2 n2 c2] 25)).alloc (.cells #[.int .i64 kind, .int .i64 client, .int .i64 seq, .string key, .string val, .string old, .int .i64 node] 33)).alloc (.cells #[.int .i64 0, .slice none 0 0, .slice none 0 0] 25)).alloc (.cells #[.int .i64 0, .int .i64 0, .int .i64 0, .bool false, .string ⟨#[]⟩, .int .i64 0] 57)
  have s0 := (((Blk.new w 25 #[.int .i64 v, .slice A1 n1 c1, .slice A2 n2 c2]).alloc (.cells #[.int .i64 kind, .int .i64 client, .int .i64 seq, .string key, .string val, .string old, .int .i64 node] 33)).alloc (.cells #[.int .i64 0, .slice none 0 0, .slice none 0 0] 25)).alloc (.cells #[.int .i64 0, .int .i64 0, .int .i64 0, .bool false, .string ⟨#[]⟩, .int .i64 0] 57)
  have b0 : Blk _ (w.heap.size + 1) _ _ := ((Blk.new1 w (.cells #[.int .i64 v, .slice A1 n1 c1, .slice A2 n2 c2] 25) 33 #[.int .i64 kind, .int .i64 client, .int .i64 seq, .string key, .string val, .string old, .int .i64 node]).alloc (.cells #[.int .i64 0, .slice none 0 0, .slice none 0 0] 25)).alloc (.cells #[.int .i64 0, .int .i64 0, .int .i64 0, .bool false, .string ⟨#[]⟩, .int .i64 0] 57)
  have q0 : Blk _ (w.heap.size + 1 + 1) _ _ := (Blk.new2 w (.cells #[.int .i64 v, .slice A1 n1 c1, .slice A2 n2 c2] 25) (.cells #[.int .i64 kind, .int .i64 client, .int .i64 seq, .string key, .string val, .string old, .int .i64 node] 33) 25 #[.int .i64 0, .slice none 0 0, .slice none 0 0]).alloc (.cells #[.int .i64 0, .int .i64 0, .int .i64 0, .bool false, .string ⟨#[]⟩, .int .i64 0] 57)
  have r0 : Blk _ (w.heap.size + 1 + 1 + 1) _ _ := Blk.new3 w (.cells #[.int .i64 v, .slice A1 n1 c1, .slice A2 n2 c2] 25) (.cells #[.int .i64 kind, .int .i64 client, .int .i64 seq, .string key, .string val, .string old, .int .i64 node] 33) (.cells #[.int .i64 0, .slice none 0 0, .slice none 0 0] 25) 57 #[.int .i64 0, .int .i64 0, .int .i64 0, .bool false, .string ⟨#[]⟩, .int .i64 0]
  have hck := migr_Check s A1 A2 n1 c1 n2 c2 R1 R2 _ (h1.mod m0 fun _ _ _ h => h) (h2.mod m0 fun _ _ _ h => h) HOK.out (hT.non m0)
  rw [← HV.out] at hck
  have HCK := Lib.hid hck
  clear hck
  go_enter Tryz.func42, Tryz.ntmps42
  go_wp2_with fail
  refine HCK.out.mono ?_
  rintro e w1 ⟨rfl, hm1⟩
  have s1 := s0.mod hm1 (fun h => h)
  have b1 := b0.mod hm1 (fun h => h)
  have q1 := q0.mod hm1 (fun h => h)
  have r1 := r0.mod hm1 (fun h => h)
  have m1 := m0.trans' hm1
  clear s0 b0 q0 r0 m0 hm1
  have bb0 := b1.cell 0
  have bb1 := b1.cell 1
  have bb2 := b1.cell 2
  have bb3 := b1.cell 3
  have bb4 := b1.cell 4
  have bb5 := b1.cell 5
  have bb6 := b1.cell 6
  simp at bb0 bb1 bb2 bb3 bb4 bb5 bb6
  have hcc := cmd_Check c HC.out w1 (hT.non m1)
  rw [← HCC.out] at hcc
  have HCH := Lib.hid hcc
  clear hcc
  go_wp2_with fail
  refine HCH.out.mono ?_
  rintro e w2 ⟨rfl, hm2⟩
  have s2 := s1.mod hm2 (fun h => h)
  have b2 := b1.mod hm2 (fun h => h)
  have q2 := q1.mod hm2 (fun h => h)
  have r2 := r1.mod hm2 (fun h => h)
  have m2 := m1.trans' hm2
  clear s1 b1 q1 r1 m1 hm2 bb0 bb1 bb2 bb3 bb4 bb5 bb6 HCH HCK
  have es0 := s2.cell 0
  have es1 := s2.cell 1
  have es2 := s2.cell 2
  simp at es0 es1 es2
  have HCL := Lib.hid (migr_Clone v s.pairs s.sess A1 A2 n1 c1 n2 c2 R1 R2 w2 (h1.mod m2 fun _ _ _ h => h) (h2.mod m2 fun _ _ _ h => h) hl1 hl2)
  go_wp2_with fail
  refine HCL.out.mono ?_
  rintro e w3 ⟨g1, g2, rfl, o1, o2, hg12, hm3⟩
  have s3 := s2.mod hm3 (fun h => h)
  have b3 := b2.mod hm3 (fun h => h)
  have q3 := q2.mod hm3 (fun h => h)
  have r3 := r2.mod hm3 (fun h => h)
  have m3 := m2.trans' hm3
  have hsz := r2.lt
  clear s2 b2 q2 r2 m2 hm3 es0 es1 es2 HCL hg12
  have ns1 := own_ne_blk o1 s3 (by decide)
  have ns2 := own_ne_blk o2 s3 (by decide)
  obtain ⟨W4, hW4⟩ : ∃ W4, W4 = ((w3.setCell ⟨w.heap.size, 0, none⟩ (.int .i64 v)).setCell ⟨w.heap.size, 1, none⟩ (.slice (some ⟨g1, 0, none⟩) n1 n1)).setCell ⟨w.heap.size, 2, none⟩ (.slice (some ⟨g2, 0, none⟩) n2 n2) := ⟨_, rfl⟩
  have hm4 := (((Mod.refl (One w.heap.size) w3).setOne (i := 0) (.int .i64 v)).setOne (i := 1) (.slice (some ⟨g1, 0, none⟩) n1 n1)).setOne (i := 2) (.slice (some ⟨g2, 0, none⟩) n2 n2)
  have s4 := ((s3.set_ 0 (.int .i64 v)).set_ 1 (.slice (some ⟨g1, 0, none⟩) n1 n1)).set_ 2 (.slice (some ⟨g2, 0, none⟩) n2 n2)
  rw [← hW4] at hm4 s4
  have b4 := b3.mod hm4 (fun h => by unfold One at h; omega)
  have q4 := q3.mod hm4 (fun h => by unfold One at h; omega)
  have r4 := r3.mod hm4 (fun h => by unfold One at h; omega)
  have m4 := m3.trans hm4 fun i hi h => by unfold One at h; omega
  have e1 := (o1.mod hm4 (fun g hg h => ns1 (hg.trans (congrArg some h)))).reads
  have e2 := (o2.mod hm4 (fun g hg h => ns2 (hg.trans (congrArg some h)))).reads
  have HW4 := Lib.hid hW4
  have ff0 := s3.frozen 0
  have ff1 := s3.frozen 1
  have ff2 := s3.frozen 2
  have fs0 := s3.cell 0
  have fs1 := s3.cell 1
  have fs2 := s3.cell 2
  have bb0 := b3.cell 0
  have bb1 := b3.cell 1
  have bb2 := b3.cell 2
  have bb3 := b3.cell 3
  have bb4 := b3.cell 4
  have bb5 := b3.cell 5
  have bb6 := b3.cell 6
  simp at fs0 fs1 fs2 bb0 bb1 bb2 bb3 bb4 bb5 bb6
  clear s3 b3 q3 r3 m3 o1 o2 hW4 hm4 ns1 ns2
  have HOW := cmd_Owned c
  rw [← HCC.out] at HOW
  have HOW' := Lib.hid HOW
  clear HOW
  go_wp2_with fail
  rw [← HW4.out]
  refine (HOW'.out W4).mono ?_
  rintro e w5 ⟨rfl, hm5⟩
  have s5 := s4.mod hm5 (fun h => h)
  have b5 := b4.mod hm5 (fun h => h)
  have q5 := q4.mod hm5 (fun h => h)
  have r5 := r4.mod hm5 (fun h => h)
  have m5 := m4.trans' hm5
  have f1 := e1.mod hm5 fun _ _ _ h => h
  have f2 := e2.mod hm5 fun _ _ _ h => h
  have hz5 := m5.size
  have hz35 := hm5.size
  clear s4 b4 q4 r4 m4 e1 e2 hm5 HW4 HOW' ff0 ff1 ff2 fs0 fs1 fs2 bb0 bb1 bb2 bb3 bb4 bb5 bb6
  have es0 := s5.cell 0
  have es1 := s5.cell 1
  have es2 := s5.cell 2
  have bb0 := b5.cell 0
  have bb1 := b5.cell 1
  have bb2 := b5.cell 2
  have bb3 := b5.cell 3
  have bb4 := b5.cell 4
  have bb5 := b5.cell 5
  have bb6 := b5.cell 6
  simp at es0 es1 es2 bb0 bb1 bb2 bb3 bb4 bb5 bb6
  obtain ⟨ow, how⟩ : ∃ ow, ow = ownB kind := ⟨_, rfl⟩
  have HOWN : Hid (ow = ownB c.kind) := by
    show ow = ownB c.kind
    rw [← HCC.out]
    exact how
  rw [← how]
  clear how
  cases ow with
  | true =>
    have hcl := client_any s c (some ⟨g1, 0, none⟩) (some ⟨g2, 0, none⟩) n1 n1 n2 n2 _ _ w5 f1 f2 HOK.out HOWN.out.symm
    rw [← HCC.out, ← HV.out] at hcl
    have HAP2 : Hid (ap = clientP s ⟨kind, client, seq, key, val, old, node⟩) := by
      rw [HCC.out]
      have := HAP.out
      unfold applyP at this
      rw [if_pos HOWN.out.symm] at this
      exact this
    rw [← HAP2.out] at hcl
    have HCL := Lib.hid hcl
    clear hcl HAP f1 f2
    go_wp2_with fail
    refine HCL.out.mono ?_
    rintro e w6 ⟨u, rfl, hu, hm6⟩
    have s6 := s5.mod hm6 (fun h => h)
    have q6 := q5.mod hm6 (fun h => h)
    have r6 := r5.mod hm6 (fun h => h)
    have m6 := m5.trans' hm6
    have hr5 := r5.lt
    have hr6 := r6.lt
    have hd1 : ¬ w6.heap.size = w.heap.size + 1 + 1 := by omega
    have hd2 : ¬ w6.heap.size = w.heap.size + 1 + 1 + 1 := by omega
    have hd3 : ¬ w6.heap.size + 1 = w.heap.size + 1 + 1 := by omega
    have hd4 : ¬ w6.heap.size + 1 = w.heap.size + 1 + 1 + 1 := by omega
    obtain ⟨⟨av, aps, ass⟩, ⟨xa, xb, xc, xd, xe, xf⟩⟩ := ap
    obtain ⟨A5, n5, c5, A6, n6, c6, rfl, k1, k2⟩ := hu
    have q7 := (q6.alloc (.cells #[.int .i64 av, .slice A5 n5 c5, .slice A6 n6 c6] 25)).alloc (.cells #[.int .i64 xa, .int .i64 xb, .int .i64 xc, .bool xd, .string xe, .int .i64 xf] 57)
    have r7 := (r6.alloc (.cells #[.int .i64 av, .slice A5 n5 c5, .slice A6 n6 c6] 25)).alloc (.cells #[.int .i64 xa, .int .i64 xb, .int .i64 xc, .bool xd, .string xe, .int .i64 xf] 57)
    have m7 := (m6.alloc (.cells #[.int .i64 av, .slice A5 n5 c5, .slice A6 n6 c6] 25)).alloc (.cells #[.int .i64 xa, .int .i64 xb, .int .i64 xc, .bool xd, .string xe, .int .i64 xf] 57)
    have x7 := (Blk.new w6 25 #[.int .i64 av, .slice A5 n5 c5, .slice A6 n6 c6]).alloc (.cells #[.int .i64 xa, .int .i64 xb, .int .i64 xc, .bool xd, .string xe, .int .i64 xf] 57)
    have y7 := Blk.new1 w6 (.cells #[.int .i64 av, .slice A5 n5 c5, .slice A6 n6 c6] 25) 57 #[.int .i64 xa, .int .i64 xb, .int .i64 xc, .bool xd, .string xe, .int .i64 xf]
    have k3 := (k1.alloc (.cells #[.int .i64 av, .slice A5 n5 c5, .slice A6 n6 c6] 25)).alloc (.cells #[.int .i64 xa, .int .i64 xb, .int .i64 xc, .bool xd, .string xe, .int .i64 xf] 57)
    have k4 := (k2.alloc (.cells #[.int .i64 av, .slice A5 n5 c5, .slice A6 n6 c6] 25)).alloc (.cells #[.int .i64 xa, .int .i64 xb, .int .i64 xc, .bool xd, .string xe, .int .i64 xf] 57)
    obtain ⟨W7, hW7⟩ : ∃ W7, W7 = (w6.alloc (.cells #[.int .i64 av, .slice A5 n5 c5, .slice A6 n6 c6] 25)).alloc (.cells #[.int .i64 xa, .int .i64 xb, .int .i64 xc, .bool xd, .string xe, .int .i64 xf] 57) := ⟨_, rfl⟩
    rw [← hW7] at q7 r7 m7 x7 y7 k3 k4
    have HW7 := Lib.hid hW7
    have hF := fill9 q7 r7 (by omega) (.int .i64 av) (.slice A5 n5 c5) (.slice A6 n6 c6) (.int .i64 xa) (.int .i64 xb) (.int .i64 xc) (.bool xd) (.string xe) (.int .i64 xf)
    have hM := (hF.2.2.1 w (by omega) (by omega) m7).drew
    have k5 := k3.mod (hF.2.2.2.drew) (fun k _ hr h => by unfold Two at h; rcases hr with h1 | h1 | h1; (have := h1.1; omega); (have := h1.1; omega); omega)
    have k6 := k4.mod (hF.2.2.2.drew) (fun k _ hr h => by unfold Two at h; rcases hr with h1 | h1 | h1; (have := h1.1; omega); (have := h1.1; omega); omega)
    have k7 := k5.more (R' := fun k => w.heap.size ≤ k) fun k _ hr => by rcases hr with h1 | h1 | h1; (have := h1.1; omega); (have := h1.1; omega); omega
    have k8 := k6.more (R' := fun k => w.heap.size ≤ k) fun k _ hr => by rcases hr with h1 | h1 | h1; (have := h1.1; omega); (have := h1.1; omega); omega
    clear k3 k4 k5 k6
    clear hW7 s5 b5 q5 r5 m5 hm6 s6 q6 r6 m6 k1 k2 es0 es1 es2 bb0 bb1 bb2 bb3 bb4 bb5 bb6 HCL
    go_wp2_with fail
    rw [← HW7.out]
    have zs0 := x7.cell 0
    have zs1 := x7.cell 1
    have zs2 := x7.cell 2
    have zx0 := y7.cell 0
    have zx1 := y7.cell 1
    have zx2 := y7.cell 2
    have zx3 := y7.cell 3
    have zx4 := y7.cell 4
    have zx5 := y7.cell 5
    have zq0 := q7.cell 0
    have zq1 := q7.cell 1
    have zq2 := q7.cell 2
    have zr0 := r7.cell 0
    have zr1 := r7.cell 1
    have zr2 := r7.cell 2
    have zr3 := r7.cell 3
    have zr4 := r7.cell 4
    have zr5 := r7.cell 5
    simp at zs0 zs1 zs2 zx0 zx1 zx2 zx3 zx4 zx5 zq0 zq1 zq2 zr0 zr1 zr2 zr3 zr4 zr5
    have fq0 := q7.frozen 0
    have fq1 := q7.frozen 1
    have fq2 := q7.frozen 2
    have fr0 := r7.frozen 0
    have fr1 := r7.frozen 1
    have fr2 := r7.frozen 2
    have fr3 := r7.frozen 3
    have fr4 := r7.frozen 4
    have fr5 := r7.frozen 5
    clear q7 r7 x7 y7
    go_region
    go_wp2_with fail
    refine bodyPost_ret (results_row_row_tmp rfl _ _ (w.heap.size + 1 + 1) 25 #[.int .i64 av, .slice A5 n5 c5, .slice A6 n6 c6] (0, 0) _ (w.heap.size + 1 + 1 + 1) 57 #[.int .i64 xa, .int .i64 xb, .int .i64 xc, .bool xd, .string xe, .int .i64 xf] (0, 0) _ rfl hF.1.drew Tryz.underlying25 rfl (by kernel_rfl) rfl hF.2.1.drew Tryz.underlying57 rfl (by kernel_rfl)) rfl ?_
    exact ⟨_, rfl, ⟨_, _, _, _, _, _, rfl, k7, k8⟩, hM⟩
  | false =>
    have hup := up_any s (some ⟨g1, 0, none⟩) (some ⟨g2, 0, none⟩) n1 n1 n2 n2 _ _ w5 f1 f2 HOK.out (hT.non m5)
    rw [← HV.out] at hup
    obtain ⟨cd, hcd⟩ : ∃ cd : Int, cd = if v = 1 then 0 else 12 := ⟨_, rfl⟩
    obtain ⟨us, hus⟩ : ∃ us, us = upS s := ⟨_, rfl⟩
    rw [← hcd, ← hus] at hup
    have HAP2 : Hid (ap = if kind = 6 ∧ v = 1 then (us, anZ) else (s, anZ)) := by
      have := HAP.out
      unfold applyP at this
      rw [if_neg (by rw [← HOWN.out]; decide), ← HCC.out, ← HV.out] at this
      show ap = _
      rw [this, hus]
      by_cases h : kind = 6 ∧ v = 1
      · rw [if_pos h, if_pos h]
        unfold upS
        rw [if_pos (by rw [← HV.out]; exact h.2)]
      · rw [if_neg h, if_neg h]
    have HUP := Lib.hid hup
    have HCD := Lib.hid hcd
    clear hup hcd hus HAP HOWN
    go_wp2_with fail
    refine HUP.out.mono ?_
    rintro e w6 ⟨u, rfl, hu, hm6⟩
    have s6 := s5.mod hm6 (fun h => h)
    have b6 := b5.mod hm6 (fun h => h)
    have q6 := q5.mod hm6 (fun h => h)
    have r6 := r5.mod hm6 (fun h => h)
    have m6 := m5.trans' hm6
    have k1 := f1.mod hm6 fun _ _ _ h => h
    have k2 := f2.mod hm6 fun _ _ _ h => h
    have hr5 := r5.lt
    have hr6 := r6.lt
    have hd1 : ¬ w6.heap.size = w.heap.size + 1 + 1 := by omega
    have hd2 : ¬ w6.heap.size = w.heap.size + 1 + 1 + 1 := by omega
    have hd3 : ¬ w6.heap.size = w.heap.size := by omega
    have hd4 : w.heap.size < w6.heap.size := by omega
    have hd5 : w.heap.size + 1 < w6.heap.size := by omega
    have hd6 : w.heap.size + 1 + 1 < w6.heap.size := by omega
    obtain ⟨uv, ups, uss⟩ := us
    obtain ⟨A5, n5, c5, A6, n6, c6, rfl, k3, k4⟩ := hu
    have zs0 := s6.cell 0
    have zs1 := s6.cell 1
    have zs2 := s6.cell 2
    have zb0 := b6.cell 0
    have zb1 := b6.cell 1
    have zb2 := b6.cell 2
    have zb3 := b6.cell 3
    have zb4 := b6.cell 4
    have zb5 := b6.cell 5
    have zb6 := b6.cell 6
    have zq0 := q6.cell 0
    have zq1 := q6.cell 1
    have zq2 := q6.cell 2
    have zr0 := r6.cell 0
    have zr1 := r6.cell 1
    have zr2 := r6.cell 2
    have zr3 := r6.cell 3
    have zr4 := r6.cell 4
    have zr5 := r6.cell 5
    simp at zs0 zs1 zs2 zb0 zb1 zb2 zb3 zb4 zb5 zb6 zq0 zq1 zq2 zr0 zr1 zr2 zr3 zr4 zr5
    have fs0 := s6.frozen 0
    have fs1 := s6.frozen 1
    have fs2 := s6.frozen 2
    have fq0 := q6.frozen 0
    have fq1 := q6.frozen 1
    have fq2 := q6.frozen 2
    have fr0 := r6.frozen 0
    have fr1 := r6.frozen 1
    have fr2 := r6.frozen 2
    have fr3 := r6.frozen 3
    have fr4 := r6.frozen 4
    have fr5 := r6.frozen 5
    clear s5 b5 q5 r5 m5 hm6 f1 f2 es0 es1 es2 bb0 bb1 bb2 bb3 bb4 bb5 bb6 HUP
    by_cases hA : kind = 6 ∧ v = 1
    · have HS : Hid (ap = (⟨uv, ups, uss⟩, anZ)) := by
        have := HAP2.out
        rw [if_pos hA] at this
        exact this
      obtain ⟨rfl, hv1⟩ := hA
      have hcd : cd = 0 := by rw [HCD.out, if_pos hv1]
      subst hcd
      subst hv1
      clear HAP2
      have s7 := s6.alloc (.cells #[.int .i64 uv, .slice A5 n5 c5, .slice A6 n6 c6] 25)
      have q7 := q6.alloc (.cells #[.int .i64 uv, .slice A5 n5 c5, .slice A6 n6 c6] 25)
      have r7 := r6.alloc (.cells #[.int .i64 uv, .slice A5 n5 c5, .slice A6 n6 c6] 25)
      have m7 := m6.alloc (.cells #[.int .i64 uv, .slice A5 n5 c5, .slice A6 n6 c6] 25)
      have x7 := Blk.new w6 25 #[.int .i64 uv, .slice A5 n5 c5, .slice A6 n6 c6]
      have l3 := k3.alloc (.cells #[.int .i64 uv, .slice A5 n5 c5, .slice A6 n6 c6] 25)
      have l4 := k4.alloc (.cells #[.int .i64 uv, .slice A5 n5 c5, .slice A6 n6 c6] 25)
      obtain ⟨W7, hW7⟩ : ∃ W7, W7 = w6.alloc (.cells #[.int .i64 uv, .slice A5 n5 c5, .slice A6 n6 c6] 25) := ⟨_, rfl⟩
      rw [← hW7] at s7 q7 r7 m7 x7 l3 l4
      have HW7 := Lib.hid hW7
      clear hW7 s6 q6 r6 m6 k1 k2 k3 k4
      go_wp2_with (with_reducible (show wpList _ _ _ (⟨some 51, _, _, _, _, _⟩ :: _) _ _); refine Hid.out ?_)
      rw [← HW7.out]
      clear zs0 zs1 zs2 zq0 zq1 zq2 zr0 zr1 zr2 zr3 zr4 zr5 fs0 fs1 fs2 fq0 fq1 fq2 fr0 fr1 fr2 fr3 fr4 fr5 zb0 zb1 zb2 zb3 zb4 zb5 zb6
      have zs0 := s7.cell 0
      have zs1 := s7.cell 1
      have zs2 := s7.cell 2
      have zx0 := x7.cell 0
      have zx1 := x7.cell 1
      have zx2 := x7.cell 2
      simp at zs0 zs1 zs2 zx0 zx1 zx2
      have fs0 := s7.frozen 0
      have fs1 := s7.frozen 1
      have fs2 := s7.frozen 2
      refine Lib.hid ?_
      go_wp2_with (with_reducible (show wpList _ _ _ (⟨some 52, _, _, _, _, _⟩ :: _) _ _); refine Hid.out ?_)
      obtain ⟨W8, hW8⟩ : ∃ W8, W8 = ((W7.setCell ⟨w.heap.size, 0, none⟩ (.int .i64 uv)).setCell ⟨w.heap.size, 1, none⟩ (.slice A5 n5 c5)).setCell ⟨w.heap.size, 2, none⟩ (.slice A6 n6 c6) := ⟨_, rfl⟩
      have s8 := ((s7.set_ 0 (.int .i64 uv)).set_ 1 (.slice A5 n5 c5)).set_ 2 (.slice A6 n6 c6)
      have hm8 := (((Mod.refl (One w.heap.size) W7).setOne (i := 0) (.int .i64 uv)).setOne (i := 1) (.slice A5 n5 c5)).setOne (i := 2) (.slice A6 n6 c6)
      rw [← hW8] at s8 hm8 ⊢
      have q8 := q7.mod hm8 (fun h => by unfold One at h; omega)
      have r8 := r7.mod hm8 (fun h => by unfold One at h; omega)
      have m8 := m7.trans hm8 fun i hi h => by unfold One at h; omega
      have k3 := l3.mod hm8 (fun k _ hr h => by unfold One at h; have : w5.heap.size ≤ k := hr; omega)
      have k4 := l4.mod hm8 (fun k _ hr h => by unfold One at h; have : w5.heap.size ≤ k := hr; omega)
      clear hW8 s7 q7 r7 m7 x7 l3 l4 hm8 zs0 zs1 zs2 zx0 zx1 zx2 fs0 fs1 fs2
      have zs0 := s8.cell 0
      have zs1 := s8.cell 1
      have zs2 := s8.cell 2
      have zq0 := q8.cell 0
      have zq1 := q8.cell 1
      have zq2 := q8.cell 2
      have zr0 := r8.cell 0
      have zr1 := r8.cell 1
      have zr2 := r8.cell 2
      have zr3 := r8.cell 3
      have zr4 := r8.cell 4
      have zr5 := r8.cell 5
      simp at zs0 zs1 zs2 zq0 zq1 zq2 zr0 zr1 zr2 zr3 zr4 zr5
      have fq0 := q8.frozen 0
      have fq1 := q8.frozen 1
      have fq2 := q8.frozen 2
      have fr0 := r8.frozen 0
      have fr1 := r8.frozen 1
      have fr2 := r8.frozen 2
      have fr3 := r8.frozen 3
      have fr4 := r8.frozen 4
      have fr5 := r8.frozen 5
      refine Lib.hid ?_
      go_wp2_with fail
      have hF := fill9 q8 r8 (by omega) (.int .i64 uv) (.slice A5 n5 c5) (.slice A6 n6 c6) (.int .i64 0) (.int .i64 0) (.int .i64 0) (.bool false) (.string ⟨#[]⟩) (.int .i64 0)
      have hM := hF.2.2.1 w (by omega) (by omega) m8
      have hF1 := hF.1
      have hF2 := hF.2.1
      have k5 := k3.mod hF.2.2.2 (fun k _ hr h => by unfold Two at h; have : w5.heap.size ≤ k := hr; omega)
      have k6 := k4.mod hF.2.2.2 (fun k _ hr h => by unfold Two at h; have : w5.heap.size ≤ k := hr; omega)
      have k7 := k5.more (R' := fun k => w.heap.size ≤ k) fun k _ hr => by have : w5.heap.size ≤ k := hr; omega
      have k8 := k6.more (R' := fun k => w.heap.size ≤ k) fun k _ hr => by have : w5.heap.size ≤ k := hr; omega
      refine bodyPost_ret (results_row_row_tmp rfl _ _ (w.heap.size + 1 + 1) 25 #[.int .i64 uv, .slice A5 n5 c5, .slice A6 n6 c6] (0, 0) _ (w.heap.size + 1 + 1 + 1) 57 #[.int .i64 0, .int .i64 0, .int .i64 0, .bool false, .string ⟨#[]⟩, .int .i64 0] (0, 0) _ rfl hF1 Tryz.underlying25 rfl (by kernel_rfl) rfl hF2 Tryz.underlying57 rfl (by kernel_rfl)) rfl ?_
      rw [HS.out]
      exact ⟨_, rfl, ⟨_, _, _, _, _, _, rfl, k7, k8⟩, hM⟩
    · have HS : Hid (ap = (s, anZ)) := by
        have := HAP2.out
        rw [if_neg hA] at this
        exact this
      have HK : Hid (kind = 6 → cd = 12) := by
        intro h
        rw [HCD.out, if_neg (fun h' => hA ⟨h, h'⟩)]
      clear k3 k4 HAP2 HCD hA
      have s7 := s6.alloc (.cells #[.int .i64 uv, .slice A5 n5 c5, .slice A6 n6 c6] 25)
      have q7 := q6.alloc (.cells #[.int .i64 uv, .slice A5 n5 c5, .slice A6 n6 c6] 25)
      have r7 := r6.alloc (.cells #[.int .i64 uv, .slice A5 n5 c5, .slice A6 n6 c6] 25)
      have m7 := m6.alloc (.cells #[.int .i64 uv, .slice A5 n5 c5, .slice A6 n6 c6] 25)
      have l1 := k1.alloc (.cells #[.int .i64 uv, .slice A5 n5 c5, .slice A6 n6 c6] 25)
      have l2 := k2.alloc (.cells #[.int .i64 uv, .slice A5 n5 c5, .slice A6 n6 c6] 25)
      obtain ⟨W7, hW7⟩ : ∃ W7, W7 = w6.alloc (.cells #[.int .i64 uv, .slice A5 n5 c5, .slice A6 n6 c6] 25) := ⟨_, rfl⟩
      rw [← hW7] at s7 q7 r7 m7 l1 l2
      have HW7 := Lib.hid hW7
      clear hW7 s6 q6 r6 m6 k1 k2
      by_cases h6 : kind = 6
      · have hcd := HK.out h6
        subst h6 hcd
        go_wp2_with (with_reducible (show wpList _ _ _ (⟨some 52, _, _, _, _, _⟩ :: _) _ _); refine Hid.out ?_)
        rw [← HW7.out]
        clear zs0 zs1 zs2 zq0 zq1 zq2 zr0 zr1 zr2 zr3 zr4 zr5 fs0 fs1 fs2 fq0 fq1 fq2 fr0 fr1 fr2 fr3 fr4 fr5 zb0 zb1 zb2 zb3 zb4 zb5 zb6
        have zs0 := s7.cell 0
        have zs1 := s7.cell 1
        have zs2 := s7.cell 2
        have zq0 := q7.cell 0
        have zq1 := q7.cell 1
        have zq2 := q7.cell 2
        have zr0 := r7.cell 0
        have zr1 := r7.cell 1
        have zr2 := r7.cell 2
        have zr3 := r7.cell 3
        have zr4 := r7.cell 4
        have zr5 := r7.cell 5
        simp at zs0 zs1 zs2 zq0 zq1 zq2 zr0 zr1 zr2 zr3 zr4 zr5
        have fq0 := q7.frozen 0
        have fq1 := q7.frozen 1
        have fq2 := q7.frozen 2
        have fr0 := r7.frozen 0
        have fr1 := r7.frozen 1
        have fr2 := r7.frozen 2
        have fr3 := r7.frozen 3
        have fr4 := r7.frozen 4
        have fr5 := r7.frozen 5
        refine Lib.hid ?_
        go_wp2_with fail
        have hF := fill9 q7 r7 (by omega) (.int .i64 v) (.slice (some ⟨g1, 0, none⟩) n1 n1) (.slice (some ⟨g2, 0, none⟩) n2 n2) (.int .i64 0) (.int .i64 0) (.int .i64 0) (.bool false) (.string ⟨#[]⟩) (.int .i64 0)
        have hM := hF.2.2.1 w (by omega) (by omega) m7
        have k5 := l1.mod hF.2.2.2 (fun k _ hr h => by unfold Two at h; have := hr.1; omega)
        have k6 := l2.mod hF.2.2.2 (fun k _ hr h => by unfold Two at h; have := hr.1; omega)
        have k7 := k5.more (R' := fun k => w.heap.size ≤ k) fun k _ hr => by have := hr.1; omega
        have k8 := k6.more (R' := fun k => w.heap.size ≤ k) fun k _ hr => by have := hr.1; omega
        refine bodyPost_ret (results_row_row_tmp rfl _ _ (w.heap.size + 1 + 1) 25 #[.int .i64 v, .slice (some ⟨g1, 0, none⟩) n1 n1, .slice (some ⟨g2, 0, none⟩) n2 n2] (0, 0) _ (w.heap.size + 1 + 1 + 1) 57 #[.int .i64 0, .int .i64 0, .int .i64 0, .bool false, .string ⟨#[]⟩, .int .i64 0] (0, 0) _ rfl hF.1 Tryz.underlying25 rfl (by kernel_rfl) rfl hF.2.1 Tryz.underlying57 rfl (by kernel_rfl)) rfl ?_
        rw [HS.out]
        exact ⟨_, rfl, ⟨_, _, _, _, _, _, by rw [← HV.out], k7, k8⟩, hM⟩
      · have h6' : (kind == 6) = false := by simpa using h6
        clear HK h6
        go_wp2_with (with_reducible (show wpList _ _ _ (⟨some 52, _, _, _, _, _⟩ :: _) _ _); refine Hid.out ?_)
        rw [← HW7.out]
        clear zs0 zs1 zs2 zq0 zq1 zq2 zr0 zr1 zr2 zr3 zr4 zr5 fs0 fs1 fs2 fq0 fq1 fq2 fr0 fr1 fr2 fr3 fr4 fr5 zb0 zb1 zb2 zb3 zb4 zb5 zb6
        have zs0 := s7.cell 0
        have zs1 := s7.cell 1
        have zs2 := s7.cell 2
        have zq0 := q7.cell 0
        have zq1 := q7.cell 1
        have zq2 := q7.cell 2
        have zr0 := r7.cell 0
        have zr1 := r7.cell 1
        have zr2 := r7.cell 2
        have zr3 := r7.cell 3
        have zr4 := r7.cell 4
        have zr5 := r7.cell 5
        simp at zs0 zs1 zs2 zq0 zq1 zq2 zr0 zr1 zr2 zr3 zr4 zr5
        have fq0 := q7.frozen 0
        have fq1 := q7.frozen 1
        have fq2 := q7.frozen 2
        have fr0 := r7.frozen 0
        have fr1 := r7.frozen 1
        have fr2 := r7.frozen 2
        have fr3 := r7.frozen 3
        have fr4 := r7.frozen 4
        have fr5 := r7.frozen 5
        refine Lib.hid ?_
        go_wp2_with fail
        have hF := fill9 q7 r7 (by omega) (.int .i64 v) (.slice (some ⟨g1, 0, none⟩) n1 n1) (.slice (some ⟨g2, 0, none⟩) n2 n2) (.int .i64 0) (.int .i64 0) (.int .i64 0) (.bool false) (.string ⟨#[]⟩) (.int .i64 0)
        have hM := hF.2.2.1 w (by omega) (by omega) m7
        have k5 := l1.mod hF.2.2.2 (fun k _ hr h => by unfold Two at h; have := hr.1; omega)
        have k6 := l2.mod hF.2.2.2 (fun k _ hr h => by unfold Two at h; have := hr.1; omega)
        have k7 := k5.more (R' := fun k => w.heap.size ≤ k) fun k _ hr => by have := hr.1; omega
        have k8 := k6.more (R' := fun k => w.heap.size ≤ k) fun k _ hr => by have := hr.1; omega
        refine bodyPost_ret (results_row_row_tmp rfl _ _ (w.heap.size + 1 + 1) 25 #[.int .i64 v, .slice (some ⟨g1, 0, none⟩) n1 n1, .slice (some ⟨g2, 0, none⟩) n2 n2] (0, 0) _ (w.heap.size + 1 + 1 + 1) 57 #[.int .i64 0, .int .i64 0, .int .i64 0, .bool false, .string ⟨#[]⟩, .int .i64 0] (0, 0) _ rfl hF.1 Tryz.underlying25 rfl (by kernel_rfl) rfl hF.2.1 Tryz.underlying57 rfl (by kernel_rfl)) rfl ?_
        rw [HS.out]
        exact ⟨_, rfl, ⟨_, _, _, _, _, _, by rw [← HV.out], k7, k8⟩, hM⟩
end Go.Proofs.YtdclfdinhdaadaaGreatDoor
