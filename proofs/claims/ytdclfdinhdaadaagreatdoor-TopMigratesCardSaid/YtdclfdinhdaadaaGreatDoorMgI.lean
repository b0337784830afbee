/- Package app: the contract of client. -/
import Derived.Test.YtdclfdinhdaadaaGreatDoorMgH
import Derived.Test.YtdclfdinhdaadaaGreatDoorMgF
import Derived.Test.YtdclfdinhdaadaaGreatDoorMgX
namespace Go.Proofs.YtdclfdinhdaadaaGreatDoor
open Go.RowKit

/-- a client's command, done -/
def clientP (s : St) (c : Cm) : St × An :=
  if (swhich s.sess c.client c.seq).1 = 1 then (s, (swhich s.sess c.client c.seq).2)
  else if (swhich s.sess c.client c.seq).1 = 2 then (s, anOf c 15 false ⟨#[]⟩ 0)
  else if hasB s.schema c.kind = false then (s, anOf c 14 false ⟨#[]⟩ 0)
  else (⟨s.schema, (if s.schema = 1 then kdo1 s.pairs c else kdo3 s.pairs c).1, swith s.sess (if s.schema = 1 then kdo1 s.pairs c else kdo3 s.pairs c).2⟩, (if s.schema = 1 then kdo1 s.pairs c else kdo3 s.pairs c).2)

/-- the value v is the state s, in memory that keeps to R -/
def StV (R : Nat → Prop) (w : World) (v : Value) (s : St) : Prop :=
  ∃ A1 n1 c1 A2 n2 c2, v = stv s.schema (.slice A1 n1 c1) (.slice A2 n2 c2) ∧ Reads w R 3 A1 n1 (pcs s.pairs) ∧ Reads w R 8 A2 n2 (ecs s.sess)
theorem StV.non {R : Nat → Prop} {w w' : World} {v : Value} {s : St} (h : StV R w v s) (hm : Mod Non w w') : StV R w' v s := by
  obtain ⟨A1, n1, c1, A2, n2, c2, h1, h2, h3⟩ := h
  exact ⟨A1, n1, c1, A2, n2, c2, h1, h2.mod hm fun _ _ _ h => h, h3.mod hm fun _ _ _ h => h⟩

/-- Two results, both structs in memory. -/
theorem results_row_row {P : Program} {fn : Func} {s p : Tmp} {ty ty' : TypeId} (h : fn.results = #[.cell s ty', .cell p ty]) (tmps : Array Value) (w : World) (g' : Nat) (t' : TypeId) (cs' : Array Value) (fr' : Nat × Nat) (d' : TypeDesc) (g : Nat) (t : TypeId) (cs : Array Value) (fr : Nat × Nat) (d : TypeDesc)
    (hp' : tmps.getD s undef = .pointer (some ⟨g', 0, none⟩)) (hg' : w.heap[g']? = some (.cells cs' t' fr'))
    (hu' : P.underlying ty' = some d') (hd' : (match d' with | .struct _ | .array _ _ => true | _ => false) = true) (hi' : (P.info? ty').map (·.size) = some cs'.size)
    (hp : tmps.getD p undef = .pointer (some ⟨g, 0, none⟩)) (hg : w.heap[g]? = some (.cells cs t fr))
    (hu : P.underlying ty = some d) (hd : (match d with | .struct _ | .array _ _ => true | _ => false) = true) (hi : (P.info? ty).map (·.size) = some cs.size) :
    (results fn tmps).run P w = .ok (.tuple #[.agg cs', .agg cs]) w := by
  have hp1 : tmps[p]?.getD undef = .pointer (some ⟨g, 0, none⟩) := by simpa using hp
  have hp2 : tmps[s]?.getD undef = .pointer (some ⟨g', 0, none⟩) := by simpa using hp'
  simp [results, h, hp1, hp2, asAddr, run_loadVar_row w g t ty cs fr d hg hu hd hi, run_loadVar_row w g' t' ty' cs' fr' d' hg' hu' hd' hi']

def Two (g h : Nat) : Nat → Prop := fun k => k = g ∨ k = h
/-- a state's three cells and an answer's six, stored -/
theorem fill9 {W : World} {g h : Nat} {tS tA : TypeId} {q0 q1 q2 r0 r1 r2 r3 r4 r5 : Value} (hq : Blk W g tS #[q0, q1, q2]) (hr : Blk W h tA #[r0, r1, r2, r3, r4, r5]) (hne : g ≠ h) (s0 s1 s2 a0 a1 a2 a3 a4 a5 : Value) :
    Blk (((((((((W.setCell ⟨g, 0, none⟩ s0).setCell ⟨g, 1, none⟩ s1).setCell ⟨g, 2, none⟩ s2).setCell ⟨h, 0, none⟩ a0).setCell ⟨h, 1, none⟩ a1).setCell ⟨h, 2, none⟩ a2).setCell ⟨h, 3, none⟩ a3).setCell ⟨h, 4, none⟩ a4).setCell ⟨h, 5, none⟩ a5) g tS #[s0, s1, s2] ∧
    Blk (((((((((W.setCell ⟨g, 0, none⟩ s0).setCell ⟨g, 1, none⟩ s1).setCell ⟨g, 2, none⟩ s2).setCell ⟨h, 0, none⟩ a0).setCell ⟨h, 1, none⟩ a1).setCell ⟨h, 2, none⟩ a2).setCell ⟨h, 3, none⟩ a3).setCell ⟨h, 4, none⟩ a4).setCell ⟨h, 5, none⟩ a5) h tA #[a0, a1, a2, a3, a4, a5] ∧
    (∀ a : World, a.heap.size ≤ g → a.heap.size ≤ h → Mod Non a W → Mod Non a (((((((((W.setCell ⟨g, 0, none⟩ s0).setCell ⟨g, 1, none⟩ s1).setCell ⟨g, 2, none⟩ s2).setCell ⟨h, 0, none⟩ a0).setCell ⟨h, 1, none⟩ a1).setCell ⟨h, 2, none⟩ a2).setCell ⟨h, 3, none⟩ a3).setCell ⟨h, 4, none⟩ a4).setCell ⟨h, 5, none⟩ a5)) ∧ Mod (Two g h) W (((((((((W.setCell ⟨g, 0, none⟩ s0).setCell ⟨g, 1, none⟩ s1).setCell ⟨g, 2, none⟩ s2).setCell ⟨h, 0, none⟩ a0).setCell ⟨h, 1, none⟩ a1).setCell ⟨h, 2, none⟩ a2).setCell ⟨h, 3, none⟩ a3).setCell ⟨h, 4, none⟩ a4).setCell ⟨h, 5, none⟩ a5) := by
  have e1 := ((hq.set_ 0 s0).set_ 1 s1).set_ 2 s2
  have e2 := ((hr.far (p := ⟨g, 0, none⟩) (Ne.symm hne) s0).far (p := ⟨g, 1, none⟩) (Ne.symm hne) s1).far (p := ⟨g, 2, none⟩) (Ne.symm hne) s2
  refine ⟨?_, ?_, fun a h1 h2 hm => ?_, ?_⟩
  · exact (((((e1.far (p := ⟨h, 0, none⟩) hne a0).far (p := ⟨h, 1, none⟩) hne a1).far (p := ⟨h, 2, none⟩) hne a2).far (p := ⟨h, 3, none⟩) hne a3).far (p := ⟨h, 4, none⟩) hne a4).far (p := ⟨h, 5, none⟩) hne a5
  · exact (((((e2.set_ 0 a0).set_ 1 a1).set_ 2 a2).set_ 3 a3).set_ 4 a4).set_ 5 a5
  · exact ((((((((hm.setNew h1 _ _).setNew h1 _ _).setNew h1 _ _).setNew h2 _ _).setNew h2 _ _).setNew h2 _ _).setNew h2 _ _).setNew h2 _ _).setNew h2 _ _
  · exact ((((((((((Mod.refl (Two g h) W).setCell (p := ⟨g, 0, none⟩) (fun _ => .inl rfl) s0).setCell (p := ⟨g, 1, none⟩) (fun _ => .inl rfl) s1).setCell (p := ⟨g, 2, none⟩) (fun _ => .inl rfl) s2).setCell (p := ⟨h, 0, none⟩) (fun _ => .inr rfl) a0).setCell (p := ⟨h, 1, none⟩) (fun _ => .inr rfl) a1).setCell (p := ⟨h, 2, none⟩) (fun _ => .inr rfl) a2).setCell (p := ⟨h, 3, none⟩) (fun _ => .inr rfl) a3).setCell (p := ⟨h, 4, none⟩) (fun _ => .inr rfl) a4).setCell (p := ⟨h, 5, none⟩) (fun _ => .inr rfl) a5)

set_option maxRecDepth 100000 in
set_option maxHeartbeats 4000000 in
theorem app_client1 (ps : List Pa) (ss : List Se) (c : Cm) (A1 A2 : Option Addr) (n1 c1 n2 c2 : Nat) (R1 R2 : Nat → Prop) (w : World) (h1 : Reads w R1 3 A1 n1 (pcs ps)) (h2 : Reads w R2 8 A2 n2 (ecs ss)) (hok : St.Ok ⟨1, ps, ss⟩) (hsf : ss.length ≤ 8) (hk : c.kind = 2 ∨ c.kind = 3 ∨ c.kind = 4 ∨ c.kind = 5) :
    Calls Tryz.prog 88 #[stv 1 (.slice A1 n1 c1) (.slice A2 n2 c2), c.v] w fun e w' => ∃ u, e = .returned (.tuple #[u, (clientP ⟨1, ps, ss⟩ c).2.v]) ∧ StV (fun k => R1 k ∨ R2 k ∨ w.heap.size ≤ k) w' u (clientP ⟨1, ps, ss⟩ c).1 ∧ Mod Non w w' := by
  have hn1 : ps.length = n1 := by have := h1.1; rw [pcs_length] at this; omega
  have hn2 : ss.length = n2 := by have := h2.1; rw [ecs_length] at this; omega
  obtain ⟨kind, client, seq, key, val, old, node⟩ := c
  simp only at hk
  obtain ⟨cp, hcp⟩ : ∃ cp, cp = clientP ⟨1, ps, ss⟩ ⟨kind, client, seq, key, val, old, node⟩ := ⟨_, rfl⟩
  rw [← hcp]
  obtain ⟨sw, hsw⟩ : ∃ sw, sw = swhich ss client seq := ⟨_, rfl⟩
  obtain ⟨hb, hhb⟩ : ∃ hb, hb = hasB 1 kind := ⟨_, rfl⟩
  obtain ⟨d, hd⟩ : ∃ d, d = kdo1 ps ⟨kind, client, seq, key, val, old, node⟩ := ⟨_, rfl⟩
  have HCP : Hid (cp = if sw.1 = 1 then (⟨1, ps, ss⟩, sw.2) else if sw.1 = 2 then (⟨1, ps, ss⟩, ⟨client, seq, 15, false, ⟨#[]⟩, 0⟩) else if hb = false then (⟨1, ps, ss⟩, ⟨client, seq, 14, false, ⟨#[]⟩, 0⟩) else (⟨1, d.1, swith ss d.2⟩, d.2)) := by
    rw [hsw, hhb, hd]
    exact hcp
  have m0 := ((((Mod.refl Non w).alloc (.cells #[.int .i64 1, .slice A1 n1 c1, .slice A2 n2 c2] 25)).alloc (.cells #[.int .i64 kind, .int .i64 client, .int .i64 seq, .string key, .string val, .string old, .int .i64 node] 33)).alloc (.cells #[.int .i64 0, .slice none 0 0, .slice none 0 0] 25)).alloc (.cells #[.int .i64 0, .int .i64 0, .int .i64 0, .bool false, .string ⟨#[]⟩, .int .i64 0] 57)
  have s0 := (((Blk.new w 25 #[.int .i64 1, .slice A1 n1 c1, .slice A2 n2 c2]).alloc (.cells #[.int .i64 kind, .int .i64 client, .int .i64 seq, .string key, .string val, .string old, .int .i64 node] 33)).alloc (.cells #[.int .i64 0, .slice none 0 0, .slice none 0 0] 25)).alloc (.cells #[.int .i64 0, .int .i64 0, .int .i64 0, .bool false, .string ⟨#[]⟩, .int .i64 0] 57)
  have b0 : Blk _ (w.heap.size + 1) _ _ := ((Blk.new1 w (.cells #[.int .i64 1, .slice A1 n1 c1, .slice A2 n2 c2] 25) 33 #[.int .i64 kind, .int .i64 client, .int .i64 seq, .string key, .string val, .string old, .int .i64 node]).alloc (.cells #[.int .i64 0, .slice none 0 0, .slice none 0 0] 25)).alloc (.cells #[.int .i64 0, .int .i64 0, .int .i64 0, .bool false, .string ⟨#[]⟩, .int .i64 0] 57)
  have q0 : Blk _ (w.heap.size + 1 + 1) _ _ := (Blk.new2 w (.cells #[.int .i64 1, .slice A1 n1 c1, .slice A2 n2 c2] 25) (.cells #[.int .i64 kind, .int .i64 client, .int .i64 seq, .string key, .string val, .string old, .int .i64 node] 33) 25 #[.int .i64 0, .slice none 0 0, .slice none 0 0]).alloc (.cells #[.int .i64 0, .int .i64 0, .int .i64 0, .bool false, .string ⟨#[]⟩, .int .i64 0] 57)
  have r0 : Blk _ (w.heap.size + 1 + 1 + 1) _ _ := Blk.new3 w (.cells #[.int .i64 1, .slice A1 n1 c1, .slice A2 n2 c2] 25) (.cells #[.int .i64 kind, .int .i64 client, .int .i64 seq, .string key, .string val, .string old, .int .i64 node] 33) (.cells #[.int .i64 0, .slice none 0 0, .slice none 0 0] 25) 57 #[.int .i64 0, .int .i64 0, .int .i64 0, .bool false, .string ⟨#[]⟩, .int .i64 0]
  have hw := sess_Which A2 n2 c2 R2 ss client seq _ (h2.mod m0 fun _ _ _ h => h) (by omega) hok.sess
  rw [← hsw] at hw
  have HW := Lib.hid hw
  have HOK := Lib.hid hok
  have HD := Lib.hid hd
  have HKI := Lib.hid hk
  have HB := Lib.hid hhb
  have HSF := Lib.hid hsf
  have HN := Lib.hid (show ps.length = n1 ∧ ss.length = n2 from ⟨hn1, hn2⟩)
  clear hcp hsw hw hok hd hk hhb hn1 hn2 hsf
  go_enter Tryz.func88, Tryz.ntmps88
  go_wp2_with fail
  refine HW.out.mono ?_
  rintro e w1 ⟨rfl, hm1⟩
  have s1 := s0.mod hm1 (fun h => h)
  have b1 := b0.mod hm1 (fun h => h)
  have q1 := q0.mod hm1 (fun h => h)
  have r1 := r0.mod hm1 (fun h => h)
  have m1 := m0.trans' hm1
  obtain ⟨kd, ⟨la, lb, lc, ld, le, lf⟩⟩ := sw
  simp only at HCP
  have sA := (s1.alloc (.cells #[.int .i64 la, .int .i64 lb, .int .i64 lc, .bool ld, .string le, .int .i64 lf] 57)).alloc (.cells #[.int .i64 client, .int .i64 seq, .int .i64 0, .bool false, .string ⟨#[]⟩, .int .i64 0] 57)
  have bA := (b1.alloc (.cells #[.int .i64 la, .int .i64 lb, .int .i64 lc, .bool ld, .string le, .int .i64 lf] 57)).alloc (.cells #[.int .i64 client, .int .i64 seq, .int .i64 0, .bool false, .string ⟨#[]⟩, .int .i64 0] 57)
  have qA := (q1.alloc (.cells #[.int .i64 la, .int .i64 lb, .int .i64 lc, .bool ld, .string le, .int .i64 lf] 57)).alloc (.cells #[.int .i64 client, .int .i64 seq, .int .i64 0, .bool false, .string ⟨#[]⟩, .int .i64 0] 57)
  have rA := (r1.alloc (.cells #[.int .i64 la, .int .i64 lb, .int .i64 lc, .bool ld, .string le, .int .i64 lf] 57)).alloc (.cells #[.int .i64 client, .int .i64 seq, .int .i64 0, .bool false, .string ⟨#[]⟩, .int .i64 0] 57)
  have mA := (m1.alloc (.cells #[.int .i64 la, .int .i64 lb, .int .i64 lc, .bool ld, .string le, .int .i64 lf] 57)).alloc (.cells #[.int .i64 client, .int .i64 seq, .int .i64 0, .bool false, .string ⟨#[]⟩, .int .i64 0] 57)
  have xA := (Blk.new w1 57 #[.int .i64 la, .int .i64 lb, .int .i64 lc, .bool ld, .string le, .int .i64 lf]).alloc (.cells #[.int .i64 client, .int .i64 seq, .int .i64 0, .bool false, .string ⟨#[]⟩, .int .i64 0] 57)
  have yA := Blk.new1 w1 (.cells #[.int .i64 la, .int .i64 lb, .int .i64 lc, .bool ld, .string le, .int .i64 lf] 57) 57 #[.int .i64 client, .int .i64 seq, .int .i64 0, .bool false, .string ⟨#[]⟩, .int .i64 0]
  have hl1 : w.heap.size + 1 + 1 + 1 < w1.heap.size := r1.lt
  have hl2 : w.heap.size < w1.heap.size := by omega
  have hl3 : w.heap.size + 1 < w1.heap.size := by omega
  have ee0 := b1.cell 0
  have ee1 := b1.cell 1
  have ee2 := b1.cell 2
  have es0 := s1.cell 0
  have es1 := s1.cell 1
  have es2 := s1.cell 2
  simp at ee0 ee1 ee2 es0 es1 es2
  have HOF := Lib.hid (app_of1 (.slice A1 n1 c1) (.slice A2 n2 c2) A1 A2 n1 c1 n2 c2 rfl rfl ((w1.alloc (.cells #[.int .i64 la, .int .i64 lb, .int .i64 lc, .bool ld, .string le, .int .i64 lf] 57)).alloc (.cells #[.int .i64 client, .int .i64 seq, .int .i64 0, .bool false, .string ⟨#[]⟩, .int .i64 0] 57)))
  clear s0 b0 q0 r0 m0 hm1 s1 b1 q1 r1 m1 HW
  go_wp2_with fail
  refine HOF.out.mono ?_
  rintro e w2 ⟨rfl, hm2⟩
  have s2 := sA.mod hm2 (fun h => h)
  have b2 := bA.mod hm2 (fun h => h)
  have q2 := qA.mod hm2 (fun h => h)
  have r2 := rA.mod hm2 (fun h => h)
  have x2 := xA.mod hm2 (fun h => h)
  have y2 := yA.mod hm2 (fun h => h)
  have m2 := mA.trans' hm2
  clear sA bA qA rA xA yA mA hm2 HOF ee0 ee1 ee2 es0 es1 es2
  have hst := run_store_func (w2.alloc (.cells #[.int .i64 1, .nilFunc] 160)) w2.heap.size 1 144 .nilFunc (by simp) (by simp)
  obtain ⟨W3, hW3⟩ : ∃ W3, W3 = w2.alloc (.cells #[.int .i64 1, .func (.func 144) #[] #[]] 160) := ⟨_, rfl⟩
  have s3 := s2.alloc (.cells #[.int .i64 1, .func (.func 144) #[] #[]] 160)
  have b3 := b2.alloc (.cells #[.int .i64 1, .func (.func 144) #[] #[]] 160)
  have q3 := q2.alloc (.cells #[.int .i64 1, .func (.func 144) #[] #[]] 160)
  have r3 := r2.alloc (.cells #[.int .i64 1, .func (.func 144) #[] #[]] 160)
  have x3 := x2.alloc (.cells #[.int .i64 1, .func (.func 144) #[] #[]] 160)
  have y3 := y2.alloc (.cells #[.int .i64 1, .func (.func 144) #[] #[]] 160)
  have m3 := m2.alloc (.cells #[.int .i64 1, .func (.func 144) #[] #[]] 160)
  have t3 := Blk.new w2 160 #[.int .i64 1, .func (.func 144) #[] #[]]
  rw [← hW3] at s3 b3 q3 r3 x3 y3 m3 t3
  by_cases hk1 : kd = 1
  · have HC1 : Hid (cp = (⟨1, ps, ss⟩, ⟨la, lb, lc, ld, le, lf⟩)) := by
      have := HCP.out
      rw [if_pos hk1] at this
      exact this
    subst hk1
    clear HCP HD HB HKI s2 b2 q2 r2 x2 y2 m2
    go_wp2_with fail
    rw [← hW3]
    clear hst hW3
    have zs0 := s3.cell 0
    have zs1 := s3.cell 1
    have zs2 := s3.cell 2
    have zx0 := x3.cell 0
    have zx1 := x3.cell 1
    have zx2 := x3.cell 2
    have zx3 := x3.cell 3
    have zx4 := x3.cell 4
    have zx5 := x3.cell 5
    have zq0 := q3.cell 0
    have zq1 := q3.cell 1
    have zq2 := q3.cell 2
    have zr0 := r3.cell 0
    have zr1 := r3.cell 1
    have zr2 := r3.cell 2
    have zr3 := r3.cell 3
    have zr4 := r3.cell 4
    have zr5 := r3.cell 5
    simp at zs0 zs1 zs2 zx0 zx1 zx2 zx3 zx4 zx5 zq0 zq1 zq2 zr0 zr1 zr2 zr3 zr4 zr5
    have fq0 := q3.frozen 0
    have fq1 := q3.frozen 1
    have fq2 := q3.frozen 2
    have fr0 := r3.frozen 0
    have fr1 := r3.frozen 1
    have fr2 := r3.frozen 2
    have fr3 := r3.frozen 3
    have fr4 := r3.frozen 4
    have fr5 := r3.frozen 5
    have hF := fill9 q3 r3 (by omega) (.int .i64 1) (.slice A1 n1 c1) (.slice A2 n2 c2) (.int .i64 la) (.int .i64 lb) (.int .i64 lc) (.bool ld) (.string le) (.int .i64 lf)
    have hM := (hF.2.2.1 w (by omega) (by omega) m3).drew
    clear s3 b3 q3 r3 x3 y3 t3
    go_region
    go_wp2_with fail
    refine bodyPost_ret (results_row_row rfl _ _ (w.heap.size + 1 + 1) 25 #[.int .i64 1, .slice A1 n1 c1, .slice A2 n2 c2] (0, 0) _ (w.heap.size + 1 + 1 + 1) 57 #[.int .i64 la, .int .i64 lb, .int .i64 lc, .bool ld, .string le, .int .i64 lf] (0, 0) _ rfl hF.1.drew Tryz.underlying25 rfl (by kernel_rfl) rfl hF.2.1.drew Tryz.underlying57 rfl (by kernel_rfl)) rfl ?_
    rw [HC1.out]
    exact ⟨_, rfl, ⟨_, _, _, _, _, _, rfl, (h1.mod hM fun _ _ _ h => h).more fun _ _ h => .inl h, (h2.mod hM fun _ _ _ h => h).more fun _ _ h => .inr (.inl h)⟩, hM⟩
  · by_cases hk2 : kd = 2
    · have HC1 : Hid (cp = (⟨1, ps, ss⟩, ⟨client, seq, 15, false, ⟨#[]⟩, 0⟩)) := by
        have := HCP.out
        rw [if_neg hk1, if_pos hk2] at this
        exact this
      subst hk2
      have hl4 : w1.heap.size + 1 < w2.heap.size := y2.lt
      have ff2 := y2.frozen 2
      have yy2 := y2.cell 2
      simp at yy2
      obtain ⟨W4, hW4⟩ : ∃ W4, W4 = (w2.setCell ⟨w1.heap.size + 1, 2, none⟩ (.int .i64 15)).alloc (.cells #[.int .i64 1, .func (.func 144) #[] #[]] 160) := ⟨_, rfl⟩
      have hmX := ((Mod.refl (One (w1.heap.size + 1)) w2).setOne (i := 2) (.int .i64 15)).alloc (.cells #[.int .i64 1, .func (.func 144) #[] #[]] 160)
      have y4 := (y2.set_ 2 (.int .i64 15)).alloc (.cells #[.int .i64 1, .func (.func 144) #[] #[]] 160)
      rw [← hW4] at hmX y4
      have hn1 : ¬ One (w1.heap.size + 1) w.heap.size := fun h => by unfold One at h; omega
      have hn2 : ¬ One (w1.heap.size + 1) (w.heap.size + 1 + 1) := fun h => by unfold One at h; omega
      have hn3 : ¬ One (w1.heap.size + 1) (w.heap.size + 1 + 1 + 1) := fun h => by unfold One at h; omega
      have s4 := s2.mod hmX hn1
      have q4 := q2.mod hmX hn2
      have r4 := r2.mod hmX hn3
      have m4 : Mod Non w W4 := m2.trans hmX fun i hi h => by unfold One at h; omega
      have HW4 := Lib.hid hW4
      clear s3 b3 q3 r3 x3 y3 t3 m3 hW3 hW4 s2 b2 q2 r2 x2 y2 m2 HCP HD HB HKI
      go_wp2_with fail
      rw [← HW4.out]
      clear hst ff2 yy2 hmX
      have s3 := s4
      have q3 := q4
      have r3 := r4
      have y3 := y4
      have b3 := y4
      have x3 := y4
      have t3 := y4
      clear s4 q4 r4 y4

      have zs0 := s3.cell 0
      have zs1 := s3.cell 1
      have zs2 := s3.cell 2
      have zx0 := y3.cell 0
      have zx1 := y3.cell 1
      have zx2 := y3.cell 2
      have zx3 := y3.cell 3
      have zx4 := y3.cell 4
      have zx5 := y3.cell 5
      have zq0 := q3.cell 0
      have zq1 := q3.cell 1
      have zq2 := q3.cell 2
      have zr0 := r3.cell 0
      have zr1 := r3.cell 1
      have zr2 := r3.cell 2
      have zr3 := r3.cell 3
      have zr4 := r3.cell 4
      have zr5 := r3.cell 5
      simp at zs0 zs1 zs2 zx0 zx1 zx2 zx3 zx4 zx5 zq0 zq1 zq2 zr0 zr1 zr2 zr3 zr4 zr5
      have fq0 := q3.frozen 0
      have fq1 := q3.frozen 1
      have fq2 := q3.frozen 2
      have fr0 := r3.frozen 0
      have fr1 := r3.frozen 1
      have fr2 := r3.frozen 2
      have fr3 := r3.frozen 3
      have fr4 := r3.frozen 4
      have fr5 := r3.frozen 5
      have hF := fill9 q3 r3 (by omega) (.int .i64 1) (.slice A1 n1 c1) (.slice A2 n2 c2) (.int .i64 client) (.int .i64 seq) (.int .i64 15) (.bool false) (.string ⟨#[]⟩) (.int .i64 0)
      have hM := (hF.2.2.1 w (by omega) (by omega) m4).drew
      clear s3 b3 q3 r3 x3 y3 t3
      go_region
      go_wp2_with fail
      refine bodyPost_ret (results_row_row rfl _ _ (w.heap.size + 1 + 1) 25 #[.int .i64 1, .slice A1 n1 c1, .slice A2 n2 c2] (0, 0) _ (w.heap.size + 1 + 1 + 1) 57 #[.int .i64 client, .int .i64 seq, .int .i64 15, .bool false, .string ⟨#[]⟩, .int .i64 0] (0, 0) _ rfl hF.1.drew Tryz.underlying25 rfl (by kernel_rfl) rfl hF.2.1.drew Tryz.underlying57 rfl (by kernel_rfl)) rfl ?_
      rw [HC1.out]
      exact ⟨_, rfl, ⟨_, _, _, _, _, _, rfl, (h1.mod hM fun _ _ _ h => h).more fun _ _ h => .inl h, (h2.mod hM fun _ _ _ h => h).more fun _ _ h => .inr (.inl h)⟩, hM⟩

    · have hl4 : w1.heap.size + 1 < w2.heap.size := y2.lt
      have hl5 : w.heap.size + 1 < w2.heap.size := by omega
      have hl6 : w.heap.size < w2.heap.size := by omega
      have HH := vers_Has 1 kind (by decide)
      rw [← HB.out] at HH
      have bb0 := b2.cell 0
      simp at bb0
      have ff2 := y2.frozen 2
      have yy2 := y2.cell 2
      simp at yy2
      cases hb with
      | false =>
        have HC1 : Hid (cp = (⟨1, ps, ss⟩, ⟨client, seq, 14, false, ⟨#[]⟩, 0⟩)) := by
          have := HCP.out
          rw [if_neg hk1, if_neg hk2, if_pos rfl] at this
          exact this
        obtain ⟨W4, hW4⟩ : ∃ W4, W4 = (w2.setCell ⟨w1.heap.size + 1, 2, none⟩ (.int .i64 14)).alloc (.cells #[.int .i64 1, .func (.func 144) #[] #[]] 160) := ⟨_, rfl⟩
        have hmX := ((Mod.refl (One (w1.heap.size + 1)) w2).setOne (i := 2) (.int .i64 14)).alloc (.cells #[.int .i64 1, .func (.func 144) #[] #[]] 160)
        have y4 := (y2.set_ 2 (.int .i64 14)).alloc (.cells #[.int .i64 1, .func (.func 144) #[] #[]] 160)
        rw [← hW4] at hmX y4
        have hn1 : ¬ One (w1.heap.size + 1) w.heap.size := fun h => by unfold One at h; omega
        have hn2 : ¬ One (w1.heap.size + 1) (w.heap.size + 1 + 1) := fun h => by unfold One at h; omega
        have hn3 : ¬ One (w1.heap.size + 1) (w.heap.size + 1 + 1 + 1) := fun h => by unfold One at h; omega
        have s4 := s2.mod hmX hn1
        have q4 := q2.mod hmX hn2
        have r4 := r2.mod hmX hn3
        have m4 : Mod Non w W4 := m2.trans hmX fun i hi h => by unfold One at h; omega
        have HW4 := Lib.hid hW4
        clear s3 b3 q3 r3 x3 y3 t3 m3 hW3 hW4 s2 b2 q2 r2 x2 y2 m2 HCP HD HB HKI
        go_wp2_with fail
        refine (HH _).mono ?_
        rintro e w3 ⟨rfl, rfl⟩
        go_wp2_with fail
        rw [← HW4.out]
        clear hst ff2 yy2 hmX
        have s3 := s4
        have q3 := q4
        have r3 := r4
        have y3 := y4
        have b3 := y4
        have x3 := y4
        have t3 := y4
        clear s4 q4 r4 y4

        have zs0 := s3.cell 0
        have zs1 := s3.cell 1
        have zs2 := s3.cell 2
        have zx0 := y3.cell 0
        have zx1 := y3.cell 1
        have zx2 := y3.cell 2
        have zx3 := y3.cell 3
        have zx4 := y3.cell 4
        have zx5 := y3.cell 5
        have zq0 := q3.cell 0
        have zq1 := q3.cell 1
        have zq2 := q3.cell 2
        have zr0 := r3.cell 0
        have zr1 := r3.cell 1
        have zr2 := r3.cell 2
        have zr3 := r3.cell 3
        have zr4 := r3.cell 4
        have zr5 := r3.cell 5
        simp at zs0 zs1 zs2 zx0 zx1 zx2 zx3 zx4 zx5 zq0 zq1 zq2 zr0 zr1 zr2 zr3 zr4 zr5
        have fq0 := q3.frozen 0
        have fq1 := q3.frozen 1
        have fq2 := q3.frozen 2
        have fr0 := r3.frozen 0
        have fr1 := r3.frozen 1
        have fr2 := r3.frozen 2
        have fr3 := r3.frozen 3
        have fr4 := r3.frozen 4
        have fr5 := r3.frozen 5
        have hF := fill9 q3 r3 (by omega) (.int .i64 1) (.slice A1 n1 c1) (.slice A2 n2 c2) (.int .i64 client) (.int .i64 seq) (.int .i64 14) (.bool false) (.string ⟨#[]⟩) (.int .i64 0)
        have hM := (hF.2.2.1 w (by omega) (by omega) m4).drew
        clear s3 b3 q3 r3 x3 y3 t3
        go_region
        go_wp2_with fail
        refine bodyPost_ret (results_row_row rfl _ _ (w.heap.size + 1 + 1) 25 #[.int .i64 1, .slice A1 n1 c1, .slice A2 n2 c2] (0, 0) _ (w.heap.size + 1 + 1 + 1) 57 #[.int .i64 client, .int .i64 seq, .int .i64 14, .bool false, .string ⟨#[]⟩, .int .i64 0] (0, 0) _ rfl hF.1.drew Tryz.underlying25 rfl (by kernel_rfl) rfl hF.2.1.drew Tryz.underlying57 rfl (by kernel_rfl)) rfl ?_
        rw [HC1.out]
        exact ⟨_, rfl, ⟨_, _, _, _, _, _, rfl, (h1.mod hM fun _ _ _ h => h).more fun _ _ h => .inl h, (h2.mod hM fun _ _ _ h => h).more fun _ _ h => .inr (.inl h)⟩, hM⟩

      | true =>
        have HC1 : Hid (cp = (⟨1, d.1, swith ss d.2⟩, d.2)) := by
          have := HCP.out
          rw [if_neg hk1, if_neg hk2, if_neg (by decide)] at this
          exact this
        have bb1 := b2.cell 1
        have bb2 := b2.cell 2
        have bb3 := b2.cell 3
        have bb4 := b2.cell 4
        have bb5 := b2.cell 5
        have bb6 := b2.cell 6
        have ss1 := s2.cell 1
        simp at bb1 bb2 bb3 bb4 bb5 bb6 ss1
        have HDO := kv_Do A1 n1 c1 R1 ps ⟨kind, client, seq, key, val, old, node⟩ W3 (h1.mod m3 fun _ _ _ h => h) HOK.out.pairs.few HOK.out.pairs.rise (by rcases HKI.out with h | h | h | h; exact .inl h; exact .inr (.inl h); exact .inr (.inr h); subst h; exact absurd HB.out (by decide))
        rw [← HD.out] at HDO
        have HDO' := Lib.hid HDO
        clear HDO HD HCP ff2 yy2 q2 r2 x2 y2 s2 b2 m2
        go_wp2_with fail
        refine (HH _).mono ?_
        rintro e w3 ⟨rfl, rfl⟩
        go_wp2_with fail
        rw [← hW3]
        refine HDO'.out.mono ?_
        rintro e w4 ⟨v4, rfl, o4, hm4⟩
        obtain ⟨dl, ⟨da, db, dc, dd, de, df⟩⟩ := d
        simp only at HC1 o4
        have s4 := s3.mod hm4 (fun h => h)
        have q4 := q3.mod hm4 (fun h => h)
        have r4 := r3.mod hm4 (fun h => h)
        have m4 := m3.trans' hm4
        have hz3 := m3.size
        have hl7 : w2.heap.size < w4.heap.size := by have := t3.lt; have := hm4.size; omega
        have hl8 : w.heap.size < w4.heap.size := s4.lt
        have hsp : w.heap.size + 1 + 1 + 1 < w4.heap.size := r4.lt
        obtain ⟨A4, n4, c4, rfl, hn4, hc4⟩ := o4.form
        have ns4 := own_ne_blk o4 s4 (by decide)
        have hmS := (((Mod.refl (One w.heap.size) w4).setOne (i := 1) (.slice A4 n4 c4))).alloc (.cells #[.int .i64 da, .int .i64 db, .int .i64 dc, .bool dd, .string de, .int .i64 df] 57)
        have s5 := (s4.set_ 1 (.slice A4 n4 c4)).alloc (.cells #[.int .i64 da, .int .i64 db, .int .i64 dc, .bool dd, .string de, .int .i64 df] 57)
        have x5 : Blk ((w4.setCell ⟨w.heap.size, 1, none⟩ (.slice A4 n4 c4)).alloc (.cells #[.int .i64 da, .int .i64 db, .int .i64 dc, .bool dd, .string de, .int .i64 df] 57)) w4.heap.size 57 #[.int .i64 da, .int .i64 db, .int .i64 dc, .bool dd, .string de, .int .i64 df] := by
          have := Blk.new (w4.setCell ⟨w.heap.size, 1, none⟩ (.slice A4 n4 c4)) 57 #[.int .i64 da, .int .i64 db, .int .i64 dc, .bool dd, .string de, .int .i64 df]
          simpa using this
        obtain ⟨W5, hW5⟩ : ∃ W5, W5 = (w4.setCell ⟨w.heap.size, 1, none⟩ (.slice A4 n4 c4)).alloc (.cells #[.int .i64 da, .int .i64 db, .int .i64 dc, .bool dd, .string de, .int .i64 df] 57) := ⟨_, rfl⟩
        rw [← hW5] at hmS s5 x5
        have q5 := q4.mod hmS (fun h => by unfold One at h; omega)
        have r5 := r4.mod hmS (fun h => by unfold One at h; omega)
        have m5 := m4.trans hmS fun i hi h => by unfold One at h; omega
        have o5 := o4.mod hmS (fun g hg h => ns4 (hg.trans (congrArg some h)))
        have HWI := Lib.hid (sess_With A2 n2 c2 R2 ss ⟨da, db, dc, dd, de, df⟩ W5 (h2.mod m5 fun _ _ _ h => h) (by have := HN.out.2; have := HSF.out; omega) HOK.out.sess)
        have HW5 := Lib.hid hW5
        have cs0 := s4.cell 0
        have cs1 := s4.cell 1
        have cs2 := s4.cell 2
        have cf1 := s4.frozen 1
        have cf2 := s4.frozen 2
        simp at cs0 cs1 cs2
        clear hW3 hW5 s3 b3 q3 r3 x3 y3 t3 m3 hst hm4 s4 q4 r4 m4 hmS HDO' o4 bb0 bb1 bb2 bb3 bb4 bb5 bb6 ss1
        go_wp2_with fail
        rw [← HW5.out]
        refine HWI.out.mono ?_
        rintro e w6 ⟨v6, rfl, o6, hm6⟩
        have hs56 := hm6.size
        have hz5 := m5.size
        have s6 := s5.mod hm6 (fun h => h)
        have x6 := x5.mod hm6 (fun h => h)
        have q6 := q5.mod hm6 (fun h => h)
        have r6 := r5.mod hm6 (fun h => h)
        have m6 := m5.trans' hm6
        have p6 := o5.non hm6
        obtain ⟨A6, n6, c6, rfl, hn6, hc6⟩ := o6.form
        have ns6 := own_ne_blk o6 s6 (by decide)
        have np6 := own_ne_blk p6 s6 (by decide)
        obtain ⟨W7, hW7⟩ : ∃ W7, W7 = w6.setCell ⟨w.heap.size, 2, none⟩ (.slice A6 n6 c6) := ⟨_, rfl⟩
        have hm7 := (Mod.refl (One w.heap.size) w6).setOne (i := 2) (.slice A6 n6 c6)
        have s7 := s6.set_ 2 (.slice A6 n6 c6)
        rw [← hW7] at hm7 s7
        have hxs : ¬ One w.heap.size w4.heap.size := fun h => by unfold One at h; omega
        have x7 := x6.mod hm7 hxs
        have q7 := q6.mod hm7 (fun h => by unfold One at h; omega)
        have r7 := r6.mod hm7 (fun h => by unfold One at h; omega)
        have m7 := m6.trans hm7 fun i hi h => by unfold One at h; omega
        have p7 := p6.mod hm7 (fun g hg h => np6 (hg.trans (congrArg some h)))
        have e7 := o6.mod hm7 (fun g hg h => ns6 (hg.trans (congrArg some h)))
        have gs2 := s6.cell 2
        have gf2 := s6.frozen 2
        simp at gs2
        have HW7 := Lib.hid hW7
        have nq1 : ∀ g, (Value.slice A4 n4 c4).ownBlock = some g → g ≠ w.heap.size + 1 + 1 ∧ g ≠ w.heap.size + 1 + 1 + 1 := fun g hg => ⟨fun h => own_ne_blk p7 q7 (by decide) (hg.trans (congrArg some h)), fun h => own_ne_blk p7 r7 (by decide) (hg.trans (congrArg some h))⟩
        have nq2 : ∀ g, (Value.slice A6 n6 c6).ownBlock = some g → g ≠ w.heap.size + 1 + 1 ∧ g ≠ w.heap.size + 1 + 1 + 1 := fun g hg => ⟨fun h => own_ne_blk e7 q7 (by decide) (hg.trans (congrArg some h)), fun h => own_ne_blk e7 r7 (by decide) (hg.trans (congrArg some h))⟩
        have NQ1 := Lib.hid nq1
        have NQ2 := Lib.hid nq2
        clear hW7 s5 x5 q5 r5 m5 o5 hm6 s6 x6 q6 r6 m6 p6 o6 hm7 HW5 HWI cs0 cs1 cs2 cf1 cf2 nq1 nq2
        go_wp2_with fail
        rw [← HW7.out]
        have s3 := s7
        have x3 := x7
        have q3 := q7
        have r3 := r7
        have b3 := s7
        have y3 := s7
        have t3 := s7
        clear s7 x7 q7 r7 gs2 gf2
        have zs0 := s3.cell 0
        have zs1 := s3.cell 1
        have zs2 := s3.cell 2
        have zx0 := x3.cell 0
        have zx1 := x3.cell 1
        have zx2 := x3.cell 2
        have zx3 := x3.cell 3
        have zx4 := x3.cell 4
        have zx5 := x3.cell 5
        have zq0 := q3.cell 0
        have zq1 := q3.cell 1
        have zq2 := q3.cell 2
        have zr0 := r3.cell 0
        have zr1 := r3.cell 1
        have zr2 := r3.cell 2
        have zr3 := r3.cell 3
        have zr4 := r3.cell 4
        have zr5 := r3.cell 5
        simp at zs0 zs1 zs2 zx0 zx1 zx2 zx3 zx4 zx5 zq0 zq1 zq2 zr0 zr1 zr2 zr3 zr4 zr5
        have fq0 := q3.frozen 0
        have fq1 := q3.frozen 1
        have fq2 := q3.frozen 2
        have fr0 := r3.frozen 0
        have fr1 := r3.frozen 1
        have fr2 := r3.frozen 2
        have fr3 := r3.frozen 3
        have fr4 := r3.frozen 4
        have fr5 := r3.frozen 5
        have hF := fill9 q3 r3 (by omega) (.int .i64 1) (.slice A4 n4 c4) (.slice A6 n6 c6) (.int .i64 da) (.int .i64 db) (.int .i64 dc) (.bool dd) (.string de) (.int .i64 df)
        have hM := (hF.2.2.1 w (by omega) (by omega) m7).drew
        clear s3 b3 q3 r3 x3 y3 t3
        go_region
        go_wp2_with fail
        refine bodyPost_ret (results_row_row rfl _ _ (w.heap.size + 1 + 1) 25 #[.int .i64 1, .slice A4 n4 c4, .slice A6 n6 c6] (0, 0) _ (w.heap.size + 1 + 1 + 1) 57 #[.int .i64 da, .int .i64 db, .int .i64 dc, .bool dd, .string de, .int .i64 df] (0, 0) _ rfl hF.1.drew Tryz.underlying25 rfl (by kernel_rfl) rfl hF.2.1.drew Tryz.underlying57 rfl (by kernel_rfl)) rfl ?_
        rw [HC1.out]
        exact ⟨_, rfl, ⟨_, _, _, _, _, _, rfl, (p7.mod (hF.2.2.2.drew) (fun g hg h => by have := NQ1.out g hg; unfold Two at h; omega)).reads.more fun _ _ h => .inr (.inr (by have := h.1; omega)), (e7.mod (hF.2.2.2.drew) (fun g hg h => by have := NQ2.out g hg; unfold Two at h; omega)).reads.more fun _ _ h => .inr (.inr (by have := h.1; omega))⟩, hM⟩

end Go.Proofs.YtdclfdinhdaadaaGreatDoor

/- Package app: the contract of client, schema 2. -/
namespace Go.Proofs.YtdclfdinhdaadaaGreatDoor
open Go.RowKit

set_option maxRecDepth 100000 in
set_option maxHeartbeats 4000000 in
theorem app_client2 (ps : List Pa) (ss : List Se) (c : Cm) (A1 A2 : Option Addr) (n1 c1 n2 c2 : Nat) (R1 R2 : Nat → Prop) (w : World) (h1 : Reads w R1 3 A1 n1 (pcs ps)) (h2 : Reads w R2 8 A2 n2 (ecs ss)) (hok : St.Ok ⟨2, ps, ss⟩) (hsf : ss.length ≤ 8) (hk : c.kind = 2 ∨ c.kind = 3 ∨ c.kind = 4 ∨ c.kind = 5) :
    Calls Tryz.prog 88 #[stv 2 (.slice A1 n1 c1) (.slice A2 n2 c2), c.v] w fun e w' => ∃ u, e = .returned (.tuple #[u, (clientP ⟨2, ps, ss⟩ c).2.v]) ∧ StV (fun k => R1 k ∨ R2 k ∨ w.heap.size ≤ k) w' u (clientP ⟨2, ps, ss⟩ c).1 ∧ Mod Non w w' := by
  have hn1 : ps.length = n1 := by have := h1.1; rw [pcs_length] at this; omega
  have hn2 : ss.length = n2 := by have := h2.1; rw [ecs_length] at this; omega
  obtain ⟨kind, client, seq, key, val, old, node⟩ := c
  simp only at hk
  obtain ⟨cp, hcp⟩ : ∃ cp, cp = clientP ⟨2, ps, ss⟩ ⟨kind, client, seq, key, val, old, node⟩ := ⟨_, rfl⟩
  rw [← hcp]
  obtain ⟨sw, hsw⟩ : ∃ sw, sw = swhich ss client seq := ⟨_, rfl⟩
  obtain ⟨hb, hhb⟩ : ∃ hb, hb = hasB 2 kind := ⟨_, rfl⟩
  obtain ⟨d, hd⟩ : ∃ d, d = kdo3 ps ⟨kind, client, seq, key, val, old, node⟩ := ⟨_, rfl⟩
  have HCP : Hid (cp = if sw.1 = 1 then (⟨2, ps, ss⟩, sw.2) else if sw.1 = 2 then (⟨2, ps, ss⟩, ⟨client, seq, 15, false, ⟨#[]⟩, 0⟩) else if hb = false then (⟨2, ps, ss⟩, ⟨client, seq, 14, false, ⟨#[]⟩, 0⟩) else (⟨2, d.1, swith ss d.2⟩, d.2)) := by
    rw [hsw, hhb, hd]
    exact hcp
  have m0 := ((((Mod.refl Non w).alloc (.cells #[.int .i64 2, .slice A1 n1 c1, .slice A2 n2 c2] 25)).alloc (.cells #[.int .i64 kind, .int .i64 client, .int .i64 seq, .string key, .string val, .string old, .int .i64 node] 33)).alloc (.cells #[.int .i64 0, .slice none 0 0, .slice none 0 0] 25)).alloc (.cells #[.int .i64 0, .int .i64 0, .int .i64 0, .bool false, .string ⟨#[]⟩, .int .i64 0] 57)
  have s0 := (((Blk.new w 25 #[.int .i64 2, .slice A1 n1 c1, .slice A2 n2 c2]).alloc (.cells #[.int .i64 kind, .int .i64 client, .int .i64 seq, .string key, .string val, .string old, .int .i64 node] 33)).alloc (.cells #[.int .i64 0, .slice none 0 0, .slice none 0 0] 25)).alloc (.cells #[.int .i64 0, .int .i64 0, .int .i64 0, .bool false, .string ⟨#[]⟩, .int .i64 0] 57)
  have b0 : Blk _ (w.heap.size + 1) _ _ := ((Blk.new1 w (.cells #[.int .i64 2, .slice A1 n1 c1, .slice A2 n2 c2] 25) 33 #[.int .i64 kind, .int .i64 client, .int .i64 seq, .string key, .string val, .string old, .int .i64 node]).alloc (.cells #[.int .i64 0, .slice none 0 0, .slice none 0 0] 25)).alloc (.cells #[.int .i64 0, .int .i64 0, .int .i64 0, .bool false, .string ⟨#[]⟩, .int .i64 0] 57)
  have q0 : Blk _ (w.heap.size + 1 + 1) _ _ := (Blk.new2 w (.cells #[.int .i64 2, .slice A1 n1 c1, .slice A2 n2 c2] 25) (.cells #[.int .i64 kind, .int .i64 client, .int .i64 seq, .string key, .string val, .string old, .int .i64 node] 33) 25 #[.int .i64 0, .slice none 0 0, .slice none 0 0]).alloc (.cells #[.int .i64 0, .int .i64 0, .int .i64 0, .bool false, .string ⟨#[]⟩, .int .i64 0] 57)
  have r0 : Blk _ (w.heap.size + 1 + 1 + 1) _ _ := Blk.new3 w (.cells #[.int .i64 2, .slice A1 n1 c1, .slice A2 n2 c2] 25) (.cells #[.int .i64 kind, .int .i64 client, .int .i64 seq, .string key, .string val, .string old, .int .i64 node] 33) (.cells #[.int .i64 0, .slice none 0 0, .slice none 0 0] 25) 57 #[.int .i64 0, .int .i64 0, .int .i64 0, .bool false, .string ⟨#[]⟩, .int .i64 0]
  have hw := sess_Which A2 n2 c2 R2 ss client seq _ (h2.mod m0 fun _ _ _ h => h) (by omega) hok.sess
  rw [← hsw] at hw
  have HW := Lib.hid hw
  have HOK := Lib.hid hok
  have HD := Lib.hid hd
  have HKI := Lib.hid hk
  have HB := Lib.hid hhb
  have HSF := Lib.hid hsf
  have HN := Lib.hid (show ps.length = n1 ∧ ss.length = n2 from ⟨hn1, hn2⟩)
  clear hcp hsw hw hok hd hk hhb hn1 hn2 hsf
  go_enter Tryz.func88, Tryz.ntmps88
  go_wp2_with fail
  refine HW.out.mono ?_
  rintro e w1 ⟨rfl, hm1⟩
  have s1 := s0.mod hm1 (fun h => h)
  have b1 := b0.mod hm1 (fun h => h)
  have q1 := q0.mod hm1 (fun h => h)
  have r1 := r0.mod hm1 (fun h => h)
  have m1 := m0.trans' hm1
  obtain ⟨kd, ⟨la, lb, lc, ld, le, lf⟩⟩ := sw
  simp only at HCP
  have sA := (s1.alloc (.cells #[.int .i64 la, .int .i64 lb, .int .i64 lc, .bool ld, .string le, .int .i64 lf] 57)).alloc (.cells #[.int .i64 client, .int .i64 seq, .int .i64 0, .bool false, .string ⟨#[]⟩, .int .i64 0] 57)
  have bA := (b1.alloc (.cells #[.int .i64 la, .int .i64 lb, .int .i64 lc, .bool ld, .string le, .int .i64 lf] 57)).alloc (.cells #[.int .i64 client, .int .i64 seq, .int .i64 0, .bool false, .string ⟨#[]⟩, .int .i64 0] 57)
  have qA := (q1.alloc (.cells #[.int .i64 la, .int .i64 lb, .int .i64 lc, .bool ld, .string le, .int .i64 lf] 57)).alloc (.cells #[.int .i64 client, .int .i64 seq, .int .i64 0, .bool false, .string ⟨#[]⟩, .int .i64 0] 57)
  have rA := (r1.alloc (.cells #[.int .i64 la, .int .i64 lb, .int .i64 lc, .bool ld, .string le, .int .i64 lf] 57)).alloc (.cells #[.int .i64 client, .int .i64 seq, .int .i64 0, .bool false, .string ⟨#[]⟩, .int .i64 0] 57)
  have mA := (m1.alloc (.cells #[.int .i64 la, .int .i64 lb, .int .i64 lc, .bool ld, .string le, .int .i64 lf] 57)).alloc (.cells #[.int .i64 client, .int .i64 seq, .int .i64 0, .bool false, .string ⟨#[]⟩, .int .i64 0] 57)
  have xA := (Blk.new w1 57 #[.int .i64 la, .int .i64 lb, .int .i64 lc, .bool ld, .string le, .int .i64 lf]).alloc (.cells #[.int .i64 client, .int .i64 seq, .int .i64 0, .bool false, .string ⟨#[]⟩, .int .i64 0] 57)
  have yA := Blk.new1 w1 (.cells #[.int .i64 la, .int .i64 lb, .int .i64 lc, .bool ld, .string le, .int .i64 lf] 57) 57 #[.int .i64 client, .int .i64 seq, .int .i64 0, .bool false, .string ⟨#[]⟩, .int .i64 0]
  have hl1 : w.heap.size + 1 + 1 + 1 < w1.heap.size := r1.lt
  have hl2 : w.heap.size < w1.heap.size := by omega
  have hl3 : w.heap.size + 1 < w1.heap.size := by omega
  have ee0 := b1.cell 0
  have ee1 := b1.cell 1
  have ee2 := b1.cell 2
  have es0 := s1.cell 0
  have es1 := s1.cell 1
  have es2 := s1.cell 2
  simp at ee0 ee1 ee2 es0 es1 es2
  have HOF := Lib.hid (app_of2 (.slice A1 n1 c1) (.slice A2 n2 c2) A1 A2 n1 c1 n2 c2 rfl rfl ((w1.alloc (.cells #[.int .i64 la, .int .i64 lb, .int .i64 lc, .bool ld, .string le, .int .i64 lf] 57)).alloc (.cells #[.int .i64 client, .int .i64 seq, .int .i64 0, .bool false, .string ⟨#[]⟩, .int .i64 0] 57)))
  clear s0 b0 q0 r0 m0 hm1 s1 b1 q1 r1 m1 HW
  go_wp2_with fail
  refine HOF.out.mono ?_
  rintro e w2 ⟨rfl, hm2⟩
  have s2 := sA.mod hm2 (fun h => h)
  have b2 := bA.mod hm2 (fun h => h)
  have q2 := qA.mod hm2 (fun h => h)
  have r2 := rA.mod hm2 (fun h => h)
  have x2 := xA.mod hm2 (fun h => h)
  have y2 := yA.mod hm2 (fun h => h)
  have m2 := mA.trans' hm2
  clear sA bA qA rA xA yA mA hm2 HOF ee0 ee1 ee2 es0 es1 es2
  have hst := run_store_func (w2.alloc (.cells #[.int .i64 2, .nilFunc] 160)) w2.heap.size 1 145 .nilFunc (by simp) (by simp)
  obtain ⟨W3, hW3⟩ : ∃ W3, W3 = w2.alloc (.cells #[.int .i64 2, .func (.func 145) #[] #[]] 160) := ⟨_, rfl⟩
  have s3 := s2.alloc (.cells #[.int .i64 2, .func (.func 145) #[] #[]] 160)
  have b3 := b2.alloc (.cells #[.int .i64 2, .func (.func 145) #[] #[]] 160)
  have q3 := q2.alloc (.cells #[.int .i64 2, .func (.func 145) #[] #[]] 160)
  have r3 := r2.alloc (.cells #[.int .i64 2, .func (.func 145) #[] #[]] 160)
  have x3 := x2.alloc (.cells #[.int .i64 2, .func (.func 145) #[] #[]] 160)
  have y3 := y2.alloc (.cells #[.int .i64 2, .func (.func 145) #[] #[]] 160)
  have m3 := m2.alloc (.cells #[.int .i64 2, .func (.func 145) #[] #[]] 160)
  have t3 := Blk.new w2 160 #[.int .i64 2, .func (.func 145) #[] #[]]
  rw [← hW3] at s3 b3 q3 r3 x3 y3 m3 t3
  by_cases hk1 : kd = 1
  · have HC1 : Hid (cp = (⟨2, ps, ss⟩, ⟨la, lb, lc, ld, le, lf⟩)) := by
      have := HCP.out
      rw [if_pos hk1] at this
      exact this
    subst hk1
    clear HCP HD HB HKI s2 b2 q2 r2 x2 y2 m2
    go_wp2_with fail
    rw [← hW3]
    clear hst hW3
    have zs0 := s3.cell 0
    have zs1 := s3.cell 1
    have zs2 := s3.cell 2
    have zx0 := x3.cell 0
    have zx1 := x3.cell 1
    have zx2 := x3.cell 2
    have zx3 := x3.cell 3
    have zx4 := x3.cell 4
    have zx5 := x3.cell 5
    have zq0 := q3.cell 0
    have zq1 := q3.cell 1
    have zq2 := q3.cell 2
    have zr0 := r3.cell 0
    have zr1 := r3.cell 1
    have zr2 := r3.cell 2
    have zr3 := r3.cell 3
    have zr4 := r3.cell 4
    have zr5 := r3.cell 5
    simp at zs0 zs1 zs2 zx0 zx1 zx2 zx3 zx4 zx5 zq0 zq1 zq2 zr0 zr1 zr2 zr3 zr4 zr5
    have fq0 := q3.frozen 0
    have fq1 := q3.frozen 1
    have fq2 := q3.frozen 2
    have fr0 := r3.frozen 0
    have fr1 := r3.frozen 1
    have fr2 := r3.frozen 2
    have fr3 := r3.frozen 3
    have fr4 := r3.frozen 4
    have fr5 := r3.frozen 5
    have hF := fill9 q3 r3 (by omega) (.int .i64 2) (.slice A1 n1 c1) (.slice A2 n2 c2) (.int .i64 la) (.int .i64 lb) (.int .i64 lc) (.bool ld) (.string le) (.int .i64 lf)
    have hM := (hF.2.2.1 w (by omega) (by omega) m3).drew
    clear s3 b3 q3 r3 x3 y3 t3
    go_region
    go_wp2_with fail
    refine bodyPost_ret (results_row_row rfl _ _ (w.heap.size + 1 + 1) 25 #[.int .i64 2, .slice A1 n1 c1, .slice A2 n2 c2] (0, 0) _ (w.heap.size + 1 + 1 + 1) 57 #[.int .i64 la, .int .i64 lb, .int .i64 lc, .bool ld, .string le, .int .i64 lf] (0, 0) _ rfl hF.1.drew Tryz.underlying25 rfl (by kernel_rfl) rfl hF.2.1.drew Tryz.underlying57 rfl (by kernel_rfl)) rfl ?_
    rw [HC1.out]
    exact ⟨_, rfl, ⟨_, _, _, _, _, _, rfl, (h1.mod hM fun _ _ _ h => h).more fun _ _ h => .inl h, (h2.mod hM fun _ _ _ h => h).more fun _ _ h => .inr (.inl h)⟩, hM⟩
  · by_cases hk2 : kd = 2
    · have HC1 : Hid (cp = (⟨2, ps, ss⟩, ⟨client, seq, 15, false, ⟨#[]⟩, 0⟩)) := by
        have := HCP.out
        rw [if_neg hk1, if_pos hk2] at this
        exact this
      subst hk2
      have hl4 : w1.heap.size + 1 < w2.heap.size := y2.lt
      have ff2 := y2.frozen 2
      have yy2 := y2.cell 2
      simp at yy2
      obtain ⟨W4, hW4⟩ : ∃ W4, W4 = (w2.setCell ⟨w1.heap.size + 1, 2, none⟩ (.int .i64 15)).alloc (.cells #[.int .i64 2, .func (.func 145) #[] #[]] 160) := ⟨_, rfl⟩
      have hmX := ((Mod.refl (One (w1.heap.size + 1)) w2).setOne (i := 2) (.int .i64 15)).alloc (.cells #[.int .i64 2, .func (.func 145) #[] #[]] 160)
      have y4 := (y2.set_ 2 (.int .i64 15)).alloc (.cells #[.int .i64 2, .func (.func 145) #[] #[]] 160)
      rw [← hW4] at hmX y4
      have hn1 : ¬ One (w1.heap.size + 1) w.heap.size := fun h => by unfold One at h; omega
      have hn2 : ¬ One (w1.heap.size + 1) (w.heap.size + 1 + 1) := fun h => by unfold One at h; omega
      have hn3 : ¬ One (w1.heap.size + 1) (w.heap.size + 1 + 1 + 1) := fun h => by unfold One at h; omega
      have s4 := s2.mod hmX hn1
      have q4 := q2.mod hmX hn2
      have r4 := r2.mod hmX hn3
      have m4 : Mod Non w W4 := m2.trans hmX fun i hi h => by unfold One at h; omega
      have HW4 := Lib.hid hW4
      clear s3 b3 q3 r3 x3 y3 t3 m3 hW3 hW4 s2 b2 q2 r2 x2 y2 m2 HCP HD HB HKI
      go_wp2_with fail
      rw [← HW4.out]
      clear hst ff2 yy2 hmX
      have s3 := s4
      have q3 := q4
      have r3 := r4
      have y3 := y4
      have b3 := y4
      have x3 := y4
      have t3 := y4
      clear s4 q4 r4 y4

      have zs0 := s3.cell 0
      have zs1 := s3.cell 1
      have zs2 := s3.cell 2
      have zx0 := y3.cell 0
      have zx1 := y3.cell 1
      have zx2 := y3.cell 2
      have zx3 := y3.cell 3
      have zx4 := y3.cell 4
      have zx5 := y3.cell 5
      have zq0 := q3.cell 0
      have zq1 := q3.cell 1
      have zq2 := q3.cell 2
      have zr0 := r3.cell 0
      have zr1 := r3.cell 1
      have zr2 := r3.cell 2
      have zr3 := r3.cell 3
      have zr4 := r3.cell 4
      have zr5 := r3.cell 5
      simp at zs0 zs1 zs2 zx0 zx1 zx2 zx3 zx4 zx5 zq0 zq1 zq2 zr0 zr1 zr2 zr3 zr4 zr5
      have fq0 := q3.frozen 0
      have fq1 := q3.frozen 1
      have fq2 := q3.frozen 2
      have fr0 := r3.frozen 0
      have fr1 := r3.frozen 1
      have fr2 := r3.frozen 2
      have fr3 := r3.frozen 3
      have fr4 := r3.frozen 4
      have fr5 := r3.frozen 5
      have hF := fill9 q3 r3 (by omega) (.int .i64 2) (.slice A1 n1 c1) (.slice A2 n2 c2) (.int .i64 client) (.int .i64 seq) (.int .i64 15) (.bool false) (.string ⟨#[]⟩) (.int .i64 0)
      have hM := (hF.2.2.1 w (by omega) (by omega) m4).drew
      clear s3 b3 q3 r3 x3 y3 t3
      go_region
      go_wp2_with fail
      refine bodyPost_ret (results_row_row rfl _ _ (w.heap.size + 1 + 1) 25 #[.int .i64 2, .slice A1 n1 c1, .slice A2 n2 c2] (0, 0) _ (w.heap.size + 1 + 1 + 1) 57 #[.int .i64 client, .int .i64 seq, .int .i64 15, .bool false, .string ⟨#[]⟩, .int .i64 0] (0, 0) _ rfl hF.1.drew Tryz.underlying25 rfl (by kernel_rfl) rfl hF.2.1.drew Tryz.underlying57 rfl (by kernel_rfl)) rfl ?_
      rw [HC1.out]
      exact ⟨_, rfl, ⟨_, _, _, _, _, _, rfl, (h1.mod hM fun _ _ _ h => h).more fun _ _ h => .inl h, (h2.mod hM fun _ _ _ h => h).more fun _ _ h => .inr (.inl h)⟩, hM⟩

    · have hl4 : w1.heap.size + 1 < w2.heap.size := y2.lt
      have hl5 : w.heap.size + 1 < w2.heap.size := by omega
      have hl6 : w.heap.size < w2.heap.size := by omega
      have HH := vers_Has 2 kind (by decide)
      rw [← HB.out] at HH
      have bb0 := b2.cell 0
      simp at bb0
      have ff2 := y2.frozen 2
      have yy2 := y2.cell 2
      simp at yy2
      cases hb with
      | false =>
        have HC1 : Hid (cp = (⟨2, ps, ss⟩, ⟨client, seq, 14, false, ⟨#[]⟩, 0⟩)) := by
          have := HCP.out
          rw [if_neg hk1, if_neg hk2, if_pos rfl] at this
          exact this
        obtain ⟨W4, hW4⟩ : ∃ W4, W4 = (w2.setCell ⟨w1.heap.size + 1, 2, none⟩ (.int .i64 14)).alloc (.cells #[.int .i64 2, .func (.func 145) #[] #[]] 160) := ⟨_, rfl⟩
        have hmX := ((Mod.refl (One (w1.heap.size + 1)) w2).setOne (i := 2) (.int .i64 14)).alloc (.cells #[.int .i64 2, .func (.func 145) #[] #[]] 160)
        have y4 := (y2.set_ 2 (.int .i64 14)).alloc (.cells #[.int .i64 2, .func (.func 145) #[] #[]] 160)
        rw [← hW4] at hmX y4
        have hn1 : ¬ One (w1.heap.size + 1) w.heap.size := fun h => by unfold One at h; omega
        have hn2 : ¬ One (w1.heap.size + 1) (w.heap.size + 1 + 1) := fun h => by unfold One at h; omega
        have hn3 : ¬ One (w1.heap.size + 1) (w.heap.size + 1 + 1 + 1) := fun h => by unfold One at h; omega
        have s4 := s2.mod hmX hn1
        have q4 := q2.mod hmX hn2
        have r4 := r2.mod hmX hn3
        have m4 : Mod Non w W4 := m2.trans hmX fun i hi h => by unfold One at h; omega
        have HW4 := Lib.hid hW4
        clear s3 b3 q3 r3 x3 y3 t3 m3 hW3 hW4 s2 b2 q2 r2 x2 y2 m2 HCP HD HB HKI
        go_wp2_with fail
        refine (HH _).mono ?_
        rintro e w3 ⟨rfl, rfl⟩
        go_wp2_with fail
        rw [← HW4.out]
        clear hst ff2 yy2 hmX
        have s3 := s4
        have q3 := q4
        have r3 := r4
        have y3 := y4
        have b3 := y4
        have x3 := y4
        have t3 := y4
        clear s4 q4 r4 y4

        have zs0 := s3.cell 0
        have zs1 := s3.cell 1
        have zs2 := s3.cell 2
        have zx0 := y3.cell 0
        have zx1 := y3.cell 1
        have zx2 := y3.cell 2
        have zx3 := y3.cell 3
        have zx4 := y3.cell 4
        have zx5 := y3.cell 5
        have zq0 := q3.cell 0
        have zq1 := q3.cell 1
        have zq2 := q3.cell 2
        have zr0 := r3.cell 0
        have zr1 := r3.cell 1
        have zr2 := r3.cell 2
        have zr3 := r3.cell 3
        have zr4 := r3.cell 4
        have zr5 := r3.cell 5
        simp at zs0 zs1 zs2 zx0 zx1 zx2 zx3 zx4 zx5 zq0 zq1 zq2 zr0 zr1 zr2 zr3 zr4 zr5
        have fq0 := q3.frozen 0
        have fq1 := q3.frozen 1
        have fq2 := q3.frozen 2
        have fr0 := r3.frozen 0
        have fr1 := r3.frozen 1
        have fr2 := r3.frozen 2
        have fr3 := r3.frozen 3
        have fr4 := r3.frozen 4
        have fr5 := r3.frozen 5
        have hF := fill9 q3 r3 (by omega) (.int .i64 2) (.slice A1 n1 c1) (.slice A2 n2 c2) (.int .i64 client) (.int .i64 seq) (.int .i64 14) (.bool false) (.string ⟨#[]⟩) (.int .i64 0)
        have hM := (hF.2.2.1 w (by omega) (by omega) m4).drew
        clear s3 b3 q3 r3 x3 y3 t3
        go_region
        go_wp2_with fail
        refine bodyPost_ret (results_row_row rfl _ _ (w.heap.size + 1 + 1) 25 #[.int .i64 2, .slice A1 n1 c1, .slice A2 n2 c2] (0, 0) _ (w.heap.size + 1 + 1 + 1) 57 #[.int .i64 client, .int .i64 seq, .int .i64 14, .bool false, .string ⟨#[]⟩, .int .i64 0] (0, 0) _ rfl hF.1.drew Tryz.underlying25 rfl (by kernel_rfl) rfl hF.2.1.drew Tryz.underlying57 rfl (by kernel_rfl)) rfl ?_
        rw [HC1.out]
        exact ⟨_, rfl, ⟨_, _, _, _, _, _, rfl, (h1.mod hM fun _ _ _ h => h).more fun _ _ h => .inl h, (h2.mod hM fun _ _ _ h => h).more fun _ _ h => .inr (.inl h)⟩, hM⟩

      | true =>
        have HC1 : Hid (cp = (⟨2, d.1, swith ss d.2⟩, d.2)) := by
          have := HCP.out
          rw [if_neg hk1, if_neg hk2, if_neg (by decide)] at this
          exact this
        have bb1 := b2.cell 1
        have bb2 := b2.cell 2
        have bb3 := b2.cell 3
        have bb4 := b2.cell 4
        have bb5 := b2.cell 5
        have bb6 := b2.cell 6
        have ss1 := s2.cell 1
        simp at bb1 bb2 bb3 bb4 bb5 bb6 ss1
        have HDO := kv_Do3 A1 n1 c1 R1 ps ⟨kind, client, seq, key, val, old, node⟩ W3 (h1.mod m3 fun _ _ _ h => h) HOK.out.pairs HKI.out
        rw [← HD.out] at HDO
        have HDO' := Lib.hid HDO
        clear HDO HD HCP ff2 yy2 q2 r2 x2 y2 s2 b2 m2
        go_wp2_with fail
        refine (HH _).mono ?_
        rintro e w3 ⟨rfl, rfl⟩
        go_wp2_with fail
        rw [← hW3]
        refine HDO'.out.mono ?_
        rintro e w4 ⟨v4, rfl, o4, hm4⟩
        obtain ⟨dl, ⟨da, db, dc, dd, de, df⟩⟩ := d
        simp only at HC1 o4
        have s4 := s3.mod hm4 (fun h => h)
        have q4 := q3.mod hm4 (fun h => h)
        have r4 := r3.mod hm4 (fun h => h)
        have m4 := m3.trans' hm4
        have hz3 := m3.size
        have hl7 : w2.heap.size < w4.heap.size := by have := t3.lt; have := hm4.size; omega
        have hl8 : w.heap.size < w4.heap.size := s4.lt
        have hsp : w.heap.size + 1 + 1 + 1 < w4.heap.size := r4.lt
        obtain ⟨A4, n4, c4, rfl, hn4, hc4⟩ := o4.form
        have ns4 := own_ne_blk o4 s4 (by decide)
        have hmS := (((Mod.refl (One w.heap.size) w4).setOne (i := 1) (.slice A4 n4 c4))).alloc (.cells #[.int .i64 da, .int .i64 db, .int .i64 dc, .bool dd, .string de, .int .i64 df] 57)
        have s5 := (s4.set_ 1 (.slice A4 n4 c4)).alloc (.cells #[.int .i64 da, .int .i64 db, .int .i64 dc, .bool dd, .string de, .int .i64 df] 57)
        have x5 : Blk ((w4.setCell ⟨w.heap.size, 1, none⟩ (.slice A4 n4 c4)).alloc (.cells #[.int .i64 da, .int .i64 db, .int .i64 dc, .bool dd, .string de, .int .i64 df] 57)) w4.heap.size 57 #[.int .i64 da, .int .i64 db, .int .i64 dc, .bool dd, .string de, .int .i64 df] := by
          have := Blk.new (w4.setCell ⟨w.heap.size, 1, none⟩ (.slice A4 n4 c4)) 57 #[.int .i64 da, .int .i64 db, .int .i64 dc, .bool dd, .string de, .int .i64 df]
          simpa using this
        obtain ⟨W5, hW5⟩ : ∃ W5, W5 = (w4.setCell ⟨w.heap.size, 1, none⟩ (.slice A4 n4 c4)).alloc (.cells #[.int .i64 da, .int .i64 db, .int .i64 dc, .bool dd, .string de, .int .i64 df] 57) := ⟨_, rfl⟩
        rw [← hW5] at hmS s5 x5
        have q5 := q4.mod hmS (fun h => by unfold One at h; omega)
        have r5 := r4.mod hmS (fun h => by unfold One at h; omega)
        have m5 := m4.trans hmS fun i hi h => by unfold One at h; omega
        have o5 := o4.mod hmS (fun g hg h => ns4 (hg.trans (congrArg some h)))
        have HWI := Lib.hid (sess_With A2 n2 c2 R2 ss ⟨da, db, dc, dd, de, df⟩ W5 (h2.mod m5 fun _ _ _ h => h) (by have := HN.out.2; have := HSF.out; omega) HOK.out.sess)
        have HW5 := Lib.hid hW5
        have cs0 := s4.cell 0
        have cs1 := s4.cell 1
        have cs2 := s4.cell 2
        have cf1 := s4.frozen 1
        have cf2 := s4.frozen 2
        simp at cs0 cs1 cs2
        clear hW3 hW5 s3 b3 q3 r3 x3 y3 t3 m3 hst hm4 s4 q4 r4 m4 hmS HDO' o4 bb0 bb1 bb2 bb3 bb4 bb5 bb6 ss1
        go_wp2_with fail
        rw [← HW5.out]
        refine HWI.out.mono ?_
        rintro e w6 ⟨v6, rfl, o6, hm6⟩
        have hs56 := hm6.size
        have hz5 := m5.size
        have s6 := s5.mod hm6 (fun h => h)
        have x6 := x5.mod hm6 (fun h => h)
        have q6 := q5.mod hm6 (fun h => h)
        have r6 := r5.mod hm6 (fun h => h)
        have m6 := m5.trans' hm6
        have p6 := o5.non hm6
        obtain ⟨A6, n6, c6, rfl, hn6, hc6⟩ := o6.form
        have ns6 := own_ne_blk o6 s6 (by decide)
        have np6 := own_ne_blk p6 s6 (by decide)
        obtain ⟨W7, hW7⟩ : ∃ W7, W7 = w6.setCell ⟨w.heap.size, 2, none⟩ (.slice A6 n6 c6) := ⟨_, rfl⟩
        have hm7 := (Mod.refl (One w.heap.size) w6).setOne (i := 2) (.slice A6 n6 c6)
        have s7 := s6.set_ 2 (.slice A6 n6 c6)
        rw [← hW7] at hm7 s7
        have hxs : ¬ One w.heap.size w4.heap.size := fun h => by unfold One at h; omega
        have x7 := x6.mod hm7 hxs
        have q7 := q6.mod hm7 (fun h => by unfold One at h; omega)
        have r7 := r6.mod hm7 (fun h => by unfold One at h; omega)
        have m7 := m6.trans hm7 fun i hi h => by unfold One at h; omega
        have p7 := p6.mod hm7 (fun g hg h => np6 (hg.trans (congrArg some h)))
        have e7 := o6.mod hm7 (fun g hg h => ns6 (hg.trans (congrArg some h)))
        have gs2 := s6.cell 2
        have gf2 := s6.frozen 2
        simp at gs2
        have HW7 := Lib.hid hW7
        have nq1 : ∀ g, (Value.slice A4 n4 c4).ownBlock = some g → g ≠ w.heap.size + 1 + 1 ∧ g ≠ w.heap.size + 1 + 1 + 1 := fun g hg => ⟨fun h => own_ne_blk p7 q7 (by decide) (hg.trans (congrArg some h)), fun h => own_ne_blk p7 r7 (by decide) (hg.trans (congrArg some h))⟩
        have nq2 : ∀ g, (Value.slice A6 n6 c6).ownBlock = some g → g ≠ w.heap.size + 1 + 1 ∧ g ≠ w.heap.size + 1 + 1 + 1 := fun g hg => ⟨fun h => own_ne_blk e7 q7 (by decide) (hg.trans (congrArg some h)), fun h => own_ne_blk e7 r7 (by decide) (hg.trans (congrArg some h))⟩
        have NQ1 := Lib.hid nq1
        have NQ2 := Lib.hid nq2
        clear hW7 s5 x5 q5 r5 m5 o5 hm6 s6 x6 q6 r6 m6 p6 o6 hm7 HW5 HWI cs0 cs1 cs2 cf1 cf2 nq1 nq2
        go_wp2_with fail
        rw [← HW7.out]
        have s3 := s7
        have x3 := x7
        have q3 := q7
        have r3 := r7
        have b3 := s7
        have y3 := s7
        have t3 := s7
        clear s7 x7 q7 r7 gs2 gf2
        have zs0 := s3.cell 0
        have zs1 := s3.cell 1
        have zs2 := s3.cell 2
        have zx0 := x3.cell 0
        have zx1 := x3.cell 1
        have zx2 := x3.cell 2
        have zx3 := x3.cell 3
        have zx4 := x3.cell 4
        have zx5 := x3.cell 5
        have zq0 := q3.cell 0
        have zq1 := q3.cell 1
        have zq2 := q3.cell 2
        have zr0 := r3.cell 0
        have zr1 := r3.cell 1
        have zr2 := r3.cell 2
        have zr3 := r3.cell 3
        have zr4 := r3.cell 4
        have zr5 := r3.cell 5
        simp at zs0 zs1 zs2 zx0 zx1 zx2 zx3 zx4 zx5 zq0 zq1 zq2 zr0 zr1 zr2 zr3 zr4 zr5
        have fq0 := q3.frozen 0
        have fq1 := q3.frozen 1
        have fq2 := q3.frozen 2
        have fr0 := r3.frozen 0
        have fr1 := r3.frozen 1
        have fr2 := r3.frozen 2
        have fr3 := r3.frozen 3
        have fr4 := r3.frozen 4
        have fr5 := r3.frozen 5
        have hF := fill9 q3 r3 (by omega) (.int .i64 2) (.slice A4 n4 c4) (.slice A6 n6 c6) (.int .i64 da) (.int .i64 db) (.int .i64 dc) (.bool dd) (.string de) (.int .i64 df)
        have hM := (hF.2.2.1 w (by omega) (by omega) m7).drew
        clear s3 b3 q3 r3 x3 y3 t3
        go_region
        go_wp2_with fail
        refine bodyPost_ret (results_row_row rfl _ _ (w.heap.size + 1 + 1) 25 #[.int .i64 2, .slice A4 n4 c4, .slice A6 n6 c6] (0, 0) _ (w.heap.size + 1 + 1 + 1) 57 #[.int .i64 da, .int .i64 db, .int .i64 dc, .bool dd, .string de, .int .i64 df] (0, 0) _ rfl hF.1.drew Tryz.underlying25 rfl (by kernel_rfl) rfl hF.2.1.drew Tryz.underlying57 rfl (by kernel_rfl)) rfl ?_
        rw [HC1.out]
        exact ⟨_, rfl, ⟨_, _, _, _, _, _, rfl, (p7.mod (hF.2.2.2.drew) (fun g hg h => by have := NQ1.out g hg; unfold Two at h; omega)).reads.more fun _ _ h => .inr (.inr (by have := h.1; omega)), (e7.mod (hF.2.2.2.drew) (fun g hg h => by have := NQ2.out g hg; unfold Two at h; omega)).reads.more fun _ _ h => .inr (.inr (by have := h.1; omega))⟩, hM⟩

end Go.Proofs.YtdclfdinhdaadaaGreatDoor
