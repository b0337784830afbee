/- Package answer: the contract of Get where the answer's bytes stand. -/
import Derived.Test.YtdclfdinhdaadaaGreatDoorReader4
namespace Go.Proofs.YtdclfdinhdaadaaGreatDoor
open Go.RowKit

theorem at_num {l r : List UInt8} {a n : Nat} (h : l.drop a = vbytes n ++ r) (hn : n < 9223372036854775808) :
    gscan 0 0 (l.drop a) = .ok (n, (vbytes n).length) ∧ l.drop (a + (vbytes n).length) = r := by
  have h9 := vbytes_nine hn
  refine ⟨by rw [h, gscan_vbytes n 0 0 r (by omega) (.inr rfl)]; simp, ?_⟩
  rw [← List.drop_drop, h, List.drop_left' rfl]
theorem at_byte {l r : List UInt8} {a : Nat} {x : UInt8} (h : l.drop a = x :: r) : l[a]? = some x ∧ l.drop (a + 1) = r := by
  refine ⟨?_, by rw [← List.drop_drop, h]; rfl⟩
  have : (l.drop a)[0]? = some x := by rw [h]; rfl
  simpa using this
theorem at_text {l r x : List UInt8} {a : Nat} (h : l.drop a = x ++ r) : (l.drop a).take x.length = x ∧ l.drop (a + x.length) = r ∧ a + x.length ≤ l.length ∨ l.length < a := by
  rcases Nat.lt_or_ge l.length a with h0 | h0
  · exact .inr h0
  · refine .inl ⟨by rw [h, List.take_left' rfl], by rw [← List.drop_drop, h, List.drop_left' rfl], ?_⟩
    have := congrArg List.length h
    rw [List.length_drop, List.length_append] at this
    omega

/-- One result: a struct in memory. -/
theorem results_row {P : Program} {fn : Func} {p : Tmp} {ty : TypeId} (h : fn.results = #[.cell p ty]) (tmps : Array Value) (w : World) (g : Nat) (t : TypeId) (cs : Array Value) (fr : Nat × Nat) (d : TypeDesc)
    (hp : tmps.getD p undef = .pointer (some ⟨g, 0, none⟩)) (hg : w.heap[g]? = some (.cells cs t fr))
    (hu : P.underlying ty = some d) (hd : (match d with | .struct _ | .array _ _ => true | _ => false) = true) (hi : (P.info? ty).map (·.size) = some cs.size) :
    (results fn tmps).run P w = .ok (.agg cs) w := by
  have hp' : tmps[p]?.getD undef = .pointer (some ⟨g, 0, none⟩) := by simpa using hp
  simp [results, h, hp', asAddr, run_loadVar_row w g t ty cs fr d hg hu hd hi]

/-- A function that reads into a variable of its own: block H is what it will hand back, block H + 1 the variable. -/
structure GI (w : World) (g : Nat) (l : List UInt8) (T : TypeId) (H : Nat) (zs : Array Value) (W : World) (p : Nat) (cs : Array Value) : Prop where
  rd : Rd W g l p
  b0 : Blk W H T zs
  b1 : Blk W (H + 1) T cs
  mod : Mod (One g) w W
  lt : g < H
  sz : H = w.heap.size
section
variable {w W w1 : World} {g H p p' : Nat} {l : List UInt8} {T : TypeId} {zs cs : Array Value}
theorem GI.call (h : GI w g l T H zs W p cs) (hr : Rd w1 g l p') (hm : Mod (One g) W w1) : GI w g l T H zs w1 p' cs :=
  ⟨hr, h.b0.mod hm fun e => by have := h.lt; simp only [One] at e; omega, h.b1.mod hm fun e => by have := h.lt; simp only [One] at e; omega, h.mod.trans' hm, h.lt, h.sz⟩
theorem GI.store (h : GI w g l T H zs W p cs) (i : Nat) (u : Value) : GI w g l T H zs (W.setCell ⟨H + 1, i, none⟩ u) p (cs.setIfInBounds i u) :=
  ⟨h.rd.far (by have := h.lt; omega) u, h.b0.far (p := ⟨H + 1, i, none⟩) (by simp) u, h.b1.set_ i u, h.mod.setCell (p := ⟨H + 1, i, none⟩) (fun hk => by have := h.sz; simp only at hk; omega) u, h.lt, h.sz⟩
theorem GI.store0 (h : GI w g l T H zs W p cs) (i : Nat) (u : Value) : GI w g l T H (zs.setIfInBounds i u) (W.setCell ⟨H, i, none⟩ u) p cs :=
  ⟨h.rd.far h.lt u, h.b0.set_ i u, h.b1.far (p := ⟨H, i, none⟩) (by simp) u, h.mod.setCell (p := ⟨H, i, none⟩) (fun hk => by have := h.sz; simp only at hk; omega) u, h.lt, h.sz⟩
theorem GI.start (hr : Rd w g l p) (T : TypeId) (zs : Array Value) : GI w g l T w.heap.size zs ((w.alloc (.cells zs T)).alloc (.cells zs T)) p zs :=
  ⟨hr.non (((Mod.refl _ _).alloc _).alloc _), (Blk.new w _ _).alloc _, Blk.new1 w _ _ _, ((Mod.refl _ _).alloc _).alloc _, hr.lt, rfl⟩
end

set_option maxRecDepth 100000 in
set_option maxHeartbeats 4000000 in
theorem answer_Get (g a0 : Nat) (l r : List UInt8) (v : Int) (x : An) (w : World) (hx : x.Ok) (hr : Rd w g l a0) (hl : l.drop a0 = aenc v x ++ r) (h0 : v = 1 → x.rev = 0) :
    Calls Tryz.prog 82 #[.pointer (some ⟨g, 0, none⟩), .int .i64 v] w fun e w' => e = .returned x.v ∧ Rd w' g l (a0 + (aenc v x).length) ∧ Mod (One g) w w' := by
  obtain ⟨cl, sq, er, fd, vl, rv⟩ := x
  obtain ⟨k1, k2, k3, k4, k5⟩ := hx
  simp only at k1 k2 k3 k4 k5 h0
  obtain ⟨cl, rfl⟩ : ∃ n : Nat, cl = n := ⟨cl.toNat, by omega⟩
  obtain ⟨sq, rfl⟩ : ∃ n : Nat, sq = n := ⟨sq.toNat, by omega⟩
  obtain ⟨er, rfl⟩ : ∃ n : Nat, er = n := ⟨er.toNat, by omega⟩
  obtain ⟨rv, rfl⟩ : ∃ n : Nat, rv = n := ⟨rv.toNat, by omega⟩
  obtain ⟨T, hT⟩ : ∃ T, (if v = 1 then [] else vbytes rv) = T := ⟨_, rfl⟩
  have hE : aenc v ⟨cl, sq, er, fd, vl, rv⟩ = vbytes cl ++ vbytes sq ++ vbytes er ++ [if fd = true then 1 else 0] ++ vbytes vl.size ++ vl.data.toList ++ T := by
    unfold aenc; simp only [Int.toNat_natCast]; rw [hT]
  have e1 : l.drop a0 = vbytes cl ++ (vbytes sq ++ (vbytes er ++ ((if fd = true then 1 else 0) :: (vbytes vl.size ++ (vl.data.toList ++ (T ++ r)))))) := by
    rw [hl, hE]; simp
  have hL : (aenc v ⟨cl, sq, er, fd, vl, rv⟩).length = (vbytes cl).length + (vbytes sq).length + (vbytes er).length + 1 + (vbytes vl.size).length + vl.size + T.length := by
    rw [hE]; simp only [List.length_append, List.length_cons, List.length_nil, ByteArray.size_data, Array.length_toList]
  obtain ⟨g1, e2⟩ := at_num e1 (by omega)
  obtain ⟨g2, e3⟩ := at_num e2 (by omega)
  obtain ⟨g3, e4⟩ := at_num e3 (by omega)
  obtain ⟨g4, e5⟩ := at_byte e4
  obtain ⟨g5, e6⟩ := at_num e5 (by omega)
  have hvs : vl.data.toList.length = vl.size := by simp
  have e7 := at_text e6
  rw [hvs] at e7
  obtain ⟨p1, hp1⟩ : ∃ p, p = a0 + (vbytes cl).length := ⟨_, rfl⟩
  obtain ⟨p2, hp2⟩ : ∃ p, p = p1 + (vbytes sq).length := ⟨_, rfl⟩
  obtain ⟨p3, hp3⟩ : ∃ p, p = p2 + (vbytes er).length := ⟨_, rfl⟩
  obtain ⟨t5, ht5⟩ : ∃ p, p = (vbytes vl.size).length := ⟨_, rfl⟩
  rw [← hp1] at g2 e3 e4 g3 g4 g5 e5 e6 e7
  rw [← hp2] at g3 e4 g4 g5 e5 e6 e7
  rw [← hp3] at g4 g5 e5 e6 e7
  rw [← ht5] at e6 e7
  rw [← ht5] at g5
  have hp6 : p3 + 1 + t5 + vl.size ≤ l.length := by
    rcases e7 with h | h
    · exact h.2.2
    · exfalso
      have := congrArg List.length e5
      rw [List.length_drop, List.length_append, ← ht5] at this
      have h1 := vbytes_pos vl.size
      omega
  obtain ⟨f6, f7⟩ : (l.drop (p3 + 1 + t5)).take vl.size = vl.data.toList ∧ l.drop (p3 + 1 + t5 + vl.size) = T ++ r := by
    rcases e7 with h | h
    · exact ⟨h.1, h.2.1⟩
    · omega
  have htx : (⟨((l.drop (p3 + 1 + t5)).take vl.size).toArray⟩ : ByteArray) = vl := by rw [f6]
  have hend : Hid (a0 + (aenc v ⟨cl, sq, er, fd, vl, rv⟩).length = p3 + 1 + t5 + vl.size + T.length) := by show _ = _; omega
  have G1 := Lib.hid g1
  have G2 := Lib.hid g2
  have G3 := Lib.hid g3
  have G4 := Lib.hid g4
  have G5 := Lib.hid g5
  have HT := Lib.hid hT
  have F7 := Lib.hid f7
  have HTX := Lib.hid htx
  have hI := GI.start hr 57 #[.int .i64 0, .int .i64 0, .int .i64 0, .bool false, .string ⟨#[]⟩, .int .i64 0]
  have P1 := Lib.hid hp1
  have P2 := Lib.hid hp2
  have P3 := Lib.hid hp3
  clear g1 g2 g3 g4 g5 e1 e2 e3 e4 e5 e6 e7 f6 f7 htx hp1 hp2 hp3 ht5 hT hE hL hl hvs hr
  obtain ⟨H, hH⟩ : ∃ H, w.heap.size = H := ⟨_, rfl⟩
  rw [hH] at hI
  go_enter Tryz.func82, Tryz.ntmps82
  go_wp2_with fail
  refine (rd_Number g a0 cl _ l _ _ hI.rd G1.out (by omega)).mono ?_
  rintro e w1 ⟨rfl, hr1, hm1⟩
  rw [← P1.out] at hr1
  have hI1 := hI.call hr1 hm1
  clear hI hr1 hm1
  have x0 := hI1.b1.cell 0
  have f0 := hI1.b1.frozen 0
  simp at x0
  have hJ1 := hI1.store 0 (.int .i64 cl)
  clear hI1
  go_wp2_with fail
  refine (rd_Number g p1 sq _ l _ _ hJ1.rd G2.out (by omega)).mono ?_
  rintro e w2 ⟨rfl, hr2, hm2⟩
  rw [← P2.out] at hr2
  have hI2 := hJ1.call hr2 hm2
  clear hJ1 hr2 hm2 x0 f0
  have x0 := hI2.b1.cell 1
  have f0 := hI2.b1.frozen 1
  simp at x0
  have hJ2 := hI2.store 1 (.int .i64 sq)
  clear hI2
  go_wp2_with fail
  refine (rd_Number g p2 er _ l _ _ hJ2.rd G3.out (by omega)).mono ?_
  rintro e w3 ⟨rfl, hr3, hm3⟩
  rw [← P3.out] at hr3
  have hI3 := hJ2.call hr3 hm3
  clear hJ2 hr3 hm3 x0 f0
  have x0 := hI3.b1.cell 2
  have f0 := hI3.b1.frozen 2
  simp at x0
  have hJ3 := hI3.store 2 (.int .i64 er)
  clear hI3
  go_wp2_with fail
  refine (rd_Flag g p3 l fd _ hJ3.rd G4.out).mono ?_
  rintro e w4 ⟨rfl, hr4, hm4⟩
  have hI4 := hJ3.call hr4 hm4
  clear hJ3 hr4 hm4 x0 f0
  have x0 := hI4.b1.cell 3
  have f0 := hI4.b1.frozen 3
  simp at x0
  have hJ4 := hI4.store 3 (.bool fd)
  clear hI4
  go_wp2_with fail
  refine (rd_Text g (p3 + 1) vl.size t5 l _ _ hJ4.rd G5.out (by omega) hp6).mono ?_
  rw [HTX.out]
  rintro e w5 ⟨rfl, hr5, hm5⟩
  have hI5 := hJ4.call hr5 hm5
  clear hJ4 hr5 hm5 x0 f0
  have x0 := hI5.b1.cell 0
  have x1 := hI5.b1.cell 1
  have x2 := hI5.b1.cell 2
  have x3 := hI5.b1.cell 3
  have x4 := hI5.b1.cell 4
  have x5 := hI5.b1.cell 5
  have z0 := hI5.b0.cell 0
  have z1 := hI5.b0.cell 1
  have z2 := hI5.b0.cell 2
  have z3 := hI5.b0.cell 3
  have z4 := hI5.b0.cell 4
  have z5 := hI5.b0.cell 5
  simp at x0 x1 x2 x3 x4 x5 z0 z1 z2 z3 z4 z5
  have f4 := hI5.b1.frozen 4
  have fz0 := hI5.b0.frozen 0
  have fz1 := hI5.b0.frozen 1
  have fz2 := hI5.b0.frozen 2
  have fz3 := hI5.b0.frozen 3
  have fz4 := hI5.b0.frozen 4
  have fz5 := hI5.b0.frozen 5
  have hJ5 := hI5.store 4 (.string vl)
  clear hI5
  by_cases hv : v = 1
  · have hv1 : (v != 1) = false := by simp [hv]
    have hT0 : T = [] := by rw [← HT.out, if_pos hv]
    have hrv := h0 hv
    have hrv' : rv = 0 := by omega
    clear hv hrv h0
    subst hrv' hT0
    have hF := (((((hJ5.store0 0 (.int .i64 cl)).store0 1 (.int .i64 sq)).store0 2 (.int .i64 er)).store0 3 (.bool fd)).store0 4 (.string vl)).store0 5 (.int .i64 0)
    go_wp2
    refine bodyPost_ret (results_row rfl _ _ H 57 #[.int .i64 cl, .int .i64 sq, .int .i64 er, .bool fd, .string vl, .int .i64 0] (0, 0) _ rfl hF.b0 Tryz.underlying57 rfl (by kernel_rfl)) rfl ?_
    exact ⟨rfl, by rw [hend.out]; exact hF.rd, hF.mod⟩
  · have hv1 : (v != 1) = true := by simp [hv]
    have hT0 : T = vbytes rv := by rw [← HT.out, if_neg hv]
    have f7 := F7.out
    rw [hT0] at f7
    obtain ⟨g7, _⟩ := at_num f7 (by omega)
    have G7 := Lib.hid g7
    have HTL : Hid (p3 + 1 + t5 + vl.size + (vbytes rv).length = p3 + 1 + t5 + vl.size + T.length) := by rw [hT0]; rfl
    clear hv h0 f7 g7 hT0
    go_wp2_with fail
    refine (rd_Number g (p3 + 1 + t5 + vl.size) rv _ l _ _ hJ5.rd G7.out (by omega)).mono ?_
    rintro e w6 ⟨rfl, hr6, hm6⟩
    rw [HTL.out] at hr6
    have hI6 := hJ5.call hr6 hm6
    clear hJ5 hr6 hm6 x0 x1 x2 x3 x4 x5 z0 z1 z2 z3 z4 z5 f4 fz0 fz1 fz2 fz3 fz4 fz5
    have x0 := hI6.b1.cell 0
    have x1 := hI6.b1.cell 1
    have x2 := hI6.b1.cell 2
    have x3 := hI6.b1.cell 3
    have x4 := hI6.b1.cell 4
    have x5 := hI6.b1.cell 5
    have z0 := hI6.b0.cell 0
    have z1 := hI6.b0.cell 1
    have z2 := hI6.b0.cell 2
    have z3 := hI6.b0.cell 3
    have z4 := hI6.b0.cell 4
    have z5 := hI6.b0.cell 5
    simp at x0 x1 x2 x3 x4 x5 z0 z1 z2 z3 z4 z5
    have f5 := hI6.b1.frozen 5
    have fz0 := hI6.b0.frozen 0
    have fz1 := hI6.b0.frozen 1
    have fz2 := hI6.b0.frozen 2
    have fz3 := hI6.b0.frozen 3
    have fz4 := hI6.b0.frozen 4
    have fz5 := hI6.b0.frozen 5
    have hJ6 := hI6.store 5 (.int .i64 rv)
    have hF := (((((hJ6.store0 0 (.int .i64 cl)).store0 1 (.int .i64 sq)).store0 2 (.int .i64 er)).store0 3 (.bool fd)).store0 4 (.string vl)).store0 5 (.int .i64 rv)
    go_wp2
    refine bodyPost_ret (results_row rfl _ _ H 57 #[.int .i64 cl, .int .i64 sq, .int .i64 er, .bool fd, .string vl, .int .i64 rv] (0, 0) _ rfl hF.b0 Tryz.underlying57 rfl (by kernel_rfl)) rfl ?_
    exact ⟨rfl, by rw [hend.out]; exact hF.rd, hF.mod⟩
end Go.Proofs.YtdclfdinhdaadaaGreatDoor
