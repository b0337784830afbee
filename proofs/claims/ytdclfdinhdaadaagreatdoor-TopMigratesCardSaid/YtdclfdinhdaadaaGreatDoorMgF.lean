/- slices.BinarySearchFunc at sessions and at pairs; what compares. -/
import Derived.Test.YtdclfdinhdaadaaGreatDoorMgY
import Derived.Test.YtdclfdinhdaadaaGreatDoorShelf
import Derived.Test.YtdclfdinhdaadaaGreatDoorMgX
namespace Go.Proofs.YtdclfdinhdaadaaGreatDoor
open Go.RowKit

theorem sess_cmp (x : Se) (t : Int) (w : World) : Calls Tryz.prog 151 #[x.v, .int .i64 t] w fun e w' => e = .returned (.int .i64 (Lib.compareInt x.client t)) ∧ Mod Non w w' := by
  obtain ⟨cl, sq, ⟨lc, ls, le, lf, lv, lr⟩⟩ := x
  go_enter Tryz.func151, Tryz.ntmps151
  go_wp2_with fail
  refine (Tryz.cmp_Compare_int _ _ _).mono ?_
  rintro e w1 ⟨rfl, rfl⟩
  go_wp2
  go_ret
  exact ⟨rfl, (Mod.refl _ _).alloc _⟩

theorem pair_cmp (x : Pa) (t : ByteArray) (w : World) : Calls Tryz.prog 178 #[x.v, .string t] w fun e w' => e = .returned (.int .i64 (Lib.compareBytes x.key.data.toList t.data.toList)) ∧ Mod Non w w' := by
  obtain ⟨key, val, rv⟩ := x
  go_enter Tryz.func178, Tryz.ntmps178
  go_wp2_with fail
  refine (Tryz.strings_Compare _ _ _).mono ?_
  rintro e w1 ⟨rfl, rfl⟩
  go_wp2
  go_ret
  exact ⟨rfl, (Mod.refl _ _).alloc _⟩

set_option maxRecDepth 100000 in
set_option maxHeartbeats 1000000 in
theorem search_Se (A : Option Addr) (n c : Nat) (R : Nat → Prop) (xs : List Se) (t : Int) (m : Nat) (fd : Bool) (w : World) (hr : Reads w R 8 A n (ecs xs)) (hn : n ≤ 100000) (hmn : m ≤ n)
    (hm : ∀ (k : Nat) (x : Se), xs[k]? = some x → (Lib.compareInt x.client t < 0 ↔ k < m))
    (hf : ∀ (x : Se), xs[m]? = some x → fd = (Lib.compareInt x.client t == 0)) (hf0 : n ≤ m → fd = false) :
    Calls Tryz.prog 150 #[.slice A n c, .int .i64 t, .func (.func 151) #[] #[]] w fun e w' => e = .returned (.tuple #[.int .i64 m, .bool fd]) ∧ Mod Non w w' := by
  have HM := Lib.hid hm
  have hln : xs.length = n := by have := hr.1; rw [ecs_length] at this; omega
  have HLN := Lib.hid hln
  have HF := Lib.hid hf
  have HF0 := Lib.hid hf0
  clear hm hln hf hf0
  go_enter Tryz.func150, Tryz.ntmps150
  go_wp2_with fail
  go_loopw [9, 10] (fun i j wr => ∃ p q : Nat, p ≤ m ∧ m ≤ q ∧ q ≤ n ∧ i = .int .i64 p ∧ j = .int .i64 q ∧ Mod Non w wr) (fun i j _ => (intOf j).toNat - (intOf i).toNat)
  case atStart => exact ⟨0, n, by omega, hmn, by omega, rfl, rfl, Mod.refl _ _⟩
  case round =>
    obtain ⟨p, q, h1, h2, h3, rfl, rfl, hmd⟩ := hrel
    by_cases hlt : p < q
    · have hpq : (p : Int) < q := by omega
      have hh : (p + q) / 2 < n := by omega
      have hrr := hr.mod hmd fun _ _ _ h => h
      obtain ⟨b, off, x, hA, hbk, _, hpk, d0, d1, d2, d3, d4, d5, d6, d7⟩ := hrr.se hh
      subst hA
      have e1 : IntKind.i64.wrap ((p : Int) + q) = (p : Int) + q := by rw [IntKind.wrap_i64]; omega
      have HMM := Lib.hid (HM.out _ _ hpk)
      have HMD := Lib.hid hmd
      clear hpk hmd hrr
      go_wp2_with fail
      refine (sess_cmp x t _).mono ?_
      rintro e w1 ⟨rfl, hm1⟩
      have HM1 := Lib.hid (HMD.out.trans' hm1)
      clear hm1
      by_cases hc : Lib.compareInt x.client t < 0
      · have hlm := HMM.out.1 hc
        go_wp2_with fail
        go_roundw
        case rel => exact ⟨(p + q) / 2 + 1, q, by omega, h2, h3, by first | go_num | (congr 1; omega), rfl, HM1.out⟩
        case measure => simp [intOf]; omega
      · have hlm : ¬ (p + q) / 2 < m := fun h => hc (HMM.out.2 h)
        go_wp2_with fail
        go_roundw
        case rel => exact ⟨p, (p + q) / 2, h1, by omega, by omega, rfl, by first | go_num | (congr 1; omega), HM1.out⟩
        case measure => simp [intOf]; omega
    · have hpq : ¬ (p : Int) < q := by omega
      have hpm : p = m := by omega
      subst hpm
      by_cases hmn2 : p < n
      · have hmi : (p : Int) < n := by omega
        have hmd2 : decide ((p : Int) < n) = true := by simpa using hmi
        have hmd3 : decide (p < n) = true := by simpa using hmn2
        have hrr := hr.mod hmd fun _ _ _ h => h
        obtain ⟨b, off, x, hA, hbk, _, hpk, d0, d1, d2, d3, d4, d5, d6, d7⟩ := hrr.se hmn2
        subst hA
        have HPK := Lib.hid hpk
        have HMD := Lib.hid hmd
        clear hpk hmd hrr
        go_wp2_with fail
        refine (sess_cmp x t _).mono ?_
        rintro e w1 ⟨rfl, hm1⟩
        have HM1 := Lib.hid (HMD.out.trans' hm1)
        clear hm1
        go_wp2_with fail
        go_ret2
        refine ⟨?_, HM1.out⟩
        rw [HF.out _ HPK.out]
        rfl
      · have hmi : ¬ (p : Int) < n := by omega
        have hmd2 : decide ((p : Int) < n) = false := by simpa using hmi
        have hmd3 : decide (p < n) = false := by simpa using hmn2
        go_wp2_with fail
        go_ret2
        refine ⟨?_, hmd⟩
        rw [HF0.out (by omega)]
        rfl


set_option maxRecDepth 100000 in
set_option maxHeartbeats 1000000 in
theorem search_Pk (A : Option Addr) (n c : Nat) (R : Nat → Prop) (xs : List Pa) (t : ByteArray) (m : Nat) (fd : Bool) (w : World) (hr : Reads w R 3 A n (pcs xs)) (hn : n ≤ 100000) (hmn : m ≤ n)
    (hm : ∀ (k : Nat) (x : Pa), xs[k]? = some x → (Lib.compareBytes x.key.data.toList t.data.toList < 0 ↔ k < m))
    (hf : ∀ (x : Pa), xs[m]? = some x → fd = (Lib.compareBytes x.key.data.toList t.data.toList == 0)) (hf0 : n ≤ m → fd = false) :
    Calls Tryz.prog 177 #[.slice A n c, .string t, .func (.func 178) #[] #[]] w fun e w' => e = .returned (.tuple #[.int .i64 m, .bool fd]) ∧ Mod Non w w' := by
  have HM := Lib.hid hm
  have hln : xs.length = n := by have := hr.1; rw [pcs_length] at this; omega
  have HLN := Lib.hid hln
  have HF := Lib.hid hf
  have HF0 := Lib.hid hf0
  clear hm hln hf hf0
  go_enter Tryz.func177, Tryz.ntmps177
  go_wp2_with fail
  go_loopw [9, 10] (fun i j wr => ∃ p q : Nat, p ≤ m ∧ m ≤ q ∧ q ≤ n ∧ i = .int .i64 p ∧ j = .int .i64 q ∧ Mod Non w wr) (fun i j _ => (intOf j).toNat - (intOf i).toNat)
  case atStart => exact ⟨0, n, by omega, hmn, by omega, rfl, rfl, Mod.refl _ _⟩
  case round =>
    obtain ⟨p, q, h1, h2, h3, rfl, rfl, hmd⟩ := hrel
    by_cases hlt : p < q
    · have hpq : (p : Int) < q := by omega
      have hh : (p + q) / 2 < n := by omega
      have hrr := hr.mod hmd fun _ _ _ h => h
      obtain ⟨b, off, x, hA, hbk, _, hpk, d0, d1, d2⟩ := hrr.pa hh
      subst hA
      have e1 : IntKind.i64.wrap ((p : Int) + q) = (p : Int) + q := by rw [IntKind.wrap_i64]; omega
      have HMM := Lib.hid (HM.out _ _ hpk)
      have HMD := Lib.hid hmd
      clear hpk hmd hrr
      go_wp2_with fail
      refine (pair_cmp x t _).mono ?_
      rintro e w1 ⟨rfl, hm1⟩
      have HM1 := Lib.hid (HMD.out.trans' hm1)
      clear hm1
      by_cases hc : Lib.compareBytes x.key.data.toList t.data.toList < 0
      · have hlm := HMM.out.1 hc
        go_wp2_with fail
        go_roundw
        case rel => exact ⟨(p + q) / 2 + 1, q, by omega, h2, h3, by first | go_num | (congr 1; omega), rfl, HM1.out⟩
        case measure => simp [intOf]; omega
      · have hlm : ¬ (p + q) / 2 < m := fun h => hc (HMM.out.2 h)
        go_wp2_with fail
        go_roundw
        case rel => exact ⟨p, (p + q) / 2, h1, by omega, by omega, rfl, by first | go_num | (congr 1; omega), HM1.out⟩
        case measure => simp [intOf]; omega
    · have hpq : ¬ (p : Int) < q := by omega
      have hpm : p = m := by omega
      subst hpm
      by_cases hmn2 : p < n
      · have hmi : (p : Int) < n := by omega
        have hmd2 : decide ((p : Int) < n) = true := by simpa using hmi
        have hmd3 : decide (p < n) = true := by simpa using hmn2
        have hrr := hr.mod hmd fun _ _ _ h => h
        obtain ⟨b, off, x, hA, hbk, _, hpk, d0, d1, d2⟩ := hrr.pa hmn2
        subst hA
        have HPK := Lib.hid hpk
        have HMD := Lib.hid hmd
        clear hpk hmd hrr
        go_wp2_with fail
        refine (pair_cmp x t _).mono ?_
        rintro e w1 ⟨rfl, hm1⟩
        have HM1 := Lib.hid (HMD.out.trans' hm1)
        clear hm1
        go_wp2_with fail
        go_ret2
        refine ⟨?_, HM1.out⟩
        rw [HF.out _ HPK.out]
        rfl
      · have hmi : ¬ (p : Int) < n := by omega
        have hmd2 : decide ((p : Int) < n) = false := by simpa using hmi
        have hmd3 : decide (p < n) = false := by simpa using hmn2
        go_wp2_with fail
        go_ret2
        refine ⟨?_, hmd⟩
        rw [HF0.out (by omega)]
        rfl

end Go.Proofs.YtdclfdinhdaadaaGreatDoor

/- Package sess: the contracts of place, Which. -/
namespace Go.Proofs.YtdclfdinhdaadaaGreatDoor
open Go.RowKit

/-- where a client is, or would be -/
def slb (t : Int) (ss : List Se) : Nat := (ss.takeWhile fun s => decide (s.client < t)).length
def sfd (t : Int) (ss : List Se) : Bool := match ss[slb t ss]? with | some x => x.client == t | none => false

theorem takeWhile_iff {α : Type} (p : α → Bool) : ∀ (l : List α), (l.Pairwise fun a b => p b = true → p a = true) → ∀ (k : Nat) (x : α), l[k]? = some x → (p x = true ↔ k < (l.takeWhile p).length)
  | [], _, k, x, h => by simp at h
  | a :: l, hp, k, x, h => by
    rw [List.pairwise_cons] at hp
    by_cases ha : p a = true
    · rw [List.takeWhile_cons_of_pos ha, List.length_cons]
      cases k with
      | zero =>
        simp at h
        subst h
        simp [ha]
      | succ k =>
        simp at h
        rw [takeWhile_iff p l hp.2 k x h]
        omega
    · rw [List.takeWhile_cons_of_neg ha]
      refine ⟨fun hx => ?_, fun h => by simp at h⟩
      cases k with
      | zero =>
        simp at h
        subst h
        exact absurd hx ha
      | succ k =>
        simp at h
        exact absurd (hp.1 x (List.mem_of_getElem? h) hx) ha
theorem takeWhile_le {α : Type} (p : α → Bool) (l : List α) : (l.takeWhile p).length ≤ l.length := (List.takeWhile_prefix p).length_le

theorem slb_iff {ss : List Se} (h : SesOk ss) (t : Int) (k : Nat) (x : Se) (hx : ss[k]? = some x) : x.client < t ↔ k < slb t ss := by
  have := takeWhile_iff (fun s : Se => decide (s.client < t)) ss (h.rise.imp fun hab hb => by simp only [decide_eq_true_eq] at hb ⊢; omega) k x hx
  simpa [slb] using this

theorem cmp_lt (x y : Int) : Lib.compareInt x y < 0 ↔ x < y := by unfold Lib.compareInt; split <;> (try split) <;> omega
theorem cmp_eq (x y : Int) : (Lib.compareInt x y == 0) = (x == y) := by
  unfold Lib.compareInt
  split
  · rw [show ((-1 : Int) == 0) = false from rfl]
    symm
    simp
    omega
  · split
    · rw [show ((1 : Int) == 0) = false from rfl]
      symm
      simp
      omega
    · symm
      simp
      omega

theorem sess_place (A : Option Addr) (n c : Nat) (R : Nat → Prop) (ss : List Se) (t : Int) (w : World) (hr : Reads w R 8 A n (ecs ss)) (hn : n ≤ 100000) (hok : SesOk ss) :
    Calls Tryz.prog 143 #[.slice A n c, .int .i64 t] w fun e w' => e = .returned (.tuple #[.int .i64 (slb t ss), .bool (sfd t ss)]) ∧ Mod Non w w' := by
  have hl : ss.length = n := by have := hr.1; rw [ecs_length] at this; omega
  have hle : slb t ss ≤ n := by have := takeWhile_le (fun s : Se => decide (s.client < t)) ss; unfold slb; omega
  have HC := Lib.hid (search_Se A n c R ss t (slb t ss) (sfd t ss) w hr hn hle (fun k x hx => (cmp_lt _ _).trans (slb_iff hok t k x hx)) (fun x hx => by unfold sfd; rw [hx, cmp_eq]) (fun h => by unfold sfd; rw [List.getElem?_eq_none (by omega)]))
  clear hl hle
  go_enter Tryz.func143, Tryz.ntmps143
  go_wp2_with fail
  refine HC.out.mono ?_
  rintro e w1 ⟨rfl, hm1⟩
  go_wp2
  go_ret2
  exact ⟨rfl, hm1⟩
end Go.Proofs.YtdclfdinhdaadaaGreatDoor

/- Package sess: the contract of Which. -/
namespace Go.Proofs.YtdclfdinhdaadaaGreatDoor
open Go.RowKit

def anZ : An := ⟨0, 0, 0, false, ⟨#[]⟩, 0⟩
/-- what a client's number is: new (0), the last one again (1), stale (2) -/
def swhich (ss : List Se) (cl sq : Int) : Int × An :=
  match (if sfd cl ss = true then ss[slb cl ss]? else none) with
  | none => (0, anZ)
  | some x => if x.seq < sq then (0, anZ) else if sq = x.seq then (1, x.last) else (2, anZ)

theorem sfd_some {t : Int} {ss : List Se} (h : sfd t ss = true) : ∃ x, ss[slb t ss]? = some x ∧ x.client = t := by
  unfold sfd at h
  split at h
  · next x hx => exact ⟨x, hx, by simpa using h⟩
  · cases h

/-- Two results, the second a struct in memory. -/
theorem results_tmp_row {P : Program} {fn : Func} {s p : Tmp} {ty : TypeId} (h : fn.results = #[.tmp s, .cell p ty]) (tmps : Array Value) (w : World) (g : Nat) (t : TypeId) (cs : Array Value) (fr : Nat × Nat) (d : TypeDesc)
    (hp : tmps.getD p undef = .pointer (some ⟨g, 0, none⟩)) (hg : w.heap[g]? = some (.cells cs t fr))
    (hu : P.underlying ty = some d) (hd : (match d with | .struct _ | .array _ _ => true | _ => false) = true) (hi : (P.info? ty).map (·.size) = some cs.size) :
    (results fn tmps).run P w = .ok (.tuple #[tmps.getD s undef, .agg cs]) w := by
  have hp' : tmps[p]?.getD undef = .pointer (some ⟨g, 0, none⟩) := by simpa using hp
  simp [results, h, hp', asAddr, run_loadVar_row w g t ty cs fr d hg hu hd hi]

set_option maxRecDepth 100000 in
set_option maxHeartbeats 1000000 in
theorem sess_Which (A : Option Addr) (n c : Nat) (R : Nat → Prop) (ss : List Se) (cl sq : Int) (w : World) (hr : Reads w R 8 A n (ecs ss)) (hn : n ≤ 100000) (hok : SesOk ss) :
    Calls Tryz.prog 116 #[.slice A n c, .int .i64 cl, .int .i64 sq] w fun e w' => e = .returned (.tuple #[.int .i64 (swhich ss cl sq).1, (swhich ss cl sq).2.v]) ∧ Mod Non w w' := by
  have hl : ss.length = n := by have := hr.1; rw [ecs_length] at this; omega
  have hm0 := (Mod.refl Non w).alloc (.cells #[.int .i64 0, .int .i64 0, .int .i64 0, .bool false, .string ⟨#[]⟩, .int .i64 0] 57)
  have z0 := Blk.new w 57 #[.int .i64 0, .int .i64 0, .int .i64 0, .bool false, .string ⟨#[]⟩, .int .i64 0]
  have HC := Lib.hid (sess_place A n c R ss cl _ (hr.mod hm0 fun _ _ _ h => h) hn hok)
  obtain ⟨sw, hsw⟩ : ∃ sw, sw = swhich ss cl sq := ⟨_, rfl⟩
  rw [← hsw]
  by_cases hfd : sfd cl ss = true
  · obtain ⟨x, hx, hxc⟩ := sfd_some hfd
    unfold swhich at hsw
    rw [if_pos hfd, hx] at hsw
    simp only at hsw
    rw [hfd] at HC
    have hmn : slb cl ss < n := by have := (List.getElem?_eq_some_iff.1 hx).1; omega
    obtain ⟨m, hm⟩ : ∃ m, m = slb cl ss := ⟨_, rfl⟩
    rw [← hm] at HC hmn hx
    have hmi : (m : Int) < n := by omega
    have HS := Lib.hid hsw
    clear hsw hm hfd hl
    go_enter Tryz.func116, Tryz.ntmps116
    go_wp2_with fail
    refine HC.out.mono ?_
    rintro e w1 ⟨rfl, hm1⟩
    have z1 := z0.mod hm1 (fun h => h)
    have hm01 := hm0.trans' hm1
    have hrr := hr.mod hm01 fun _ _ _ h => h
    obtain ⟨b, off, y, hA, hbk, _, hpk, d0, d1, d2, d3, d4, d5, d6, d7⟩ := hrr.se hmn
    rw [hx] at hpk
    injection hpk with hpk
    subst hpk
    subst hA
    obtain ⟨cx, sx, ⟨lc, ls, le, lf, lv, lr⟩⟩ := x
    simp only at d0 d1 d2 d3 d4 d5 d6 d7
    have c0 := z1.cell 0
    have c1 := z1.cell 1
    have c2 := z1.cell 2
    have c3 := z1.cell 3
    have c4 := z1.cell 4
    have c5 := z1.cell 5
    have f0 := z1.frozen 0
    have f1 := z1.frozen 1
    have f2 := z1.frozen 2
    have f3 := z1.frozen 3
    have f4 := z1.frozen 4
    have f5 := z1.frozen 5
    simp at c0 c1 c2 c3 c4 c5
    simp only at HS
    clear hx hxc hrr hm1 z0 hm0
    by_cases hs1 : sx < sq
    · rw [if_pos hs1] at HS
      have hs2 : decide (sx < sq) = true := by simpa using hs1
      go_wp2_with fail
      have r5 := ((((((z1.set_ 0 (.int .i64 0)).set_ 1 (.int .i64 0)).set_ 2 (.int .i64 0)).set_ 3 (.bool false)).set_ 4 (.string ⟨#[]⟩)).set_ 5 (.int .i64 0))
      refine bodyPost_ret (results_tmp_row rfl _ _ w.heap.size 57 #[.int .i64 0, .int .i64 0, .int .i64 0, .bool false, .string ⟨#[]⟩, .int .i64 0] (0, 0) _ rfl r5 Tryz.underlying57 rfl (by kernel_rfl)) rfl ?_
      rw [HS.out]
      exact ⟨rfl, ((((((hm01.setNew (Nat.le_refl _) _ _).setNew (Nat.le_refl _) _ _).setNew (Nat.le_refl _) _ _).setNew (Nat.le_refl _) _ _).setNew (Nat.le_refl _) _ _).setNew (Nat.le_refl _) _ _)⟩
    · rw [if_neg hs1] at HS
      have hs2 : decide (sx < sq) = false := by simpa using hs1
      by_cases hs3 : sq = sx
      · rw [if_pos hs3] at HS
        subst hs3
        go_wp2_with fail
        go_region
        go_wp2_with fail
        have r5 := ((((((z1.set_ 0 (.int .i64 lc)).set_ 1 (.int .i64 ls)).set_ 2 (.int .i64 le)).set_ 3 (.bool lf)).set_ 4 (.string lv)).set_ 5 (.int .i64 lr)).drew
        refine bodyPost_ret (results_tmp_row rfl _ _ w.heap.size 57 #[.int .i64 lc, .int .i64 ls, .int .i64 le, .bool lf, .string lv, .int .i64 lr] (0, 0) _ rfl r5 Tryz.underlying57 rfl (by kernel_rfl)) rfl ?_
        rw [HS.out]
        exact ⟨rfl, ((((((hm01.setNew (Nat.le_refl _) _ _).setNew (Nat.le_refl _) _ _).setNew (Nat.le_refl _) _ _).setNew (Nat.le_refl _) _ _).setNew (Nat.le_refl _) _ _).setNew (Nat.le_refl _) _ _).drew⟩
      · rw [if_neg hs3] at HS
        have hs4 : (sq == sx) = false := by simpa using hs3
        go_wp2_with fail
        have r5 := ((((((z1.set_ 0 (.int .i64 0)).set_ 1 (.int .i64 0)).set_ 2 (.int .i64 0)).set_ 3 (.bool false)).set_ 4 (.string ⟨#[]⟩)).set_ 5 (.int .i64 0))
        refine bodyPost_ret (results_tmp_row rfl _ _ w.heap.size 57 #[.int .i64 0, .int .i64 0, .int .i64 0, .bool false, .string ⟨#[]⟩, .int .i64 0] (0, 0) _ rfl r5 Tryz.underlying57 rfl (by kernel_rfl)) rfl ?_
        rw [HS.out]
        exact ⟨rfl, ((((((hm01.setNew (Nat.le_refl _) _ _).setNew (Nat.le_refl _) _ _).setNew (Nat.le_refl _) _ _).setNew (Nat.le_refl _) _ _).setNew (Nat.le_refl _) _ _).setNew (Nat.le_refl _) _ _)⟩
  · rw [Bool.not_eq_true] at hfd
    unfold swhich at hsw
    rw [hfd] at hsw HC
    simp only [Bool.false_eq_true, if_false] at hsw
    have HS := Lib.hid hsw
    clear hsw hl
    go_enter Tryz.func116, Tryz.ntmps116
    go_wp2_with fail
    refine HC.out.mono ?_
    rintro e w1 ⟨rfl, hm1⟩
    have z1 := z0.mod hm1 (fun h => h)
    have hm01 := hm0.trans' hm1
    have c0 := z1.cell 0
    have c1 := z1.cell 1
    have c2 := z1.cell 2
    have c3 := z1.cell 3
    have c4 := z1.cell 4
    have c5 := z1.cell 5
    have f0 := z1.frozen 0
    have f1 := z1.frozen 1
    have f2 := z1.frozen 2
    have f3 := z1.frozen 3
    have f4 := z1.frozen 4
    have f5 := z1.frozen 5
    simp at c0 c1 c2 c3 c4 c5
    clear hm1 z0 hm0
    go_wp2_with fail
    have r5 := ((((((z1.set_ 0 (.int .i64 0)).set_ 1 (.int .i64 0)).set_ 2 (.int .i64 0)).set_ 3 (.bool false)).set_ 4 (.string ⟨#[]⟩)).set_ 5 (.int .i64 0))
    refine bodyPost_ret (results_tmp_row rfl _ _ w.heap.size 57 #[.int .i64 0, .int .i64 0, .int .i64 0, .bool false, .string ⟨#[]⟩, .int .i64 0] (0, 0) _ rfl r5 Tryz.underlying57 rfl (by kernel_rfl)) rfl ?_
    rw [HS.out]
    exact ⟨rfl, ((((((hm01.setNew (Nat.le_refl _) _ _).setNew (Nat.le_refl _) _ _).setNew (Nat.le_refl _) _ _).setNew (Nat.le_refl _) _ _).setNew (Nat.le_refl _) _ _).setNew (Nat.le_refl _) _ _)⟩
end Go.Proofs.YtdclfdinhdaadaaGreatDoor

/- Package vers: the contracts of May, Has, at the two versions. -/
namespace Go.Proofs.YtdclfdinhdaadaaGreatDoor
open Go.RowKit

/-- a version has a kind -/
def hasB (v k : Int) : Bool := k == 1 || k == 2 || k == 3 || k == 4 || k == 6 || k == 7 || k == 8 || (k == 5 && v == 2)

theorem vers_May (v : Int) (hv : v = 1 ∨ v = 2) (w : World) : Calls Tryz.prog 57 #[.int .i64 v] w fun e w' => e = .returned (.bool true) ∧ w = w' := by
  rcases hv with rfl | rfl
  all_goals
    go_enter Tryz.func57, Tryz.ntmps57
    go_wp2
    go_ret
    exact ⟨rfl, rfl⟩

set_option maxHeartbeats 2000000 in
theorem vers_Has (v k : Int) (hv : v = 1 ∨ v = 2) (w : World) : Calls Tryz.prog 118 #[.int .i64 v, .int .i64 k] w fun e w' => e = .returned (.bool (hasB v k)) ∧ w = w' := by
  obtain ⟨r, hr⟩ : ∃ r, r = hasB v k := ⟨_, rfl⟩
  rw [← hr]
  unfold hasB at hr
  rcases hv with rfl | rfl
  all_goals
    by_cases h1 : k = 1
    · subst h1
      have hr2 : r = true := by rw [hr]; rfl
      subst hr2
      clear hr
      go_enter Tryz.func118, Tryz.ntmps118
      go_wp2
      go_ret
      exact ⟨rfl, rfl⟩
    by_cases h2 : k = 2
    · subst h2
      have hr2 : r = true := by rw [hr]; rfl
      subst hr2
      clear hr
      go_enter Tryz.func118, Tryz.ntmps118
      go_wp2
      go_ret
      exact ⟨rfl, rfl⟩
    by_cases h3 : k = 3
    · subst h3
      have hr2 : r = true := by rw [hr]; rfl
      subst hr2
      clear hr
      go_enter Tryz.func118, Tryz.ntmps118
      go_wp2
      go_ret
      exact ⟨rfl, rfl⟩
    by_cases h4 : k = 4
    · subst h4
      have hr2 : r = true := by rw [hr]; rfl
      subst hr2
      clear hr
      go_enter Tryz.func118, Tryz.ntmps118
      go_wp2
      go_ret
      exact ⟨rfl, rfl⟩
    by_cases h6 : k = 6
    · subst h6
      have hr2 : r = true := by rw [hr]; rfl
      subst hr2
      clear hr
      go_enter Tryz.func118, Tryz.ntmps118
      go_wp2
      go_ret
      exact ⟨rfl, rfl⟩
    by_cases h7 : k = 7
    · subst h7
      have hr2 : r = true := by rw [hr]; rfl
      subst hr2
      clear hr
      go_enter Tryz.func118, Tryz.ntmps118
      go_wp2
      go_ret
      exact ⟨rfl, rfl⟩
    by_cases h8 : k = 8
    · subst h8
      have hr2 : r = true := by rw [hr]; rfl
      subst hr2
      clear hr
      go_enter Tryz.func118, Tryz.ntmps118
      go_wp2
      go_ret
      exact ⟨rfl, rfl⟩
    by_cases h5 : k = 5
    · subst h5
      simp at hr
      subst hr
      go_enter Tryz.func118, Tryz.ntmps118
      go_wp2
      go_ret
      exact ⟨rfl, rfl⟩
    · have b1 : (k == 1) = false := by simpa using h1
      have b2 : (k == 2) = false := by simpa using h2
      have b3 : (k == 3) = false := by simpa using h3
      have b4 : (k == 4) = false := by simpa using h4
      have b5 : (k == 5) = false := by simpa using h5
      have b6 : (k == 6) = false := by simpa using h6
      have b7 : (k == 7) = false := by simpa using h7
      have b8 : (k == 8) = false := by simpa using h8
      have hr2 : r = false := by rw [hr, b1, b2, b3, b4, b5, b6, b7, b8]; rfl
      subst hr2
      clear hr
      go_enter Tryz.func118, Tryz.ntmps118
      go_wp2
      go_ret
      exact ⟨rfl, rfl⟩
end Go.Proofs.YtdclfdinhdaadaaGreatDoor

/- Package kvone: the contracts of place and Find. -/
namespace Go.Proofs.YtdclfdinhdaadaaGreatDoor
open Go.RowKit

theorem cb_less : ∀ (a b : List UInt8), Lib.compareBytes a b < 0 ↔ Op.bytesLess a b = true
  | [], [] => by simp [Lib.compareBytes, Op.bytesLess]
  | [], _ :: _ => by simp [Lib.compareBytes, Op.bytesLess]
  | _ :: _, [] => by simp [Lib.compareBytes, Op.bytesLess]
  | a :: x, b :: y => by
    have ih := cb_less x y
    unfold Lib.compareBytes Op.bytesLess
    by_cases h1 : a < b
    · simp [h1]
    · by_cases h2 : b < a
      · have h3 : ¬ a = b := fun h => by subst h; exact UInt8.lt_irrefl _ h2
        simp [h1, h2, h3]
      · have h3 : a = b := UInt8.le_antisymm (UInt8.not_lt.1 h2) (UInt8.not_lt.1 h1)
        subst h3
        simp [h1, ih]
theorem cb_eq : ∀ (a b : List UInt8), (Lib.compareBytes a b == 0) = (a == b)
  | [], [] => by simp [Lib.compareBytes]
  | [], _ :: _ => by simp [Lib.compareBytes]
  | _ :: _, [] => by simp [Lib.compareBytes]
  | a :: x, b :: y => by
    have ih := cb_eq x y
    unfold Lib.compareBytes
    by_cases h1 : a < b
    · have h3 : ¬ a = b := fun h => by subst h; exact UInt8.lt_irrefl _ h1
      simp [h1, h3]
    · by_cases h2 : b < a
      · have h3 : ¬ a = b := fun h => by subst h; exact UInt8.lt_irrefl _ h2
        simp [h1, h2, h3]
      · have h3 : a = b := UInt8.le_antisymm (UInt8.not_lt.1 h2) (UInt8.not_lt.1 h1)
        subst h3
        simp [h1, ih]
theorem less_trans : ∀ (a b c : List UInt8), Op.bytesLess a b = true → Op.bytesLess b c = true → Op.bytesLess a c = true
  | [], [], _, h, _ => by simp [Op.bytesLess] at h
  | _, _ :: _, [], _, h => by simp [Op.bytesLess] at h
  | _ :: _, [], _, h, _ => by simp [Op.bytesLess] at h
  | [], _ :: _, _ :: _, _, _ => by simp [Op.bytesLess]
  | a :: x, b :: y, c :: z, h1, h2 => by
    simp only [Op.bytesLess, Bool.or_eq_true, Bool.and_eq_true, decide_eq_true_eq, beq_iff_eq] at h1 h2 ⊢
    rcases h1 with h1 | ⟨rfl, h1⟩
    · rcases h2 with h2 | ⟨rfl, h2⟩
      · exact .inl (UInt8.lt_trans h1 h2)
      · exact .inl h1
    · rcases h2 with h2 | ⟨rfl, h2⟩
      · exact .inl h2
      · exact .inr ⟨rfl, less_trans x y z h1 h2⟩
theorem less_total : ∀ (a b : List UInt8), Op.bytesLess a b = false → (a == b) = false → Op.bytesLess b a = true
  | [], [], _, h => by simp at h
  | [], _ :: _, h, _ => by simp [Op.bytesLess] at h
  | _ :: _, [], _, _ => by simp [Op.bytesLess]
  | a :: x, b :: y, h1, h2 => by
    simp only [Op.bytesLess, Bool.or_eq_false_iff, Bool.or_eq_true, Bool.and_eq_true, decide_eq_true_eq, decide_eq_false_iff_not, beq_iff_eq] at h1 ⊢
    by_cases h3 : b < a
    · exact .inl h3
    · have h4 : a = b := UInt8.le_antisymm (UInt8.not_lt.1 h3) (UInt8.not_lt.1 h1.1)
      subst h4
      refine .inr ⟨rfl, less_total x y ?_ ?_⟩
      · simpa using h1.2
      · simpa using h2

/-- where a key is, or would be -/
def plb (t : ByteArray) (ps : List Pa) : Nat := (ps.takeWhile fun p => decide (Lib.compareBytes p.key.data.toList t.data.toList < 0)).length
def pfd (t : ByteArray) (ps : List Pa) : Bool := match ps[plb t ps]? with | some x => Lib.compareBytes x.key.data.toList t.data.toList == 0 | none => false

theorem rise_lt {a b : Pa} (h : leB b.key a.key = false) : Op.bytesLess a.key.toList b.key.toList = true := by
  unfold leB ltB at h
  rw [Bool.or_eq_false_iff] at h
  exact less_total _ _ h.1 h.2

theorem plb_iff {ps : List Pa} (h : Rise ps) (t : ByteArray) (k : Nat) (x : Pa) (hx : ps[k]? = some x) : Lib.compareBytes x.key.data.toList t.data.toList < 0 ↔ k < plb t ps := by
  have := takeWhile_iff (fun p : Pa => decide (Lib.compareBytes p.key.data.toList t.data.toList < 0)) ps (h.imp fun {a b} hab hb => by
    simp only [decide_eq_true_eq, cb_less] at hb ⊢
    have h1 := rise_lt hab
    rw [Lib.toList_data, Lib.toList_data] at h1
    exact less_trans _ _ _ h1 hb) k x hx
  simpa [plb] using this

theorem kv_place (A : Option Addr) (n c : Nat) (R : Nat → Prop) (ps : List Pa) (t : ByteArray) (w : World) (hr : Reads w R 3 A n (pcs ps)) (hn : n ≤ 100000) (hs : Rise ps) :
    Calls Tryz.prog 166 #[.slice A n c, .string t] w fun e w' => e = .returned (.tuple #[.int .i64 (plb t ps), .bool (pfd t ps)]) ∧ Mod Non w w' := by
  have hl : ps.length = n := by have := hr.1; rw [pcs_length] at this; omega
  have hle : plb t ps ≤ n := by have := takeWhile_le (fun p : Pa => decide (Lib.compareBytes p.key.data.toList t.data.toList < 0)) ps; unfold plb; omega
  have HC := Lib.hid (search_Pk A n c R ps t (plb t ps) (pfd t ps) w hr hn hle (fun k x hx => plb_iff hs t k x hx) (fun x hx => by unfold pfd; rw [hx]) (fun h => by unfold pfd; rw [List.getElem?_eq_none (by omega)]))
  clear hl hle
  go_enter Tryz.func166, Tryz.ntmps166
  go_wp2_with fail
  refine HC.out.mono ?_
  rintro e w1 ⟨rfl, hm1⟩
  go_wp2
  go_ret2
  exact ⟨rfl, hm1⟩
end Go.Proofs.YtdclfdinhdaadaaGreatDoor

/- Package kvone: the contract of Find. -/
namespace Go.Proofs.YtdclfdinhdaadaaGreatDoor
open Go.RowKit

def paZ : Pa := ⟨⟨#[]⟩, ⟨#[]⟩, 0⟩
/-- the pair of a key -/
def pfind (t : ByteArray) (ps : List Pa) : Pa := match (if pfd t ps = true then ps[plb t ps]? else none) with | none => paZ | some x => x

theorem pfd_some {t : ByteArray} {ps : List Pa} (h : pfd t ps = true) : ∃ x, ps[plb t ps]? = some x ∧ x.key.data.toList = t.data.toList := by
  unfold pfd at h
  split at h
  · next x hx => exact ⟨x, hx, by rw [cb_eq] at h; simpa using h⟩
  · cases h

set_option maxRecDepth 100000 in
set_option maxHeartbeats 1000000 in
theorem kv_Find (A : Option Addr) (n c : Nat) (R : Nat → Prop) (ps : List Pa) (t : ByteArray) (w : World) (hr : Reads w R 3 A n (pcs ps)) (hn : n ≤ 100000) (hs : Rise ps) :
    Calls Tryz.prog 153 #[.slice A n c, .string t] w fun e w' => e = .returned (.tuple #[(pfind t ps).v, .bool (pfd t ps)]) ∧ Mod Non w w' := by
  have hl : ps.length = n := by have := hr.1; rw [pcs_length] at this; omega
  have hm0 := (Mod.refl Non w).alloc (.cells #[.string ⟨#[]⟩, .string ⟨#[]⟩, .int .i64 0] 42)
  have z0 := Blk.new w 42 #[.string ⟨#[]⟩, .string ⟨#[]⟩, .int .i64 0]
  have HC := Lib.hid (kv_place A n c R ps t _ (hr.mod hm0 fun _ _ _ h => h) hn hs)
  obtain ⟨sw, hsw⟩ : ∃ sw, sw = pfind t ps := ⟨_, rfl⟩
  rw [← hsw]
  by_cases hfd : pfd t ps = true
  · obtain ⟨x, hx, hxc⟩ := pfd_some hfd
    unfold pfind at hsw
    rw [if_pos hfd, hx] at hsw
    simp only at hsw
    rw [hfd] at HC ⊢
    have hmn : plb t ps < n := by have := (List.getElem?_eq_some_iff.1 hx).1; omega
    obtain ⟨m, hm⟩ : ∃ m, m = plb t ps := ⟨_, rfl⟩
    rw [← hm] at HC hmn hx
    have hmi : (m : Int) < n := by omega
    have HS := Lib.hid hsw
    clear hsw hm hfd hl
    go_enter Tryz.func153, Tryz.ntmps153
    go_wp2_with fail
    refine HC.out.mono ?_
    rintro e w1 ⟨rfl, hm1⟩
    have z1 := z0.mod hm1 (fun h => h)
    have hm01 := hm0.trans' hm1
    have hrr := hr.mod hm01 fun _ _ _ h => h
    obtain ⟨b, off, y, hA, hbk, _, hpk, d0, d1, d2⟩ := hrr.pa hmn
    rw [hx] at hpk
    injection hpk with hpk
    subst hpk
    subst hA
    obtain ⟨key, val, rv⟩ := x
    simp only at d0 d1 d2
    have c0 := z1.cell 0
    have c1 := z1.cell 1
    have c2 := z1.cell 2
    have f0 := z1.frozen 0
    have f1 := z1.frozen 1
    have f2 := z1.frozen 2
    simp at c0 c1 c2
    clear hx hxc hrr hm1 z0 hm0
    go_wp2_with fail
    have r5 := (((z1.set_ 0 (.string key)).set_ 1 (.string val)).set_ 2 (.int .i64 rv))
    refine bodyPost_ret (results_row_tmp rfl _ _ w.heap.size 42 #[.string key, .string val, .int .i64 rv] (0, 0) _ rfl r5 Tryz.underlying42 rfl (by kernel_rfl)) rfl ?_
    rw [HS.out]
    exact ⟨rfl, (((hm01.setNew (Nat.le_refl _) _ _).setNew (Nat.le_refl _) _ _).setNew (Nat.le_refl _) _ _)⟩
  · rw [Bool.not_eq_true] at hfd
    unfold pfind at hsw
    rw [hfd] at hsw HC ⊢
    simp only [Bool.false_eq_true, if_false] at hsw
    have HS := Lib.hid hsw
    clear hsw hl
    go_enter Tryz.func153, Tryz.ntmps153
    go_wp2_with fail
    refine HC.out.mono ?_
    rintro e w1 ⟨rfl, hm1⟩
    have z1 := z0.mod hm1 (fun h => h)
    have hm01 := hm0.trans' hm1
    have c0 := z1.cell 0
    have c1 := z1.cell 1
    have c2 := z1.cell 2
    have f0 := z1.frozen 0
    have f1 := z1.frozen 1
    have f2 := z1.frozen 2
    simp at c0 c1 c2
    clear hm1 z0 hm0
    go_wp2_with fail
    have r5 := ((z1.set_ 0 (.string ⟨#[]⟩)).set_ 1 (.string ⟨#[]⟩)).set_ 2 (.int .i64 0)
    refine bodyPost_ret (results_row_tmp rfl _ _ w.heap.size 42 #[.string ⟨#[]⟩, .string ⟨#[]⟩, .int .i64 0] (0, 0) _ rfl r5 Tryz.underlying42 rfl (by kernel_rfl)) rfl ?_
    rw [HS.out]
    exact ⟨rfl, ((hm01.setNew (Nat.le_refl _) _ _).setNew (Nat.le_refl _) _ _).setNew (Nat.le_refl _) _ _⟩
end Go.Proofs.YtdclfdinhdaadaaGreatDoor

/- What compares pairs (kvtwo.set$1). -/
namespace Go.Proofs.YtdclfdinhdaadaaGreatDoor
open Go.RowKit

theorem less_asymm (a b : List UInt8) (h : Op.bytesLess a b = true) : Op.bytesLess b a = false := by
  cases h2 : Op.bytesLess b a
  · rfl
  · have h3 := less_trans a b a h h2
    rw [← cb_less] at h3
    have h4 := cb_eq a a
    simp at h4
    omega
theorem cb_three (a b : List UInt8) : Lib.compareBytes a b = if Op.bytesLess a b = true then -1 else if Op.bytesLess b a = true then 1 else 0 := by
  have key : ∀ (a b : List UInt8), Lib.compareBytes a b = -1 ∨ Lib.compareBytes a b = 0 ∨ Lib.compareBytes a b = 1 := by
    intro a
    induction a with
    | nil => intro b; cases b <;> simp [Lib.compareBytes]
    | cons x a ih =>
      intro b
      cases b with
      | nil => simp [Lib.compareBytes]
      | cons y b =>
        unfold Lib.compareBytes
        split
        · exact .inl rfl
        · split
          · exact .inr (.inr rfl)
          · exact ih b
  have h1 := cb_less a b
  have h2 := cb_eq a b
  by_cases hl : Op.bytesLess a b = true
  · rw [if_pos hl]
    rw [← h1] at hl
    rcases key a b with h | h | h <;> omega
  · rw [if_neg hl]
    by_cases he : a = b
    · subst he
      rw [if_neg (by intro h; exact hl h)]
      simpa using h2
    · have hne : (a == b) = false := by simpa using he
      rw [if_pos (less_total a b (by simpa using hl) hne)]
      rw [hne] at h2
      have h2' : ¬ Lib.compareBytes a b = 0 := by simpa using h2
      rw [← h1] at hl
      rcases key a b with h | h | h <;> omega

theorem pp_cmp (x t : Pa) (w : World) : Calls Tryz.prog 170 #[x.v, t.v] w fun e w' => e = .returned (.int .i64 (Lib.compareBytes x.key.data.toList t.key.data.toList)) ∧ Mod Non w w' := by
  obtain ⟨key, val, rv⟩ := x
  obtain ⟨tk, tv, tr⟩ := t
  have hc := cb_three key.data.toList tk.data.toList
  obtain ⟨r, hr⟩ : ∃ r, r = Lib.compareBytes key.data.toList tk.data.toList := ⟨_, rfl⟩
  simp only
  rw [← hr] at hc ⊢
  rw [← Lib.toList_data, ← Lib.toList_data] at hc
  by_cases h1 : Op.bytesLess key.toList tk.toList = true
  · rw [if_pos h1] at hc
    subst hc
    clear hr
    go_enter Tryz.func170, Tryz.ntmps170
    go_wp2
    go_ret
    exact ⟨rfl, ((Mod.refl _ _).alloc _).alloc _⟩
  · rw [if_neg h1] at hc
    rw [Bool.not_eq_true] at h1
    by_cases h2 : Op.bytesLess tk.toList key.toList = true
    · rw [if_pos h2] at hc
      subst hc
      have h3 : (key.toList == tk.toList) = false := by
        cases h4 : (key.toList == tk.toList)
        · rfl
        · have h5 : key.toList = tk.toList := by simpa using h4
          rw [h5] at h1 h2
          rw [h1] at h2
          cases h2
      clear hr
      go_enter Tryz.func170, Tryz.ntmps170
      go_wp2
      go_ret
      exact ⟨rfl, ((Mod.refl _ _).alloc _).alloc _⟩
    · rw [if_neg h2] at hc
      subst hc
      have h3 : (key.toList == tk.toList) = true := by
        cases h4 : (key.toList == tk.toList)
        · exact absurd (less_total _ _ h1 h4) h2
        · rfl
      rw [Bool.not_eq_true] at h2
      clear hr
      go_enter Tryz.func170, Tryz.ntmps170
      go_wp2
      go_ret
      exact ⟨rfl, ((Mod.refl _ _).alloc _).alloc _⟩
end Go.Proofs.YtdclfdinhdaadaaGreatDoor

/- slices.BinarySearchFunc at pairs by a pair. -/
namespace Go.Proofs.YtdclfdinhdaadaaGreatDoor
open Go.RowKit

set_option maxRecDepth 100000 in
set_option maxHeartbeats 1000000 in
theorem search_Pp (A : Option Addr) (n c : Nat) (R : Nat → Prop) (xs : List Pa) (t : Pa) (m : Nat) (fd : Bool) (w : World) (hr : Reads w R 3 A n (pcs xs)) (hn : n ≤ 100000) (hmn : m ≤ n)
    (hm : ∀ (k : Nat) (x : Pa), xs[k]? = some x → (Lib.compareBytes x.key.data.toList t.key.data.toList < 0 ↔ k < m))
    (hf : ∀ (x : Pa), xs[m]? = some x → fd = (Lib.compareBytes x.key.data.toList t.key.data.toList == 0)) (hf0 : n ≤ m → fd = false) :
    Calls Tryz.prog 169 #[.slice A n c, t.v, .func (.func 170) #[] #[]] w fun e w' => e = .returned (.tuple #[.int .i64 m, .bool fd]) ∧ Mod Non w w' := by
  have HM := Lib.hid hm
  have hln : xs.length = n := by have := hr.1; rw [pcs_length] at this; omega
  have HLN := Lib.hid hln
  have HF := Lib.hid hf
  have HF0 := Lib.hid hf0
  clear hm hln hf hf0
  obtain ⟨tk, tv, tr⟩ := t
  have hm0 := (Mod.refl Non w).alloc (.cells #[.string tk, .string tv, .int .i64 tr] 42)
  have z0 := Blk.new w 42 #[.string tk, .string tv, .int .i64 tr]
  go_enter Tryz.func169, Tryz.ntmps169
  go_wp2_with fail
  go_loopw [9, 10] (fun i j wr => ∃ p q : Nat, p ≤ m ∧ m ≤ q ∧ q ≤ n ∧ i = .int .i64 p ∧ j = .int .i64 q ∧ Mod Non (w.alloc (.cells #[.string tk, .string tv, .int .i64 tr] 42)) wr) (fun i j _ => (intOf j).toNat - (intOf i).toNat)
  case atStart => exact ⟨0, n, by omega, hmn, by omega, rfl, rfl, Mod.refl _ _⟩
  case round =>
    obtain ⟨p, q, h1, h2, h3, rfl, rfl, hmd⟩ := hrel
    by_cases hlt : p < q
    · have hpq : (p : Int) < q := by omega
      have hh : (p + q) / 2 < n := by omega
      have hrr := hr.mod (hm0.trans' hmd) fun _ _ _ h => h
      have z1 := z0.mod hmd (fun h => h)
      have t0 := z1.cell 0
      have t1 := z1.cell 1
      have t2 := z1.cell 2
      simp at t0 t1 t2
      obtain ⟨b, off, x, hA, hbk, _, hpk, d0, d1, d2⟩ := hrr.pa hh
      subst hA
      have e1 : IntKind.i64.wrap ((p : Int) + q) = (p : Int) + q := by rw [IntKind.wrap_i64]; omega
      have HMM := Lib.hid (HM.out _ _ hpk)
      have HMD := Lib.hid hmd
      clear hpk hmd hrr
      have g1 : (0 : Int) ≤ ((p : Int) + q) / 2 := by omega
      have g2 : ((p : Int) + q) / 2 < (n : Int) := by omega
      have g3 : (((p : Int) + q) / 2).toNat = (p + q) / 2 := by omega
      obtain ⟨key, val, rv⟩ := x
      simp only at d0 d1 d2 HMM
      have hzl := z1.lt
      go_wp2_with fail
      refine wp_region_held_drew (S := (fun w' => w'.cell? ⟨b, off + ((p + q) / 2) * 3, none⟩ = some (.string key) ∧ w'.cell? ⟨b, off + ((p + q) / 2) * 3 + 1, none⟩ = some (.string val) ∧ w'.cell? ⟨b, off + ((p + q) / 2) * 3 + 2, none⟩ = some (.int .i64 rv) ∧ w'.cell? ⟨w.heap.size, 0, none⟩ = some (.string tk) ∧ w'.cell? ⟨w.heap.size, 1, none⟩ = some (.string tv) ∧ w'.cell? ⟨w.heap.size, 2, none⟩ = some (.int .i64 tr) ∧ Mod Non wr w')) (by kernel_rfl) (⟨by simpa using d0, by simpa using d1, by simpa using d2, by simpa using t0, by simpa using t1, by simpa using t2, (Mod.refl _ _).drew⟩) (fun hHeld => ?_)
      refine take_run (i := 0) (some 24) rfl rfl (by kernel_rfl) (by kernel_rfl) (by kernel_rfl) (fun _ _ _ h => h) rfl (by assumption) (by intro w hSw; (try dsimp only at hSw); go_simp; (try with_reducible rfl)) ?_
      simp only [Act.put, List.setIfInBounds_toArray, List.set_cons_zero, List.set_cons_succ]
      refine take_run (i := 1) (some 25) rfl rfl (by kernel_rfl) (by kernel_rfl) (by kernel_rfl) (fun _ _ _ h => h) rfl (by assumption) (by intro w hSw; (try dsimp only at hSw); go_simp; (try with_reducible rfl)) ?_
      simp only [Act.put, List.setIfInBounds_toArray, List.set_cons_zero, List.set_cons_succ]
      refine take_run (i := 2) (some 26) rfl rfl (by kernel_rfl) (by kernel_rfl) (by kernel_rfl) (fun _ _ _ h => h) rfl (by assumption) (by intro w hSw; (try dsimp only at hSw); go_simp; (try with_reducible rfl)) ?_
      simp only [Act.put, List.setIfInBounds_toArray, List.set_cons_zero, List.set_cons_succ]
      refine take_run (i := 3) (some 27) rfl rfl (by kernel_rfl) (by kernel_rfl) (by kernel_rfl) (fun _ _ _ h => h) rfl (by assumption) (by intro w hSw; (try dsimp only at hSw); go_simp; (try with_reducible rfl)) ?_
      simp only [Act.put, List.setIfInBounds_toArray, List.set_cons_zero, List.set_cons_succ]
      refine take_run (i := 4) (some 28) rfl rfl (by kernel_rfl) (by kernel_rfl) (by kernel_rfl) (fun _ _ _ h => h) rfl (by assumption) (by intro w hSw; (try dsimp only at hSw); go_simp; (try with_reducible rfl)) ?_
      simp only [Act.put, List.setIfInBounds_toArray, List.set_cons_zero, List.set_cons_succ]
      refine take_run (i := 5) (some 29) rfl rfl (by kernel_rfl) (by kernel_rfl) (by kernel_rfl) (fun _ _ _ h => h) rfl (by assumption) (by intro w hSw; (try dsimp only at hSw); go_simp; (try with_reducible rfl)) ?_
      simp only [Act.put, List.setIfInBounds_toArray, List.set_cons_zero, List.set_cons_succ]
      refine wpAnyH_ready (rs := [6]) (by kernel_rfl) (by simp) ?_
      refine AllReadyH.cons rfl (fun K hK => ?_) AllReadyH.nil
      go_simp
      refine (pp_cmp ⟨key, val, rv⟩ ⟨tk, tv, tr⟩ _).mono ?_
      rintro e w1 ⟨rfl, hm1⟩
      have hmq := hHeld.2.2.2.2.2.2.trans' hm1
      clear hHeld
      refine hK.out _ _ (⟨(hmq.cell (p := ⟨b, off + ((p + q) / 2) * 3, none⟩) hbk (fun h => h)).trans d0, (hmq.cell (p := ⟨b, off + ((p + q) / 2) * 3 + 1, none⟩) hbk (fun h => h)).trans d1, (hmq.cell (p := ⟨b, off + ((p + q) / 2) * 3 + 2, none⟩) hbk (fun h => h)).trans d2, (hmq.cell (p := ⟨w.heap.size, 0, none⟩) hzl (fun h => h)).trans t0, (hmq.cell (p := ⟨w.heap.size, 1, none⟩) hzl (fun h => h)).trans t1, (hmq.cell (p := ⟨w.heap.size, 2, none⟩) hzl (fun h => h)).trans t2, hmq⟩) (fun hHeld => ?_)
      clear hK K
      refine take_run (i := 7) (some 31) rfl rfl (by kernel_rfl) (by kernel_rfl) (by kernel_rfl) (fun _ _ _ h => h) rfl (by assumption) (by intro w hSw; (try dsimp only at hSw); go_simp; (try with_reducible rfl)) ?_
      simp only [Act.put, List.setIfInBounds_toArray, List.set_cons_zero, List.set_cons_succ]
      refine wpAnyH_done (by kernel_rfl) ?_ _
      have HM1 := Lib.hid (HMD.out.trans' hHeld.2.2.2.2.2.2)
      clear hHeld
      by_cases hc : Lib.compareBytes key.data.toList tk.data.toList < 0
      · have hlm := HMM.out.1 hc
        go_wp2_with fail
        go_roundw
        case rel => exact ⟨(p + q) / 2 + 1, q, by omega, h2, h3, by first | go_num | (congr 1; omega), rfl, HM1.out⟩
        case measure => simp [intOf]; omega
      · have hlm : ¬ (p + q) / 2 < m := fun h => hc (HMM.out.2 h)
        go_wp2_with fail
        go_roundw
        case rel => exact ⟨p, (p + q) / 2, h1, by omega, by omega, rfl, by first | go_num | (congr 1; omega), HM1.out⟩
        case measure => simp [intOf]; omega
    · have hpq : ¬ (p : Int) < q := by omega
      have hpm : p = m := by omega
      subst hpm
      by_cases hmn2 : p < n
      · have hmi : (p : Int) < n := by omega
        have hmd2 : decide ((p : Int) < n) = true := by simpa using hmi
        have hmd3 : decide (p < n) = true := by simpa using hmn2
        have hrr := hr.mod (hm0.trans' hmd) fun _ _ _ h => h
        have z1 := z0.mod hmd (fun h => h)
        have t0 := z1.cell 0
        have t1 := z1.cell 1
        have t2 := z1.cell 2
        simp at t0 t1 t2
        obtain ⟨b, off, x, hA, hbk, _, hpk, d0, d1, d2⟩ := hrr.pa hmn2
        subst hA
        have HPK := Lib.hid hpk
        have HMD := Lib.hid hmd
        clear hpk hmd hrr
        obtain ⟨key, val, rv⟩ := x
        simp only at d0 d1 d2
        have hzl := z1.lt
        have hpn : ((p : Int)).toNat = p := by omega
        have hp0 : (0 : Int) ≤ (p : Int) := by omega
        go_wp2_with fail
        refine wp_region_held_drew (S := (fun w' => w'.cell? ⟨b, off + p * 3, none⟩ = some (.string key) ∧ w'.cell? ⟨b, off + p * 3 + 1, none⟩ = some (.string val) ∧ w'.cell? ⟨b, off + p * 3 + 2, none⟩ = some (.int .i64 rv) ∧ w'.cell? ⟨w.heap.size, 0, none⟩ = some (.string tk) ∧ w'.cell? ⟨w.heap.size, 1, none⟩ = some (.string tv) ∧ w'.cell? ⟨w.heap.size, 2, none⟩ = some (.int .i64 tr) ∧ Mod Non wr w')) (by kernel_rfl) (⟨by simpa using d0, by simpa using d1, by simpa using d2, by simpa using t0, by simpa using t1, by simpa using t2, (Mod.refl _ _).drew⟩) (fun hHeld => ?_)
        refine take_run (i := 0) (some 35) rfl rfl (by kernel_rfl) (by kernel_rfl) (by kernel_rfl) (fun _ _ _ h => h) rfl (by assumption) (by intro w hSw; (try dsimp only at hSw); go_simp; (try with_reducible rfl)) ?_
        simp only [Act.put, List.setIfInBounds_toArray, List.set_cons_zero, List.set_cons_succ]
        refine take_run (i := 1) (some 36) rfl rfl (by kernel_rfl) (by kernel_rfl) (by kernel_rfl) (fun _ _ _ h => h) rfl (by assumption) (by intro w hSw; (try dsimp only at hSw); go_simp; (try with_reducible rfl)) ?_
        simp only [Act.put, List.setIfInBounds_toArray, List.set_cons_zero, List.set_cons_succ]
        refine take_run (i := 2) (some 37) rfl rfl (by kernel_rfl) (by kernel_rfl) (by kernel_rfl) (fun _ _ _ h => h) rfl (by assumption) (by intro w hSw; (try dsimp only at hSw); go_simp; (try with_reducible rfl)) ?_
        simp only [Act.put, List.setIfInBounds_toArray, List.set_cons_zero, List.set_cons_succ]
        refine take_run (i := 3) (some 38) rfl rfl (by kernel_rfl) (by kernel_rfl) (by kernel_rfl) (fun _ _ _ h => h) rfl (by assumption) (by intro w hSw; (try dsimp only at hSw); go_simp; (try with_reducible rfl)) ?_
        simp only [Act.put, List.setIfInBounds_toArray, List.set_cons_zero, List.set_cons_succ]
        refine take_run (i := 4) (some 39) rfl rfl (by kernel_rfl) (by kernel_rfl) (by kernel_rfl) (fun _ _ _ h => h) rfl (by assumption) (by intro w hSw; (try dsimp only at hSw); go_simp; (try with_reducible rfl)) ?_
        simp only [Act.put, List.setIfInBounds_toArray, List.set_cons_zero, List.set_cons_succ]
        refine take_run (i := 5) (some 40) rfl rfl (by kernel_rfl) (by kernel_rfl) (by kernel_rfl) (fun _ _ _ h => h) rfl (by assumption) (by intro w hSw; (try dsimp only at hSw); go_simp; (try with_reducible rfl)) ?_
        simp only [Act.put, List.setIfInBounds_toArray, List.set_cons_zero, List.set_cons_succ]
        refine take_run (i := 6) (some 41) rfl rfl (by kernel_rfl) (by kernel_rfl) (by kernel_rfl) (fun _ _ _ h => h) rfl (by assumption) (by intro w hSw; (try dsimp only at hSw); go_simp; (try with_reducible rfl)) ?_
        simp only [Act.put, List.setIfInBounds_toArray, List.set_cons_zero, List.set_cons_succ]
        refine take_run (i := 7) (some 42) rfl rfl (by kernel_rfl) (by kernel_rfl) (by kernel_rfl) (fun _ _ _ h => h) rfl (by assumption) (by intro w hSw; (try dsimp only at hSw); go_simp; (try with_reducible rfl)) ?_
        simp only [Act.put, List.setIfInBounds_toArray, List.set_cons_zero, List.set_cons_succ]
        refine take_run (i := 8) (some 43) rfl rfl (by kernel_rfl) (by kernel_rfl) (by kernel_rfl) (fun _ _ _ h => h) rfl (by assumption) (by intro w hSw; (try dsimp only at hSw); go_simp; (try with_reducible rfl)) ?_
        simp only [Act.put, List.setIfInBounds_toArray, List.set_cons_zero, List.set_cons_succ]
        refine take_run (i := 9) (some 44) rfl rfl (by kernel_rfl) (by kernel_rfl) (by kernel_rfl) (fun _ _ _ h => h) rfl (by assumption) (by intro w hSw; (try dsimp only at hSw); go_simp; (try with_reducible rfl)) ?_
        simp only [Act.put, List.setIfInBounds_toArray, List.set_cons_zero, List.set_cons_succ]
        refine take_run (i := 10) (some 45) rfl rfl (by kernel_rfl) (by kernel_rfl) (by kernel_rfl) (fun _ _ _ h => h) rfl (by assumption) (by intro w hSw; (try dsimp only at hSw); go_simp; (try with_reducible rfl)) ?_
        simp only [Act.put, List.setIfInBounds_toArray, List.set_cons_zero, List.set_cons_succ]
        refine wpAnyH_ready (rs := [11]) (by kernel_rfl) (by simp) ?_
        refine AllReadyH.cons rfl (fun K hK => ?_) AllReadyH.nil
        go_simp
        refine (pp_cmp ⟨key, val, rv⟩ ⟨tk, tv, tr⟩ _).mono ?_
        rintro e w1 ⟨rfl, hm1⟩
        have hmq := hHeld.2.2.2.2.2.2.trans' hm1
        clear hHeld
        refine hK.out _ _ (⟨(hmq.cell (p := ⟨b, off + p * 3, none⟩) hbk (fun h => h)).trans d0, (hmq.cell (p := ⟨b, off + p * 3 + 1, none⟩) hbk (fun h => h)).trans d1, (hmq.cell (p := ⟨b, off + p * 3 + 2, none⟩) hbk (fun h => h)).trans d2, (hmq.cell (p := ⟨w.heap.size, 0, none⟩) hzl (fun h => h)).trans t0, (hmq.cell (p := ⟨w.heap.size, 1, none⟩) hzl (fun h => h)).trans t1, (hmq.cell (p := ⟨w.heap.size, 2, none⟩) hzl (fun h => h)).trans t2, hmq⟩) (fun hHeld => ?_)
        clear hK K
        refine take_run (i := 12) (some 47) rfl rfl (by kernel_rfl) (by kernel_rfl) (by kernel_rfl) (fun _ _ _ h => h) rfl (by assumption) (by intro w hSw; (try dsimp only at hSw); go_simp; (try with_reducible rfl)) ?_
        simp only [Act.put, List.setIfInBounds_toArray, List.set_cons_zero, List.set_cons_succ]
        refine take_run (i := 13) (some 48) rfl rfl (by kernel_rfl) (by kernel_rfl) (by kernel_rfl) (fun _ _ _ h => h) rfl (by assumption) (by intro w hSw; (try dsimp only at hSw); go_simp; (try with_reducible rfl)) ?_
        simp only [Act.put, List.setIfInBounds_toArray, List.set_cons_zero, List.set_cons_succ]
        refine take_run (i := 14) (some 6) rfl rfl (by kernel_rfl) (by kernel_rfl) (by kernel_rfl) (fun _ _ _ h => h) rfl (by assumption) (by intro w hSw; (try dsimp only at hSw); go_simp; (try with_reducible rfl)) ?_
        simp only [Act.put, List.setIfInBounds_toArray, List.set_cons_zero, List.set_cons_succ]
        refine take_run (i := 15) (some 7) rfl rfl (by kernel_rfl) (by kernel_rfl) (by kernel_rfl) (fun _ _ _ h => h) rfl (by assumption) (by intro w hSw; (try dsimp only at hSw); go_simp; (try with_reducible rfl)) ?_
        simp only [Act.put, List.setIfInBounds_toArray, List.set_cons_zero, List.set_cons_succ]
        refine wpAnyH_done (by kernel_rfl) ?_ _
        have HM1 := Lib.hid (HMD.out.trans' hHeld.2.2.2.2.2.2)
        clear hHeld
        go_wp2_with fail
        go_ret2
        refine ⟨?_, hm0.trans' HM1.out⟩
        rw [HF.out _ HPK.out]
        rfl
      · have hmi : ¬ (p : Int) < n := by omega
        have hmd2 : decide ((p : Int) < n) = false := by simpa using hmi
        have hmd3 : decide (p < n) = false := by simpa using hmn2
        go_wp2_with fail
        refine wp_region_held_drew (S := (fun w' => Mod Non wr w')) (by kernel_rfl) ((Mod.refl _ _).drew) (fun hHeld => ?_)
        refine take_run (i := 0) (some 35) rfl rfl (by kernel_rfl) (by kernel_rfl) (by kernel_rfl) (fun _ _ _ h => h) rfl (by assumption) (by intro w hSw; (try dsimp only at hSw); go_simp; (try with_reducible rfl)) ?_
        simp only [Act.put, List.setIfInBounds_toArray, List.set_cons_zero, List.set_cons_succ]
        refine take_run (i := 1) (some 36) rfl rfl (by kernel_rfl) (by kernel_rfl) (by kernel_rfl) (fun _ _ _ h => h) rfl (by assumption) (by intro w hSw; (try dsimp only at hSw); go_simp; (try with_reducible rfl)) ?_
        simp only [Act.put, List.setIfInBounds_toArray, List.set_cons_zero, List.set_cons_succ]
        refine take_run (i := 2) (some 37) rfl rfl (by kernel_rfl) (by kernel_rfl) (by kernel_rfl) (fun _ _ _ h => h) rfl (by assumption) (by intro w hSw; (try dsimp only at hSw); go_simp; (try with_reducible rfl)) ?_
        simp only [Act.put, List.setIfInBounds_toArray, List.set_cons_zero, List.set_cons_succ]
        refine take_run (i := 3) (some 38) rfl rfl (by kernel_rfl) (by kernel_rfl) (by kernel_rfl) (fun _ _ _ h => h) rfl (by assumption) (by intro w hSw; (try dsimp only at hSw); go_simp; (try with_reducible rfl)) ?_
        simp only [Act.put, List.setIfInBounds_toArray, List.set_cons_zero, List.set_cons_succ]
        refine take_run (i := 4) (some 39) rfl rfl (by kernel_rfl) (by kernel_rfl) (by kernel_rfl) (fun _ _ _ h => h) rfl (by assumption) (by intro w hSw; (try dsimp only at hSw); go_simp; (try with_reducible rfl)) ?_
        simp only [Act.put, List.setIfInBounds_toArray, List.set_cons_zero, List.set_cons_succ]
        refine take_skip (i := 5) (some 40) rfl rfl (by kernel_rfl) (by kernel_rfl) (by kernel_rfl) (fun _ _ _ h => h) rfl (by assumption) ?_
        simp only [Act.put, List.setIfInBounds_toArray, List.set_cons_zero, List.set_cons_succ]
        refine take_skip (i := 6) (some 41) rfl rfl (by kernel_rfl) (by kernel_rfl) (by kernel_rfl) (fun _ _ _ h => h) rfl (by assumption) ?_
        simp only [Act.put, List.setIfInBounds_toArray, List.set_cons_zero, List.set_cons_succ]
        refine take_skip (i := 7) (some 42) rfl rfl (by kernel_rfl) (by kernel_rfl) (by kernel_rfl) (fun _ _ _ h => h) rfl (by assumption) ?_
        simp only [Act.put, List.setIfInBounds_toArray, List.set_cons_zero, List.set_cons_succ]
        refine take_skip (i := 8) (some 43) rfl rfl (by kernel_rfl) (by kernel_rfl) (by kernel_rfl) (fun _ _ _ h => h) rfl (by assumption) ?_
        simp only [Act.put, List.setIfInBounds_toArray, List.set_cons_zero, List.set_cons_succ]
        refine take_skip (i := 9) (some 44) rfl rfl (by kernel_rfl) (by kernel_rfl) (by kernel_rfl) (fun _ _ _ h => h) rfl (by assumption) ?_
        simp only [Act.put, List.setIfInBounds_toArray, List.set_cons_zero, List.set_cons_succ]
        refine take_skip (i := 10) (some 45) rfl rfl (by kernel_rfl) (by kernel_rfl) (by kernel_rfl) (fun _ _ _ h => h) rfl (by assumption) ?_
        simp only [Act.put, List.setIfInBounds_toArray, List.set_cons_zero, List.set_cons_succ]
        refine take_skip (i := 11) (some 46) rfl rfl (by kernel_rfl) (by kernel_rfl) (by kernel_rfl) (fun _ _ _ h => h) rfl (by assumption) ?_
        simp only [Act.put, List.setIfInBounds_toArray, List.set_cons_zero, List.set_cons_succ]
        refine take_skip (i := 12) (some 47) rfl rfl (by kernel_rfl) (by kernel_rfl) (by kernel_rfl) (fun _ _ _ h => h) rfl (by assumption) ?_
        simp only [Act.put, List.setIfInBounds_toArray, List.set_cons_zero, List.set_cons_succ]
        refine take_run (i := 13) (some 48) rfl rfl (by kernel_rfl) (by kernel_rfl) (by kernel_rfl) (fun _ _ _ h => h) rfl (by assumption) (by intro w hSw; (try dsimp only at hSw); go_simp; (try with_reducible rfl)) ?_
        simp only [Act.put, List.setIfInBounds_toArray, List.set_cons_zero, List.set_cons_succ]
        refine take_run (i := 14) (some 6) rfl rfl (by kernel_rfl) (by kernel_rfl) (by kernel_rfl) (fun _ _ _ h => h) rfl (by assumption) (by intro w hSw; (try dsimp only at hSw); go_simp; (try with_reducible rfl)) ?_
        simp only [Act.put, List.setIfInBounds_toArray, List.set_cons_zero, List.set_cons_succ]
        refine take_run (i := 15) (some 7) rfl rfl (by kernel_rfl) (by kernel_rfl) (by kernel_rfl) (fun _ _ _ h => h) rfl (by assumption) (by intro w hSw; (try dsimp only at hSw); go_simp; (try with_reducible rfl)) ?_
        simp only [Act.put, List.setIfInBounds_toArray, List.set_cons_zero, List.set_cons_succ]
        refine wpAnyH_done (by kernel_rfl) ?_ _
        have HM1 := Lib.hid (hm0.trans' (hmd.trans' hHeld))
        clear hHeld
        go_wp2_with fail
        go_ret2
        refine ⟨?_, HM1.out⟩
        rw [HF0.out (by omega)]
        rfl

end Go.Proofs.YtdclfdinhdaadaaGreatDoor

/- Package migr: Up at a state of V2 answers an error. -/
namespace Go.Proofs.YtdclfdinhdaadaaGreatDoor
open Go.RowKit

set_option maxRecDepth 100000 in
set_option maxHeartbeats 1000000 in
theorem migr_Up2 (ps : List Pa) (ss : List Se) (A1 A2 : Option Addr) (n1 c1 n2 c2 : Nat) (R1 R2 : Nat → Prop) (w : World) (h1 : Reads w R1 3 A1 n1 (pcs ps)) (h2 : Reads w R2 8 A2 n2 (ecs ss)) (hok : St.Ok ⟨2, ps, ss⟩) (hT : T8 w) :
    Calls Tryz.prog 37 #[stv 2 (.slice A1 n1 c1) (.slice A2 n2 c2)] w fun e w' => e = .returned (.tuple #[stv 0 (.slice none 0 0) (.slice none 0 0), .int .i64 12]) ∧ Mod Non w w' := by
  go_enter Tryz.func37, Tryz.ntmps37
  go_wp2_with fail
  have hm0 := ((Mod.refl Non w).alloc (.cells #[.int .i64 2, .slice A1 n1 c1, .slice A2 n2 c2] 25)).alloc (.cells #[.int .i64 0, .slice none 0 0, .slice none 0 0] 25)
  have b0 := (Blk.new w 25 #[.int .i64 2, .slice A1 n1 c1, .slice A2 n2 c2]).alloc (.cells #[.int .i64 0, .slice none 0 0, .slice none 0 0] 25)
  have r0 := Blk.new1 w (.cells #[.int .i64 2, .slice A1 n1 c1, .slice A2 n2 c2] 25) 25 #[.int .i64 0, .slice none 0 0, .slice none 0 0]
  refine (migr_Check ⟨2, ps, ss⟩ A1 A2 n1 c1 n2 c2 R1 R2 _ (h1.mod hm0 fun _ _ _ h => h) (h2.mod hm0 fun _ _ _ h => h) hok (hT.non hm0)).mono ?_
  rintro e w1 ⟨rfl, hm1⟩
  have b1 := b0.mod hm1 (fun h => h)
  have r1 := r0.mod hm1 (fun h => h)
  have hm01 := hm0.trans' hm1
  have e10 := b1.cell 0
  have c0 := r1.cell 0
  have c1' := r1.cell 1
  have c2' := r1.cell 2
  have f0 := r1.frozen 0
  have f1 := r1.frozen 1
  have f2 := r1.frozen 2
  simp at e10 c0 c1' c2'
  clear hm0 hm1 b0 r0
  go_wp2_with fail
  have r5 := ((r1.set_ 0 (.int .i64 0)).set_ 1 (.slice none 0 0)).set_ 2 (.slice none 0 0)
  refine bodyPost_ret (results_row_tmp rfl _ _ (w.heap.size + 1) 25 #[.int .i64 0, .slice none 0 0, .slice none 0 0] (0, 0) _ rfl r5 Tryz.underlying25 rfl (by kernel_rfl)) rfl ?_
  exact ⟨rfl, ((hm01.setNew (by omega) _ _).setNew (by omega) _ _).setNew (by omega) _ _⟩
end Go.Proofs.YtdclfdinhdaadaaGreatDoor

/- Package kvtwo: the contract of next. -/
namespace Go.Proofs.YtdclfdinhdaadaaGreatDoor
open Go.RowKit

/-- the revision behind another one -/
def rnext (r : Int) : Int := if r ≤ 4294967295 then r + 1 else 4294967296

theorem kvtwo_next (r : Int) (h1 : 0 ≤ r) (h2 : r ≤ 4294967296) (w : World) : Calls Tryz.prog 158 #[.int .i64 r] w fun e w' => e = .returned (.int .i64 (rnext r)) ∧ w = w' := by
  obtain ⟨q, hq⟩ : ∃ q, q = rnext r := ⟨_, rfl⟩
  rw [← hq]
  unfold rnext at hq
  by_cases h : r ≤ 4294967295
  · rw [if_pos h] at hq
    subst hq
    have hmin : min r 4294967295 = r := by omega
    go_enter Tryz.func158, Tryz.ntmps158
    go_wp2
    go_ret
    exact ⟨rfl, rfl⟩
  · rw [if_neg h] at hq
    subst hq
    have hr : r = 4294967296 := by omega
    subst hr
    go_enter Tryz.func158, Tryz.ntmps158
    go_wp2
    go_ret
    exact ⟨rfl, rfl⟩
end Go.Proofs.YtdclfdinhdaadaaGreatDoor

/- Package app: the contract of of. -/
namespace Go.Proofs.YtdclfdinhdaadaaGreatDoor
open Go.RowKit

theorem run_store_func (W : World) (g i : Nat) (f : Nat) (v0 : Value) (hc : W.cell? ⟨g, i, none⟩ = some v0) (hf : W.frozen? ⟨g, i, none⟩ = false) :
    (store ⟨g, i, none⟩ (.func (.func f) #[] #[])).run Tryz.prog W = .ok () (W.setCell ⟨g, i, none⟩ (.func (.func f) #[] #[])) := by
  rw [run_store Tryz.prog W _ _ _ rfl, hc]
  simp [hf]

set_option maxRecDepth 100000 in
theorem app_of1 (p q : Value) (A1 A2 : Option Addr) (n1 c1 n2 c2 : Nat) (hp : p = .slice A1 n1 c1) (hq : q = .slice A2 n2 c2) (w : World) :
    Calls Tryz.prog 117 #[stv 1 p q] w fun e w' => e = .returned (.agg #[.int .i64 1, .func (.func 144) #[] #[]]) ∧ Mod Non w w' := by
  subst hp hq
  have hst := run_store_func ((w.alloc (.cells #[.int .i64 1, .slice A1 n1 c1, .slice A2 n2 c2] 25)).alloc (.cells #[.int .i64 1, .nilFunc] 160)) (w.heap.size + 1) 1 144 .nilFunc (by simp) (by simp)
  go_enter Tryz.func117, Tryz.ntmps117
  go_wp2_with fail
  have z1 := Blk.new1 w (.cells #[.int .i64 1, .slice A1 n1 c1, .slice A2 n2 c2] 25) 160 #[.int .i64 1, .func (.func 144) #[] #[]]
  refine bodyPost_ret (results_row rfl _ _ (w.heap.size + 1) 160 #[.int .i64 1, .func (.func 144) #[] #[]] (0, 0) _ rfl z1 Tryz.underlying160 rfl (by kernel_rfl)) rfl ?_
  exact ⟨rfl, ((Mod.refl _ _).alloc _).alloc _⟩

set_option maxRecDepth 100000 in
theorem app_of2 (p q : Value) (A1 A2 : Option Addr) (n1 c1 n2 c2 : Nat) (hp : p = .slice A1 n1 c1) (hq : q = .slice A2 n2 c2) (w : World) :
    Calls Tryz.prog 117 #[stv 2 p q] w fun e w' => e = .returned (.agg #[.int .i64 2, .func (.func 145) #[] #[]]) ∧ Mod Non w w' := by
  subst hp hq
  have hst := run_store_func ((w.alloc (.cells #[.int .i64 2, .slice A1 n1 c1, .slice A2 n2 c2] 25)).alloc (.cells #[.int .i64 2, .nilFunc] 160)) (w.heap.size + 1) 1 145 .nilFunc (by simp) (by simp)
  go_enter Tryz.func117, Tryz.ntmps117
  go_wp2_with fail
  have z1 := Blk.new1 w (.cells #[.int .i64 2, .slice A1 n1 c1, .slice A2 n2 c2] 25) 160 #[.int .i64 2, .func (.func 145) #[] #[]]
  refine bodyPost_ret (results_row rfl _ _ (w.heap.size + 1) 160 #[.int .i64 2, .func (.func 145) #[] #[]] (0, 0) _ rfl z1 Tryz.underlying160 rfl (by kernel_rfl)) rfl ?_
  exact ⟨rfl, ((Mod.refl _ _).alloc _).alloc _⟩
end Go.Proofs.YtdclfdinhdaadaaGreatDoor
