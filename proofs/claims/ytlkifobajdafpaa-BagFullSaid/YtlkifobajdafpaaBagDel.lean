/- slices.Delete of one packet. -/
import Derived.Test.YtlkifobajdafpaaBag
import Derived.Deep.RegionLaw
import Derived.Laws.AppendOwnNone
namespace Go.Proofs.Ytlkifobajdafpaa
open Go.RowKit

/-- 'append(s, x...)' within s's capacity, at a step of a region that draws its order; x nil or not. -/
theorem step_append_within {P : Program} {w : World} {ops : Array Oper} {o : Oper} {a : Act} {K : Act → World → Prop} {Q : Exit → Act → World → Prop} {E : Prop} (hgd : o.guard = none) (s x : Operand) (t : TypeId)
    (ho : o.op = .call { callee := .builtin .append, args := #[s, x], argTypes := #[t, t] })
    (base : Nat) (e : TypeId) (i : TypeInfo) (size : Nat) (ht : P.underlying t = some (.slice e)) (hi : P.info? e = some i) (hsize : i.size = size)
    (g k cap : Nat) (xs : List Value) (hs : a.eval s = .slice (some ⟨g, 0, none⟩) k cap) (hown : w.ownsRow base e size (.slice (some ⟨g, 0, none⟩) k cap) k xs)
    (R : Nat → Prop) (A : Option Addr) (m c : Nat) (news : List Value) (hx : a.eval x = .slice A m c) (hr : Reads w R size A m news) (h1 : ∀ u ∈ news, u.oneCell' = true) (hroom : k + m ≤ cap)
    (h : ∀ w', w'.ownsRow base e size (.slice (some ⟨g, 0, none⟩) (k + m) cap) (k + m) (xs ++ news) → w.grownBy w' (some g) → K (a.put o.dst (.slice (some ⟨g, 0, none⟩) (k + m) cap)) w') :
    if Region.wanted o (yielded ops a.tmps) = true then Oper.wp P o a w K Q else E := by
  have hw : Region.wanted o (yielded ops a.tmps) = true := by simp [Region.wanted, hgd]
  rw [if_pos hw]
  have hrun : ∃ w', (Builtin.append_ #[t, t] o.type #[.slice (some ⟨g, 0, none⟩) k cap, .slice A m c]).run P w = .ok (.slice (some ⟨g, 0, none⟩) (k + m) cap) w' ∧
      w'.ownsRow base e size (.slice (some ⟨g, 0, none⟩) (k + m) cap) (k + m) (xs ++ news) ∧ w.grownBy w' (some g) := by
    cases A with
    | none =>
      have hm : m = 0 := by
        rcases Nat.eq_zero_or_pos m with h0 | h0
        · exact h0
        · obtain ⟨ad, h, _⟩ := hr.2 h0
          cases h
      subst hm
      have hn : news = [] := List.eq_nil_of_length_eq_zero (by simpa using hr.1)
      subst hn
      exact ⟨w, run_append_of_nil w base t o.type e i size ht hi _ k xs hown c, by simpa using hown, World.grownBy.refl _ _⟩
    | some ad =>
      have hcells : ∀ j u, news[j]? = some u → w.cell? (ad.add j) = some u := by
        intro j u hu
        rcases Nat.eq_zero_or_pos m with h0 | h0
        · subst h0
          have hn : news = [] := List.eq_nil_of_length_eq_zero (by simpa using hr.1)
          subst hn
          simp at hu
        · obtain ⟨ad', h, _, _, hc⟩ := hr.2 h0
          injection h with h
          subst h
          exact hc j u hu
      exact run_append_fits (P := P) w base t o.type e i size ht hi hsize g k cap xs hown ad m c news hr.1 hcells h1 hroom
  obtain ⟨w', hr1, hr2, hr3⟩ := hrun
  unfold Oper.wp execOp
  simp only [ho, resolve, invoke, builtin, Sem.run_bind, Sem.run_pure, Result.andThen_ok, List.map_toArray, List.map_cons, List.map_nil, hs, hx, hr1]
  exact h w' hr2 hr3

/-- 'clear(s[k:k+m])', s a row of the call's own of k elements with room for m more: what is owned stays. -/
theorem run_clear_own {P : Program} (w : World) (base : Nat) (t e ty : TypeId) (size : Nat) (z : Value) (ht : P.underlying t = some (.slice e)) (hz : ∀ w, (zeroValue e).run P w = .ok z w) (hs : z.cells.size = size) (h0 : 0 < size) (h1 : ∀ u ∈ z.cells, u.oneCell' = true)
    (g k m cap cc : Nat) (xs : List Value) (hown : w.ownsRow base e size (.slice (some ⟨g, 0, none⟩) k cap) k xs) (hm : k + m ≤ cap) :
    ∃ w', (Builtin.clear_ #[t] ty #[.slice (some ⟨g, k * size, none⟩) m cc]).run P w = .ok (.tuple #[]) w' ∧ w'.ownsRow base e size (.slice (some ⟨g, 0, none⟩) k cap) k xs ∧ w.grownBy w' (some g) := by
  rcases Nat.eq_zero_or_pos m with hm0 | hm0
  · subst hm0
    exact ⟨w, by simp [Builtin.clear_, run_underlying ht], hown, World.grownBy.refl _ _⟩
  · obtain ⟨hx, h2⟩ := hown
    rcases h2 with ⟨hv, _⟩ | ⟨g', cap', cur, hv, hb, hgg, hnc, hcm, hcs, htk⟩
    · cases hv
    · injection hv with hv1 _ hv3
      injection hv1 with hv1
      injection hv1 with hv1 _ _
      subst hv1 hv3
      have hzl : (Builtin.zeroCells z.cells m).toList.length = m * size := by simp [Builtin.zeroCells, hs]
      have hone : ∀ v ∈ (Builtin.zeroCells z.cells m).toList, v.oneCell' = true := by
        intro v hv
        simp only [Builtin.zeroCells, Array.toList_map, List.mem_map] at hv
        obtain ⟨i, hi, rfl⟩ := hv
        refine h1 _ ?_
        have hlt : i % z.cells.size < z.cells.size := Nat.mod_lt _ (by omega)
        rw [getElem!_pos z.cells _ hlt]
        exact Array.getElem_mem hlt
      obtain ⟨Z, hZ⟩ : ∃ Z, (Builtin.zeroCells z.cells m).toList = Z := ⟨_, rfl⟩
      rw [hZ] at hzl hone
      have hle : k * size + 0 + Z.length ≤ cur.size := by
        rw [hzl, hcs, Nat.add_zero, ← Nat.add_mul]
        exact Nat.mul_le_mul_right _ hm
      have hst := run_storeCells_at P g (k * size) e Z 0 cur w hgg hle hone
      refine ⟨w.setRow g (cur.toList.take (k * size + 0) ++ Z ++ cur.toList.drop (k * size + 0 + Z.length)).toArray, ?_, ⟨hx, .inr ⟨g, cap, _, rfl, hb, setRow_heap w g cur _ e (0, 0) hgg, hnc, hcm, ?_, ?_⟩⟩, ⟨rfl, rfl, rfl, by simp, fun i _ hne => setRow_other w g i _ (fun h => hne (by rw [h]))⟩⟩
      · obtain ⟨j, rfl⟩ : ∃ j, m = j + 1 := ⟨m - 1, by omega⟩
        generalize w.setRow g _ = W' at hst ⊢
        simp [Builtin.clear_, run_underlying ht, hz, hZ, hst]
      · simp only [List.size_toArray, List.length_append, List.length_take, List.length_drop, Array.length_toList]
        rw [hzl, hcs]
        have : (k + m) * size ≤ cap * size := Nat.mul_le_mul_right _ hm
        rw [Nat.add_mul] at this
        omega
      · rw [← htk]
        simp only [Nat.add_zero, List.append_assoc]
        rw [List.take_append_of_le_length]
        · rw [List.take_take, Nat.min_self]
        · rw [List.length_take, Array.length_toList, hcs]
          have : k * size ≤ cap * size := Nat.mul_le_mul_right _ hnc
          omega

theorem packet_info' : (Try.prog.info? 48).map (fun i => (i.zero, i.size, i.bytes)) = some (some (.agg #[.int .i64 0, .int .i64 0, .slice none 0 0]), 3, 40) := by kernel_rfl

theorem zero_packet (w : World) : (zeroValue 48).run Try.prog w = .ok (.agg #[.int .i64 0, .int .i64 0, .slice none 0 0]) w := by kernel_rfl

set_option maxHeartbeats 1000000 in
theorem packets_Delete' (g r c i B : Nat) (qs : List Pv) (w : World) (hown : OwnP w B (.slice (some ⟨g, 0, none⟩) (i + 1 + r) c) qs) (hc : i + 1 + r ≤ c) (hmax : c ≤ 9223372036854775807) :
    Calls Try.prog 43 #[.slice (some ⟨g, 0, none⟩) (i + 1 + r) c, .int .i64 i, .int .i64 ((i : Int) + 1)] w fun e w' => e = .returned (.slice (some ⟨g, 0, none⟩) (i + r) c) ∧
      OwnP w' B (.slice (some ⟨g, 0, none⟩) (i + r) c) (qs.eraseIdx i) ∧ Mod (One g) w w' := by
  obtain ⟨i0, hi0, hz0, hz1, hz2⟩ := info_parts packet_info'
  have Hi := Lib.hid hi0; have Hz0 := Lib.hid hz0; have Hz1 := Lib.hid hz1; have Hz2 := Lib.hid hz2
  clear hi0 hz0 hz1 hz2
  have e1 : ((i : Int) == (i : Int) + 1) = false := by simp; omega
  have hic : i ≤ c := by omega
  have hi1c : i + 1 ≤ c := by omega
  have hb1 : (0 : Int) ≤ (i : Int) + 1 := by omega
  have hb2 : (i : Int) + 1 ≤ (i : Int) + 1 + (r : Int) := by omega
  have hownI : w.drew.ownsRow B 48 3 (.slice (some ⟨g, 0, none⟩) i c) i (pcs (qs.take i)) := (hown.take (i := i) (by omega)).row
  have hrd : Reads w.drew (fun _ => True) 3 (if c = i + 1 then some ⟨g, 0, none⟩ else some ⟨g, (i + 1) * 3, none⟩) r (pcs (qs.drop (i + 1))) := by
    have h := (hown.reads.cut (k := i + 1) (cap := c) (by omega) hc).more (R' := fun _ => True) (fun _ _ _ => trivial)
    rw [pcs_drop] at h
    have e : (if c = i + 1 then (some ⟨g, 0, none⟩ : Option Addr) else (some ⟨g, 0, none⟩ : Option Addr).map (·.add ((i + 1) * 3))) = (if c = i + 1 then some ⟨g, 0, none⟩ else some ⟨g, (i + 1) * 3, none⟩) := by
      split
      · rfl
      · simp [Addr.add]
    rw [e, show i + 1 + r - (i + 1) = r by omega] at h
    exact h
  have hnews := pcs_one (qs.drop (i + 1))
  have hroom : i + r ≤ c := by omega
  go_enter Try.func43, Try.ntmps43
  go_wp2
  go_region_law (refine step_append_within (by rfl) (.tmp 22) (.tmp 25) _ (by rfl) B 48 i0 3 Try.underlying46 Hi.out Hz1.out g i c (pcs (qs.take i)) (by rfl) hownI (fun _ => True) (if c = i + 1 then some ⟨g, 0, none⟩ else some ⟨g, (i + 1) * 3, none⟩) r (c - (i + 1)) (pcs (qs.drop (i + 1))) (by simp [Act.eval, Act.put]) hrd hnews hroom ?_; intro w1 hown1 hg1)
  have hown2 : OwnP w1 B (.slice (some ⟨g, 0, none⟩) (i + r) c) (qs.eraseIdx i) := by
    rw [← pcs_append, ← List.eraseIdx_eq_take_drop_succ] at hown1
    exact OwnP.of_row hown1
  clear hown1 hownI hrd hnews hown
  obtain ⟨w2, hcl, hown3, hg3⟩ := run_clear_own (P := Try.prog) w1 B 46 48 0 3 _ Try.underlying46 zero_packet rfl (by omega) (by intro u hu; simp [Value.cells] at hu; rcases hu with rfl | rfl | rfl <;> rfl) g (i + r) (i + 1 + r - (i + r)) c (c - (i + r)) _ hown2.row (by omega)
  have hmod : Mod (One g) w w2 := (Mod.of_grown (S := One g) hg1 (fun k hk _ => by injection hk with hk; exact hk.symm)).undrew.trans' (Mod.of_grown (S := One g) hg3 (fun k hk _ => by injection hk with hk; exact hk.symm))
  have hownF := OwnP.of_row hown3
  clear hown2 hown3 hg1 hg3
  go_wp2
  all_goals
    try (have hcc : c = i + 1 := by assumption
         subst hcc)
    go_ret
    exact ⟨rfl, hownF, hmod⟩

theorem packets_Delete (g n c i B : Nat) (qs : List Pv) (w : World) (hown : OwnP w B (.slice (some ⟨g, 0, none⟩) n c) qs) (hi : i < n) (hc : n ≤ c) (hmax : c ≤ 9223372036854775807) :
    Calls Try.prog 43 #[.slice (some ⟨g, 0, none⟩) n c, .int .i64 i, .int .i64 ((i : Int) + 1)] w fun e w' => e = .returned (.slice (some ⟨g, 0, none⟩) (n - 1) c) ∧
      OwnP w' B (.slice (some ⟨g, 0, none⟩) (n - 1) c) (qs.eraseIdx i) ∧ Mod (One g) w w' := by
  obtain ⟨r, rfl⟩ : ∃ r, n = i + 1 + r := ⟨n - (i + 1), by omega⟩
  rw [show i + 1 + r - 1 = i + r by omega]
  exact packets_Delete' g r c i B qs w hown hc hmax
end Go.Proofs.Ytlkifobajdafpaa
