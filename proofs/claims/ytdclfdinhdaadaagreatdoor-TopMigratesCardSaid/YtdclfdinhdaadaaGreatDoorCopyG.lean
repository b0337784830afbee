/- copy(dst, src) of structs, dst a row of the call's own of just the length of src: any program. -/
import Derived.Test.YtdclfdinhdaadaaGreatDoorMigrCheckG
import Derived.Laws.CopyOwn
namespace Go.Proofs.YtdclfdinhdaadaaGreatDoor
open Go.RowKit

theorem run_copy_all {P : Program} (w : World) (dT sT ty e : TypeId) (sz : Nat) (hu : P.underlying dT = some (.slice e)) (hs : (P.info? e).map (·.size) = some sz) (B g n c sCap : Nat) (A : Option Addr) (R : Nat → Prop) (xs cs : List Value)
    (hown : w.ownsRow B e sz (.slice (some ⟨g, 0, none⟩) n c) n xs) (hr : Reads w R sz A n cs) (h1 : ∀ v ∈ cs, v.oneCell' = true) :
    ∃ w', (Builtin.copy_ #[dT, sT] ty #[.slice (some ⟨g, 0, none⟩) n c, .slice A n sCap]).run P w = .ok (goInt n) w' ∧ w'.ownsRow B e sz (.slice (some ⟨g, 0, none⟩) n c) n cs ∧ Mod (One g) w w' := by
  obtain ⟨x1, x2⟩ := hown
  rcases x2 with ⟨h3, _⟩ | ⟨g', cap, cur, hv, hb, hh, hn, hm, hz, ht⟩
  · cases h3
  injection hv with e1 _ e3
  injection e1 with e1
  injection e1 with e1 _ _
  subst e1 e3
  cases hq : P.info? e with
  | none => simp [hq] at hs
  | some i =>
    have hi : i.size = sz := by simpa [hq] using hs
    have hlen : cs.length = n * sz := hr.1
    have hfit : 0 + 0 + cs.length ≤ cur.size := by rw [hz, hlen]; have := Nat.mul_le_mul_right sz hn; omega
    have hst := run_storeCells_at P g 0 e cs 0 cur w hh hfit h1
    have hset : (w.setRow g (cs ++ cur.toList.drop cs.length).toArray).ownsRow B e sz (.slice (some ⟨g, 0, none⟩) n c) n cs := by
      refine ⟨hlen, .inr ⟨g, c, (cs ++ cur.toList.drop cs.length).toArray, rfl, hb, setRow_heap w g cur _ e _ hh, hn, hm, ?_, ?_⟩⟩
      · simp [hz] at hfit ⊢; omega
      · simp [← hlen]
    have hmod : Mod (One g) w (w.setRow g (cs ++ cur.toList.drop cs.length).toArray) :=
      ⟨rfl, rfl, rfl, by simp [World.setRow], fun k _ hn => setRow_other w g k _ (fun h => hn h)⟩
    refine ⟨_, ?_, hset, hmod⟩
    rcases Nat.eq_zero_or_pos n with h0 | h0
    · subst h0
      have hc0 : cs = [] := List.eq_nil_of_length_eq_zero (by omega)
      subst hc0
      simp at hst
      cases A with
      | none => simp [Builtin.copy_, run_underlying hu, Builtin.lenOf, Builtin.firstCells, sizeOf, typeInfo, hq, storeCells, setRow_self w g cur e _ hh, goInt]
      | some ad =>
        have hl := run_loadCells_list (P := P) w ad [] (by simp)
        simp at hl
        simp [Builtin.copy_, run_underlying hu, Builtin.lenOf, Builtin.firstCells, sizeOf, typeInfo, hq, storeCells, hl, setRow_self w g cur e _ hh, goInt]
    · obtain ⟨ad, rfl, _, _, hc⟩ := hr.2 h0
      have hl := run_loadCells_list (P := P) w ad cs hc
      simp at hst
      simp [Builtin.copy_, run_underlying hu, Builtin.lenOf, Builtin.firstCells, sizeOf, typeInfo, hq, hi, ← hlen, hl, hst]

theorem wpList_copy_all {P : Program} {w : World} {ops : Array Oper} {rest : List Oper} {o : Oper} {a : Act} {Q : Exit → Act → World → Prop} (hgd : o.guard = none) (d s : Operand) (dT sT : TypeId)
    (ho : o.op = .call { callee := .builtin .copy, args := #[d, s], argTypes := #[dT, sT] }) (e : TypeId) (sz : Nat) (hu : P.underlying dT = some (.slice e)) (hs : (P.info? e).map (·.size) = some sz) (B g n c sCap : Nat) (A : Option Addr) (R : Nat → Prop) (xs cs : List Value)
    (hd : a.eval d = .slice (some ⟨g, 0, none⟩) n c) (hsv : a.eval s = .slice A n sCap)
    (hown : w.ownsRow B e sz (.slice (some ⟨g, 0, none⟩) n c) n xs) (hr : Reads w R sz A n cs) (h1 : ∀ v ∈ cs, v.oneCell' = true)
    (h : ∀ w', w'.ownsRow B e sz (.slice (some ⟨g, 0, none⟩) n c) n cs → Mod (One g) w w' → wpList P ops Q rest (a.put o.dst (goInt n)) w') : wpList P ops Q (o :: rest) a w := by
  refine wpList_plain hgd fun K hK => ?_
  obtain ⟨w', hrun, r1, r2⟩ := run_copy_all (P := P) w dT sT o.type e sz hu hs B g n c sCap A R xs cs hown hr h1
  unfold Oper.wp
  simp [execOp, ho, resolve, invoke, builtin, hd, hsv, hrun, Result.andThen]
  exact hK _ _ (h w' r1 r2)
end Go.Proofs.YtdclfdinhdaadaaGreatDoor
