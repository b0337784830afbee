/- The statements on package bag: a step on the bag and on its reference, side by side. -/
import Derived.Test.YtlkifobajdafpaaBagLawDo
namespace Go.Proofs.Ytlkifobajdafpaa
open Go.RowKit

def okQ (p : Pk) : Prop := (1 ≤ p.f ∧ p.f ≤ 9 ∧ 1 ≤ p.t ∧ p.t ≤ 9 ∧ p.f ≠ p.t) ∧ p.d.length ≤ 50

def BagSt (w : World) (b B : Nat) (v : Value) (ps : List Pk) (w' : World) : Prop :=
  ∃ v' qs', Blk w' b 76 #[v'] ∧ OwnP w' B v' qs' ∧ PRs w' B qs' ps ∧ Mod (fun k => k = b ∨ v.ownBlock = some k) w w' ∧ (v'.ownBlock = v.ownBlock ∨ ∃ g, v'.ownBlock = some g ∧ w.heap.size + 2 ≤ g)

section
variable {w w1 w' : World} {b B : Nat} {v : Value} {qs : List Pv} {ps ps' : List Pk}
theorem OwnP.lt (h : OwnP w B v qs) : ∀ g, v.ownBlock = some g → B ≤ g ∧ g < w.heap.size := fun g hg => World.ownsRow.lt h g hg
theorem BagSt.one (h : BagSt w b B v ps w1) (hO : Mod (One (w.heap.size + 1)) w1 w') (hnb : NB w1 (w.heap.size + 1)) (hb : b < w.heap.size) (hv : ∀ g, v.ownBlock = some g → g < w.heap.size) (hB : B ≤ w.heap.size) : BagSt w b B v ps w' := by
  obtain ⟨v', qs', h1, h2, h3, h4, h5⟩ := h
  refine ⟨v', qs', h1.mod hO (by unfold One; omega), h2.mod hO ?_, h3.kp (Kp.of_mod hO ?_), h4.trans hO ?_, h5⟩
  · intro g hg he
    unfold One at he
    rcases h5 with h5 | ⟨g', h5, h6⟩
    · rw [h5] at hg; have := hv g hg; omega
    · rw [h5] at hg; injection hg with hg; omega
  · intro k _ hk; unfold One at hk; subst hk; exact ⟨by omega, hnb⟩
  · intro i hi h; unfold One at h; omega
theorem BagSt.same (hb : Blk w b 76 #[v]) (hown : OwnP w B v qs) (hp : PRs w B qs ps) (hm : Mod Non w w') : BagSt w b B v ps w' :=
  ⟨v, qs, hb.mod hm fun h => h, hown.non hm, hp.kp (Kp.non hm), hm.non, .inl rfl⟩
theorem kp_bag (hb : Blk w b 76 #[v]) (hown : OwnP w B v qs) (hBb : B ≤ b) (hm : Mod (fun k => k = b ∨ v.ownBlock = some k) w w') : Kp B w w' :=
  Kp.of_mod hm fun k _ hk => by
    rcases hk with rfl | hk
    · exact ⟨hBb, NB.of_blk hb (by decide)⟩
    · exact hown.nb k hk
end

/-- what a step makes of the bag's packets: how 'do' and its reference answer -/
def BagC (ps : List Pk) (k n : Int) (p : Pk) (ps' : List Pk) (p' : Pk) (r : Bool) : Prop :=
  ∀ (b B : Nat) (v : Value) (qs : List Pv) (f t : Int) (A2 : Option Addr) (n2 c2 : Nat) (w : World), Blk w b 76 #[v] → OwnP w B v qs → PRs w B qs ps → PkR w B ⟨f, t, A2, n2, c2⟩ p → B ≤ b →
    Calls Try.prog 24 #[.pointer (some ⟨b, 0, none⟩), .agg #[.int .i64 k, .int .i64 n, .int .i64 f, .int .i64 t, .slice A2 n2 c2]] w fun e w' =>
      ∃ f' t' A' n' c', e = .returned (.tuple #[.agg #[.int .i64 f', .int .i64 t', .slice A' n' c'], .bool r]) ∧ PkR w' B ⟨f', t', A', n', c'⟩ p' ∧ BagSt w b B v ps' w'
def RefC (ps : List Pk) (k n : Int) (p : Pk) (ps' : List Pk) (p' : Pk) (r : Bool) : Prop :=
  ∀ (B : Nat) (v : Value) (qs : List Pv) (f t : Int) (A2 : Option Addr) (n2 c2 : Nat) (w : World), OwnP w B v qs → PRs w B qs ps → PkR w B ⟨f, t, A2, n2, c2⟩ p → B ≤ w.heap.size →
    Calls Try.prog 25 #[v, .agg #[.int .i64 k, .int .i64 n, .int .i64 f, .int .i64 t, .slice A2 n2 c2]] w fun e w' =>
      ∃ v' qs' f' t' A' n' c', e = .returned (.tuple #[v', .agg #[.int .i64 f', .int .i64 t', .slice A' n' c'], .bool r]) ∧ PkR w' B ⟨f', t', A', n', c'⟩ p' ∧ OwnP w' B v' qs' ∧ PRs w' B qs' ps' ∧ Mod Non w w' ∧ (v' = v ∨ ∀ g, v'.ownBlock = some g → w.heap.size ≤ g)

theorem pkz (w : World) (B : Nat) : PkR w B ⟨0, 0, none, 0, 0⟩ Pk.zero := ⟨rfl, rfl, RdB.nil⟩

theorem bagC_put (ps : List Pk) (n : Int) (p : Pk) (hlen : ps.length < 512) (hp : okQ p) : BagC ps 1 n p (ps ++ [p]) Pk.zero true := by
  intro b B v qs f t A2 n2 c2 w hb hown hprs hpk hBb
  obtain ⟨A, m, c, rfl, hm, _⟩ := hown.form
  obtain ⟨hf, ht, hd⟩ := hpk
  simp only at hf ht hd
  obtain ⟨⟨h1, h2, h3, h4, h5⟩, h6⟩ := hp
  have hm : m = qs.length := hm
  have hql := hprs.1
  have hlt := hb.lt
  have hol := hown.lt
  refine (law38_do1 b n f t A2 n2 c2 (fun k => k = b ∨ (Value.slice A m c).ownBlock = some k) (fun r w' => r = true ∧ BagSt w b B (.slice A m c) (ps ++ [p]) w') w ?_ fun o1 o2 => ?_).mono ?_
  · rintro (h | h)
    · omega
    · have := hol _ h; omega
  · refine (bag_Put_ok b B A m c qs f t A2 n2 c2 p.d _ ((hb.alloc o1).alloc o2) ((hown.alloc o1).alloc o2) (by omega) (by omega) (by omega) (by omega) (by omega) (by omega) (hd.kp (Kp.non (((Mod.refl _ _).alloc _).alloc _))) (by omega) hBb).mono ?_
    rintro e w' ⟨A', n', c', v', rfl, hrd, hb', hown', hmod, hfr⟩
    have hmw : Mod (fun k => k = b ∨ (Value.slice A m c).ownBlock = some k) w w' := ((((Mod.refl Non w).alloc o1).alloc o2).non).trans' hmod
    refine ⟨true, rfl, ⟨rfl, v', _, hb', hown', ?_, hmw, ?_⟩, hmod⟩
    · exact (hprs.kp (kp_bag hb hown hBb hmw)).snoc ⟨hf, ht, hrd⟩
    · rcases hfr with h | ⟨g, h, hg⟩
      · exact .inl h
      · exact .inr ⟨g, h, by simp at hg; omega⟩
  · rintro e w' ⟨r, w1, rfl, ⟨rfl, hst⟩, hnb, hO⟩
    exact ⟨0, 0, none, 0, 0, rfl, pkz _ _, hst.one hO hnb hlt (fun g hg => (hol g hg).2) (by omega)⟩

theorem bagC_putNo (ps : List Pk) (n : Int) (p : Pk) (hp : ¬ (1 ≤ p.f ∧ p.f ≤ 9 ∧ 1 ≤ p.t ∧ p.t ≤ 9 ∧ p.f ≠ p.t)) : BagC ps 1 n p ps Pk.zero false := by
  intro b B v qs f t A2 n2 c2 w hb hown hprs hpk hBb
  obtain ⟨A, m, c, rfl, hm, _⟩ := hown.form
  obtain ⟨hf, ht, hd⟩ := hpk
  simp only at hf ht hd
  have hlt := hb.lt
  have hol := hown.lt
  refine (law38_do1 b n f t A2 n2 c2 Non (fun r w' => r = false ∧ BagSt w b B (.slice A m c) ps w') w (fun h => h) fun o1 o2 => ?_).mono ?_
  · refine (bag_Put_no b A m c f t A2 n2 c2 _ ((hb.alloc o1).alloc o2) (by omega)).mono ?_
    rintro e w' ⟨rfl, hmod⟩
    exact ⟨false, rfl, ⟨rfl, BagSt.same hb hown hprs ((((Mod.refl Non w).alloc o1).alloc o2).trans' hmod)⟩, hmod⟩
  · rintro e w' ⟨r, w1, rfl, ⟨rfl, hst⟩, hnb, hO⟩
    exact ⟨0, 0, none, 0, 0, rfl, pkz _ _, hst.one hO hnb hlt (fun g hg => (hol g hg).2) (by omega)⟩

theorem bagC_no (ps : List Pk) (k n : Int) (p : Pk) (hk : k = 2 ∨ k = 3 ∨ k = 4) (hn : n < 0 ∨ (ps.length : Int) ≤ n) : BagC ps k n p ps Pk.zero false := by
  intro b B v qs f t A2 n2 c2 w hb hown hprs hpk hBb
  obtain ⟨A, m, c, rfl, hm, _⟩ := hown.form
  have hm : m = qs.length := hm
  have hql := hprs.1
  have hlt := hb.lt
  have hol := hown.lt
  have hnm : n < 0 ∨ (m : Int) ≤ n := by omega
  rcases hk with rfl | rfl | rfl
  · refine (law38_do2 b n f t A2 n2 c2 Non 0 0 none 0 0 false (fun w' => BagSt w b B (.slice A m c) ps w') w (fun h => h) fun o1 o2 => ?_).mono ?_
    · refine (bag_Take_no b A m c n _ ((hb.alloc o1).alloc o2) hnm).mono ?_
      rintro e w' ⟨rfl, hmod⟩
      exact ⟨rfl, BagSt.same hb hown hprs ((((Mod.refl Non w).alloc o1).alloc o2).trans' hmod), hmod⟩
    · rintro e w' ⟨w1, rfl, hst, hnb, hO⟩
      exact ⟨0, 0, none, 0, 0, rfl, pkz _ _, hst.one hO hnb hlt (fun g hg => (hol g hg).2) (by omega)⟩
  · refine (law38_do3 b n f t A2 n2 c2 Non (fun r w' => r = false ∧ BagSt w b B (.slice A m c) ps w') w (fun h => h) fun o1 o2 => ?_).mono ?_
    · refine (bag_Lose_no b A m c n _ ((hb.alloc o1).alloc o2) hnm).mono ?_
      rintro e w' ⟨rfl, hmod⟩
      exact ⟨false, rfl, ⟨rfl, BagSt.same hb hown hprs ((((Mod.refl Non w).alloc o1).alloc o2).trans' hmod)⟩, hmod⟩
    · rintro e w' ⟨r, w1, rfl, ⟨rfl, hst⟩, hnb, hO⟩
      exact ⟨0, 0, none, 0, 0, rfl, pkz _ _, hst.one hO hnb hlt (fun g hg => (hol g hg).2) (by omega)⟩
  · refine (law38_do4 b n f t A2 n2 c2 Non (fun r w' => r = false ∧ BagSt w b B (.slice A m c) ps w') w (fun h => h) fun o1 o2 => ?_).mono ?_
    · refine (bag_Twice_no b A m c n _ ((hb.alloc o1).alloc o2) hnm).mono ?_
      rintro e w' ⟨rfl, hmod⟩
      exact ⟨false, rfl, ⟨rfl, BagSt.same hb hown hprs ((((Mod.refl Non w).alloc o1).alloc o2).trans' hmod)⟩, hmod⟩
    · rintro e w' ⟨r, w1, rfl, ⟨rfl, hst⟩, hnb, hO⟩
      exact ⟨0, 0, none, 0, 0, rfl, pkz _ _, hst.one hO hnb hlt (fun g hg => (hol g hg).2) (by omega)⟩

theorem bagC_bad (ps : List Pk) (k n : Int) (p : Pk) (hk : k < 1 ∨ 4 < k) : BagC ps k n p ps Pk.zero false := by
  intro b B v qs f t A2 n2 c2 w hb hown hprs hpk hBb
  refine (law38_do0 b k n f t A2 n2 c2 w hk).mono ?_
  rintro e w' ⟨rfl, hm⟩
  exact ⟨0, 0, none, 0, 0, rfl, pkz _ _, BagSt.same hb hown hprs hm⟩
end Go.Proofs.Ytlkifobajdafpaa
