/- The statements on package bag: a step on the bag where there is a packet at the place. -/
import Derived.Test.YtlkifobajdafpaaBagStep
namespace Go.Proofs.Ytlkifobajdafpaa
open Go.RowKit

theorem OwnP.form1 {w : World} {B : Nat} {v : Value} {qs : List Pv} (h : OwnP w B v qs) (hn : 0 < qs.length) : ∃ g c m, v = .slice (some ⟨g, 0, none⟩) m c ∧ m = qs.length ∧ m ≤ c ∧ c ≤ 9223372036854775807 := by
  rcases h.2 with ⟨_, h0⟩ | ⟨g, cap, cur, rfl, _, _, hc, hm, _⟩
  · omega
  · exact ⟨g, cap, qs.length, rfl, rfl, hc, by simp only [maxLen] at hm; omega⟩

theorem bagC_take (ps : List Pk) (i : Nat) (p q : Pk) (hq : ps[i]? = some q) : BagC ps 2 i p (ps.eraseIdx i) q true := by
  intro b B v qs f t A2 n2 c2 w hb hown hprs hpk hBb
  have hql := hprs.1
  have hil : i < ps.length := (List.getElem?_eq_some_iff.1 hq).1
  obtain ⟨g, c, m, rfl, hm, hmc, hcm⟩ := hown.form1 (by omega)
  obtain ⟨qv, hqv⟩ : ∃ qv, qs[i]? = some qv := ⟨_, List.getElem?_eq_getElem (by omega)⟩
  have hpq := hprs.2 i qv q hqv hq
  have hlt := hb.lt
  have hol := hown.lt
  have hk0 := fun {w' : World} => @kp_bag w w' b B _ qs hb hown hBb
  refine (law38_do2 b i f t A2 n2 c2 (fun k => k = b ∨ (Value.slice (some ⟨g, 0, none⟩) m c).ownBlock = some k) qv.f qv.t qv.A qv.n qv.c true (fun w' => PkR w' B qv q ∧ BagSt w b B (.slice (some ⟨g, 0, none⟩) m c) (ps.eraseIdx i) w') w ?_ fun o1 o2 => ?_).mono ?_
  · rintro (h | h)
    · omega
    · have := hol _ h; omega
  · refine (bag_Take_yes b B g m c i qs qv _ ((hb.alloc o1).alloc o2) ((hown.alloc o1).alloc o2) (by omega) hqv hmc hcm).mono ?_
    rintro e w' ⟨rfl, hb', hown', hmod⟩
    have hmod' : Mod (fun k => k = b ∨ (Value.slice (some ⟨g, 0, none⟩) m c).ownBlock = some k) ((w.alloc o1).alloc o2) w' := hmod.mono fun k _ h => by
      rcases h with h | h
      · exact .inl h
      · exact .inr (by rw [h]; rfl)
    have hmw : Mod (fun k => k = b ∨ (Value.slice (some ⟨g, 0, none⟩) m c).ownBlock = some k) w w' := ((((Mod.refl Non w).alloc o1).alloc o2).non).trans' hmod'
    have hkp := hk0 hmw
    exact ⟨rfl, ⟨hpq.kp hkp, _, _, hb', hown', (hprs.erase i).kp hkp, hmw, .inl rfl⟩, hmod'⟩
  · rintro e w' ⟨w1, rfl, ⟨hpq1, hst⟩, hnb, hO⟩
    exact ⟨_, _, _, _, _, rfl, hpq1.kp (Kp.of_mod hO fun k _ hk => by unfold One at hk; subst hk; exact ⟨by omega, hnb⟩), hst.one hO hnb hlt (fun g hg => (hol g hg).2) (by omega)⟩

theorem bagC_lose (ps : List Pk) (i : Nat) (p q : Pk) (hq : ps[i]? = some q) : BagC ps 3 i p (ps.eraseIdx i) Pk.zero true := by
  intro b B v qs f t A2 n2 c2 w hb hown hprs hpk hBb
  have hql := hprs.1
  have hil : i < ps.length := (List.getElem?_eq_some_iff.1 hq).1
  obtain ⟨g, c, m, rfl, hm, hmc, hcm⟩ := hown.form1 (by omega)
  obtain ⟨qv, hqv⟩ : ∃ qv, qs[i]? = some qv := ⟨_, List.getElem?_eq_getElem (by omega)⟩
  have hlt := hb.lt
  have hol := hown.lt
  have hk0 := fun {w' : World} => @kp_bag w w' b B _ qs hb hown hBb
  refine (law38_do3 b i f t A2 n2 c2 (fun k => k = b ∨ (Value.slice (some ⟨g, 0, none⟩) m c).ownBlock = some k) (fun r w' => r = true ∧ BagSt w b B (.slice (some ⟨g, 0, none⟩) m c) (ps.eraseIdx i) w') w ?_ fun o1 o2 => ?_).mono ?_
  · rintro (h | h)
    · omega
    · have := hol _ h; omega
  · refine (bag_Lose_yes b B g m c i qs qv _ ((hb.alloc o1).alloc o2) ((hown.alloc o1).alloc o2) (by omega) hqv hmc hcm).mono ?_
    rintro e w' ⟨rfl, hb', hown', hmod⟩
    have hmod' : Mod (fun k => k = b ∨ (Value.slice (some ⟨g, 0, none⟩) m c).ownBlock = some k) ((w.alloc o1).alloc o2) w' := hmod.mono fun k _ h => by
      rcases h with h | h
      · exact .inl h
      · exact .inr (by rw [h]; rfl)
    have hmw : Mod (fun k => k = b ∨ (Value.slice (some ⟨g, 0, none⟩) m c).ownBlock = some k) w w' := ((((Mod.refl Non w).alloc o1).alloc o2).non).trans' hmod'
    exact ⟨true, rfl, ⟨rfl, _, _, hb', hown', (hprs.erase i).kp (hk0 hmw), hmw, .inl rfl⟩, hmod'⟩
  · rintro e w' ⟨r, w1, rfl, ⟨rfl, hst⟩, hnb, hO⟩
    exact ⟨0, 0, none, 0, 0, rfl, pkz _ _, hst.one hO hnb hlt (fun g hg => (hol g hg).2) (by omega)⟩

theorem bagC_twice (ps : List Pk) (i : Nat) (p q : Pk) (hq : ps[i]? = some q) (hlen : ps.length < 512) (hok : okQ q) : BagC ps 4 i p (ps ++ [q]) Pk.zero true := by
  intro b B v qs f t A2 n2 c2 w hb hown hprs hpk hBb
  have hql := hprs.1
  have hil : i < ps.length := (List.getElem?_eq_some_iff.1 hq).1
  obtain ⟨g, c, m, rfl, hm, hmc, hcm⟩ := hown.form1 (by omega)
  obtain ⟨⟨qf, qt, qA, qn, qc⟩, hqv⟩ : ∃ qv, qs[i]? = some qv := ⟨_, List.getElem?_eq_getElem (by omega)⟩
  obtain ⟨hf, ht, hd⟩ := hprs.2 i _ q hqv hq
  simp only at hf ht hd
  obtain ⟨⟨h1, h2, h3, h4, h5⟩, h6⟩ := hok
  have hlt := hb.lt
  have hol := hown.lt
  refine (law38_do4 b i f t A2 n2 c2 (fun k => k = b ∨ (Value.slice (some ⟨g, 0, none⟩) m c).ownBlock = some k) (fun r w' => r = true ∧ BagSt w b B (.slice (some ⟨g, 0, none⟩) m c) (ps ++ [q]) w') w ?_ fun o1 o2 => ?_).mono ?_
  · rintro (h | h)
    · omega
    · have := hol _ h; omega
  · refine (bag_Twice_yes b B g m c i qs _ _ (fun r w' => (r = true ∧ BagSt w b B (.slice (some ⟨g, 0, none⟩) m c) (ps ++ [q]) w') ∧ Mod (fun k => k = b ∨ (Value.slice (some ⟨g, 0, none⟩) m c).ownBlock = some k) ((w.alloc o1).alloc o2) w') ((hb.alloc o1).alloc o2) ((hown.alloc o1).alloc o2) (by omega) hqv ?_).mono ?_
    · refine (bag_Put_ok b B _ m c qs qf qt qA qn qc q.d _ ((hb.alloc o1).alloc o2) ((hown.alloc o1).alloc o2) (by omega) (by omega) (by omega) (by omega) (by omega) (by omega) (hd.kp (Kp.non (((Mod.refl _ _).alloc _).alloc _))) (by omega) hBb).mono ?_
      rintro e w' ⟨A', n', c', v', rfl, hrd, hb', hown', hmod, hfr⟩
      have hmw : Mod (fun k => k = b ∨ (Value.slice (some ⟨g, 0, none⟩) m c).ownBlock = some k) w w' := ((((Mod.refl Non w).alloc o1).alloc o2).non).trans' hmod
      refine ⟨true, rfl, ⟨rfl, v', _, hb', hown', ?_, hmw, ?_⟩, hmod⟩
      · exact (hprs.kp (kp_bag hb hown hBb hmw)).snoc ⟨hf, ht, hrd⟩
      · rcases hfr with h | ⟨g, h, hg⟩
        · exact .inl h
        · exact .inr ⟨g, h, by simp at hg; omega⟩
    · rintro e w' ⟨r, rfl, hst, hmod⟩
      exact ⟨r, rfl, hst, hmod⟩
  · rintro e w' ⟨r, w1, rfl, ⟨rfl, hst⟩, hnb, hO⟩
    exact ⟨0, 0, none, 0, 0, rfl, pkz _ _, hst.one hO hnb hlt (fun g hg => (hol g hg).2) (by omega)⟩

theorem refC_put (ps : List Pk) (n : Int) (p : Pk) (hlen : ps.length < 512) (hp : okQ p) : RefC ps 1 n p (ps ++ [p]) Pk.zero true := by
  intro B v qs f t A2 n2 c2 w hown hprs hpk hB
  obtain ⟨A, m, c, rfl, hm, _⟩ := hown.form
  obtain ⟨f', t', d⟩ := p
  obtain ⟨hf, ht, hd⟩ := hpk
  simp only at hf ht hd
  subst hf ht
  obtain ⟨⟨h1, h2, h3, h4, h5⟩, h6⟩ := hp
  have hm : m = qs.length := hm
  have hql := hprs.1
  refine (ref38_Do_put1 A m c B _ qs ps n f t A2 n2 c2 d w hown.reads hprs (by omega) h1 h2 h3 h4 h5 hd).mono ?_
  rintro e w' ⟨v', qs', rfl, ho, hp, hmod⟩
  exact ⟨v', qs', 0, 0, none, 0, 0, rfl, pkz _ _, ho.weak hB, hp, hmod, .inr fun g hg => (ho.lt g hg).1⟩

theorem refC_twice (ps : List Pk) (i : Nat) (p q : Pk) (hq : ps[i]? = some q) (hlen : ps.length < 512) (hok : okQ q) : RefC ps 4 i p (ps ++ [q]) Pk.zero true := by
  intro B v qs f t A2 n2 c2 w hown hprs hpk hB
  obtain ⟨A, m, c, rfl, hm, _⟩ := hown.form
  have hm : m = qs.length := hm
  have hql := hprs.1
  have hil : i < ps.length := (List.getElem?_eq_some_iff.1 hq).1
  obtain ⟨⟨qf, qt, qA, qn, qc⟩, hqv⟩ : ∃ qv, qs[i]? = some qv := ⟨_, List.getElem?_eq_getElem (by omega)⟩
  obtain ⟨f', t', d⟩ := q
  obtain ⟨hf, ht, hd⟩ := hprs.2 i _ _ hqv hq
  simp only at hf ht hd
  subst hf ht
  obtain ⟨⟨h1, h2, h3, h4, h5⟩, h6⟩ := hok
  refine (ref38_Do_put4 A m c B _ qs ps i qf qt qA qn qc d f t A2 n2 c2 w hown.reads hprs (by omega) (by omega) hqv h1 h2 h3 h4 h5 hd).mono ?_
  rintro e w' ⟨v', qs', rfl, ho, hp, hmod⟩
  exact ⟨v', qs', 0, 0, none, 0, 0, rfl, pkz _ _, ho.weak hB, hp, hmod, .inr fun g hg => (ho.lt g hg).1⟩

theorem refC_putNo (ps : List Pk) (n : Int) (p : Pk) (hp : ¬ (1 ≤ p.f ∧ p.f ≤ 9 ∧ 1 ≤ p.t ∧ p.t ≤ 9 ∧ p.f ≠ p.t)) : RefC ps 1 n p ps Pk.zero false := by
  intro B v qs f t A2 n2 c2 w hown hprs hpk hB
  obtain ⟨A, m, c, rfl, hm, _⟩ := hown.form
  obtain ⟨hf, ht, hd⟩ := hpk
  simp only at hf ht hd
  refine (ref38_Do_no1 A m c n f t A2 n2 c2 w (fun h => hp ?_)).mono ?_
  · obtain ⟨h1, h2, h3, h4, h5, _⟩ := h
    rw [← hf, ← ht]; exact ⟨h1, h2, h3, h4, h5⟩
  rintro e w' ⟨rfl, hmod⟩
  exact ⟨_, qs, 0, 0, none, 0, 0, rfl, pkz _ _, hown.non hmod, hprs.kp (Kp.non hmod), hmod, .inl rfl⟩

theorem refC_no (ps : List Pk) (k n : Int) (p : Pk) (hk : k ≠ 1) (hn : n < 0 ∨ (ps.length : Int) ≤ n ∨ k < 1 ∨ 4 < k) : RefC ps k n p ps Pk.zero false := by
  intro B v qs f t A2 n2 c2 w hown hprs hpk hB
  obtain ⟨A, m, c, rfl, hm, _⟩ := hown.form
  have hm : m = qs.length := hm
  have hql := hprs.1
  refine (ref38_Do_noN A m c k n f t A2 n2 c2 w hk (by omega)).mono ?_
  rintro e w' ⟨rfl, hmod⟩
  exact ⟨_, qs, 0, 0, none, 0, 0, rfl, pkz _ _, hown.non hmod, hprs.kp (Kp.non hmod), hmod, .inl rfl⟩

theorem refC_take (ps : List Pk) (i : Nat) (p q : Pk) (hq : ps[i]? = some q) (hlen : ps.length < 512) : RefC ps 2 i p (ps.eraseIdx i) q true := by
  intro B v qs f t A2 n2 c2 w hown hprs hpk hB
  obtain ⟨A, m, c, rfl, hm, _⟩ := hown.form
  have hm : m = qs.length := hm
  have hql := hprs.1
  have hil : i < ps.length := (List.getElem?_eq_some_iff.1 hq).1
  obtain ⟨⟨qf, qt, qA, qn, qc⟩, hqv⟩ : ∃ qv, qs[i]? = some qv := ⟨_, List.getElem?_eq_getElem (by omega)⟩
  have hpq := hprs.2 i _ _ hqv hq
  refine (ref38_Do_drop A m c B _ qs ps i 2 qf qt qA qn qc f t A2 n2 c2 w hown.reads hprs hB (by omega) (by omega) hqv (.inl rfl)).mono ?_
  rintro e w' ⟨v', qs', ⟨_, rfl⟩ | ⟨h, _⟩, ho, hp, hmod⟩
  · exact ⟨v', qs', _, _, _, _, _, rfl, hpq.kp (Kp.non hmod), ho.weak hB, hp, hmod, .inr fun g hg => (ho.lt g hg).1⟩
  · exact absurd h (by decide)

theorem refC_lose (ps : List Pk) (i : Nat) (p q : Pk) (hq : ps[i]? = some q) (hlen : ps.length < 512) : RefC ps 3 i p (ps.eraseIdx i) Pk.zero true := by
  intro B v qs f t A2 n2 c2 w hown hprs hpk hB
  obtain ⟨A, m, c, rfl, hm, _⟩ := hown.form
  have hm : m = qs.length := hm
  have hql := hprs.1
  have hil : i < ps.length := (List.getElem?_eq_some_iff.1 hq).1
  obtain ⟨⟨qf, qt, qA, qn, qc⟩, hqv⟩ : ∃ qv, qs[i]? = some qv := ⟨_, List.getElem?_eq_getElem (by omega)⟩
  refine (ref38_Do_drop A m c B _ qs ps i 3 qf qt qA qn qc f t A2 n2 c2 w hown.reads hprs hB (by omega) (by omega) hqv (.inr rfl)).mono ?_
  rintro e w' ⟨v', qs', ⟨h, _⟩ | ⟨_, rfl⟩, ho, hp, hmod⟩
  · exact absurd h (by decide)
  · exact ⟨v', qs', 0, 0, none, 0, 0, rfl, pkz _ _, ho.weak hB, hp, hmod, .inr fun g hg => (ho.lt g hg).1⟩

/-- A step is the same on both sides, and keeps the packets good. -/
theorem step (ps : List Pk) (k n : Int) (p : Pk) (hps : ∀ q ∈ ps, okQ q) (hlen : ps.length < 512) (hpd : p.d.length ≤ 50) :
    ∃ ps' p' r, (∀ q ∈ ps', okQ q) ∧ ps'.length ≤ ps.length + 1 ∧ p'.d.length ≤ 50 ∧ BagC ps k n p ps' p' r ∧ RefC ps k n p ps' p' r := by
  have hz : Pk.zero.d.length ≤ 50 := by simp [Pk.zero]
  by_cases h1 : k = 1
  · subst h1
    by_cases hg : 1 ≤ p.f ∧ p.f ≤ 9 ∧ 1 ≤ p.t ∧ p.t ≤ 9 ∧ p.f ≠ p.t
    · refine ⟨ps ++ [p], Pk.zero, true, ?_, by simp, hz, bagC_put ps n p hlen ⟨hg, hpd⟩, refC_put ps n p hlen ⟨hg, hpd⟩⟩
      intro q hq
      rcases List.mem_append.1 hq with h | h
      · exact hps q h
      · simp at h; subst h; exact ⟨hg, hpd⟩
    · exact ⟨ps, Pk.zero, false, hps, by omega, hz, bagC_putNo ps n p hg, refC_putNo ps n p hg⟩
  · by_cases h2 : k < 1 ∨ 4 < k
    · exact ⟨ps, Pk.zero, false, hps, by omega, hz, bagC_bad ps k n p h2, refC_no ps k n p h1 (by omega)⟩
    · by_cases h3 : n < 0 ∨ (ps.length : Int) ≤ n
      · exact ⟨ps, Pk.zero, false, hps, by omega, hz, bagC_no ps k n p (by omega) h3, refC_no ps k n p h1 (by omega)⟩
      · obtain ⟨i, rfl⟩ : ∃ i : Nat, n = i := ⟨n.toNat, by omega⟩
        obtain ⟨q, hq⟩ : ∃ q, ps[i]? = some q := ⟨_, List.getElem?_eq_getElem (by omega)⟩
        have hok := hps q (List.mem_of_getElem? hq)
        have hel : (ps.eraseIdx i).length ≤ ps.length + 1 := by have := List.length_eraseIdx_le ps i; omega
        have hes : ∀ q ∈ ps.eraseIdx i, okQ q := fun q hq => hps q (List.mem_of_mem_eraseIdx hq)
        have : k = 2 ∨ k = 3 ∨ k = 4 := by omega
        rcases this with rfl | rfl | rfl
        · exact ⟨_, q, true, hes, hel, hok.2, bagC_take ps i p q hq, refC_take ps i p q hq hlen⟩
        · exact ⟨_, Pk.zero, true, hes, hel, hz, bagC_lose ps i p q hq, refC_lose ps i p q hq hlen⟩
        · refine ⟨ps ++ [q], Pk.zero, true, ?_, by simp, hz, bagC_twice ps i p q hq hlen hok, refC_twice ps i p q hq hlen hok⟩
          intro q' hq'
          rcases List.mem_append.1 hq' with h | h
          · exact hps q' h
          · simp at h; subst h; exact hok
end Go.Proofs.Ytlkifobajdafpaa
