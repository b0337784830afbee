/- The reference of package bag: the contracts of Same and All. -/
import Derived.Test.YtlkifobajdafpaaBagList
import Derived.Deep.RegionHeld3
namespace Go.Proofs.Ytlkifobajdafpaa
open Go.RowKit

def samePB (p p' : Pk) : Bool := p.f == p'.f && p.t == p'.t && sameB p.d p'.d
theorem samePB_refl (p : Pk) : samePB p p = true := by simp [samePB, sameB]

theorem ref38_Same (f t : Int) (A : Option Addr) (n c : Nat) (f' t' : Int) (A' : Option Addr) (n' c' : Nat) (d d' : List UInt8) (B : Nat) (w : World) (hd : RdB w B A n d) (hd' : RdB w B A' n' d') (hmax : n ≤ maxLen) :
    Calls Try.prog 26 #[.agg #[.int .i64 f, .int .i64 t, .slice A n c], .agg #[.int .i64 f', .int .i64 t', .slice A' n' c']] w fun e w' => e = .returned (.bool (samePB ⟨f, t, d⟩ ⟨f', t', d'⟩)) ∧ Mod Non w w' := by
  by_cases hf : f = f'
  · by_cases ht : t = t'
    · have e1 : (f == f') = true := by simp [hf]
      have e2 : (t == t') = true := by simp [ht]
      have HR : Hid (samePB ⟨f, t, d⟩ ⟨f', t', d'⟩ = sameB d d') := by show _ = _; simp [samePB, hf, ht]
      clear hf ht
      go_enter Try.func26, Try.ntmps26
      go_wp2_with fail
      refine (ref_Same A A' n n' c c' _ _ d d' _ ((hd.alloc _).alloc _) ((hd'.alloc _).alloc _) hmax).mono ?_
      rintro e w1 ⟨rfl, hm⟩
      go_wp2
      go_ret
      exact ⟨by rw [HR.out]; rfl, (((Mod.refl _ _).alloc _).alloc _).trans' hm⟩
    · have e1 : (f == f') = true := by simp [hf]
      have e2 : (t == t') = false := by simp [ht]
      have HR : Hid (samePB ⟨f, t, d⟩ ⟨f', t', d'⟩ = false) := by show _ = _; simp [samePB, ht]
      clear hf ht
      go_enter Try.func26, Try.ntmps26
      go_wp2
      go_ret
      exact ⟨by rw [HR.out]; rfl, ((Mod.refl _ _).alloc _).alloc _⟩
  · have e1 : (f == f') = false := by simp [hf]
    have HR : Hid (samePB ⟨f, t, d⟩ ⟨f', t', d'⟩ = false) := by show _ = _; simp [samePB, hf]
    clear hf
    go_enter Try.func26, Try.ntmps26
    go_wp2
    go_ret
    exact ⟨by rw [HR.out]; rfl, ((Mod.refl _ _).alloc _).alloc _⟩

set_option maxHeartbeats 1000000 in
/-- All of two rows that say the same. -/
theorem ref38_All (A A' : Option Addr) (n n' c c' B : Nat) (R R' : Nat → Prop) (qs qs' : List Pv) (ps : List Pk) (w : World) (hr : Reads w R 3 A n (pcs qs)) (hr' : Reads w R' 3 A' n' (pcs qs')) (hp : PRs w B qs ps) (hp' : PRs w B qs' ps) (hn : n ≤ 1000000)
    (hd : ∀ p ∈ ps, p.d.length ≤ 140737488355328) :
    Calls Try.prog 28 #[.slice A n c, .slice A' n' c'] w fun e w' => e = .returned (.bool true) ∧ Mod Non w w' := by
  have hql := hr.1
  have hql' := hr'.1
  rw [pcs_length] at hql hql'
  have hpl := hp.1
  have hpl' := hp'.1
  obtain rfl : n = n' := by omega
  have HPL : Hid (ps.length = n) := by show _ = _; omega
  have HD := Lib.hid hd
  clear hql hql' hpl hpl' hd
  have e1 : ((n : Int) != n) = false := by simp
  go_enter Try.func28, Try.ntmps28
  go_wp2
  go_loopw [5] (fun i wr => ∃ k : Nat, k ≤ n ∧ i = .int .i64 k ∧ Mod Non w wr) (fun i _ => n - (intOf i).toNat)
  case atStart => exact ⟨0, by omega, rfl, Mod.refl _ _⟩
  case round =>
    obtain ⟨k, hk, rfl, hmr⟩ := hrel
    by_cases hlt : k < n
    · obtain ⟨ab, off, ⟨f, t, A2, n2, c2⟩, hA, hab, _, hqk, d0, d1, d2⟩ := (hr.mod hmr (fun _ _ _ h => h)).pk hlt
      obtain ⟨ab', off', ⟨f', t', A2', n2', c2'⟩, hA', hab', _, hqk', d0', d1', d2'⟩ := (hr'.mod hmr (fun _ _ _ h => h)).pk hlt
      have hkp : k < ps.length := by rw [HPL.out]; exact hlt
      have hpk : ps[k]? = some ps[k] := List.getElem?_eq_getElem hkp
      obtain ⟨p, hpk⟩ : ∃ p, ps[k]? = some p := ⟨_, hpk⟩
      obtain ⟨hf, ht, hdd⟩ := (hp.kp (Kp.non hmr)).2 k _ p hqk hpk
      obtain ⟨hf', ht', hdd'⟩ := (hp'.kp (Kp.non hmr)).2 k _ p hqk' hpk
      simp only at d0 d1 d2 d0' d1' d2' hf ht hdd hf' ht' hdd'
      have hpd := HD.out p (List.mem_of_getElem? hpk)
      have hn2 : n2 ≤ maxLen := by have := hdd.1; rw [vbs_length] at this; simp only [maxLen]; omega
      have HS : Hid (samePB ⟨f, t, p.d⟩ ⟨f', t', p.d⟩ = true) := by show _ = _; simp [samePB, sameB, hf, ht, hf', ht']
      subst hA hA'
      clear hqk hqk' hpk hf ht hf' ht' hpd
      have hk0 : (0 : Int) ≤ (k : Int) := by omega
      have hk1 : (k : Int) < (n : Int) := by omega
      go_wp2
      go_region_held3 (fun w' => w'.cell? ⟨ab, off + k * 3, none⟩ = some (.int .i64 f) ∧ w'.cell? ⟨ab, off + k * 3 + 1, none⟩ = some (.int .i64 t) ∧ w'.cell? ⟨ab, off + k * 3 + 2, none⟩ = some (.slice A2 n2 c2) ∧
          w'.cell? ⟨ab', off' + k * 3, none⟩ = some (.int .i64 f') ∧ w'.cell? ⟨ab', off' + k * 3 + 1, none⟩ = some (.int .i64 t') ∧ w'.cell? ⟨ab', off' + k * 3 + 2, none⟩ = some (.slice A2' n2' c2'))
        (go_keep)
        (first
          | (go_at_call 26
             refine (ref38_Same f t A2 n2 c2 f' t' A2' n2' c2' p.d p.d B _ (by exact hdd.drew) (by exact hdd'.drew) hn2).mono ?_
             rintro e w1 ⟨rfl, hm1⟩
             rw [HS.out]
             have x0 := (hm1.undrew.cell (p := ⟨ab, off + k * 3, none⟩) hab (fun h => h)).trans d0
             have x1 := (hm1.undrew.cell (p := ⟨ab, off + k * 3 + 1, none⟩) hab (fun h => h)).trans d1
             have x2 := (hm1.undrew.cell (p := ⟨ab, off + k * 3 + 2, none⟩) hab (fun h => h)).trans d2
             have y0 := (hm1.undrew.cell (p := ⟨ab', off' + k * 3, none⟩) hab' (fun h => h)).trans d0'
             have y1 := (hm1.undrew.cell (p := ⟨ab', off' + k * 3 + 1, none⟩) hab' (fun h => h)).trans d1'
             have y2 := (hm1.undrew.cell (p := ⟨ab', off' + k * 3 + 2, none⟩) hab' (fun h => h)).trans d2'))
      have hmr2 := hmr.trans' hm1.undrew
      go_wp2
      go_roundw
      case rel => exact ⟨k + 1, by omega, by go_num, hmr2⟩
      case measure => simp [intOf]; omega
    · go_wp2
      go_ret
      exact ⟨rfl, hmr⟩
end Go.Proofs.Ytlkifobajdafpaa
