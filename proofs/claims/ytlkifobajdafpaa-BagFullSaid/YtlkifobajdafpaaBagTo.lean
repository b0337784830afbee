/- Package bag: the contract of To. -/
import Derived.Test.YtlkifobajdafpaaBagList
import Derived.Test.YtlkifobajdafpaaInts
namespace Go.Proofs.Ytlkifobajdafpaa
open Go.RowKit

/-- The places, from i on, of the packets to a node. -/
def toK (node : Int) : List Pk → Nat → List Int
  | [], _ => []
  | p :: r, i => (if p.t = node then [(i : Int)] else []) ++ toK node r (i + 1)
theorem toK_append (node : Int) (a b : List Pk) : ∀ i, toK node (a ++ b) i = toK node a i ++ toK node b (i + a.length) := by
  induction a with
  | nil => intro i; simp [toK]
  | cons p a ih => intro i; simp only [List.cons_append, toK, ih, List.append_assoc, List.length_cons]; congr 3; omega
theorem toK_snoc (node : Int) (a : List Pk) (p : Pk) : toK node (a ++ [p]) 0 = toK node a 0 ++ (if p.t = node then [(a.length : Int)] else []) := by
  rw [toK_append]; simp [toK]
theorem toK_le (node : Int) (a : List Pk) : ∀ i, (toK node a i).length ≤ a.length := by
  induction a with
  | nil => intro i; simp [toK]
  | cons p a ih => intro i; have := ih (i + 1); simp only [toK, List.length_append, List.length_cons]; split <;> simp <;> omega

theorem bag_To_nil (node : Int) (w : World) :
    Calls Try.prog 31 #[.pointer none, .int .i64 node] w fun e w' => e = .returned (.slice none 0 0) ∧ w = w' := by
  go_enter Try.func31, Try.ntmps31
  go_wp2_with (go_at_call 29; refine (bag_List_nil _).mono ?_; rintro e w1 ⟨rfl, rfl⟩)
  refine wp_loop_rounds 1 ?_
  rw [rounds_succ]
  go_wp2
  go_ret
  exact ⟨rfl, rfl⟩

set_option maxHeartbeats 1000000 in
theorem bag_To (b B : Nat) (A : Option Addr) (n c : Nat) (R : Nat → Prop) (qs : List Pv) (ps : List Pk) (node : Int) (w : World) (hb : Blk w b 76 #[.slice A n c]) (hr : Reads w R 3 A n (pcs qs)) (hp : PRs w B qs ps)
    (hB : B ≤ w.heap.size) (hn : n ≤ 1000000) (hd : ∀ p ∈ ps, p.d.length ≤ 140737488355328) :
    Calls Try.prog 31 #[.pointer (some ⟨b, 0, none⟩), .int .i64 node] w fun e w' => ∃ v, e = .returned v ∧ OwnI w' w.heap.size v (toK node ps 0) ∧ Mod Non w w' := by
  have HD := Lib.hid hd
  have hql := hr.1
  rw [pcs_length] at hql
  have hpl := hp.1
  have HPL : Hid (ps.length = n) := by show _ = _; omega
  clear hd hql hpl
  go_enter Try.func31, Try.ntmps31
  go_wp2_with (go_at_call 29; refine (bag_List b B A n c R qs ps _ hb hr hp hB hn HD.out).mono ?_; rintro e w1 ⟨v1, qs1, rfl, hown1, hp1, hm1⟩; (obtain ⟨A1, n1, c1, rfl, hl1, _⟩ := hown1.form))
  have hr1 := hown1.reads
  have HN1 : Hid (n1 = n) := by show _ = _; rw [hl1.out, hp1.1]; exact HPL.out
  have hn1 : n1 ≤ 1000000 := by rw [HN1.out]; exact hn
  clear hl1 hown1 hr hp hb
  go_loopw [5, 11] (fun v i wr => ∃ k : Nat, k ≤ n1 ∧ i = .int .i64 k ∧ OwnI wr w1.heap.size v (toK node (ps.take k) 0) ∧ Mod Non w1 wr) (fun _ i _ => n1 - (intOf i).toNat)
  case atStart => exact ⟨0, by omega, rfl, OwnI.nil _ _, Mod.refl _ _⟩
  case round =>
    obtain ⟨k, hk, rfl, hown, hmr⟩ := hrel
    have hsz := hmr.size
    by_cases hlt : k < n1
    · have hrr := hr1.mod hmr (fun _ _ _ h => h)
      obtain ⟨ab, off, ⟨f, t, A2, n2, c2⟩, hA, hab, _, hqk, d0, d1, d2⟩ := hrr.pk hlt
      have hkp : k < ps.length := by have := HPL.out; have := HN1.out; omega
      obtain ⟨p, hpk⟩ : ∃ p, p = ps[k] := ⟨_, rfl⟩
      have hpk' : ps[k]? = some p := by rw [hpk]; exact List.getElem?_eq_getElem hkp
      obtain ⟨_, ht, _⟩ := hp1.2 k _ p hqk hpk'
      simp only at d0 d1 d2 ht
      have hps : Hid (toK node (ps.take (k + 1)) 0 = toK node (ps.take k) 0 ++ (if t = node then [(k : Int)] else [])) := by
        show _ = _
        rw [List.take_add_one, hpk']
        show toK node (ps.take k ++ [p]) 0 = _
        rw [toK_snoc, List.length_take, Nat.min_eq_left (by omega), ht]
      have hle : (toK node (ps.take k) 0).length ≤ 10000000 := by
        have := toK_le node (ps.take k) 0
        rw [List.length_take] at this
        have := HN1.out
        omega
      subst hA
      have hmw : Mod Non wr (wr.alloc (.cells #[.int .i64 f, .int .i64 t, .slice A2 n2 c2] 48)) := (Mod.refl _ _).alloc _
      have hown' := hown.non hmw
      clear hrr hqk hpk hpk' ht
      by_cases htn : t = node
      · have e1 : (t == node) = true := by simp [htn]
        have HTN := Lib.hid htn
        clear htn
        go_wp2_with (at_builtin; refine wpList_append_int rfl (.tmp 20) (.tmp 22) rfl w1.heap.size _ _ rfl hown' k (wr.heap.size + 1) (by simp) rfl hle (by simp; omega) ?_; intro v2 w2 hown2 hm2 _)
        have hmr2 := hown'.modNon (hmr.trans' hmw) hm2
        clear hm2 hown' hown hmw
        go_wp2
        go_roundw
        case rel => exact ⟨k + 1, by omega, by go_num, by rw [hps.out, if_pos HTN.out]; exact hown2, hmr2⟩
        case measure => simp [intOf]; omega
      · have e1 : (t == node) = false := by simp [htn]
        have HTN := Lib.hid htn
        clear htn
        go_wp2
        go_roundw
        case rel => exact ⟨k + 1, by omega, by go_num, by rw [hps.out, if_neg HTN.out, List.append_nil]; exact hown', hmr.trans' hmw⟩
        case measure => simp [intOf]; omega
    · have hps : ps.take k = ps := List.take_of_length_le (by have := HPL.out; have := HN1.out; omega)
      rw [hps] at hown
      clear hps
      go_wp2
      go_ret
      exact ⟨_, rfl, hown.lower hm1.size, hm1.trans' hmr⟩
end Go.Proofs.Ytlkifobajdafpaa
