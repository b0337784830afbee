/- Package bag: the contracts of List and To. -/
import Derived.Test.YtlkifobajdafpaaBag
namespace Go.Proofs.Ytlkifobajdafpaa
open Go.RowKit

theorem packet_info2 : (Try.prog.info? 48).map (fun i => (i.zero, i.size, i.bytes)) = some (some (.agg #[.int .i64 0, .int .i64 0, .slice none 0 0]), 3, 40) := by kernel_rfl

/-- 'append(s, p)' of one packet: it lies in a block of its own first. -/
theorem wpList_append_packet {w : World} {ops : Array Oper} {rest : List Oper} {o : Oper} {a : Act} {Q : Exit → Act → World → Prop} (hgd : o.guard = none) (s x : Operand)
    (ho : o.op = .call { callee := .builtin .append, args := #[s, x], argTypes := #[46, 46] })
    (B : Nat) (v : Value) (qs : List Pv) (hs : a.eval s = v) (hown : OwnP w B v qs) (f t : Int) (A : Option Addr) (n c : Nat) (hx : a.eval x = .slice (some ⟨w.heap.size, 0, none⟩) 1 1)
    (hlen : qs.length ≤ 1000000) (hB : B ≤ w.heap.size)
    (h : ∀ v' w', OwnP w' B v' (qs ++ [⟨f, t, A, n, c⟩]) → Mod (fun g => v.ownBlock = some g) w w' → (v'.ownBlock = v.ownBlock ∨ ∃ g, v'.ownBlock = some g ∧ w.heap.size ≤ g) → wpList Try.prog ops Q rest (a.put o.dst v') w') :
    wpList Try.prog ops Q (o :: rest) a (w.alloc (.cells #[.int .i64 f, .int .i64 t, .slice A n c] 48)) := by
  obtain ⟨i0, hi, hz0, hz1, hz2⟩ := info_parts packet_info2
  refine wpList_append_any _ hgd s x 46 ho B 48 i0 _ 3 40 Try.underlying46 hi hz0 hz1 hz2 rfl (by omega) v qs.length (pcs qs) hs (hown.alloc _) (fun _ => True) _ 1 1
    [.int .i64 f, .int .i64 t, .slice A n c] hx (reads_new w _ _ _ trivial 3 rfl) (by intro u hu; simp at hu; rcases hu with rfl | rfl | rfl <;> rfl) (by unfold maxLen; omega) (by omega) (by simp; omega) ?_
  intro v' w' h1 h2 h3
  refine h v' w' ?_ (((Mod.refl Non w).alloc _).non.trans (mod_of_grown h2) fun _ _ h => h) ?_
  · unfold OwnP; rw [pcs_append, List.length_append]; exact h1
  · rcases h3 with h3 | h3
    · exact .inl h3
    · exact .inr ⟨_, h3, by simp⟩

theorem OwnP.modNon {w0 w w' : World} {v : Value} {qs : List Pv} (h : OwnP w w0.heap.size v qs) (hm : Mod Non w0 w) (hm' : Mod (fun g => v.ownBlock = some g) w w') : Mod Non w0 w' :=
  hm.trans hm' fun i hi h' => by have := (World.ownsRow.lt h i h').1; omega
theorem OwnP.kp {w w' : World} {B B' : Nat} {v : Value} {qs : List Pv} (h : OwnP w B' v qs) (hB : B ≤ B') (hm' : Mod (fun g => v.ownBlock = some g) w w') : Kp B w w' :=
  Kp.of_mod hm' fun k _ hk => ⟨Nat.le_trans hB (h.nb k hk).1, (h.nb k hk).2⟩

theorem bag_List_nil (w : World) :
    Calls Try.prog 29 #[.pointer none] w fun e w' => e = .returned (.slice none 0 0) ∧ w = w' := by
  go_enter Try.func29, Try.ntmps29
  go_wp2
  go_ret
  exact ⟨rfl, rfl⟩

set_option maxHeartbeats 1000000 in
theorem bag_List (b B : Nat) (A : Option Addr) (n c : Nat) (R : Nat → Prop) (qs : List Pv) (ps : List Pk) (w : World) (hb : Blk w b 76 #[.slice A n c]) (hr : Reads w R 3 A n (pcs qs)) (hp : PRs w B qs ps)
    (hB : B ≤ w.heap.size) (hn : n ≤ 1000000) (hd : ∀ p ∈ ps, p.d.length ≤ 140737488355328) :
    Calls Try.prog 29 #[.pointer (some ⟨b, 0, none⟩)] w fun e w' => ∃ v qs', e = .returned v ∧ OwnP w' w.heap.size v qs' ∧ PRs w' B qs' ps ∧ Mod Non w w' := by
  have c0 := hb.cell 0
  simp at c0
  have hql := hr.1
  rw [pcs_length] at hql
  have hpl := hp.1
  have HPL : Hid (ps.length = n) := by show _ = _; omega
  have HD := Lib.hid hd
  clear hql hpl hd
  go_enter Try.func29, Try.ntmps29
  go_wp2
  go_loopw [3, 13] (fun v i wr => ∃ (k : Nat) (qs' : List Pv), k ≤ n ∧ i = .int .i64 k ∧ OwnP wr w.heap.size v qs' ∧ PRs wr B qs' (ps.take k) ∧ Mod Non w wr) (fun _ i _ => n - (intOf i).toNat)
  case atStart => exact ⟨0, [], by omega, rfl, OwnP.nil _ _, PRs.nil, Mod.refl _ _⟩
  case round =>
    obtain ⟨k, qs', hk, rfl, hown, hprs, hmr⟩ := hrel
    have hsz := hmr.size
    by_cases hlt : k < n
    · have hrr := hr.mod hmr (fun _ _ _ h => h)
      obtain ⟨ab, off, ⟨f, t, A2, n2, c2⟩, hA, hab, _, hqk, d0, d1, d2⟩ := hrr.pk hlt
      have hkp : k < ps.length := by rw [HPL.out]; exact hlt
      obtain ⟨p, hpk⟩ : ∃ p, p = ps[k] := ⟨_, rfl⟩
      have hpk' : ps[k]? = some p := by rw [hpk]; exact List.getElem?_eq_getElem hkp
      obtain ⟨hf, ht, hdd⟩ := (hp.kp (Kp.non hmr)).2 k _ p hqk hpk'
      simp only at d0 d1 d2 hf ht hdd
      have hpd : p.d.length ≤ 140737488355328 := HD.out p (List.mem_of_getElem? hpk')
      have HPK := Lib.hid hpk'
      have HF := Lib.hid hf
      have HT := Lib.hid ht
      subst hA
      clear hrr hqk hpk hpk' hf ht
      go_wp2_with fail
      refine (bag_copied f t A2 n2 c2 p.d B _ (hdd.kp (Kp.non ((Mod.refl _ _).alloc _))) hpd (by simp; omega)).mono ?_
      rintro e w1 ⟨A3, n3, c3, rfl, hd1, hm1⟩
      have hm1' : Mod Non wr w1 := ((Mod.refl _ _).alloc _).trans' hm1
      have hown1 := hown.non hm1'
      have hprs1 := hprs.kp (Kp.non hm1')
      have hmr1 := hmr.trans' hm1'
      have hql : qs'.length ≤ 1000000 := by have := hprs.1; rw [List.length_take] at this; omega
      have hsz1 := hmr1.size
      clear hm1 hm1' hown hprs d0 d1 d2 hdd
      go_wp2_with (at_builtin; refine wpList_append_packet rfl (.tmp 17) (.tmp 20) rfl w.heap.size _ qs' rfl hown1 f t A3 n3 c3 rfl hql hsz1 ?_; intro v2 w2 hown2 hm2 _)
      have hk2 := hown1.kp hB hm2
      have hmr2 := hown1.modNon hmr1 hm2
      have hprs2 := (hprs1.kp hk2).snoc (q := ⟨f, t, A3, n3, c3⟩) (p := p) ⟨HF.out, HT.out, hd1.kp hk2⟩
      have hps : ps.take k ++ [p] = ps.take (k + 1) := by rw [List.take_add_one, HPK.out]; rfl
      rw [hps] at hprs2
      clear hps hprs1 hk2 hm2 hown1 hd1 hmr1
      go_wp2
      go_roundw
      case rel => exact ⟨k + 1, _, by omega, by go_num, hown2, hprs2, hmr2⟩
      case measure => simp [intOf]; omega
    · have hps : ps.take k = ps := List.take_of_length_le (by rw [HPL.out]; omega)
      rw [hps] at hprs
      clear hps
      go_wp2
      go_ret
      exact ⟨_, qs', rfl, hown, hprs, hmr⟩
end Go.Proofs.Ytlkifobajdafpaa
