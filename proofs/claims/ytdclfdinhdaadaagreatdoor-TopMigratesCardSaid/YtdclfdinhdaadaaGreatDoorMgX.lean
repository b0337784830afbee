/- Package snapone: what reads a pair, a session, lists of them. -/
import Derived.Test.YtdclfdinhdaadaaGreatDoorMgV
namespace Go.Proofs.YtdclfdinhdaadaaGreatDoor
open Go.RowKit

/-- a text's bytes are at a place -/
theorem at_str {l r : List UInt8} {a : Nat} {s : ByteArray} (h : l.drop a = vbytes s.size ++ (s.data.toList ++ r)) (ha : a ≤ l.length) (hs : s.size ≤ 10000000) :
    gscan 0 0 (l.drop a) = .ok (s.size, (vbytes s.size).length) ∧ (⟨((l.drop (a + (vbytes s.size).length)).take s.size).toArray⟩ : ByteArray) = s ∧ a + (vbytes s.size).length + s.size ≤ l.length ∧ l.drop (a + (vbytes s.size).length + s.size) = r := by
  obtain ⟨h1, h2⟩ := at_num h (by omega)
  have hsz : s.data.toList.length = s.size := by simp
  have hlen := congrArg List.length h
  rw [List.length_drop, List.length_append, List.length_append, hsz] at hlen
  have h3 : (l.drop (a + (vbytes s.size).length)).take s.size = s.data.toList := by rw [h2, ← hsz, List.take_left' rfl]
  refine ⟨h1, by rw [h3], by omega, ?_⟩
  rw [← List.drop_drop, h2, ← hsz, List.drop_left' rfl]

theorem rd_str (g a : Nat) (l r : List UInt8) (s : ByteArray) (most : Int) (w : World) (hr : Rd w g l a) (h : l.drop a = vbytes s.size ++ (s.data.toList ++ r)) (hm : (s.size : Int) ≤ most) (hs : s.size ≤ 10000000) :
    Calls Tryz.prog 79 #[.pointer (some ⟨g, 0, none⟩), .int .i64 most] w fun e w' => e = .returned (.string s) ∧ Rd w' g l (a + (vbytes s.size).length + s.size) ∧ Mod (One g) w w' := by
  obtain ⟨h1, h2, h3, _⟩ := at_str h hr.len.1 hs
  have := rd_Text g a s.size (vbytes s.size).length l most w hr h1 hm h3
  rwa [h2] at this

theorem Mod.setNew {S : Nat → Prop} {a w : World} (h : Mod S a w) {g : Nat} (hg : a.heap.size ≤ g) (i : Nat) (u : Value) : Mod S a (w.setCell ⟨g, i, none⟩ u) :=
  h.setCell (p := ⟨g, i, none⟩) (fun h => absurd h (Nat.not_lt.2 hg)) u

set_option maxHeartbeats 1000000 in
theorem one_pair (g a H : Nat) (l r : List UInt8) (p : Pa) (w : World) (hr : Rd w g l a) (h : l.drop a = penc 1 p ++ r) (hp : p.Ok) (h0 : p.rev = 0) (hb : Blk w H 80 #[.pointer (some ⟨g, 0, none⟩)]) (hgH : g < H) :
    Calls Tryz.prog 78 #[.pointer (some ⟨H, 0, none⟩)] w fun e w' => e = .returned p.v ∧ Rd w' g l (a + (penc 1 p).length) ∧ Mod (One g) w w' := by
  obtain ⟨key, val, rv⟩ := p
  obtain ⟨k1, k2⟩ := hp
  have k1 := (keyB_size k1).2
  have k2 := valB_size k2
  simp only at h0 k1 k2
  subst h0
  have hx : l.drop a = vbytes key.size ++ (key.data.toList ++ (vbytes val.size ++ (val.data.toList ++ r))) := by rw [h]; simp [penc]
  have hy := (at_str hx hr.len.1 (by omega)).2.2.2
  have HE : Hid (a + (vbytes key.size).length + key.size + (vbytes val.size).length + val.size = a + (penc 1 ⟨key, val, 0⟩).length) := by
    show _ = _
    simp [penc]
    omega
  have HX := Lib.hid hx
  have HY := Lib.hid hy
  clear hx hy h
  have hz0 : Mod Non w (w.alloc (.cells #[.string ⟨#[]⟩, .string ⟨#[]⟩, .int .i64 0] 42)) := (Mod.refl _ _).alloc _
  have hr0 := hr.non hz0
  have b0 := hb.mod hz0 (fun h => h)
  have z0 := Blk.new w 42 #[.string ⟨#[]⟩, .string ⟨#[]⟩, .int .i64 0]
  have x0 := b0.cell 0
  simp at x0
  have hHl := hb.lt
  go_enter Tryz.func78, Tryz.ntmps78
  go_wp2_with fail
  refine (rd_str g a l _ key _ _ hr0 HX.out (by omega) (by omega)).mono ?_
  rintro e w1 ⟨rfl, hr1, hm1⟩
  have b1 := b0.mod hm1 (by unfold One; omega)
  have z1 := z0.mod hm1 (by unfold One; omega)
  have x1 := b1.cell 0
  simp at x1
  clear hr0 b0 z0 x0
  go_wp2_with fail
  refine (rd_str g _ l r val _ _ hr1 HY.out (by omega) (by omega)).mono ?_
  rintro e w2 ⟨rfl, hr2, hm2⟩
  have z2 := z1.mod hm2 (by unfold One; omega)
  have f0 := z2.frozen 0
  have f1 := z2.frozen 1
  have f2 := z2.frozen 2
  have c0 := z2.cell 0
  have c1 := z2.cell 1
  have c2 := z2.cell 2
  simp at c0 c1 c2
  rw [HE.out] at hr2
  have HM := Lib.hid (hz0.non.trans' (hm1.trans' hm2))
  clear hm1 hm2 hr1 b1 z1 x1 hz0
  go_wp2
  have z5 := ((z2.set_ 0 (.string key)).set_ 1 (.string val)).set_ 2 (.int .i64 0)
  refine bodyPost_ret (results_row rfl _ _ w.heap.size 42 #[.string key, .string val, .int .i64 0] (0, 0) _ rfl z5 Tryz.underlying42 rfl (by kernel_rfl)) rfl ?_
  exact ⟨rfl, ((hr2.far (by omega) _).far (by omega) _).far (by omega) _, ((HM.out.setCell (p := ⟨w.heap.size, 0, none⟩) (fun h => absurd h (Nat.lt_irrefl _)) _).setCell (p := ⟨w.heap.size, 1, none⟩) (fun h => absurd h (Nat.lt_irrefl _)) _).setCell (p := ⟨w.heap.size, 2, none⟩) (fun h => absurd h (Nat.lt_irrefl _)) _⟩

set_option maxRecDepth 100000 in
set_option maxHeartbeats 1000000 in
theorem one_sess (g a H : Nat) (l r : List UInt8) (x : Se) (w : World) (hr : Rd w g l a) (h : l.drop a = xenc 1 x ++ r) (hx : x.last.Ok) (h0 : x.last.rev = 0) (hc : x.last.client = x.client) (hs : x.last.seq = x.seq) (hb : Blk w H 80 #[.pointer (some ⟨g, 0, none⟩)]) (hgH : g < H) :
    Calls Tryz.prog 81 #[.pointer (some ⟨H, 0, none⟩)] w fun e w' => e = .returned x.v ∧ Rd w' g l (a + (xenc 1 x).length) ∧ Mod (One g) w w' := by
  obtain ⟨cl, sq, ⟨lc, ls, le, lf, lv, lr⟩⟩ := x
  simp only at h0 hc hs hx
  subst hc hs
  have HX := Lib.hid h
  have HN := Lib.hid hx
  have H0 := Lib.hid h0
  clear h hx h0
  have hz0 : Mod Non w (w.alloc (.cells #[.int .i64 0, .int .i64 0, .int .i64 0, .int .i64 0, .int .i64 0, .bool false, .string ⟨#[]⟩, .int .i64 0] 68)) := (Mod.refl _ _).alloc _
  have hr0 := hr.non hz0
  have b0 := hb.mod hz0 (fun h => h)
  have z0 := Blk.new w 68 #[.int .i64 0, .int .i64 0, .int .i64 0, .int .i64 0, .int .i64 0, .bool false, .string ⟨#[]⟩, .int .i64 0]
  have x0 := b0.cell 0
  simp at x0
  have hHl := hb.lt
  go_enter Tryz.func81, Tryz.ntmps81
  go_wp2_with fail
  refine (answer_Get g a l r 1 ⟨lc, ls, le, lf, lv, lr⟩ _ HN.out hr0 HX.out (fun _ => H0.out)).mono ?_
  rintro e w1 ⟨rfl, hr1, hm1⟩
  have z1 := z0.mod hm1 (by unfold One; omega)
  have z2 := z1.alloc (.cells #[.int .i64 lc, .int .i64 ls, .int .i64 le, .bool lf, .string lv, .int .i64 lr] 57)
  have HM := Lib.hid ((hz0.non.trans' hm1).alloc (.cells #[.int .i64 lc, .int .i64 ls, .int .i64 le, .bool lf, .string lv, .int .i64 lr] 57))
  have hr2 := hr1.non ((Mod.refl Non w1).alloc (.cells #[.int .i64 lc, .int .i64 ls, .int .i64 le, .bool lf, .string lv, .int .i64 lr] 57))
  have f0 := z2.frozen 0
  have f1 := z2.frozen 1
  have f2 := z2.frozen 2
  have f3 := z2.frozen 3
  have f4 := z2.frozen 4
  have f5 := z2.frozen 5
  have f6 := z2.frozen 6
  have f7 := z2.frozen 7
  have c0 := z2.cell 0
  have c1 := z2.cell 1
  have c2 := z2.cell 2
  have c3 := z2.cell 3
  have c4 := z2.cell 4
  have c5 := z2.cell 5
  have c6 := z2.cell 6
  have c7 := z2.cell 7
  simp at c0 c1 c2 c3 c4 c5 c6 c7
  clear hm1 hr0 b0 z0 x0 hz0
  go_wp2
  have z5 := ((((((((z2.set_ 0 (.int .i64 lc)).set_ 1 (.int .i64 ls)).set_ 2 (.int .i64 lc)).set_ 3 (.int .i64 ls)).set_ 4 (.int .i64 le)).set_ 5 (.bool lf)).set_ 6 (.string lv)).set_ 7 (.int .i64 lr))
  refine bodyPost_ret (results_row rfl _ _ w.heap.size 68 #[.int .i64 lc, .int .i64 ls, .int .i64 lc, .int .i64 ls, .int .i64 le, .bool lf, .string lv, .int .i64 lr] (0, 0) _ rfl z5 Tryz.underlying68 rfl (by kernel_rfl)) rfl ?_
  exact ⟨rfl, ((((((((hr2.far (by omega) _).far (by omega) _).far (by omega) _).far (by omega) _).far (by omega) _).far (by omega) _).far (by omega) _).far (by omega) _), ((((((((HM.out.setNew (Nat.le_refl _) _ _).setNew (Nat.le_refl _) _ _).setNew (Nat.le_refl _) _ _).setNew (Nat.le_refl _) _ _).setNew (Nat.le_refl _) _ _).setNew (Nat.le_refl _) _ _).setNew (Nat.le_refl _) _ _).setNew (Nat.le_refl _) _ _)⟩
end Go.Proofs.YtdclfdinhdaadaaGreatDoor

/- Package snapone: the lists. -/
namespace Go.Proofs.YtdclfdinhdaadaaGreatDoor
open Go.RowKit

theorem flat_at {α : Type} {f : α → List UInt8} {l r : List UInt8} {b k : Nat} {xs : List α} {x : α} (h : l.drop b = xs.flatMap f ++ r) (hx : xs[k]? = some x) :
    l.drop (b + ((xs.take k).flatMap f).length) = f x ++ ((xs.drop (k + 1)).flatMap f ++ r) := by
  obtain ⟨h1, h2⟩ := List.getElem?_eq_some_iff.1 hx
  have e : xs.flatMap f = (xs.take k).flatMap f ++ (f x ++ (xs.drop (k + 1)).flatMap f) := by
    rw [← h2, ← List.flatMap_cons, ← List.drop_eq_getElem_cons h1, ← List.flatMap_append, List.take_append_drop]
  rw [← List.drop_drop, h, e, List.append_assoc, List.drop_left' rfl, List.append_assoc]

theorem xenc_pos (v : Int) (x : Se) : 1 ≤ (xenc v x).length := by
  have := vbytes_pos x.last.client.toNat
  unfold xenc aenc
  simp only [List.length_append]
  omega

set_option maxRecDepth 100000 in
set_option maxHeartbeats 1000000 in
theorem one_list_Pa (g a H : Nat) (l r : List UInt8) (xs : List Pa) (w : World) (hr : Rd w g l a) (h : l.drop a = vbytes xs.length ++ (xs.flatMap (penc 1) ++ r)) (hx : ∀ x ∈ xs, x.Ok ∧ x.rev = 0) (hn : xs.length ≤ 64) (hb : Blk w H 80 #[.pointer (some ⟨g, 0, none⟩)]) (hgH : g < H) :
    Calls Tryz.prog 77 #[.pointer (some ⟨g, 0, none⟩), .int .i64 64, .func (.func 78) #[] #[.pointer (some ⟨H, 0, none⟩)]] w fun e w' => ∃ v, e = .returned v ∧ OwnP w' w.heap.size v xs ∧ Rd w' g l (a + (vbytes xs.length).length + (xs.flatMap (penc 1)).length) ∧ Mod (One g) w w' := by
  obtain ⟨h1, h2⟩ := at_num h (by omega)
  have hlen := congrArg List.length h
  rw [List.length_drop, List.length_append, List.length_append] at hlen
  have hge := flat_ge (penc 1) xs fun x _ => Nat.le_trans (by omega) (penc_two (v := 1) (p := x))
  have hal := hr.len.1
  have hvp := vbytes_pos xs.length
  have hv : a + (vbytes xs.length).length + xs.length ≤ l.length := by omega
  obtain ⟨n, hnn⟩ : ∃ n, n = xs.length := ⟨_, rfl⟩
  obtain ⟨t, ht⟩ : ∃ t, t = (vbytes xs.length).length := ⟨_, rfl⟩
  rw [← ht] at h1 h2 hv ⊢
  rw [← hnn] at h1 hv hn
  have HN := Lib.hid hnn
  have H1 := Lib.hid h1
  have H2 := Lib.hid h2
  have HX := Lib.hid hx
  have HV := Lib.hid hv
  have hgl := hr.lt
  have hHl := hb.lt
  clear h h1 h2 hlen hge hal hnn ht hv hvp hx
  go_enter Tryz.func77, Tryz.ntmps77
  go_wp2_with fail
  refine (rd_Count g a n t l 64 w hr H1.out (by omega) HV.out).mono ?_
  rintro e w1 ⟨rfl, hr1, hm1⟩
  have b1 := hb.mod hm1 (by unfold One; omega)
  go_wp2_with fail
  go_loopw [7, 11] (fun o i wr => ∃ k : Nat, k ≤ n ∧ i = .int .i64 k ∧ OwnP wr w.heap.size o (xs.take k) ∧ Rd wr g l (a + t + ((xs.take k).flatMap (penc 1)).length) ∧ Mod (One g) w wr) (fun _ i _ => n - (intOf i).toNat)
  case atStart => exact ⟨0, by omega, rfl, OwnP.nil _ _, by simpa using hr1, hm1⟩
  case round =>
    obtain ⟨k, hk, rfl, ho, hrd, hm⟩ := hrel
    clear hr1 hm1 b1
    obtain ⟨A2, m2, c2, rfl, hm2, hc2⟩ := ho.form
    by_cases hlt : k < n
    · have hkq : k < xs.length := by have := HN.out; omega
      obtain ⟨x, hxk⟩ : ∃ x, xs[k]? = some x := ⟨xs[k], by simp [hkq]⟩
      have hdr := flat_at (f := penc 1) H2.out hxk
      have hxo := HX.out _ (List.mem_of_getElem? hxk)
      have hkn : (k : Int) < n := by omega
      have bk := hb.mod hm (by unfold One; omega)
      have HXK := Lib.hid hxk
      have HDR := Lib.hid hdr
      have HXO := Lib.hid hxo
      have HM := Lib.hid hm
      have hsz := hm.size
      have hlk : (xs.take k).length ≤ 100000 := by rw [List.length_take]; omega
      clear hxk hdr hxo hm hm2
      obtain ⟨key, val, rv⟩ := x
      go_wp2_with fail
      refine (one_pair g _ H l _ ⟨key, val, rv⟩ _ hrd HDR.out HXO.out.1 HXO.out.2 bk hgH).mono ?_
      rintro e w3 ⟨rfl, hr3, hm3⟩
      have hsz3 := hm3.size
      have ho3 := OwnP.mod ho hm3 (fun g2 hg h => by have := (World.ownsRow.lt ho g2 hg).1; unfold One at h; omega)
      clear ho hrd
      go_wp2_with (at_builtin; refine wpList_append_Pa rfl (.tmp 13) (.tmp 16) rfl w.heap.size _ (xs.take k) rfl ho3 ⟨key, val, rv⟩ w3.heap.size rfl rfl hlk (by omega) ?_; intro v4 w4 hown4 hm4)
      go_roundw
      case rel =>
        have hm5 : Mod (One g) w w4 := (HM.out.trans' hm3).trans hm4 (fun i hi h => by have := (World.ownsRow.lt ho3 i h).1; omega)
        refine ⟨k + 1, by omega, by go_num, ?_, ?_, hm5⟩
        · obtain ⟨q1, q2⟩ := List.getElem?_eq_some_iff.1 HXK.out
          rw [List.take_succ_eq_append_getElem q1, q2]
          exact hown4
        · rw [flat_take (penc 1) xs HXK.out, List.length_append, ← Nat.add_assoc]
          exact hr3.mod hm4 (fun i hi h => by have := (World.ownsRow.lt ho3 i h).1; omega)
      case measure => simp [intOf]; omega
    · have hkn : ¬ (k : Int) < n := by omega
      have hkm : k = n := by omega
      subst hkm
      rw [List.take_of_length_le (by have := HN.out; omega)] at ho hrd
      have HO := Lib.hid ho
      have HR := Lib.hid hrd
      have HM := Lib.hid hm
      clear ho hrd hm hm2
      go_wp2
      go_ret
      exact ⟨_, rfl, HO.out, by simpa only [List.length_flatMap] using HR.out, HM.out⟩


set_option maxRecDepth 100000 in
set_option maxHeartbeats 1000000 in
theorem one_list_Se (g a H : Nat) (l r : List UInt8) (xs : List Se) (w : World) (hr : Rd w g l a) (h : l.drop a = vbytes xs.length ++ (xs.flatMap (xenc 1) ++ r)) (hx : ∀ x ∈ xs, x.last.Ok ∧ x.last.rev = 0 ∧ x.last.client = x.client ∧ x.last.seq = x.seq) (hn : xs.length ≤ 8) (hb : Blk w H 80 #[.pointer (some ⟨g, 0, none⟩)]) (hgH : g < H) :
    Calls Tryz.prog 80 #[.pointer (some ⟨g, 0, none⟩), .int .i64 8, .func (.func 81) #[] #[.pointer (some ⟨H, 0, none⟩)]] w fun e w' => ∃ v, e = .returned v ∧ OwnE w' w.heap.size v xs ∧ Rd w' g l (a + (vbytes xs.length).length + (xs.flatMap (xenc 1)).length) ∧ Mod (One g) w w' := by
  obtain ⟨h1, h2⟩ := at_num h (by omega)
  have hlen := congrArg List.length h
  rw [List.length_drop, List.length_append, List.length_append] at hlen
  have hge := flat_ge (xenc 1) xs fun x _ => xenc_pos 1 x
  have hal := hr.len.1
  have hvp := vbytes_pos xs.length
  have hv : a + (vbytes xs.length).length + xs.length ≤ l.length := by omega
  obtain ⟨n, hnn⟩ : ∃ n, n = xs.length := ⟨_, rfl⟩
  obtain ⟨t, ht⟩ : ∃ t, t = (vbytes xs.length).length := ⟨_, rfl⟩
  rw [← ht] at h1 h2 hv ⊢
  rw [← hnn] at h1 hv hn
  have HN := Lib.hid hnn
  have H1 := Lib.hid h1
  have H2 := Lib.hid h2
  have HX := Lib.hid hx
  have HV := Lib.hid hv
  have hgl := hr.lt
  have hHl := hb.lt
  clear h h1 h2 hlen hge hal hnn ht hv hvp hx
  go_enter Tryz.func80, Tryz.ntmps80
  go_wp2_with fail
  refine (rd_Count g a n t l 8 w hr H1.out (by omega) HV.out).mono ?_
  rintro e w1 ⟨rfl, hr1, hm1⟩
  have b1 := hb.mod hm1 (by unfold One; omega)
  go_wp2_with fail
  go_loopw [7, 11] (fun o i wr => ∃ k : Nat, k ≤ n ∧ i = .int .i64 k ∧ OwnE wr w.heap.size o (xs.take k) ∧ Rd wr g l (a + t + ((xs.take k).flatMap (xenc 1)).length) ∧ Mod (One g) w wr) (fun _ i _ => n - (intOf i).toNat)
  case atStart => exact ⟨0, by omega, rfl, OwnE.nil _ _, by simpa using hr1, hm1⟩
  case round =>
    obtain ⟨k, hk, rfl, ho, hrd, hm⟩ := hrel
    clear hr1 hm1 b1
    obtain ⟨A2, m2, c2, rfl, hm2, hc2⟩ := ho.form
    by_cases hlt : k < n
    · have hkq : k < xs.length := by have := HN.out; omega
      obtain ⟨x, hxk⟩ : ∃ x, xs[k]? = some x := ⟨xs[k], by simp [hkq]⟩
      have hdr := flat_at (f := xenc 1) H2.out hxk
      have hxo := HX.out _ (List.mem_of_getElem? hxk)
      have hkn : (k : Int) < n := by omega
      have bk := hb.mod hm (by unfold One; omega)
      have HXK := Lib.hid hxk
      have HDR := Lib.hid hdr
      have HXO := Lib.hid hxo
      have HM := Lib.hid hm
      have hsz := hm.size
      have hlk : (xs.take k).length ≤ 100000 := by rw [List.length_take]; omega
      clear hxk hdr hxo hm hm2
      obtain ⟨cl, sq, ⟨lc, ls, le, lf, lv, lr⟩⟩ := x
      go_wp2_with fail
      refine (one_sess g _ H l _ ⟨cl, sq, ⟨lc, ls, le, lf, lv, lr⟩⟩ _ hrd HDR.out HXO.out.1 HXO.out.2.1 HXO.out.2.2.1 HXO.out.2.2.2 bk hgH).mono ?_
      rintro e w3 ⟨rfl, hr3, hm3⟩
      have hsz3 := hm3.size
      have ho3 := OwnE.mod ho hm3 (fun g2 hg h => by have := (World.ownsRow.lt ho g2 hg).1; unfold One at h; omega)
      clear ho hrd
      go_wp2_with (at_builtin; refine wpList_append_Se rfl (.tmp 13) (.tmp 16) rfl w.heap.size _ (xs.take k) rfl ho3 ⟨cl, sq, ⟨lc, ls, le, lf, lv, lr⟩⟩ w3.heap.size rfl rfl hlk (by omega) ?_; intro v4 w4 hown4 hm4)
      go_roundw
      case rel =>
        have hm5 : Mod (One g) w w4 := (HM.out.trans' hm3).trans hm4 (fun i hi h => by have := (World.ownsRow.lt ho3 i h).1; omega)
        refine ⟨k + 1, by omega, by go_num, ?_, ?_, hm5⟩
        · obtain ⟨q1, q2⟩ := List.getElem?_eq_some_iff.1 HXK.out
          rw [List.take_succ_eq_append_getElem q1, q2]
          exact hown4
        · rw [flat_take (xenc 1) xs HXK.out, List.length_append, ← Nat.add_assoc]
          exact hr3.mod hm4 (fun i hi h => by have := (World.ownsRow.lt ho3 i h).1; omega)
      case measure => simp [intOf]; omega
    · have hkn : ¬ (k : Int) < n := by omega
      have hkm : k = n := by omega
      subst hkm
      rw [List.take_of_length_le (by have := HN.out; omega)] at ho hrd
      have HO := Lib.hid ho
      have HR := Lib.hid hrd
      have HM := Lib.hid hm
      clear ho hrd hm hm2
      go_wp2
      go_ret
      exact ⟨_, rfl, HO.out, by simpa only [List.length_flatMap] using HR.out, HM.out⟩

end Go.Proofs.YtdclfdinhdaadaaGreatDoor

/- Package snapone: the contract of Decode at the bytes of a state. -/
namespace Go.Proofs.YtdclfdinhdaadaaGreatDoor
open Go.RowKit

theorem senc_at (s : St) : senc s = vbytes s.schema.toNat ++ (vbytes s.pairs.length ++ (s.pairs.flatMap (penc s.schema) ++ (vbytes s.sess.length ++ (s.sess.flatMap (xenc s.schema) ++ [])))) := by
  simp [senc, pencs, xencs]

/-- behind one part -/
theorem drop_next {l x r : List UInt8} {a : Nat} (h : l.drop a = x ++ r) : l.drop (a + x.length) = r := by rw [← List.drop_drop, h, List.drop_left' rfl]

set_option maxRecDepth 100000 in
set_option maxHeartbeats 1000000 in
theorem snapone_Decode (ps : List Pa) (ss : List Se) (A : Option Addr) (n c : Nat) (R : Nat → Prop) (w : World) (hr : Reads w R 1 A n (vbs (senc ⟨1, ps, ss⟩))) (hok : St.Ok ⟨1, ps, ss⟩) (hT : T8 w) (hn : n ≤ 10000000) :
    Calls Tryz.prog 36 #[.slice A n c] w fun e w' => ∃ v1 v2, e = .returned (.tuple #[stv 1 v1 v2, .int .i64 0]) ∧ OwnP w' w.heap.size v1 ps ∧ OwnE w' w.heap.size v2 ss ∧ Mod Non w w' := by
  have hl0 : (senc ⟨1, ps, ss⟩).drop 0 = vbytes 1 ++ (vbytes ps.length ++ (ps.flatMap (penc 1) ++ (vbytes ss.length ++ (ss.flatMap (xenc 1) ++ [])))) := senc_at _
  obtain ⟨h1, hl1⟩ := at_num (n := 1) hl0 (by omega)
  have hl2 := drop_next (drop_next hl1)
  have hl3 := congrArg List.length hl0
  have hps : ps.length ≤ 64 := hok.pairs.few
  have hss : ss.length ≤ 8 := ses_few hok.sess
  have HE : Hid (0 + (vbytes 1).length + (vbytes ps.length).length + (ps.flatMap (penc 1)).length + (vbytes ss.length).length + (ss.flatMap (xenc 1)).length = (senc ⟨1, ps, ss⟩).length) := by
    show _ = _
    rw [List.drop_zero] at hl3
    rw [hl3]
    simp only [List.length_append, List.length_nil]
    omega
  obtain ⟨l, hl⟩ : ∃ l, l = senc ⟨1, ps, ss⟩ := ⟨_, rfl⟩
  rw [← hl] at hr h1 hl1 hl2 HE
  obtain ⟨t0, ht0⟩ : ∃ t0, t0 = (vbytes 1).length := ⟨_, rfl⟩
  rw [← ht0] at h1 hl1 hl2 HE
  have H1 := Lib.hid h1
  have HL1 := Lib.hid hl1
  have HL2 := Lib.hid hl2
  have HOK := Lib.hid hok
  have OKP : Hid (∀ x ∈ ps, x.Ok ∧ x.rev = 0) := fun p hp => by simpa using hok.pairs.each p hp
  have OKE : Hid (∀ x ∈ ss, x.last.Ok ∧ x.last.rev = 0 ∧ x.last.client = x.client ∧ x.last.seq = x.seq) := fun x hx => ⟨(hok.sess.each x hx).2.2.1, hok.revs rfl x hx, (hok.sess.each x hx).1, (hok.sess.each x hx).2.1⟩
  clear h1 hl1 hl2 hl0 hl3 hl ht0 hok
  have hm0 := (Mod.refl Non w).alloc (.cells #[.int .i64 0, .slice none 0 0, .slice none 0 0] 25)
  have z0 := Blk.new w 25 #[.int .i64 0, .slice none 0 0, .slice none 0 0]
  go_enter Tryz.func36, Tryz.ntmps36
  go_wp2_with fail
  refine (rd_New A n c R l _ (hr.mod hm0 fun _ _ _ h => h) hn).mono ?_
  rintro e w1 ⟨g, rfl, hg, hr1, hm1⟩
  have z1 := z0.mod hm1 (fun h => h)
  have hz1 := z1.lt
  have hm01 := hm0.trans' hm1
  have hgl := hr1.lt
  rw [World.size_alloc] at hg
  have hm2 := (Mod.refl Non w1).alloc (.cells #[.pointer (some ⟨g, 0, none⟩)] 80)
  have b2 := Blk.new w1 80 #[.pointer (some ⟨g, 0, none⟩)]
  have hr2 := hr1.non hm2
  have z2 := z1.mod hm2 (fun h => h)
  have hm02 := hm01.trans' hm2
  have x2 := b2.cell 0
  simp at x2
  clear hm0 z0 hm1 z1 hm01 hr1 hm2
  go_wp2_with fail
  refine (rd_Number g 0 1 t0 l 2 _ hr2 H1.out (by omega)).mono ?_
  rintro e w3 ⟨rfl, hr3, hm3⟩
  have z3 := z2.mod hm3 (by unfold One; omega)
  have b3 := b2.mod hm3 (by unfold One; omega)
  have hm03 := hm02.trans hm3 (fun i hi h => by unfold One at h; omega)
  have x3 := b3.cell 0
  simp at x3
  clear hm02 hm3 z2 b2 hr2 x2
  go_wp2_with fail
  refine (rd_Err g _ l _ hr3).mono ?_
  rintro e w4 ⟨rfl, rfl⟩
  have hm4 := (Mod.refl Non w3).alloc (.cells #[.int .i64 1, .slice none 0 0, .slice none 0 0] 25)
  have s4 := Blk.new w3 25 #[.int .i64 1, .slice none 0 0, .slice none 0 0]
  have hr4 := hr3.non hm4
  have b4 := b3.mod hm4 (fun h => h)
  have z4 := z3.mod hm4 (fun h => h)
  have hm04 := hm03.trans' hm4
  have lb3 := b3.lt
  have lz3 := z3.lt
  have x4 := b4.cell 0
  simp only [List.getElem?_toArray, List.getElem?_cons_zero] at x4
  clear hm4 b3 z3 hm03 hr3
  go_wp2_with fail
  refine (one_list_Pa g _ w1.heap.size l _ ps _ hr4 HL1.out OKP.out hps b4 hgl).mono ?_
  rintro e w5 ⟨v1, rfl, ho5, hr5, hm5⟩
  obtain ⟨A1, m1, c1, rfl, hx1, hc1⟩ := ho5.form
  have b5 := b4.mod hm5 (by unfold One; omega)
  have z5 := z4.mod hm5 (by unfold One; omega)
  have s5 := s4.mod hm5 (by unfold One; omega)
  have x5 := b5.cell 0
  have f5 := s5.frozen 1
  have y5 := s5.cell 1
  simp at x5 y5
  have hm05 := hm04.trans hm5 (fun i hi h => by unfold One at h; omega)
  clear x3 x4 hm04 hr4 b4 z4 s4 hm5
  have hs6 : Mod (One w3.heap.size) w5 (w5.setCell ⟨w3.heap.size, 1, none⟩ (.slice A1 m1 c1)) := (Mod.refl _ _).setOne _
  have s6 : Blk (w5.setCell ⟨w3.heap.size, 1, none⟩ (.slice A1 m1 c1)) w3.heap.size 25 #[.int .i64 1, (.slice A1 m1 c1), .slice none 0 0] := s5.set_ 1 (.slice A1 m1 c1)
  have b6 := b5.mod hs6 (by unfold One; omega)
  have z6 := z5.mod hs6 (by unfold One; omega)
  have hr6 := hr5.mod hs6 (fun i hi h => by unfold One at h; omega)
  have hl5 := s5.lt
  have ho6 := OwnP.mod ho5 hs6 (fun g2 hg h => by have := (World.ownsRow.lt ho5 g2 hg).1; simp only [World.size_alloc] at this; unfold One at h; omega)
  have hm06 := hm05.trans hs6 (fun i hi h => by unfold One at h; have := hm05.size; omega)
  have hs5 := hm05.size
  go_wp2_with fail
  clear x5 f5 y5 hs6 s5 b5 z5 hr5 ho5 hm05
  generalize w5.setCell ⟨w3.heap.size, 1, none⟩ (.slice A1 m1 c1) = w6 at s6 b6 z6 hr6 ho6 hm06 ⊢
  have lb6 := b6.lt
  have ls6 := s6.lt
  refine (one_list_Se g _ w1.heap.size l [] ss _ hr6 HL2.out OKE.out hss b6 hgl).mono ?_
  rintro e w7 ⟨v2, rfl, ho7, hr7, hm7⟩
  obtain ⟨A2, m2, c2, rfl, hx2, hc2⟩ := ho7.form
  rw [HE.out] at hr7
  have b7 := b6.mod hm7 (by unfold One; omega)
  have z7 := z6.mod hm7 (by unfold One; omega)
  have s7 := s6.mod hm7 (by unfold One; omega)
  have hp7 := OwnP.mod ho6 hm7 (fun g2 hg h => by have := (World.ownsRow.lt ho6 g2 hg).1; simp only [World.size_alloc] at this; unfold One at h; omega)
  have x7 := b7.cell 0
  have f7 := s7.frozen 2
  have y7 := s7.cell 2
  simp at x7 y7
  have hm07 := hm06.trans hm7 (fun i hi h => by unfold One at h; omega)
  clear hm7 b6 z6 s6 ho6 hr6 hm06
  have hs8 : Mod (One w3.heap.size) w7 (w7.setCell ⟨w3.heap.size, 2, none⟩ (.slice A2 m2 c2)) := (Mod.refl _ _).setOne _
  have s8 : Blk (w7.setCell ⟨w3.heap.size, 2, none⟩ (.slice A2 m2 c2)) w3.heap.size 25 #[.int .i64 1, (.slice A1 m1 c1), (.slice A2 m2 c2)] := s7.set_ 2 (.slice A2 m2 c2)
  have b8 := b7.mod hs8 (by unfold One; omega)
  have z8 := z7.mod hs8 (by unfold One; omega)
  have hr8 := hr7.mod hs8 (fun i hi h => by unfold One at h; omega)
  have hp8 := OwnP.mod hp7 hs8 (fun g2 hg h => by have := (World.ownsRow.lt hp7 g2 hg).1; simp only [World.size_alloc] at this; unfold One at h; omega)
  have ho8 := OwnE.mod ho7 hs8 (fun g2 hg h => by have := (World.ownsRow.lt ho7 g2 hg).1; unfold One at h; omega)
  have hl7 := hm07.size
  have hm08 := hm07.trans hs8 (fun i hi h => by unfold One at h; omega)
  have hlz7 := s7.lt
  clear hs8 s7 b7 z7 hr7 hp7 ho7 hm07
  go_wp2_with fail
  generalize w7.setCell ⟨w3.heap.size, 2, none⟩ (.slice A2 m2 c2) = w8 at s8 b8 z8 hr8 hp8 ho8 hm08 ⊢
  refine (rd_Done g l w8 hr8).mono ?_
  rintro e w9 ⟨rfl, hm9⟩
  have s9 := s8.mod hm9 (fun h => h)
  have z9 := z8.mod hm9 (fun h => h)
  have hp9 := hp8.non hm9
  have ho9 := ho8.non hm9
  have hm09 := hm08.trans' hm9
  have e0 := s9.cell 0
  have e1 := s9.cell 1
  have e2 := s9.cell 2
  simp at e0 e1 e2
  clear x7 f7 y7 hm9 s8 z8 b8 hr8 hp8 ho8 hm08
  go_wp2_with fail
  refine (migr_Check ⟨1, ps, ss⟩ A1 A2 m1 c1 m2 c2 _ _ _ hp9.reads ho9.reads HOK.out (hT.non hm09)).mono ?_
  rintro e w10 ⟨rfl, hm10⟩
  have s10 := s9.mod hm10 (fun h => h)
  have z10 := z9.mod hm10 (fun h => h)
  have hp10 := hp9.non hm10
  have ho10 := ho9.non hm10
  have hm010 := hm09.trans' hm10
  have e0 := s10.cell 0
  have e1 := s10.cell 1
  have e2 := s10.cell 2
  have c0 := z10.cell 0
  have c1' := z10.cell 1
  have c2' := z10.cell 2
  have f0 := z10.frozen 0
  have f1 := z10.frozen 1
  have f2 := z10.frozen 2
  simp at e0 e1 e2 c0 c1' c2'
  clear hm10 s9 z9 hp9 ho9 hm09
  go_wp2_with fail
  have r5 : Blk (((w10.setCell ⟨w.heap.size, 0, none⟩ (.int .i64 1)).setCell ⟨w.heap.size, 1, none⟩ (.slice A1 m1 c1)).setCell ⟨w.heap.size, 2, none⟩ (.slice A2 m2 c2)) w.heap.size 25 #[.int .i64 1, (.slice A1 m1 c1), (.slice A2 m2 c2)] := ((z10.set_ 0 (.int .i64 1)).set_ 1 (.slice A1 m1 c1)).set_ 2 (.slice A2 m2 c2)
  have hm5 : Mod (One w.heap.size) w10 (((w10.setCell ⟨w.heap.size, 0, none⟩ (.int .i64 1)).setCell ⟨w.heap.size, 1, none⟩ (.slice A1 m1 c1)).setCell ⟨w.heap.size, 2, none⟩ (.slice A2 m2 c2)) := (((Mod.refl _ _).setOne _).setOne _).setOne _
  refine bodyPost_ret (results_row_tmp rfl _ _ w.heap.size 25 #[.int .i64 1, (.slice A1 m1 c1), (.slice A2 m2 c2)] (0, 0) _ rfl r5 Tryz.underlying25 rfl (by kernel_rfl)) rfl ?_
  refine ⟨_, _, rfl, ?_, ?_, hm010.trans hm5 fun i hi h => by unfold One at h; omega⟩
  · exact OwnP.below (OwnP.mod hp10 hm5 fun g2 hg h => by have := (World.ownsRow.lt hp10 g2 hg).1; simp only [World.size_alloc] at this; unfold One at h; omega) (by simp only [World.size_alloc]; omega)
  · exact OwnE.below (OwnE.mod ho10 hm5 fun g2 hg h => by have := (World.ownsRow.lt ho10 g2 hg).1; unfold One at h; omega) (by omega)
end Go.Proofs.YtdclfdinhdaadaaGreatDoor
