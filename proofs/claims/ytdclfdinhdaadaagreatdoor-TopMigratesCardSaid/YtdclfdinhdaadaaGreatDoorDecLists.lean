/- Package snapone: the lists. -/
import Derived.Test.YtdclfdinhdaadaaGreatDoorDecOne
namespace Go.Proofs.YtdclfdinhdaadaaGreatDoor
open Go.RowKit

theorem flat_at {α : Type} {f : α → List UInt8} {l r : List UInt8} {b k : Nat} {xs : List α} {x : α} (h : l.drop b = xs.flatMap f ++ r) (hx : xs[k]? = some x) :
    l.drop (b + ((xs.take k).flatMap f).length) = f x ++ ((xs.drop (k + 1)).flatMap f ++ r) := by
  obtain ⟨h1, h2⟩ := List.getElem?_eq_some_iff.1 hx
  have e : xs.flatMap f = (xs.take k).flatMap f ++ (f x ++ (xs.drop (k + 1)).flatMap f) := by
    rw [← h2, ← List.flatMap_cons, ← List.drop_eq_getElem_cons h1, ← List.flatMap_append, List.take_append_drop]
  rw [← List.drop_drop, h, e, List.append_assoc, List.drop_left' rfl, List.append_assoc]

theorem xenc_pos (v : Int) (x : Se) : 1 ≤ (xenc v x).length := by
  have := vbytes_pos x.last.client.toNat
  unfold xenc aenc
  simp only [List.length_append]
  omega

set_option maxRecDepth 100000 in
set_option maxHeartbeats 1000000 in
theorem one_list_Pa (g a H : Nat) (l r : List UInt8) (xs : List Pa) (w : World) (hr : Rd w g l a) (h : l.drop a = vbytes xs.length ++ (xs.flatMap (penc 1) ++ r)) (hx : ∀ x ∈ xs, x.Ok ∧ x.rev = 0) (hn : xs.length ≤ 64) (hb : Blk w H 80 #[.pointer (some ⟨g, 0, none⟩)]) (hgH : g < H) :
    Calls Tryz.prog 77 #[.pointer (some ⟨g, 0, none⟩), .int .i64 64, .func (.func 78) #[] #[.pointer (some ⟨H, 0, none⟩)]] w fun e w' => ∃ v, e = .returned v ∧ OwnP w' w.heap.size v xs ∧ Rd w' g l (a + (vbytes xs.length).length + (xs.flatMap (penc 1)).length) ∧ Mod (One g) w w' := by
  obtain ⟨h1, h2⟩ := at_num h (by omega)
  have hlen := congrArg List.length h
  rw [List.length_drop, List.length_append, List.length_append] at hlen
  have hge := flat_ge (penc 1) xs fun x _ => Nat.le_trans (by omega) (penc_two (v := 1) (p := x))
  have hal := hr.len.1
  have hvp := vbytes_pos xs.length
  have hv : a + (vbytes xs.length).length + xs.length ≤ l.length := by omega
  obtain ⟨n, hnn⟩ : ∃ n, n = xs.length := ⟨_, rfl⟩
  obtain ⟨t, ht⟩ : ∃ t, t = (vbytes xs.length).length := ⟨_, rfl⟩
  rw [← ht] at h1 h2 hv ⊢
  rw [← hnn] at h1 hv hn
  have HN := Lib.hid hnn
  have H1 := Lib.hid h1
  have H2 := Lib.hid h2
  have HX := Lib.hid hx
  have HV := Lib.hid hv
  have hgl := hr.lt
  have hHl := hb.lt
  clear h h1 h2 hlen hge hal hnn ht hv hvp hx
  go_enter Tryz.func77, Tryz.ntmps77
  go_wp2_with fail
  refine (rd_Count g a n t l 64 w hr H1.out (by omega) HV.out).mono ?_
  rintro e w1 ⟨rfl, hr1, hm1⟩
  have b1 := hb.mod hm1 (by unfold One; omega)
  go_wp2_with fail
  go_loopw [7, 11] (fun o i wr => ∃ k : Nat, k ≤ n ∧ i = .int .i64 k ∧ OwnP wr w.heap.size o (xs.take k) ∧ Rd wr g l (a + t + ((xs.take k).flatMap (penc 1)).length) ∧ Mod (One g) w wr) (fun _ i _ => n - (intOf i).toNat)
  case atStart => exact ⟨0, by omega, rfl, OwnP.nil _ _, by simpa using hr1, hm1⟩
  case round =>
    obtain ⟨k, hk, rfl, ho, hrd, hm⟩ := hrel
    clear hr1 hm1 b1
    obtain ⟨A2, m2, c2, rfl, hm2, hc2⟩ := ho.form
    by_cases hlt : k < n
    · have hkq : k < xs.length := by have := HN.out; omega
      obtain ⟨x, hxk⟩ : ∃ x, xs[k]? = some x := ⟨xs[k], by simp [hkq]⟩
      have hdr := flat_at (f := penc 1) H2.out hxk
      have hxo := HX.out _ (List.mem_of_getElem? hxk)
      have hkn : (k : Int) < n := by omega
      have bk := hb.mod hm (by unfold One; omega)
      have HXK := Lib.hid hxk
      have HDR := Lib.hid hdr
      have HXO := Lib.hid hxo
      have HM := Lib.hid hm
      have hsz := hm.size
      have hlk : (xs.take k).length ≤ 100000 := by rw [List.length_take]; omega
      clear hxk hdr hxo hm hm2
      obtain ⟨key, val, rv⟩ := x
      go_wp2_with fail
      refine (one_pair g _ H l _ ⟨key, val, rv⟩ _ hrd HDR.out HXO.out.1 HXO.out.2 bk hgH).mono ?_
      rintro e w3 ⟨rfl, hr3, hm3⟩
      have hsz3 := hm3.size
      have ho3 := OwnP.mod ho hm3 (fun g2 hg h => by have := (World.ownsRow.lt ho g2 hg).1; unfold One at h; omega)
      clear ho hrd
      go_wp2_with (at_builtin; refine wpList_append_Pa rfl (.tmp 13) (.tmp 16) rfl w.heap.size _ (xs.take k) rfl ho3 ⟨key, val, rv⟩ w3.heap.size rfl rfl hlk (by omega) ?_; intro v4 w4 hown4 hm4)
      go_roundw
      case rel =>
        have hm5 : Mod (One g) w w4 := (HM.out.trans' hm3).trans hm4 (fun i hi h => by have := (World.ownsRow.lt ho3 i h).1; omega)
        refine ⟨k + 1, by omega, by go_num, ?_, ?_, hm5⟩
        · obtain ⟨q1, q2⟩ := List.getElem?_eq_some_iff.1 HXK.out
          rw [List.take_succ_eq_append_getElem q1, q2]
          exact hown4
        · rw [flat_take (penc 1) xs HXK.out, List.length_append, ← Nat.add_assoc]
          exact hr3.mod hm4 (fun i hi h => by have := (World.ownsRow.lt ho3 i h).1; omega)
      case measure => simp [intOf]; omega
    · have hkn : ¬ (k : Int) < n := by omega
      have hkm : k = n := by omega
      subst hkm
      rw [List.take_of_length_le (by have := HN.out; omega)] at ho hrd
      have HO := Lib.hid ho
      have HR := Lib.hid hrd
      have HM := Lib.hid hm
      clear ho hrd hm hm2
      go_wp2
      go_ret
      exact ⟨_, rfl, HO.out, by simpa only [List.length_flatMap] using HR.out, HM.out⟩


set_option maxRecDepth 100000 in
set_option maxHeartbeats 1000000 in
theorem one_list_Se (g a H : Nat) (l r : List UInt8) (xs : List Se) (w : World) (hr : Rd w g l a) (h : l.drop a = vbytes xs.length ++ (xs.flatMap (xenc 1) ++ r)) (hx : ∀ x ∈ xs, x.last.Ok ∧ x.last.rev = 0 ∧ x.last.client = x.client ∧ x.last.seq = x.seq) (hn : xs.length ≤ 8) (hb : Blk w H 80 #[.pointer (some ⟨g, 0, none⟩)]) (hgH : g < H) :
    Calls Tryz.prog 80 #[.pointer (some ⟨g, 0, none⟩), .int .i64 8, .func (.func 81) #[] #[.pointer (some ⟨H, 0, none⟩)]] w fun e w' => ∃ v, e = .returned v ∧ OwnE w' w.heap.size v xs ∧ Rd w' g l (a + (vbytes xs.length).length + (xs.flatMap (xenc 1)).length) ∧ Mod (One g) w w' := by
  obtain ⟨h1, h2⟩ := at_num h (by omega)
  have hlen := congrArg List.length h
  rw [List.length_drop, List.length_append, List.length_append] at hlen
  have hge := flat_ge (xenc 1) xs fun x _ => xenc_pos 1 x
  have hal := hr.len.1
  have hvp := vbytes_pos xs.length
  have hv : a + (vbytes xs.length).length + xs.length ≤ l.length := by omega
  obtain ⟨n, hnn⟩ : ∃ n, n = xs.length := ⟨_, rfl⟩
  obtain ⟨t, ht⟩ : ∃ t, t = (vbytes xs.length).length := ⟨_, rfl⟩
  rw [← ht] at h1 h2 hv ⊢
  rw [← hnn] at h1 hv hn
  have HN := Lib.hid hnn
  have H1 := Lib.hid h1
  have H2 := Lib.hid h2
  have HX := Lib.hid hx
  have HV := Lib.hid hv
  have hgl := hr.lt
  have hHl := hb.lt
  clear h h1 h2 hlen hge hal hnn ht hv hvp hx
  go_enter Tryz.func80, Tryz.ntmps80
  go_wp2_with fail
  refine (rd_Count g a n t l 8 w hr H1.out (by omega) HV.out).mono ?_
  rintro e w1 ⟨rfl, hr1, hm1⟩
  have b1 := hb.mod hm1 (by unfold One; omega)
  go_wp2_with fail
  go_loopw [7, 11] (fun o i wr => ∃ k : Nat, k ≤ n ∧ i = .int .i64 k ∧ OwnE wr w.heap.size o (xs.take k) ∧ Rd wr g l (a + t + ((xs.take k).flatMap (xenc 1)).length) ∧ Mod (One g) w wr) (fun _ i _ => n - (intOf i).toNat)
  case atStart => exact ⟨0, by omega, rfl, OwnE.nil _ _, by simpa using hr1, hm1⟩
  case round =>
    obtain ⟨k, hk, rfl, ho, hrd, hm⟩ := hrel
    clear hr1 hm1 b1
    obtain ⟨A2, m2, c2, rfl, hm2, hc2⟩ := ho.form
    by_cases hlt : k < n
    · have hkq : k < xs.length := by have := HN.out; omega
      obtain ⟨x, hxk⟩ : ∃ x, xs[k]? = some x := ⟨xs[k], by simp [hkq]⟩
      have hdr := flat_at (f := xenc 1) H2.out hxk
      have hxo := HX.out _ (List.mem_of_getElem? hxk)
      have hkn : (k : Int) < n := by omega
      have bk := hb.mod hm (by unfold One; omega)
      have HXK := Lib.hid hxk
      have HDR := Lib.hid hdr
      have HXO := Lib.hid hxo
      have HM := Lib.hid hm
      have hsz := hm.size
      have hlk : (xs.take k).length ≤ 100000 := by rw [List.length_take]; omega
      clear hxk hdr hxo hm hm2
      obtain ⟨cl, sq, ⟨lc, ls, le, lf, lv, lr⟩⟩ := x
      go_wp2_with fail
      refine (one_sess g _ H l _ ⟨cl, sq, ⟨lc, ls, le, lf, lv, lr⟩⟩ _ hrd HDR.out HXO.out.1 HXO.out.2.1 HXO.out.2.2.1 HXO.out.2.2.2 bk hgH).mono ?_
      rintro e w3 ⟨rfl, hr3, hm3⟩
      have hsz3 := hm3.size
      have ho3 := OwnE.mod ho hm3 (fun g2 hg h => by have := (World.ownsRow.lt ho g2 hg).1; unfold One at h; omega)
      clear ho hrd
      go_wp2_with (at_builtin; refine wpList_append_Se rfl (.tmp 13) (.tmp 16) rfl w.heap.size _ (xs.take k) rfl ho3 ⟨cl, sq, ⟨lc, ls, le, lf, lv, lr⟩⟩ w3.heap.size rfl rfl hlk (by omega) ?_; intro v4 w4 hown4 hm4)
      go_roundw
      case rel =>
        have hm5 : Mod (One g) w w4 := (HM.out.trans' hm3).trans hm4 (fun i hi h => by have := (World.ownsRow.lt ho3 i h).1; omega)
        refine ⟨k + 1, by omega, by go_num, ?_, ?_, hm5⟩
        · obtain ⟨q1, q2⟩ := List.getElem?_eq_some_iff.1 HXK.out
          rw [List.take_succ_eq_append_getElem q1, q2]
          exact hown4
        · rw [flat_take (xenc 1) xs HXK.out, List.length_append, ← Nat.add_assoc]
          exact hr3.mod hm4 (fun i hi h => by have := (World.ownsRow.lt ho3 i h).1; omega)
      case measure => simp [intOf]; omega
    · have hkn : ¬ (k : Int) < n := by omega
      have hkm : k = n := by omega
      subst hkm
      rw [List.take_of_length_le (by have := HN.out; omega)] at ho hrd
      have HO := Lib.hid ho
      have HR := Lib.hid hrd
      have HM := Lib.hid hm
      clear ho hrd hm hm2
      go_wp2
      go_ret
      exact ⟨_, rfl, HO.out, by simpa only [List.length_flatMap] using HR.out, HM.out⟩

end Go.Proofs.YtdclfdinhdaadaaGreatDoor
