/- Package snaptwo: times, at pairs and at sessions. -/
import Derived.Test.YtdclfdinhdaadaaGreatDoorDecTwo
namespace Go.Proofs.YtdclfdinhdaadaaGreatDoor
open Go.RowKit

set_option maxRecDepth 100000 in
set_option maxHeartbeats 1000000 in
theorem two_times_Pa (g a H SB B : Nat) (l r : List UInt8) (xs : List Pa) (v2 : Value) (w : World) (hr : Rd w g l a) (h : l.drop a = vbytes xs.length ++ (xs.flatMap (penc 2) ++ r)) (hx : ∀ x ∈ xs, x.Ok ∧ 1 ≤ x.rev ∧ x.rev ≤ 4294967296) (hn : xs.length ≤ 64) (hb : Blk w H 80 #[.pointer (some ⟨g, 0, none⟩)])
    (hs : Blk w SB 25 #[.int .i64 2, .slice none 0 0, v2]) (hgH : g < H) (hgS : H < SB) (hSB : SB < B) (hB : B ≤ w.heap.size) :
    Calls Tryz.prog 84 #[.pointer (some ⟨g, 0, none⟩), .int .i64 64, .func (.func 85) #[] #[.pointer (some ⟨H, 0, none⟩), .pointer (some ⟨SB, 0, none⟩)]] w fun e w' => e = .returned (.tuple #[]) ∧ Rd w' g l (a + (vbytes xs.length).length + (xs.flatMap (penc 2)).length) ∧ (∃ v, Blk w' SB 25 #[.int .i64 2, v, v2] ∧ OwnP w' B v xs) ∧ Mod (Trd g SB B) w w' := by
  obtain ⟨h1, h2⟩ := at_num h (by omega)
  have hlen := congrArg List.length h
  rw [List.length_drop, List.length_append, List.length_append] at hlen
  have hge := flat_ge (penc 2) xs fun x _ => Nat.le_trans (by omega) (penc_two (v := 2) (p := x))
  have hal := hr.len.1
  have hvp := vbytes_pos xs.length
  have hv : a + (vbytes xs.length).length + xs.length ≤ l.length := by omega
  obtain ⟨n, hnn⟩ : ∃ n, n = xs.length := ⟨_, rfl⟩
  obtain ⟨t, ht⟩ : ∃ t, t = (vbytes xs.length).length := ⟨_, rfl⟩
  rw [← ht] at h1 h2 hv ⊢
  rw [← hnn] at h1 hv hn
  have HN := Lib.hid hnn
  have H1 := Lib.hid h1
  have H2 := Lib.hid h2
  have HX := Lib.hid hx
  have HV := Lib.hid hv
  have hgl := hr.lt
  have hHl := hb.lt
  clear h h1 h2 hlen hge hal hnn ht hv hvp hx
  go_enter Tryz.func84, Tryz.ntmps84
  go_wp2_with fail
  refine (rd_Count g a n t l 64 w hr H1.out (by omega) HV.out).mono ?_
  rintro e w1 ⟨rfl, hr1, hm1⟩
  have b1 := hb.mod hm1 (by unfold One; omega)
  have s1 := hs.mod hm1 (by unfold One; omega)
  have hm1' : Mod (Trd g SB B) w w1 := hm1.mono fun k _ h => Or.inl h
  clear hm1
  go_wp2_with fail
  go_loopw [9] (fun i wr => ∃ k : Nat, k ≤ n ∧ i = .int .i64 k ∧ (∃ v, Blk wr SB 25 #[.int .i64 2, v, v2] ∧ OwnP wr B v (xs.take k)) ∧ Rd wr g l (a + t + ((xs.take k).flatMap (penc 2)).length) ∧ Mod (Trd g SB B) w wr) (fun i _ => n - (intOf i).toNat)
  case atStart => exact ⟨0, by omega, rfl, ⟨_, s1, OwnP.nil _ _⟩, by simpa using hr1, hm1'⟩
  case round =>
    obtain ⟨k, hk, rfl, ⟨v, hsv, ho⟩, hrd, hm⟩ := hrel
    clear hr1 hm1' b1 s1
    by_cases hlt : k < n
    · have hkq : k < xs.length := by have := HN.out; omega
      obtain ⟨x, hxk⟩ : ∃ x, xs[k]? = some x := ⟨xs[k], by simp [hkq]⟩
      have hdr := flat_at (f := penc 2) H2.out hxk
      have hxo := HX.out _ (List.mem_of_getElem? hxk)
      have hkn : (k : Int) < n := by omega
      have bk := hb.mod hm (by unfold Trd; omega)
      have HXK := Lib.hid hxk
      have HDR := Lib.hid hdr
      have HXO := Lib.hid hxo
      have HM := Lib.hid hm
      have HSV := Lib.hid hsv
      have HBK := Lib.hid bk
      have hsz := hm.size
      have hlk : (xs.take k).length ≤ 100000 := by rw [List.length_take]; omega
      clear hxk hdr hxo hm hsv bk
      go_wp2_with fail
      refine (two_pair g _ H SB B l _ x (xs.take k) v v2 _ hrd HDR.out HXO.out.1 HXO.out.2 HBK.out HSV.out ho hgH hgS hSB (Nat.le_trans hB hsz) hlk).mono ?_
      rintro e w3 ⟨rfl, hr3, ⟨v3, hs3, ho3⟩, hm3⟩
      have hm5 := HM.out.trans' hm3
      have ho5 : OwnP w3 B v3 (xs.take (k + 1)) := by
        obtain ⟨q1, q2⟩ := List.getElem?_eq_some_iff.1 HXK.out
        rw [List.take_succ_eq_append_getElem q1, q2]
        exact ho3
      have hr5 : Rd w3 g l (a + t + ((xs.take (k + 1)).flatMap (penc 2)).length) := by
        rw [flat_take (penc 2) xs HXK.out, List.length_append, ← Nat.add_assoc]
        exact hr3
      have HM5 := Lib.hid hm5
      have HO5 := Lib.hid ho5
      have HR5 := Lib.hid hr5
      have HS5 := Lib.hid hs3
      clear ho hrd hr3 ho3 hm3 hs3 hm5 ho5 hr5
      go_wp2
      go_roundw
      case rel => exact ⟨k + 1, by omega, by go_num, ⟨_, HS5.out, HO5.out⟩, by simpa only [List.length_flatMap] using HR5.out, HM5.out⟩
      case measure => simp [intOf]; omega
    · have hkn : ¬ (k : Int) < n := by omega
      have hkm : k = n := by omega
      subst hkm
      rw [List.take_of_length_le (by have := HN.out; omega)] at ho hrd
      have HO := Lib.hid ho
      have HR := Lib.hid hrd
      have HM := Lib.hid hm
      have HS := Lib.hid hsv
      clear ho hrd hm hsv
      go_wp2
      go_end0
      exact ⟨rfl, by simpa only [List.length_flatMap] using HR.out, ⟨_, HS.out, HO.out⟩, HM.out⟩


set_option maxRecDepth 100000 in
set_option maxHeartbeats 1000000 in
theorem two_times_Se (g a H SB B : Nat) (l r : List UInt8) (xs : List Se) (v1 : Value) (w : World) (hr : Rd w g l a) (h : l.drop a = vbytes xs.length ++ (xs.flatMap (xenc 2) ++ r)) (hx : ∀ x ∈ xs, x.last.Ok ∧ x.last.client = x.client ∧ x.last.seq = x.seq) (hn : xs.length ≤ 8) (hb : Blk w H 80 #[.pointer (some ⟨g, 0, none⟩)])
    (hs : Blk w SB 25 #[.int .i64 2, v1, .slice none 0 0]) (hgH : g < H) (hgS : H < SB) (hSB : SB < B) (hB : B ≤ w.heap.size) :
    Calls Tryz.prog 84 #[.pointer (some ⟨g, 0, none⟩), .int .i64 8, .func (.func 86) #[] #[.pointer (some ⟨H, 0, none⟩), .pointer (some ⟨SB, 0, none⟩)]] w fun e w' => e = .returned (.tuple #[]) ∧ Rd w' g l (a + (vbytes xs.length).length + (xs.flatMap (xenc 2)).length) ∧ (∃ v, Blk w' SB 25 #[.int .i64 2, v1, v] ∧ OwnE w' B v xs) ∧ Mod (Trd g SB B) w w' := by
  obtain ⟨h1, h2⟩ := at_num h (by omega)
  have hlen := congrArg List.length h
  rw [List.length_drop, List.length_append, List.length_append] at hlen
  have hge := flat_ge (xenc 2) xs fun x _ => xenc_pos 2 x
  have hal := hr.len.1
  have hvp := vbytes_pos xs.length
  have hv : a + (vbytes xs.length).length + xs.length ≤ l.length := by omega
  obtain ⟨n, hnn⟩ : ∃ n, n = xs.length := ⟨_, rfl⟩
  obtain ⟨t, ht⟩ : ∃ t, t = (vbytes xs.length).length := ⟨_, rfl⟩
  rw [← ht] at h1 h2 hv ⊢
  rw [← hnn] at h1 hv hn
  have HN := Lib.hid hnn
  have H1 := Lib.hid h1
  have H2 := Lib.hid h2
  have HX := Lib.hid hx
  have HV := Lib.hid hv
  have hgl := hr.lt
  have hHl := hb.lt
  clear h h1 h2 hlen hge hal hnn ht hv hvp hx
  go_enter Tryz.func84, Tryz.ntmps84
  go_wp2_with fail
  refine (rd_Count g a n t l 8 w hr H1.out (by omega) HV.out).mono ?_
  rintro e w1 ⟨rfl, hr1, hm1⟩
  have b1 := hb.mod hm1 (by unfold One; omega)
  have s1 := hs.mod hm1 (by unfold One; omega)
  have hm1' : Mod (Trd g SB B) w w1 := hm1.mono fun k _ h => Or.inl h
  clear hm1
  go_wp2_with fail
  go_loopw [9] (fun i wr => ∃ k : Nat, k ≤ n ∧ i = .int .i64 k ∧ (∃ v, Blk wr SB 25 #[.int .i64 2, v1, v] ∧ OwnE wr B v (xs.take k)) ∧ Rd wr g l (a + t + ((xs.take k).flatMap (xenc 2)).length) ∧ Mod (Trd g SB B) w wr) (fun i _ => n - (intOf i).toNat)
  case atStart => exact ⟨0, by omega, rfl, ⟨_, s1, OwnE.nil _ _⟩, by simpa using hr1, hm1'⟩
  case round =>
    obtain ⟨k, hk, rfl, ⟨v, hsv, ho⟩, hrd, hm⟩ := hrel
    clear hr1 hm1' b1 s1
    by_cases hlt : k < n
    · have hkq : k < xs.length := by have := HN.out; omega
      obtain ⟨x, hxk⟩ : ∃ x, xs[k]? = some x := ⟨xs[k], by simp [hkq]⟩
      have hdr := flat_at (f := xenc 2) H2.out hxk
      have hxo := HX.out _ (List.mem_of_getElem? hxk)
      have hkn : (k : Int) < n := by omega
      have bk := hb.mod hm (by unfold Trd; omega)
      have HXK := Lib.hid hxk
      have HDR := Lib.hid hdr
      have HXO := Lib.hid hxo
      have HM := Lib.hid hm
      have HSV := Lib.hid hsv
      have HBK := Lib.hid bk
      have hsz := hm.size
      have hlk : (xs.take k).length ≤ 100000 := by rw [List.length_take]; omega
      clear hxk hdr hxo hm hsv bk
      go_wp2_with fail
      refine (two_sess g _ H SB B l _ x (xs.take k) v1 v _ hrd HDR.out HXO.out.1 HXO.out.2.1 HXO.out.2.2 HBK.out HSV.out ho hgH hgS hSB (Nat.le_trans hB hsz) hlk).mono ?_
      rintro e w3 ⟨rfl, hr3, ⟨v3, hs3, ho3⟩, hm3⟩
      have hm5 := HM.out.trans' hm3
      have ho5 : OwnE w3 B v3 (xs.take (k + 1)) := by
        obtain ⟨q1, q2⟩ := List.getElem?_eq_some_iff.1 HXK.out
        rw [List.take_succ_eq_append_getElem q1, q2]
        exact ho3
      have hr5 : Rd w3 g l (a + t + ((xs.take (k + 1)).flatMap (xenc 2)).length) := by
        rw [flat_take (xenc 2) xs HXK.out, List.length_append, ← Nat.add_assoc]
        exact hr3
      have HM5 := Lib.hid hm5
      have HO5 := Lib.hid ho5
      have HR5 := Lib.hid hr5
      have HS5 := Lib.hid hs3
      clear ho hrd hr3 ho3 hm3 hs3 hm5 ho5 hr5
      go_wp2
      go_roundw
      case rel => exact ⟨k + 1, by omega, by go_num, ⟨_, HS5.out, HO5.out⟩, by simpa only [List.length_flatMap] using HR5.out, HM5.out⟩
      case measure => simp [intOf]; omega
    · have hkn : ¬ (k : Int) < n := by omega
      have hkm : k = n := by omega
      subst hkm
      rw [List.take_of_length_le (by have := HN.out; omega)] at ho hrd
      have HO := Lib.hid ho
      have HR := Lib.hid hrd
      have HM := Lib.hid hm
      have HS := Lib.hid hsv
      clear ho hrd hm hsv
      go_wp2
      go_end0
      exact ⟨rfl, by simpa only [List.length_flatMap] using HR.out, ⟨_, HS.out, HO.out⟩, HM.out⟩

end Go.Proofs.YtdclfdinhdaadaaGreatDoor
