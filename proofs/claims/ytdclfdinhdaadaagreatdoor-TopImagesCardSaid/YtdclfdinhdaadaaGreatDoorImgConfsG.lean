/- Package image: the contract of confs at the bytes of confs. -/
import Derived.Test.YtdclfdinhdaadaaGreatDoorMgW
import Derived.Test.YtdclfdinhdaadaaGreatDoorMgS
namespace Go.Proofs.YtdclfdinhdaadaaGreatDoor
open Go.RowKit

theorem step_append_int {w : World} {ops : Array Oper} {o : Oper} {a : Act} {K : Act → World → Prop} {Q : Exit → Act → World → Prop} {E : Prop} (hgd : o.guard = none) (s x : Operand)
    (ho : o.op = .call { callee := .builtin .append, args := #[s, x], argTypes := #[50, 50] })
    (B : Nat) (v : Value) (l : List Int) (hs : a.eval s = v) (hown : OwnI w B v l) (k : Int) (H : Nat) (hH : w.heap.size = H) (hx : a.eval x = .slice (some ⟨H, 0, none⟩) 1 1)
    (hlen : l.length ≤ 10000000) (hB : B ≤ w.heap.size)
    (h : ∀ v' w', OwnI w' B v' (l ++ [k]) → Mod (fun g => v.ownBlock = some g) w w' → K (a.put o.dst v') w') :
    if Region.wanted o (yielded ops a.tmps) = true then Oper.wp Tryz.prog o a (w.alloc (.cells #[.int .i64 k] 3)) K Q else E := by
  subst hH
  obtain ⟨i0, hi, hz0, hz1, hz2⟩ := info_parts int_info
  refine step_append_any _ hgd s x 50 ho B 3 i0 _ 1 8 Tryz.underlying50 hi hz0 hz1 hz2 rfl (by omega) v l.length (vis l) hs (World.ownsRow.alloc hown _) (fun _ => True) _ 1 1
    [.int .i64 k] hx (reads_one w _ _ _ trivial) (by intro u hu; simp at hu; subst hu; rfl) (by unfold maxLen; omega) (by omega) (by simp; omega) ?_
  intro v' w' h1 h2 h3
  refine h v' w' ?_ (((Mod.refl Non w).alloc _).non.trans (mod_of_grown h2) fun _ _ h => h)
  unfold OwnI
  rw [show vis (l ++ [k]) = vis l ++ [.int .i64 k] by simp [vis], List.length_append]
  exact h1

set_option maxRecDepth 100000 in
set_option maxHeartbeats 8000000 in
theorem image_confs (g a : Nat) (l r : List UInt8) (cs : List Cf) (w : World) (hr : Rd w g l a) (h : l.drop a = vbytes cs.length ++ (cencs cs ++ r)) (hx : ∀ c ∈ cs, MemOk c.mem ∧ 0 ≤ c.from_ ∧ c.from_ ≤ 4294967296) (hn : cs.length ≤ 64) :
    Calls Tryz.prog 103 #[.pointer (some ⟨g, 0, none⟩)] w fun e w' => ∃ v, e = .returned v ∧ OwnC w' w.heap.size v cs ∧ Rd w' g l (a + (vbytes cs.length).length + (cencs cs).length) ∧ Mod (One g) w w' := by
  obtain ⟨h1, h2⟩ := at_num h (by omega)
  have hlen := congrArg List.length h
  rw [List.length_drop, List.length_append, List.length_append] at hlen
  have hge := flat_ge cenc cs fun x _ => by have := vbytes_pos x.from_.toNat; unfold cenc; simp only [List.length_append]; omega
  have hal := hr.len.1
  have hvp := vbytes_pos cs.length
  have hge' : cs.length ≤ (cencs cs).length := hge
  have hv : a + (vbytes cs.length).length + cs.length ≤ l.length := by omega
  obtain ⟨n, hnn⟩ : ∃ n, n = cs.length := ⟨_, rfl⟩
  obtain ⟨t, ht⟩ : ∃ t, t = (vbytes cs.length).length := ⟨_, rfl⟩
  rw [← ht] at h1 h2 hv ⊢
  rw [← hnn] at h1 hv hn
  have HN := Lib.hid hnn
  have H1 := Lib.hid h1
  have H2 := Lib.hid h2
  have HX := Lib.hid hx
  have HV := Lib.hid hv
  have hgl := hr.lt
  clear h h1 h2 hlen hge hge' hal hnn ht hv hvp hx
  go_enter Tryz.func103, Tryz.ntmps103
  go_wp2_with fail
  refine (rd_Count g a n t l 64 w hr H1.out (by omega) HV.out).mono ?_
  rintro e w1 ⟨rfl, hr1, hm1⟩
  go_wp2_with fail
  go_loopw [3, 10] (fun o i wr => ∃ k : Nat, k ≤ n ∧ i = .int .i64 k ∧ OwnC wr w.heap.size o (cs.take k) ∧ Rd wr g l (a + t + (cencs (cs.take k)).length) ∧ Mod (One g) w wr) (fun _ i _ => n - (intOf i).toNat)
  case atStart => exact ⟨0, by omega, rfl, OwnC.nil _ _, by simpa [cencs] using hr1, hm1⟩
  case round =>
    obtain ⟨k, hk, rfl, ho, hrd, hm⟩ := hrel
    clear hr1 hm1
    obtain ⟨A8, c8, he8, hc8⟩ := ho.len
    obtain ⟨n8, hn8⟩ : ∃ n8, n8 = (cs.take k).length := ⟨_, rfl⟩
    rw [← hn8] at he8 hc8
    have HN8 := Lib.hid hn8
    clear hn8
    subst he8
    by_cases hlt : k < n
    · have hkq : k < cs.length := by have := HN.out; omega
      obtain ⟨x, hxk⟩ : ∃ x, cs[k]? = some x := ⟨cs[k], by simp [hkq]⟩
      have hdr := flat_at (f := cenc) H2.out hxk
      obtain ⟨hxm, hxf1, hxf2⟩ := HX.out _ (List.mem_of_getElem? hxk)
      have hm9 := mem_few hxm
      obtain ⟨p, hp⟩ : ∃ p, p = a + t + (cencs (cs.take k)).length := ⟨_, rfl⟩
      rw [show a + t + ((cs.take k).flatMap cenc).length = p from hp.symm] at hdr
      rw [← hp] at hrd
      have hd1 : l.drop p = vbytes x.from_.toNat ++ (vbytes x.mem.length ++ (nencs x.mem ++ ((cs.drop (k + 1)).flatMap cenc ++ r))) := by
        rw [hdr]; unfold cenc; simp [List.append_assoc]
      obtain ⟨f1, hd2⟩ := at_num hd1 (by omega)
      obtain ⟨f2, hd3⟩ := at_num hd2 (by omega)
      have hlen := congrArg List.length hd1
      rw [List.length_drop, List.length_append, List.length_append, List.length_append] at hlen
      have hal := hrd.len.1
      have hge := flat_ge (fun x : Int => vbytes x.toNat) x.mem fun y _ => vbytes_pos y.toNat
      have hge' : x.mem.length ≤ (nencs x.mem).length := hge
      have hvp := vbytes_pos x.from_.toNat
      have hv2 : p + (vbytes x.from_.toNat).length + (vbytes x.mem.length).length + x.mem.length ≤ l.length := by omega
      obtain ⟨cf, hcf⟩ : ∃ cf : Nat, cf = x.from_.toNat := ⟨_, rfl⟩
      have hcfi : (cf : Int) = x.from_ := by omega
      obtain ⟨cm, hcm⟩ : ∃ cm, cm = x.mem := ⟨_, rfl⟩
      obtain ⟨nm, hnm⟩ : ∃ nm, nm = x.mem.length := ⟨_, rfl⟩
      obtain ⟨t1, ht1⟩ : ∃ t1, t1 = (vbytes x.from_.toNat).length := ⟨_, rfl⟩
      obtain ⟨t2, ht2⟩ : ∃ t2, t2 = (vbytes x.mem.length).length := ⟨_, rfl⟩
      rw [← ht1, ← hcf] at f1
      rw [← ht1] at f2 hd3 hv2
      rw [← ht2] at hd3 hv2
      rw [← ht2, ← hnm] at f2
      rw [← hnm] at hv2 hm9
      have HPOS : Hid (p + t1 + t2 + (nencs x.mem).length = a + t + (cencs (cs.take (k + 1))).length) := by
        show _ = _
        have e : cencs (cs.take (k + 1)) = cencs (cs.take k) ++ cenc x := flat_take cenc cs hxk
        rw [e, List.length_append, ht1, ht2, hp]
        unfold cenc
        simp only [List.length_append]
        omega
      have F1 := Lib.hid f1
      have F2 := Lib.hid f2
      have HV2 := Lib.hid hv2
      have HD3 := Lib.hid hd3
      have HXK := Lib.hid hxk
      have HXM := Lib.hid hxm
      have HM := Lib.hid hm
      have HO := Lib.hid ho
      have HNM := Lib.hid (show nm = x.mem.length ∧ cm = x.mem ∧ (cf : Int) = x.from_ from ⟨hnm, hcm, hcfi⟩)
      have hkn : (k : Int) < n := by omega
      have hcf4 : cf ≤ 4294967296 := by omega
      have hsz := hm.size
      have hlk : (cs.take k).length ≤ 100000 := by rw [List.length_take]; omega
      have HLK := Lib.hid hlk
      clear hxk hdr hxm hm ho hd1 hd2 hd3 f1 f2 hlen hal hge hge' hvp hv2 hcf hcm hnm ht1 ht2 hp hxf1 hxf2 hcfi hlk
      go_wp2_with fail
      refine (rd_Number g p cf t1 l 9223372036854775807 _ hrd F1.out (by omega)).mono ?_
      rintro e y1 ⟨rfl, hy1, hn1⟩
      have hy2 := hy1.non ((Mod.refl Non y1).alloc (.cells #[.int .i64 cf, .slice none 0 0] 90))
      have bc := Blk.new y1 90 #[.int .i64 cf, .slice none 0 0]
      have MC := Lib.hid ((Mod.refl (One g) y1).alloc (.cells #[.int .i64 cf, .slice none 0 0] 90))
      have MY := Lib.hid (HM.out.trans' hn1)
      have hsz1 := MY.out.size
      have hgy := hy1.lt
      have HO1 := Lib.hid (HO.out.mod hn1 fun k hk hB h => by unfold One at h; omega)
      have HFR : Hid (∀ j, y1.heap.size ≤ j → (Value.slice A8 n8 c8).ownBlock ≠ some j) := by
        intro j hj he
        have := (HO.out.ownLt he).2
        have := hn1.size
        omega
      have hgc : ¬ y1.heap.size = g := by omega
      clear hrd hy1 hn1 HO HM
      go_wp2_with fail
      refine (rd_Count g (p + t1) nm t2 l 9 _ hy2 F2.out (by omega) HV2.out).mono ?_
      rintro e y3 ⟨rfl, hy3, hn3⟩
      have b3 := bc.mod hn3 (fun h => hgc h)
      have M3 := Lib.hid (MC.out.trans' hn3)
      have hsz3 := hn3.size
      simp only [World.size_alloc] at hsz3
      clear hy2 hn3 bc
      go_wp2_with fail
      go_loopw [17] (fun j wi => ∃ (q : Nat) (om : Value), q ≤ nm ∧ j = .int .i64 q ∧ OwnI wi (y1.heap.size + 1) om (cm.take q) ∧ Blk wi y1.heap.size 90 #[.int .i64 cf, om] ∧ Rd wi g l (p + t1 + t2 + (nencs (cm.take q)).length) ∧ Mod (One g) y1 wi) (fun j _ => nm - (intOf j).toNat)
      case atStart => exact ⟨0, _, by omega, rfl, OwnI.nil _ _, b3, by simpa [nencs] using hy3, M3.out⟩
      case round =>
        obtain ⟨q, om, hq, rfl, hoi, hbo, hrq, hmq⟩ := hrel
        clear hy3 b3 M3
        obtain ⟨A9, m9, c9, rfl, hm9', hc9⟩ := hoi.form
        have hbl := hbo.lt
        by_cases hqlt : q < nm
        · have hqq : q < x.mem.length := by have := HNM.out.1; omega
          obtain ⟨y, hyq⟩ : ∃ y, x.mem[q]? = some y := ⟨x.mem[q], by simp [hqq]⟩
          have hdr := flat_at (f := fun x : Int => vbytes x.toNat) HD3.out hyq
          have hye := HXM.out.each y (List.mem_of_getElem? hyq)
          rw [← HNM.out.2.1] at hdr hyq
          obtain ⟨f3, _⟩ := at_num hdr (by omega)
          obtain ⟨yv, hyv⟩ : ∃ yv : Nat, yv = y.toNat := ⟨_, rfl⟩
          have hyi : (yv : Int) = y := by omega
          obtain ⟨t3, ht3⟩ : ∃ t3, t3 = (vbytes y.toNat).length := ⟨_, rfl⟩
          rw [← ht3, ← hyv] at f3
          have F3 : Hid (gscan 0 0 (l.drop (p + t1 + t2 + (nencs (cm.take q)).length)) = .ok (yv, t3)) := f3
          have hqn : (q : Int) < nm := by omega
          have hy9 : yv ≤ 9 := by omega
          have HTK : Hid (cm.take (q + 1) = cm.take q ++ [(yv : Int)] ∧ (nencs (cm.take (q + 1))).length = (nencs (cm.take q)).length + t3) := by
            obtain ⟨z1, z2⟩ := List.getElem?_eq_some_iff.1 hyq
            have e1 : cm.take (q + 1) = cm.take q ++ [(yv : Int)] := by rw [List.take_succ_eq_append_getElem z1, z2, hyi]
            refine ⟨e1, ?_⟩
            rw [e1, ht3]
            unfold nencs
            rw [List.flatMap_append, List.length_append]
            simp [hyi]
          have HRQ := Lib.hid hrq
          have HOI := Lib.hid hoi
          have HBO := Lib.hid hbo
          have HMQ := Lib.hid hmq
          have HLQ : Hid ((cm.take q).length ≤ 10000000) := by show _ ≤ _; rw [List.length_take]; omega
          have HF3 : Hid ((Value.slice A9 m9 c9).ownBlock ≠ some y1.heap.size) := by
            intro he
            have := (World.ownsRow.lt HOI.out _ he).1
            omega
          have bc1 := hbo.cell 1
          simp at bc1
          have hszq := hmq.size
          clear hdr hye f3 hyv hyi ht3 hrq hoi hbo hmq hm9' hyq
          go_wp2
          go_region_law (first | (refine step_append_int rfl (.tmp 20) (.tmp 23) rfl (y1.heap.size + 1) (.slice A9 m9 c9) (cm.take q) (by simp [Act.eval]) own2 (yv : Int) _ rfl (by simp [Act.eval]) HLQ.out (by omega) ?_; intro v6 w6 hown6 hm6; obtain ⟨A6, n6, c6, he6, hn6, hc6⟩ := hown6.form; subst he6; have bo6 := (bo2.mod hm6 HF3.out); have oc6 := bo6.cell 1; have of6 := bo6.frozen 1; simp at oc6) | (go_simp; go_at_call 59; refine (rd_Number g _ yv t3 l 9223372036854775807 _ (HRQ.out.non ((Mod.refl Non _).drew)) F3.out (by omega)).mono ?_; rintro e w2 ⟨rfl, hy2, hm2⟩; have mm2 := hm2.undrew; have bo2 := HBO.out.mod mm2 (fun h => hgc h); have oc2 := bo2.cell 1; have hl2 := bo2.lt; simp at oc2; have own2 := HOI.out.mod mm2 (fun j _ hB h => by unfold One at h; omega)))
          all_goals
            have HB6 := Lib.hid bo6
            have HW6 := Lib.hid hown6
            have HM6 := Lib.hid hm6
            have HY2 := Lib.hid hy2
            have MM2 := Lib.hid mm2
            clear bo6 hown6 hm6 bo2 own2 hy2 mm2 hm2 hn6
            go_wp2
            go_roundw
            case rel =>
              have hfar : ∀ j, (Value.slice A9 m9 c9).ownBlock = some j → y1.heap.size + 1 ≤ j := fun j h => (World.ownsRow.lt HOI.out j h).1
              have hone := Mod.one w6 y1.heap.size 1 (.slice A6 n6 c6)
              refine ⟨q + 1, _, by omega, by go_num, ?_, HB6.out.set_ 1 _, ?_, ?_⟩
              · rw [HTK.out.1]
                exact HW6.out.mod hone fun j _ hB h => by unfold One at h; omega
              · rw [HTK.out.2, ← Nat.add_assoc]
                refine (HY2.out.mod HM6.out fun j hj h => ?_).far (by omega) _
                have := hfar j h
                omega
              · refine (((HMQ.out.trans' MM2.out).trans HM6.out fun j hj h => ?_).setNew (Nat.le_refl _) _ _)
                have := hfar j h
                omega
            case measure => simp [intOf]; omega
        · have hqn : ¬ (q : Int) < nm := by omega
          have hqm : cm.take q = cm := List.take_of_length_le (by rw [HNM.out.2.1, ← HNM.out.1]; omega)
          rw [hqm] at hoi hrq
          have HRQ := Lib.hid hrq
          have HOI := Lib.hid hoi
          have HMQ := Lib.hid hmq
          have HOW := Lib.hid (HO1.out.mod hmq fun j _ hB h => by unfold One at h; omega)
          have hszq := hmq.size
          have k0 := hbo.cell 0
          have k1 := hbo.cell 1
          simp at k0 k1
          have hmem : Hid (Reads wr (fun j => w.heap.size ≤ j ∧ (Value.slice A8 n8 c8).ownBlock ≠ some j) 1 A9 m9 (vis cm)) := hoi.reads.more (fun j _ h => ⟨by have := h.1; omega, HFR.out j (by have := h.1; omega)⟩)
          clear hqm hrq hoi hmq hm9' hbo
          go_wp2_with (at_builtin; refine wpList_append_Cf rfl (.tmp 27) (.tmp 29) rfl w.heap.size _ (cs.take k) (by simp [Act.eval]) HOW.out ⟨cf, cm⟩ A9 m9 c9 hmem.out _ rfl (by simp [Act.eval]) HLK.out (by omega) ?_; intro v4 w4 ho4 hm4)
          go_roundw
          case rel =>
            have e1 : cs.take (k + 1) = cs.take k ++ [⟨(cf : Int), cm⟩] := by
              obtain ⟨z1, z2⟩ := List.getElem?_eq_some_iff.1 HXK.out
              rw [List.take_succ_eq_append_getElem z1, z2, HNM.out.2.1, HNM.out.2.2]
            have hfar : ∀ j, (Value.slice A8 n8 c8).ownBlock = some j → w.heap.size ≤ j := fun j h => (HOW.out.ownLt h).1
            refine ⟨k + 1, by omega, by go_num, by rw [e1]; exact ho4, ?_, ((MY.out.trans' HMQ.out).trans hm4 fun j hj h => by have := hfar j h; omega)⟩
            have hr5 := HRQ.out.mod hm4 fun j hj h => by have := hfar j h; omega
            rw [HNM.out.2.1, HPOS.out] at hr5
            exact hr5
          case measure => simp [intOf]; omega
    · have hkn : ¬ (k : Int) < n := by omega
      have hkm : k = n := by omega
      subst hkm
      have htk : cs.take k = cs := List.take_of_length_le (by have := HN.out; omega)
      rw [htk] at ho hrd
      have HO := Lib.hid ho
      have HR := Lib.hid hrd
      have HM := Lib.hid hm
      clear ho hrd hm htk
      go_wp2
      go_ret
      exact ⟨_, rfl, HO.out, HR.out, HM.out⟩
end Go.Proofs.YtdclfdinhdaadaaGreatDoor
