/- Package conf: the contract of changed. -/
import Derived.Test.YtdclfdinhdaadaaGreatDoorMgE
import Derived.Test.YtdclfdinhdaadaaGreatDoorWinPlainG
import Derived.Test.YtdclfdinhdaadaaGreatDoorShelf
namespace Go.Proofs.YtdclfdinhdaadaaGreatDoor
open Go.RowKit

theorem search_I (A : Option Addr) (n c : Nat) (R : Nat → Prop) (l : List Int) (x : Int) (w : World) (hr : Reads w R 1 A n (vis l)) (hok : l.Pairwise fun a b => a < b) (hn : n ≤ 1000000) :
    Calls Tryz.prog 161 #[.slice A n c, .int .i64 x] w fun e w' => e = .returned (.tuple #[.int .i64 (below l x : Nat), .bool (l.contains x)]) ∧ ∃ q, w' = w.drewN q := by
  have hl : l.length = n := by have := hr.1; rw [vis_length] at this; omega
  rcases Nat.eq_zero_or_pos n with h0 | h0
  · subst h0
    have : l = [] := List.eq_nil_of_length_eq_zero hl
    subst this
    refine (Tryz.slices_BinarySearch_int_empty A c x w).mono ?_
    rintro e w' ⟨rfl, rfl⟩
    exact ⟨rfl, 0, rfl⟩
  · obtain ⟨b, off, rfl, _, _, hc⟩ := hr.row h0 (by rw [vis_length]; omega)
    have ht : l.take n = l := List.take_of_length_le (by omega)
    have := Tryz.slices_BinarySearch_int b off n c l x w (by omega) (by omega) (fun j hj => by
      have := hc j _ (vis_get hj)
      rw [this, List.getD_eq_getElem?_getD, List.getElem?_eq_getElem hj]
      rfl) (by rw [ht]; exact hok.imp fun h => by omega)
    rw [ht] at this
    exact this

set_option maxRecDepth 100000 in
set_option maxHeartbeats 2000000 in
theorem conf_changed_add (A : Option Addr) (n c : Nat) (R : Nat → Prop) (l : List Int) (y : Int) (w : World) (hr : Reads w R 1 A n (vis l)) (hok : MemOk l) (hy : ¬ y ∈ l) (h1 : 1 ≤ y ∧ y ≤ 9) :
    Calls Tryz.prog 148 #[.slice A n c, .int .i64 7, .int .i64 y] w fun e w' => ∃ v, e = .returned (.tuple #[v, .bool true]) ∧ OwnI w' w.heap.size v (madd l y) ∧ Mod Non w w' := by
  have hl : l.length = n := by have := hr.1; rw [vis_length] at this; omega
  have h9 := mem_few hok
  have HBS := Lib.hid (search_I A n c R l y w hr hok.rise (by omega))
  rw [show l.contains y = false from by simpa using hy] at HBS
  have HCL := Lib.hid (fun w' (h : Mod Non w w') => slices_Clone_I A n c R l w' (hr.mod h fun _ _ _ h => h) (by omega))
  obtain ⟨p, hp⟩ : ∃ p, p = below l y := ⟨_, rfl⟩
  rw [← hp] at HBS
  have HP := Lib.hid (show p = below l y ∧ p ≤ l.length from ⟨hp, by rw [hp]; exact below_le l y⟩)
  have HL := Lib.hid (show l.length ≤ 9 from h9)
  obtain ⟨h1, h2⟩ := h1
  clear hr hok hy hl h9 hp
  go_enter Tryz.func148, Tryz.ntmps148
  go_wp2_with fail
  refine HBS.out.mono ?_
  rintro e w1 ⟨rfl, q, rfl⟩
  have m0 := (Mod.refl Non w).drewN q
  clear HBS
  go_wp2_with fail
  refine (HCL.out _ m0).mono ?_
  rintro e w2 ⟨v, rfl, ho, hm⟩
  have m2 := m0.trans' hm
  have HO := Lib.hid ho
  clear hm m0 HCL
  have hb := Blk.new w2 3 #[.int .i64 y]
  have hsz : w.heap.size ≤ w2.heap.size := m2.size
  have hne : v.ownBlock ≠ some w2.heap.size := fun h => by have := (World.ownsRow.lt HO.out _ h).2; omega
  have HIN := Lib.hid (insert_I v l y p w2.heap.size w.heap.size _ (World.ownsRow.alloc HO.out _) hb hne HP.out.2 (by have := HL.out; omega) (by simp; omega))
  obtain ⟨A2, n2, c2, rfl, hn2, hc2⟩ := ho.form
  clear ho hn2 hc2 hb hne
  go_wp2_with fail
  refine HIN.out.mono ?_
  rintro e w3 ⟨v3, rfl, ho3, hm3⟩
  go_wp2
  go_ret2
  refine ⟨_, rfl, ?_, (m2.alloc _).trans hm3 fun k hk h => ?_⟩
  · rw [HP.out.1] at ho3
    exact ho3
  · have : w.heap.size ≤ k := (World.ownsRow.lt HO.out k h).1
    omega

set_option maxRecDepth 100000 in
set_option maxHeartbeats 2000000 in
theorem conf_changed_drop (A : Option Addr) (n c : Nat) (R : Nat → Prop) (l : List Int) (y : Int) (w : World) (hr : Reads w R 1 A n (vis l)) (hok : MemOk l) (hy : y ∈ l) (h1 : 1 < l.length) :
    Calls Tryz.prog 148 #[.slice A n c, .int .i64 8, .int .i64 y] w fun e w' => ∃ v, e = .returned (.tuple #[v, .bool true]) ∧ OwnI w' w.heap.size v (mdrop l y) ∧ Mod Non w w' := by
  have hl : l.length = n := by have := hr.1; rw [vis_length] at this; omega
  have h9 := mem_few hok
  have HBS := Lib.hid (search_I A n c R l y w hr hok.rise (by omega))
  rw [show l.contains y = true from by simpa using hy] at HBS
  have HCL := Lib.hid (fun w' (h : Mod Non w w') => slices_Clone_I A n c R l w' (hr.mod h fun _ _ _ h => h) (by omega))
  obtain ⟨p, hp⟩ : ∃ p, p = below l y := ⟨_, rfl⟩
  rw [← hp] at HBS
  have hlt := below_lt hok.rise hy
  have HP := Lib.hid (show p = below l y ∧ p < l.length ∧ l.length ≤ 9 from ⟨hp, by omega, h9⟩)
  have hn1 : 1 < (n : Int) := by omega
  have hp9 : p ≤ 9 := by omega
  clear hr hok hy hl h9 hp hlt h1
  go_enter Tryz.func148, Tryz.ntmps148
  go_wp2_with fail
  refine HBS.out.mono ?_
  rintro e w1 ⟨rfl, q, rfl⟩
  have m0 := (Mod.refl Non w).drewN q
  clear HBS
  go_wp2_with fail
  refine (HCL.out _ m0).mono ?_
  rintro e w2 ⟨v, rfl, ho, hm⟩
  have m2 := m0.trans' hm
  clear hm m0 HCL
  have hx : ∃ g c2, v = .slice (some ⟨g, 0, none⟩) l.length c2 := by
    rcases ho.2 with ⟨_, h0⟩ | ⟨g, cap, cur, rfl, _⟩
    · have := HP.out.2.1; omega
    · exact ⟨g, cap, rfl⟩
  obtain ⟨g, c2, rfl⟩ := hx
  have hgb := World.ownsRow.lt ho g rfl
  have hpc : ((p + 1 : Nat) : Int) = (p : Int) + 1 := by omega
  have HIN := Lib.hid (delete_I l p l.length c2 g w.heap.size _ ho rfl (by have := HP.out.2.2; omega) HP.out.2.1)
  obtain ⟨k, hk⟩ : ∃ k, k = l.length := ⟨_, rfl⟩
  rw [← hk] at HIN ⊢
  clear ho hk hpc
  go_wp2_with fail
  refine HIN.out.mono ?_
  rintro e w3 ⟨v3, rfl, ho3, hm3⟩
  go_wp2
  go_ret2
  refine ⟨_, rfl, ?_, m2.trans hm3 fun k hk h => ?_⟩
  · rw [HP.out.1] at ho3
    exact ho3
  · have h : k = g := h
    have : w.heap.size ≤ g := hgb.1
    omega

set_option maxRecDepth 100000 in
set_option maxHeartbeats 2000000 in
theorem conf_changed_no (A : Option Addr) (n c : Nat) (R : Nat → Prop) (l : List Int) (kind y : Int) (w : World) (hr : Reads w R 1 A n (vis l)) (hok : MemOk l) (hk : kind = 7 ∨ kind = 8) (hno : chg l kind y = none) :
    Calls Tryz.prog 148 #[.slice A n c, .int .i64 kind, .int .i64 y] w fun e w' => e = .returned (.tuple #[.slice none 0 0, .bool false]) ∧ Mod Non w w' := by
  have hl : l.length = n := by have := hr.1; rw [vis_length] at this; omega
  have h9 := mem_few hok
  have HBS := Lib.hid (search_I A n c R l y w hr hok.rise (by omega))
  obtain ⟨p, hp⟩ : ∃ p, p = below l y := ⟨_, rfl⟩
  rw [← hp] at HBS
  have HP := Lib.hid hp
  rcases hk with rfl | rfl
  · have hc : l.contains y = true ∨ (l.contains y = false ∧ (y < 1 ∨ 9 < y)) := by
      unfold chg at hno
      rw [if_pos rfl] at hno
      split at hno
      · next h =>
        by_cases hy : y ∈ l
        · exact .inl (by simpa using hy)
        · exact .inr ⟨by simpa using hy, by rcases h with h | h | h; exact absurd h hy; exact .inl h; exact .inr h⟩
      · cases hno
    clear hno hr hok hl h9 hp
    rcases hc with hc | ⟨hc, hy | hy⟩
    · rw [hc] at HBS
      clear hc
      go_enter Tryz.func148, Tryz.ntmps148
      go_wp2_with fail
      refine HBS.out.mono ?_
      rintro e w1 ⟨rfl, q, rfl⟩
      go_wp2
      go_ret2
      exact ⟨rfl, (Mod.refl Non w).drewN q⟩
    · rw [hc] at HBS
      clear hc
      go_enter Tryz.func148, Tryz.ntmps148
      go_wp2_with fail
      refine HBS.out.mono ?_
      rintro e w1 ⟨rfl, q, rfl⟩
      go_wp2
      go_ret2
      exact ⟨rfl, (Mod.refl Non w).drewN q⟩
    · rw [hc] at HBS
      clear hc
      have hy1 : 1 ≤ y := by omega
      go_enter Tryz.func148, Tryz.ntmps148
      go_wp2_with fail
      refine HBS.out.mono ?_
      rintro e w1 ⟨rfl, q, rfl⟩
      go_wp2
      go_ret2
      exact ⟨rfl, (Mod.refl Non w).drewN q⟩
  · have hc : l.contains y = false ∨ (l.contains y = true ∧ n ≤ 1) := by
      unfold chg at hno
      rw [if_neg (by decide)] at hno
      split at hno
      · cases hno
      · next h =>
        by_cases hy : y ∈ l
        · exact .inr ⟨by simpa using hy, by rw [← hl]; have : ¬ 1 < l.length := fun h1 => h ⟨hy, h1⟩; omega⟩
        · exact .inl (by simpa using hy)
    clear hno hr hok hl h9 hp
    rcases hc with hc | ⟨hc, hn⟩
    · rw [hc] at HBS
      clear hc
      go_enter Tryz.func148, Tryz.ntmps148
      go_wp2_with fail
      refine HBS.out.mono ?_
      rintro e w1 ⟨rfl, q, rfl⟩
      go_wp2
      go_ret2
      exact ⟨rfl, (Mod.refl Non w).drewN q⟩
    · rw [hc] at HBS
      clear hc
      have hn1 : (n : Int) ≤ 1 := by omega
      go_enter Tryz.func148, Tryz.ntmps148
      go_wp2_with fail
      refine HBS.out.mono ?_
      rintro e w1 ⟨rfl, q, rfl⟩
      go_wp2
      go_ret2
      exact ⟨rfl, (Mod.refl Non w).drewN q⟩
end Go.Proofs.YtdclfdinhdaadaaGreatDoor

/- Own slices of confs and of numbers, where other memory has turned. -/
namespace Go.Proofs.YtdclfdinhdaadaaGreatDoor
open Go.RowKit

theorem OwnC.mod {w w' : World} {B : Nat} {S : Nat → Prop} {v : Value} {cs : List Cf} (h : OwnC w B v cs) (hm : Mod S w w') (hS : ∀ k, k < w.heap.size → B ≤ k → ¬ S k) : OwnC w' B v cs := by
  obtain ⟨vs, h1, h2⟩ := h
  exact ⟨vs, own_mod h1 hm fun k hk => hS k (World.ownsRow.lt h1 k hk).2 (World.ownsRow.lt h1 k hk).1, h2.mod hm fun k hk hr => hS k hk hr.1⟩
theorem OwnI.mod {w w' : World} {B : Nat} {S : Nat → Prop} {v : Value} {l : List Int} (h : OwnI w B v l) (hm : Mod S w w') (hS : ∀ k, k < w.heap.size → B ≤ k → ¬ S k) : OwnI w' B v l :=
  own_mod h hm fun k hk => hS k (World.ownsRow.lt h k hk).2 (World.ownsRow.lt h k hk).1
theorem OwnC.ownLt {w : World} {B k : Nat} {v : Value} {cs : List Cf} (h : OwnC w B v cs) (hk : v.ownBlock = some k) : B ≤ k ∧ k < w.heap.size := by
  obtain ⟨vs, h1, _⟩ := h
  exact World.ownsRow.lt h1 k hk
end Go.Proofs.YtdclfdinhdaadaaGreatDoor

/- Package conf: the contract of Change. -/
namespace Go.Proofs.YtdclfdinhdaadaaGreatDoor
open Go.RowKit

theorem last_at {cs : List Cf} {x : Cf} {n : Nat} (h : cs.length = n) (hx : cs[n - 1]? = some x) : lastMem cs = x.mem := by
  unfold lastMem
  rw [List.getLast?_eq_getElem?, h, hx]

set_option maxRecDepth 100000 in
set_option maxHeartbeats 2000000 in
theorem conf_Change_no (A : Option Addr) (n c : Nat) (R : Nat → Prop) (cs : List Cf) (ix kind y : Int) (w : World) (hr : Confs w R A n cs) (hn : n ≤ 64) (hok : CfsOk cs) (hix : 1 ≤ ix ∧ ix ≤ 1000000) (hk : kind = 7 ∨ kind = 8) (hno : chg (lastMem cs) kind y = none) :
    Calls Tryz.prog 126 #[.slice A n c, .int .i64 ix, .int .i64 kind, .int .i64 y] w fun e w' => e = .returned (.tuple #[.slice none 0 0, .int .i64 16]) ∧ Mod Non w w' := by
  have hl := hr.len
  have HCK := Lib.hid (conf_Check A n c R cs w hr (by omega) (cf_len hok))
  obtain ⟨c0, h0, _⟩ := hok.first
  have hn1 : 1 ≤ n := by have := (List.getElem?_eq_some_iff.1 h0).1; omega
  have HAT := Lib.hid (fun w' (h : Mod Non w w') => (hr.non h).at_ (k := n - 1) (by omega))
  have HLM : Hid (∀ x, cs[n - 1]? = some x → lastMem cs = x.mem ∧ MemOk x.mem) := fun x hx => ⟨last_at hl hx, (hok.each x (List.mem_of_getElem? hx)).1⟩
  have HNO := Lib.hid hno
  have HOK := Lib.hid hok
  obtain ⟨i1, i2⟩ := hix
  have i3 : ix ≤ 4294967292 := by omega
  have i4 : decide (4294967292 < ix) = false := by simpa using i3
  have i5 : decide (ix < 1) = false := by simpa using i1
  have q0 : IntKind.i64.wrap ((n : Int) - 1) = (n : Int) - 1 := by rw [IntKind.wrap_i64]; omega
  have q2 : (0 : Int) ≤ (n : Int) - 1 := by omega
  have q3 : (n : Int) - 1 < (n : Int) := by omega
  have q4 : ((n : Int) - 1).toNat = n - 1 := by omega
  clear hr hok hl hno h0
  go_enter Tryz.func126, Tryz.ntmps126
  go_wp2_with fail
  refine HCK.out.mono ?_
  rintro e w1 ⟨⟨k, rfl, hk0⟩, hm1⟩
  have hk0 : k = 0 := hk0.2 HOK.out
  subst hk0
  have M1 := Lib.hid hm1
  obtain ⟨b, off, x, A', n', c', hA, hb, _, hxk, d0, d1, dm⟩ := HAT.out _ hm1
  subst hA
  obtain ⟨hx1, hx2⟩ := HLM.out x hxk
  have hno := HNO.out
  rw [hx1] at hno
  obtain ⟨cf, hcf⟩ : ∃ cf, cf = x.from_ := ⟨_, rfl⟩
  rw [← hcf] at d0
  have HCH := Lib.hid (fun w' (h : Mod Non w1 w') => conf_changed_no A' n' c' _ x.mem kind y w' (dm.mod h fun _ _ _ h => h) hx2 hk hno)
  clear dm hxk hcf hx1 hx2 hno hm1 HCK HAT hk0 hn1
  go_wp2_with fail
  refine (HCH.out _ ((Mod.refl _ _).alloc _)).mono ?_
  rintro e w2 ⟨rfl, hm2⟩
  go_wp2
  go_ret2
  exact ⟨rfl, (M1.out.alloc _).trans' hm2⟩

theorem conf_changed_yes (A : Option Addr) (n c : Nat) (R : Nat → Prop) (l l' : List Int) (kind y : Int) (w : World) (hr : Reads w R 1 A n (vis l)) (hok : MemOk l) (hk : kind = 7 ∨ kind = 8) (hc : chg l kind y = some l') :
    Calls Tryz.prog 148 #[.slice A n c, .int .i64 kind, .int .i64 y] w fun e w' => ∃ v, e = .returned (.tuple #[v, .bool true]) ∧ OwnI w' w.heap.size v l' ∧ Mod Non w w' := by
  unfold chg at hc
  rcases hk with rfl | rfl
  · rw [if_pos rfl] at hc
    split at hc
    · cases hc
    · next h =>
      injection hc with hc
      subst hc
      exact conf_changed_add A n c R l y w hr hok (fun hy => h (.inl hy)) (by omega)
  · rw [if_neg (by decide)] at hc
    split at hc
    · next h =>
      injection hc with hc
      subst hc
      exact conf_changed_drop A n c R l y w hr hok h.1 h.2
    · cases hc

set_option maxRecDepth 100000 in
set_option maxHeartbeats 2000000 in
theorem conf_Change_yes (A : Option Addr) (n c : Nat) (R : Nat → Prop) (cs : List Cf) (l' : List Int) (ix kind y : Int) (w : World) (hr : Confs w R A n cs) (hn : n ≤ 64) (hok : CfsOk cs) (hix : 1 ≤ ix ∧ ix ≤ 1000000) (hk : kind = 7 ∨ kind = 8) (hlate : ∀ x ∈ cs, x.from_ < ix + 4) (hyes : chg (lastMem cs) kind y = some l') :
    Calls Tryz.prog 126 #[.slice A n c, .int .i64 ix, .int .i64 kind, .int .i64 y] w fun e w' => ∃ v, e = .returned (.tuple #[v, .int .i64 0]) ∧ OwnC w' w.heap.size v (cs ++ [⟨ix + 4, l'⟩]) ∧ Mod Non w w' := by
  have hl := hr.len
  have HCK := Lib.hid (conf_Check A n c R cs w hr (by omega) (cf_len hok))
  obtain ⟨c0, h0, _⟩ := hok.first
  have hn1 : 1 ≤ n := by have := (List.getElem?_eq_some_iff.1 h0).1; omega
  have HAT := Lib.hid (fun w' (h : Mod Non w w') => (hr.non h).at_ (k := n - 1) (by omega))
  have HLM : Hid (∀ x, cs[n - 1]? = some x → lastMem cs = x.mem ∧ MemOk x.mem ∧ x.from_ < ix + 4) := fun x hx => ⟨last_at hl hx, (hok.each x (List.mem_of_getElem? hx)).1, hlate x (List.mem_of_getElem? hx)⟩
  have HCN := Lib.hid (fun w' (h : Mod Non w w') => conf_clone A n c R cs w' (hr.non h) (by omega) (fun x hx => by have := mem_few (hok.each x hx).1; omega))
  have HNO := Lib.hid hyes
  have HOK := Lib.hid hok
  have HL := Lib.hid hl
  obtain ⟨i1, i2⟩ := hix
  have i3 : ix ≤ 4294967292 := by omega
  have i4 : decide (4294967292 < ix) = false := by simpa using i3
  have i5 : decide (ix < 1) = false := by simpa using i1
  have q0 : IntKind.i64.wrap ((n : Int) - 1) = (n : Int) - 1 := by rw [IntKind.wrap_i64]; omega
  have q2 : (0 : Int) ≤ (n : Int) - 1 := by omega
  have q3 : (n : Int) - 1 < (n : Int) := by omega
  have q4 : ((n : Int) - 1).toNat = n - 1 := by omega
  have q5 : IntKind.i64.wrap (ix + 4) = ix + 4 := by rw [IntKind.wrap_i64]; omega
  clear hr hok hl hyes h0 hlate
  go_enter Tryz.func126, Tryz.ntmps126
  go_wp2_with fail
  refine HCK.out.mono ?_
  rintro e w1 ⟨⟨k, rfl, hk0⟩, hm1⟩
  have hk0 : k = 0 := hk0.2 HOK.out
  subst hk0
  have M1 := Lib.hid hm1
  obtain ⟨b, off, x, A', n', c', hA, hb, _, hxk, d0, d1, dm⟩ := HAT.out _ hm1
  subst hA
  obtain ⟨hx1, hx2, hx3⟩ := HLM.out x hxk
  have hyes := HNO.out
  rw [hx1] at hyes
  obtain ⟨cf, hcf⟩ : ∃ cf, cf = x.from_ := ⟨_, rfl⟩
  rw [← hcf] at d0 hx3
  have HCH := Lib.hid (fun w' (h : Mod Non w1 w') => conf_changed_yes A' n' c' _ x.mem l' kind y w' (dm.mod h fun _ _ _ h => h) hx2 hk hyes)
  have bl := Blk.new w1 90 #[.int .i64 cf, .slice A' n' c']
  clear dm hxk hcf hx1 hx2 hyes hm1 HCK HAT hk0 hn1
  go_wp2_with fail
  refine (HCH.out _ ((Mod.refl _ _).alloc _)).mono ?_
  rintro e w2 ⟨v2, rfl, ho2, hm2⟩
  have bl2 := bl.mod hm2 (fun h => h)
  have e20 := bl2.cell 0
  simp at e20
  have M2 := Lib.hid ((M1.out.alloc (.cells #[.int .i64 cf, .slice A' n' c'] 90)).trans' hm2)
  obtain ⟨A2, n2, c2, rfl, hn2, hc2⟩ := ho2.form
  have HO2 := Lib.hid ho2
  have hgt : cf ≤ ix + 4 := by omega
  have hne : ¬ ix + 4 = cf := by omega
  have hne2 : (ix + 4 == cf) = false := by simpa using hne
  have hmax : max (ix + 4) cf = ix + 4 := by omega
  clear ho2 hm2 bl hn2 hc2
  go_wp2_with fail
  refine (HCN.out _ M2.out).mono ?_
  rintro e w3 ⟨v3, rfl, ho3, hm3⟩
  have M3 := Lib.hid (M2.out.trans' hm3)
  have e30 := (bl2.mod hm3 (fun h => h)).cell 0
  simp at e30
  have hz12 : w.heap.size ≤ w1.heap.size := M1.out.size
  have hz2 := M2.out.size
  have hz3 := M3.out.size
  have hmem : Hid (Reads w3 (fun k => w.heap.size ≤ k ∧ v3.ownBlock ≠ some k) 1 A2 n2 (vis l')) := by
    have h1 := HO2.out.reads.more (R' := fun k => w.heap.size ≤ k ∧ k < w2.heap.size) fun k hk h => ⟨(by have h8 := h.1; rw [World.size_alloc] at h8; omega), hk⟩
    refine (h1.mod hm3 fun _ _ _ h => h).more fun k _ hk => ⟨hk.1, fun he => ?_⟩
    have := (ho3.ownLt he).1
    have := hk.2
    omega
  have HO3 := Lib.hid (ho3.lower hz2)
  obtain ⟨n3, hn3⟩ : ∃ n3, n3 = cs.length := ⟨_, rfl⟩
  obtain ⟨A3, c3, he3, hc3⟩ := ho3.len
  rw [← hn3] at he3 hc3
  have hlk : Hid (cs.length ≤ 100000) := by show _ ≤ _; have := HL.out; omega
  subst he3
  clear ho3 hm3 bl2 e20 hn3
  go_wp2_with (at_builtin; refine wpList_append_Cf rfl (.tmp 62) (.tmp 66) rfl w.heap.size _ cs (by simp [Act.eval]) HO3.out ⟨ix + 4, l'⟩ A2 n2 c2 hmem.out _ rfl (by simp [Act.eval]) hlk.out hz3 ?_; intro v4 w4 ho4 hm4)
  go_ret2
  refine ⟨_, rfl, ho4, M3.out.trans hm4 fun k hk h => ?_⟩
  have := (HO3.out.ownLt h).1
  omega
end Go.Proofs.YtdclfdinhdaadaaGreatDoor
