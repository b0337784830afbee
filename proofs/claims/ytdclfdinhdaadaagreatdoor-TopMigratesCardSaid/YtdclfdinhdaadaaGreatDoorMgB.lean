/- What a number's bytes are read as, in plain Lean. No program in sight. -/
import Derived.Test.YtdclfdinhdaadaaGreatDoorMgA
import Derived.Laws.BitsAllLaws
import Derived.IntWalk
import Derived.Test.YtdclfdinhdaadaaGreatDoorAnswerPutG
import Derived.Deep.RegionHeld3
namespace Go.Proofs.YtdclfdinhdaadaaGreatDoor

/-- k bytes were read, and come to acc. Done: the number, and how many bytes it has; or what is wrong: 1 too short, 3 no such form. -/
def gscan (k acc : Nat) : List UInt8 → Except Nat (Nat × Nat)
  | [] => .error 1
  | c :: r => if (c.toNat = 0 ∧ 0 < k) ∨ 9 ≤ k then .error 3 else if c.toNat < 128 then .ok (acc + c.toNat * 128 ^ k, k + 1) else gscan (k + 1) (acc + c.toNat % 128 * 128 ^ k) r

def gres (a : Nat) : Except Nat (Nat × Nat) → Value
  | .ok (v, k) => .tuple #[.int .i64 v, .int .i64 ((a + k : Nat) : Int), .int .i64 0]
  | .error e => .tuple #[.int .i64 0, .int .i64 0, .int .i64 e]

theorem gscan_nil (k acc : Nat) : gscan k acc [] = .error 1 := rfl
theorem gscan_bad {k acc : Nat} {c : UInt8} {r : List UInt8} (h : (c.toNat = 0 ∧ 0 < k) ∨ 9 ≤ k) : gscan k acc (c :: r) = .error 3 := by rw [gscan, if_pos h]
theorem gscan_last {k acc : Nat} {c : UInt8} {r : List UInt8} (h : ¬ ((c.toNat = 0 ∧ 0 < k) ∨ 9 ≤ k)) (h1 : c.toNat < 128) : gscan k acc (c :: r) = .ok (acc + c.toNat * 128 ^ k, k + 1) := by rw [gscan, if_neg h, if_pos h1]
theorem gscan_more {k acc : Nat} {c : UInt8} {r : List UInt8} (h : ¬ ((c.toNat = 0 ∧ 0 < k) ∨ 9 ≤ k)) (h1 : ¬ c.toNat < 128) : gscan k acc (c :: r) = gscan (k + 1) (acc + c.toNat % 128 * 128 ^ k) r := by rw [gscan, if_neg h, if_neg h1]

theorem mul_pow (n k : Nat) : n / 128 * 128 ^ (k + 1) = n / 128 * 128 * 128 ^ k := by rw [Nat.pow_succ, Nat.mul_comm (128 ^ k) 128, Nat.mul_assoc]

theorem gscan_vbytes (n : Nat) : ∀ (k acc : Nat) (r : List UInt8), k + (vbytes n).length ≤ 9 → (n ≠ 0 ∨ k = 0) → gscan k acc (vbytes n ++ r) = .ok (acc + n * 128 ^ k, k + (vbytes n).length) := by
  induction n using Nat.strongRecOn with
  | _ n ih =>
    intro k acc r hk h0
    have hp := vbytes_pos n
    by_cases h : n < 128
    · rw [vbytes_small h] at hk ⊢
      have e : (UInt8.ofNat n).toNat = n := by rw [UInt8.toNat_ofNat']; omega
      simp only [List.length_cons, List.length_nil] at hk
      rw [List.singleton_append, gscan_last (by rw [e]; omega) (by rw [e]; exact h), e]
      simp
    · rw [vbytes_large h] at hk ⊢
      have e : (UInt8.ofNat (128 + n % 128)).toNat = 128 + n % 128 := by rw [UInt8.toNat_ofNat']; omega
      have hp' := vbytes_pos (n / 128)
      simp only [List.length_cons] at hk
      rw [List.cons_append, gscan_more (by rw [e]; omega) (by rw [e]; omega), e, ih (n / 128) (by omega) (k + 1) _ r (by omega) (by left; omega), List.length_cons]
      have e2 : (128 + n % 128) % 128 = n % 128 := by omega
      rw [e2, mul_pow]
      have e3 : acc + n % 128 * 128 ^ k + n / 128 * 128 * 128 ^ k = acc + n * 128 ^ k := by
        rw [Nat.add_assoc, ← Nat.add_mul]
        congr 2
        omega
      rw [e3, Nat.add_assoc, Nat.add_comm 1]

/-- What was read as a number has that number's very bytes. -/
theorem gscan_canon (l : List UInt8) : ∀ (k acc v t : Nat), acc < 128 ^ k → gscan k acc l = .ok (v, t) → ∃ n r, l = vbytes n ++ r ∧ v = acc + n * 128 ^ k ∧ t = k + (vbytes n).length ∧ (0 < k → n ≠ 0) := by
  induction l with
  | nil => intro k acc v t _ h; cases h
  | cons c l ih =>
    intro k acc v t hacc h
    by_cases hb : (c.toNat = 0 ∧ 0 < k) ∨ 9 ≤ k
    · rw [gscan_bad hb] at h; cases h
    · by_cases hc : c.toNat < 128
      · rw [gscan_last hb hc] at h
        injection h with h; injection h with h1 h2
        refine ⟨c.toNat, l, ?_, h1.symm, ?_, fun hk h0 => hb (.inl ⟨h0, hk⟩)⟩
        · rw [vbytes_small hc]
          have : UInt8.ofNat c.toNat = c := by apply UInt8.toNat_inj.1; rw [UInt8.toNat_ofNat']; have := c.toNat_lt; omega
          rw [this]; rfl
        · rw [vbytes_small hc]; exact h2.symm
      · rw [gscan_more hb hc] at h
        have hlt := c.toNat_lt
        obtain ⟨n, r, h1, h2, h3, h4⟩ := ih (k + 1) _ v t (by
          rw [Nat.pow_succ]
          have : c.toNat % 128 * 128 ^ k ≤ 127 * 128 ^ k := Nat.mul_le_mul_right _ (by omega)
          omega) h
        have hn := h4 (by omega)
        have e1 : (128 * n + c.toNat % 128) / 128 = n := by omega
        have e2 : (128 * n + c.toNat % 128) % 128 = c.toNat % 128 := by omega
        refine ⟨128 * n + c.toNat % 128, r, ?_, ?_, ?_, fun _ => by omega⟩
        · rw [vbytes_large (by omega), e1, e2, h1]
          have : UInt8.ofNat (128 + c.toNat % 128) = c := by apply UInt8.toNat_inj.1; rw [UInt8.toNat_ofNat']; omega
          rw [this]; rfl
        · rw [h2, Nat.pow_succ, Nat.add_mul, ← Nat.mul_assoc n, Nat.mul_comm 128 n, Nat.mul_assoc n 128, Nat.mul_comm 128 (128 ^ k), ← Nat.mul_assoc]
          omega
        · rw [vbytes_large (by omega), e1, List.length_cons]
          omega

theorem and_127 (x : Nat) (h : x < 256) : bits BinOp.and IntKind.u8 (x : Int) 127 = ((x % 128 : Nat) : Int) := by
  have h1 : ∀ y : Fin 256, bits BinOp.and IntKind.u8 (y.val : Int) 127 = ((y.val % 128 : Nat) : Int) := by decide +kernel
  exact h1 ⟨x, h⟩

theorem pow_128 (k : Nat) : 128 ^ k = 2 ^ (7 * k) := by rw [Nat.pow_mul]

theorem step_lt {acc x k : Nat} (ha : acc < 128 ^ k) (hk : k ≤ 8) : acc + x % 128 * 128 ^ k < 128 ^ (k + 1) ∧ acc + x % 128 * 128 ^ k < 9223372036854775808 := by
  have h1 : x % 128 * 128 ^ k ≤ 127 * 128 ^ k := Nat.mul_le_mul_right _ (by omega)
  have h2 : 128 ^ (k + 1) = 128 ^ k * 128 := Nat.pow_succ _ _
  have h3 : 128 ^ (k + 1) ≤ 128 ^ 9 := Nat.pow_le_pow_right (by omega) (by omega)
  have h4 : (128 : Nat) ^ 9 = 9223372036854775808 := by decide
  omega

theorem step_eq {acc x k : Nat} (ha : acc < 128 ^ k) (hk : k ≤ 8) (hx : x < 256) :
    bits BinOp.or IntKind.u64 (acc : Int) (IntKind.u64.wrap (IntKind.u64.wrap (bits BinOp.and IntKind.u8 (x : Int) 127) * 2 ^ (7 * k))) = ((acc + x % 128 * 128 ^ k : Nat) : Int) := by
  obtain ⟨h1, h2⟩ := step_lt (x := x) ha hk
  rw [and_127 x hx, IntWalk.u64_in ((x % 128 : Nat) : Int) (by omega)]
  have e1 : ((x % 128 : Nat) : Int) * 2 ^ (7 * k) = ((x % 128 * 128 ^ k : Nat) : Int) := by
    rw [pow_128]; simp
  rw [e1, IntWalk.u64_in _ (by omega), u64_or_nat _ _ (by omega) (by omega)]
  congr 1
  rw [pow_128] at ha ⊢
  have := Nat.two_pow_add_eq_or_of_lt ha (x % 128)
  rw [Nat.mul_comm (x % 128), Nat.or_comm, ← this, Nat.add_comm]
end Go.Proofs.YtdclfdinhdaadaaGreatDoor

/- Package varint: the contract of Get. -/
namespace Go.Proofs.YtdclfdinhdaadaaGreatDoor
open Go.RowKit

theorem ret3 {a b c d e f : Int} (h1 : a = b) (h2 : c = d) (h3 : e = f) : Ending.returned (.tuple #[.int .i64 a, .int .i64 c, .int .i64 e]) = Ending.returned (.tuple #[.int .i64 b, .int .i64 d, .int .i64 f]) := by rw [h1, h2, h3]

theorem varint_Get_out (A : Option Addr) (len cap : Nat) (at_ : Int) (w : World) (h : at_ < 0 ∨ (len : Int) < at_) :
    Calls Tryz.prog 127 #[.slice A len cap, .int .i64 at_] w fun e w' => e = .returned (.tuple #[.int .i64 0, .int .i64 0, .int .i64 6]) ∧ w = w' := by
  by_cases h0 : at_ < 0
  · go_enter Tryz.func127, Tryz.ntmps127
    go_wp2
    go_step3
    go_wp2
    rw [Exit.noGoto_ret]
    go_ret3
    exact ⟨rfl, rfl⟩
  · have h1 : (len : Int) < at_ := by omega
    clear h
    go_enter Tryz.func127, Tryz.ntmps127
    go_wp2
    go_step3
    go_wp2
    rw [Exit.noGoto_ret]
    go_ret3
    exact ⟨rfl, rfl⟩

set_option maxRecDepth 100000 in
set_option maxHeartbeats 1000000 in
theorem varint_Get_in (A : Option Addr) (len cap : Nat) (R : Nat → Prop) (l : List UInt8) (a : Nat) (w : World) (hr : Reads w R 1 A len (vbs l)) (hmax : len ≤ 4611686018427387904) (ha : a ≤ len) :
    Calls Tryz.prog 127 #[.slice A len cap, .int .i64 a] w fun e w' => e = .returned (gres a (gscan 0 0 (l.drop a))) ∧ w = w' := by
  have hll := hr.1
  rw [vbs_length, Nat.mul_one] at hll
  have HL := Lib.hid hll
  clear hll
  go_enter Tryz.func127, Tryz.ntmps127
  go_wp2
  go_step3
  go_wp2
  go_step3
  go_wp2
  go_loop [7, 8] (fun m i => ∃ k acc : Nat, a + k ≤ len ∧ k ≤ 9 ∧ i = .int .i64 ((a + k : Nat) : Int) ∧ m = .int .u64 acc ∧ acc < 128 ^ k ∧ gscan k acc (l.drop (a + k)) = gscan 0 0 (l.drop a)) (fun _ i => len - (intOf i).toNat)
  case atStart => exact ⟨0, 0, by omega, by omega, rfl, rfl, by simp, rfl⟩
  case round =>
    obtain ⟨k, acc, hk, hk9, rfl, rfl, hacc, hg⟩ := hrel
    have HG := Lib.hid hg
    have HA := Lib.hid hacc
    clear hg hacc
    by_cases hlt : a + k < len
    · obtain ⟨b, off, hA, _, _, hc1⟩ := hr.row (by omega) (by rw [vbs_length, HL.out]; omega)
      have hl1 : a + k < l.length := by rw [HL.out]; exact hlt
      obtain ⟨c, hc⟩ : ∃ c, c = l[a + k] := ⟨_, rfl⟩
      have c1 := hc1 (a + k) _ (vbs_get hl1)
      rw [← hc] at c1
      have hd : l.drop (a + k) = c :: l.drop (a + k + 1) := by rw [hc]; exact List.drop_eq_getElem_cons hl1
      have HD := Lib.hid hd
      subst hA
      have hc255 := c.toNat_lt
      obtain ⟨x, hx⟩ : ∃ x : Nat, x = c.toNat := ⟨_, rfl⟩
      rw [← hx] at c1 hc255
      have HX := Lib.hid hx
      clear hc1 hc hd hx
      by_cases hz : x = 0 ∧ 0 < k
      · obtain ⟨hz1, hz2⟩ := hz
        have e1 : ((x : Int) == 0) = true := by simp [hz1]
        have HR : Hid (gscan 0 0 (l.drop a) = .error 3) := by
          show _ = _
          rw [← HG.out, HD.out]
          exact gscan_bad (.inl ⟨HX.out.symm.trans hz1, hz2⟩)
        have hz2' : (a : Int) < ((a + k : Nat) : Int) := by omega
        clear hz1
        go_wp2
        go_ret3
        exact ⟨by rw [HR.out]; rfl, rfl⟩
      · by_cases hk8 : 9 ≤ k
        · have HR : Hid (gscan 0 0 (l.drop a) = .error 3) := by
            show _ = _
            rw [← HG.out, HD.out]
            exact gscan_bad (.inr hk8)
          by_cases hx0 : x = 0
          · exact absurd ⟨hx0, by omega⟩ hz
          · have e1 : ((x : Int) == 0) = false := by simp; omega
            clear hx0 hz
            go_wp2
            go_ret3
            exact ⟨by rw [HR.out]; rfl, rfl⟩
        · have hacc : (acc : Int) ≤ 9223372036854775807 := by
            have h1 : 128 ^ k ≤ 128 ^ 8 := Nat.pow_le_pow_right (by omega) (by omega)
            have h2 : (128 : Nat) ^ 8 = 72057594037927936 := by decide
            have h3 := HA.out
            omega
          have Hstep := Lib.hid (step_eq (x := x) HA.out (by omega) hc255)
          have Hlt := Lib.hid (step_lt (x := x) HA.out (by omega))
          by_cases hx8 : x < 128
          · have HR : Hid (gscan 0 0 (l.drop a) = .ok (acc + x % 128 * 128 ^ k, k + 1)) := by
              show _ = _
              have e := HX.out
              rw [← HG.out, HD.out, gscan_last (by rw [← e]; omega) (by rw [← e]; exact hx8), ← e, Nat.mod_eq_of_lt hx8]
            have hne : (((a + k : Nat) : Int) == len) = false := by simp; omega
            by_cases hx0 : x = 0
            · have e1 : ((x : Int) == 0) = true := by simp [hx0]
              have hk0 : ¬ (a : Int) < ((a + k : Nat) : Int) := by omega
              clear hx0 hz
              go_wp2
              go_ret3
              refine ⟨?_, rfl⟩
              rw [HR.out]
              exact ret3 (by rw [Hstep.out, IntWalk.wrap64_in _ ⟨by omega, by have := Hlt.out.2; omega⟩]) (by omega) rfl
            · have e1 : ((x : Int) == 0) = false := by simp; omega
              clear hx0 hz
              go_wp2
              go_ret3
              refine ⟨?_, rfl⟩
              rw [HR.out]
              exact ret3 (by rw [Hstep.out, IntWalk.wrap64_in _ ⟨by omega, by have := Hlt.out.2; omega⟩]) (by omega) rfl
          · have e1 : ((x : Int) == 0) = false := by simp; omega
            go_wp2
            go_round
            case rel =>
              refine ⟨k + 1, acc + x % 128 * 128 ^ k, by omega, by omega, by go_num, by rw [Hstep.out], Hlt.out.1, ?_⟩
              have e := HX.out
              rw [← HG.out, HD.out, gscan_more (by rw [← e]; omega) (by rw [← e]; exact hx8), ← e]
              rfl
            case measure => simp [intOf]; omega
    · have HR : Hid (gscan 0 0 (l.drop a) = .error 1) := by
        show _ = _
        rw [← HG.out, List.drop_of_length_le (by rw [HL.out]; omega)]
        rfl
      have hake : Hid (a + k = len) := by show _ = _; omega
      have e1 : (((a + k : Nat) : Int) == len) = true := by rw [hake.out]; simp
      have hlt' : ¬ ((a + k : Nat) : Int) < len := by omega
      go_wp2
      go_ret3
      exact ⟨by rw [HR.out]; rfl, rfl⟩
end Go.Proofs.YtdclfdinhdaadaaGreatDoor

/- Package pack, the reader where all is well: the contracts of NewReader, limited, left, counted, fail-free. -/
namespace Go.Proofs.YtdclfdinhdaadaaGreatDoor
open Go.RowKit

/-- Block g is a reader of the bytes l, at a, and nothing has gone wrong. -/
def Rd (w : World) (g : Nat) (l : List UInt8) (a : Nat) : Prop :=
  ∃ A n c, Blk w g 145 #[.slice A n c, .int .i64 a, .int .i64 0] ∧ Reads w (fun b => b < g) 1 A n (vbs l) ∧ n ≤ c ∧ (c : Int) ≤ 9223372036854775807 ∧ a ≤ l.length ∧ l.length = n ∧ n ≤ 10000000

theorem quiet_left {P : Program} {f : FuncId} {args : Array Value} {w : World} {n : Nat} {v : Value}
    (h : Calls P f args (w.drewN n) fun e w' => e = .returned v ∧ w.drewN n = w') : Calls P f args (w.drewN n) fun e w'' => e = .returned v ∧ ∃ m, w'' = w.drewN m :=
  h.mono fun _ _ ⟨he, hm⟩ => ⟨he, n, hm.symm⟩

section
variable {w w' : World} {g a : Nat} {l : List UInt8}
theorem Rd.lt (h : Rd w g l a) : g < w.heap.size := by obtain ⟨A, n, c, hb, _⟩ := h; exact hb.lt
theorem Rd.len (h : Rd w g l a) : a ≤ l.length ∧ l.length ≤ 10000000 := by obtain ⟨A, n, c, hb, _, _, _, h1, h2, h3⟩ := h; omega
theorem Rd.mod {S : Nat → Prop} (h : Rd w g l a) (hm : Mod S w w') (hS : ∀ k, k ≤ g → ¬ S k) : Rd w' g l a := by
  obtain ⟨A, n, c, hb, hr, h1, h2, h3⟩ := h
  exact ⟨A, n, c, hb.mod hm (hS _ (Nat.le_refl _)), hr.mod hm fun k _ hk => hS k (Nat.le_of_lt hk), h1, h2, h3⟩
theorem Rd.non (h : Rd w g l a) (hm : Mod Non w w') : Rd w' g l a := h.mod hm fun _ _ h => h
/-- a store into a later block -/
theorem Rd.far (h : Rd w g l a) {b i : Nat} (hb : g < b) (u : Value) : Rd (w.setCell ⟨b, i, none⟩ u) g l a := h.mod (Mod.one w b i u) fun k hk e => by simp only [One] at e; omega
/-- the reader goes on to another place -/
theorem Rd.go {A : Option Addr} {n c a' : Nat} (hb : Blk w g 145 #[.slice A n c, .int .i64 a, .int .i64 0]) (hr : Reads w (fun b => b < g) 1 A n (vbs l)) (h1 : n ≤ c) (h2 : (c : Int) ≤ 9223372036854775807) (h3 : a' ≤ l.length) (h4 : l.length = n) (h5 : n ≤ 10000000) :
    Rd (w.setCell ⟨g, 1, none⟩ (.int .i64 a')) g l a' := by
  refine ⟨A, n, c, ?_, hr.mod (Mod.one w g 1 _) fun k _ hk e => by simp only [One] at e; omega, h1, h2, h3, h4, h5⟩
  exact hb.set_ 1 _
end

set_option maxRecDepth 100000 in
set_option maxHeartbeats 1000000 in
theorem rd_limited (g a v t : Nat) (l : List UInt8) (most : Int) (w : World) (hr : Rd w g l a) (hg : gscan 0 0 (l.drop a) = .ok (v, t)) (hm : (v : Int) ≤ most) :
    Calls Tryz.prog 102 #[.pointer (some ⟨g, 0, none⟩), .int .i64 most] w fun e w' => e = .returned (.int .i64 v) ∧ Rd w' g l (a + t) ∧ Mod (One g) w w' := by
  obtain ⟨A, n, c, hb, hrd, h1, h2, h3, h4, h5⟩ := hr
  have hat : a + t ≤ l.length := by
    obtain ⟨n', r, e1, _, e3, _⟩ := gscan_canon _ 0 0 v t (by omega) hg
    have : (l.drop a).length = (vbytes n').length + r.length := by rw [e1, List.length_append]
    rw [List.length_drop] at this; omega
  have c0 := hb.cell 0
  have c1 := hb.cell 1
  have f1 := hb.frozen 1
  simp at c0 c1
  have e1 : ¬ most < (v : Int) := by omega
  have HG : Hid (∀ j, Calls Tryz.prog 127 #[.slice A n c, .int .i64 a] (w.drewN j) fun e w' => e = .returned (.tuple #[.int .i64 v, .int .i64 ((a + t : Nat) : Int), .int .i64 0]) ∧ w.drewN j = w') := fun j => by
    have := varint_Get_in A n c _ l a (w.drewN j) (hrd.drewN j) (by omega) (by omega)
    rw [hg] at this
    exact this
  have HA := Lib.hid hat
  have HB := Lib.hid hb
  have HR := Lib.hid hrd
  have H34 := Lib.hid (show l.length = n ∧ n ≤ c ∧ n ≤ 10000000 from ⟨h4, h1, h5⟩)
  clear hg hm hat hb hrd h1 h3 h4 h5
  go_enter Tryz.func102, Tryz.ntmps102
  go_wp2
  go_quiet ((go_at_call 127; exact quiet_left (HG.out _)))
  go_wp2
  go_ret
  exact ⟨rfl, Rd.go (HB.out.drewN _) (HR.out.drewN _) H34.out.2.1 h2 HA.out H34.out.1 H34.out.2.2, ((Mod.refl _ w).drewN _).setOne _⟩

set_option maxRecDepth 100000 in
theorem rd_left (g a : Nat) (l : List UInt8) (w : World) (hr : Rd w g l a) :
    Calls Tryz.prog 115 #[.pointer (some ⟨g, 0, none⟩)] w fun e w' => e = .returned (.int .i64 ((l.length - a : Nat) : Int)) ∧ Mod Non w w' := by
  obtain ⟨A, n, c, hb, hrd, h1, h2, h3, h4, h5⟩ := hr
  have c0 := hb.cell 0
  have c1 := hb.cell 1
  simp at c0 c1
  have h6 : a ≤ n := by omega
  have HE : Hid (((l.length - a : Nat) : Int) = (n : Int) - a) := by show _ = _; omega
  clear h3 h4
  go_enter Tryz.func115, Tryz.ntmps115
  go_wp2
  go_quiet (fail)
  go_wp2
  go_ret
  exact ⟨by rw [HE.out]; rfl, (Mod.refl _ _).drewN _⟩
end Go.Proofs.YtdclfdinhdaadaaGreatDoor

/- Package pack, the reader where all is well: the contracts of Number, Count, Raw, Text, Flag, Err, Done, NewReader. -/
namespace Go.Proofs.YtdclfdinhdaadaaGreatDoor
open Go.RowKit

theorem Rd.no {w : World} {g a : Nat} {l : List UInt8} (h : Rd w g l a) : w.cell? ⟨g, 2, none⟩ = some (.int .i64 0) := by
  obtain ⟨A, n, c, hb, _⟩ := h
  have := hb.cell 2
  simpa using this

set_option maxHeartbeats 1000000 in
theorem rd_counted (g a v t : Nat) (l : List UInt8) (most : Int) (w : World) (hr : Rd w g l a) (hg : gscan 0 0 (l.drop a) = .ok (v, t)) (hm : (v : Int) ≤ most) (hv : a + t + v ≤ l.length) :
    Calls Tryz.prog 140 #[.pointer (some ⟨g, 0, none⟩), .int .i64 most] w fun e w' => e = .returned (.int .i64 v) ∧ Rd w' g l (a + t) ∧ Mod (One g) w w' := by
  have HG := Lib.hid hg
  have HM := Lib.hid hm
  have e1 : ¬ (((l.length - (a + t) : Nat) : Int) < (v : Int)) := by omega
  clear hg hm hv
  go_enter Tryz.func140, Tryz.ntmps140
  go_wp2_with fail
  refine (rd_limited g a v t l most w hr HG.out HM.out).mono ?_
  rintro e w1 ⟨rfl, hr1, hm1⟩
  have c2 := hr1.no
  go_wp2_with fail
  refine (rd_left g (a + t) l w1 hr1).mono ?_
  rintro e w2 ⟨rfl, hm2⟩
  obtain ⟨q, HQ⟩ : ∃ q, Hid (l.length - (a + t) = q) := ⟨_, rfl⟩
  rw [HQ.out] at e1 ⊢
  go_wp2
  go_ret
  exact ⟨rfl, hr1.non hm2, hm1.trans' hm2.non⟩

set_option maxHeartbeats 1000000 in
theorem rd_Number (g a v t : Nat) (l : List UInt8) (most : Int) (w : World) (hr : Rd w g l a) (hg : gscan 0 0 (l.drop a) = .ok (v, t)) (hm : (v : Int) ≤ most) :
    Calls Tryz.prog 59 #[.pointer (some ⟨g, 0, none⟩), .int .i64 most] w fun e w' => e = .returned (.int .i64 v) ∧ Rd w' g l (a + t) ∧ Mod (One g) w w' := by
  have HG := Lib.hid hg
  have HM := Lib.hid hm
  clear hg hm
  obtain ⟨W2, hW2⟩ : ∃ W2, (w.alloc (.cells #[.pointer (some ⟨g, 0, none⟩)] 80)).alloc (.cells #[.int .i64 most] 3) = W2 := ⟨_, rfl⟩
  have hm0 : Mod Non w W2 := by rw [← hW2]; exact ((Mod.refl _ _).alloc _).alloc _
  have hr0 := hr.non hm0
  obtain ⟨H, hH⟩ : ∃ H, w.heap.size = H := ⟨_, rfl⟩
  have b0 : Blk W2 H 80 #[.pointer (some ⟨g, 0, none⟩)] := by rw [← hW2, ← hH]; exact (Blk.new w _ _).alloc _
  have b1 : Blk W2 (H + 1) 3 #[.int .i64 most] := by rw [← hW2, ← hH]; exact Blk.new1 w _ _ _
  have x0 := b0.cell 0
  have x1 := b1.cell 0
  simp at x0 x1
  have n2 := hr0.no
  have hC : Hid (Calls Tryz.prog 101 #[.pointer (some ⟨H, 0, none⟩), .pointer (some ⟨H + 1, 0, none⟩)] W2 fun e w' => e = .returned (.int .i64 v) ∧ Rd w' g l (a + t) ∧ Mod (One g) W2 w') := by
    clear n2 hW2
    show Calls _ _ _ _ _
    go_enter Tryz.func101, Tryz.ntmps101
    go_wp2_with fail
    refine (rd_limited g a v t l most W2 hr0 HG.out HM.out).mono ?_
    rintro e w1 ⟨rfl, hr1, hm1⟩
    go_wp2
    go_ret
    exact ⟨rfl, hr1, hm1⟩
  have hR : Hid (Calls Tryz.prog 100 #[.pointer (some ⟨g, 0, none⟩), .func (.func 101) #[] #[.pointer (some ⟨H, 0, none⟩), .pointer (some ⟨H + 1, 0, none⟩)]] W2 fun e w' => e = .returned (.int .i64 v) ∧ Rd w' g l (a + t) ∧ Mod (One g) W2 w') := by
    clear x0 x1 hW2
    show Calls _ _ _ _ _
    go_enter Tryz.func100, Tryz.ntmps100
    go_wp2_with fail
    refine hC.out.mono ?_
    rintro e w1 ⟨rfl, hr1, hm1⟩
    have n3 := hr1.no
    go_wp2
    go_ret
    exact ⟨rfl, hr1, hm1⟩
  have HW := Lib.hid hW2
  clear hW2 n2 b0 b1 hC
  go_enter Tryz.func59, Tryz.ntmps59
  go_wp2_with fail
  rw [HW.out]
  refine hR.out.mono ?_
  rintro e w1 ⟨rfl, hr1, hm1⟩
  go_wp2
  go_ret
  exact ⟨rfl, hr1, hm0.non.trans' hm1⟩

set_option maxHeartbeats 1000000 in
theorem rd_Count (g a v t : Nat) (l : List UInt8) (most : Int) (w : World) (hr : Rd w g l a) (hg : gscan 0 0 (l.drop a) = .ok (v, t)) (hm : (v : Int) ≤ most) (hv : a + t + v ≤ l.length) :
    Calls Tryz.prog 113 #[.pointer (some ⟨g, 0, none⟩), .int .i64 most] w fun e w' => e = .returned (.int .i64 v) ∧ Rd w' g l (a + t) ∧ Mod (One g) w w' := by
  have HG := Lib.hid hg
  have HM := Lib.hid hm
  clear hg hm
  obtain ⟨W2, hW2⟩ : ∃ W2, (w.alloc (.cells #[.pointer (some ⟨g, 0, none⟩)] 80)).alloc (.cells #[.int .i64 most] 3) = W2 := ⟨_, rfl⟩
  have hm0 : Mod Non w W2 := by rw [← hW2]; exact ((Mod.refl _ _).alloc _).alloc _
  have hr0 := hr.non hm0
  obtain ⟨H, hH⟩ : ∃ H, w.heap.size = H := ⟨_, rfl⟩
  have b0 : Blk W2 H 80 #[.pointer (some ⟨g, 0, none⟩)] := by rw [← hW2, ← hH]; exact (Blk.new w _ _).alloc _
  have b1 : Blk W2 (H + 1) 3 #[.int .i64 most] := by rw [← hW2, ← hH]; exact Blk.new1 w _ _ _
  have x0 := b0.cell 0
  have x1 := b1.cell 0
  simp at x0 x1
  have n2 := hr0.no
  have hC : Hid (Calls Tryz.prog 139 #[.pointer (some ⟨H, 0, none⟩), .pointer (some ⟨H + 1, 0, none⟩)] W2 fun e w' => e = .returned (.int .i64 v) ∧ Rd w' g l (a + t) ∧ Mod (One g) W2 w') := by
    clear n2 hW2
    show Calls _ _ _ _ _
    go_enter Tryz.func139, Tryz.ntmps139
    go_wp2_with fail
    refine (rd_counted g a v t l most W2 hr0 HG.out HM.out hv).mono ?_
    rintro e w1 ⟨rfl, hr1, hm1⟩
    go_wp2
    go_ret
    exact ⟨rfl, hr1, hm1⟩
  have hR : Hid (Calls Tryz.prog 100 #[.pointer (some ⟨g, 0, none⟩), .func (.func 139) #[] #[.pointer (some ⟨H, 0, none⟩), .pointer (some ⟨H + 1, 0, none⟩)]] W2 fun e w' => e = .returned (.int .i64 v) ∧ Rd w' g l (a + t) ∧ Mod (One g) W2 w') := by
    clear x0 x1 hW2
    show Calls _ _ _ _ _
    go_enter Tryz.func100, Tryz.ntmps100
    go_wp2_with fail
    refine hC.out.mono ?_
    rintro e w1 ⟨rfl, hr1, hm1⟩
    have n3 := hr1.no
    go_wp2
    go_ret
    exact ⟨rfl, hr1, hm1⟩
  have HW := Lib.hid hW2
  clear hW2 n2 b0 b1 hC
  go_enter Tryz.func113, Tryz.ntmps113
  go_wp2_with fail
  rw [HW.out]
  refine hR.out.mono ?_
  rintro e w1 ⟨rfl, hr1, hm1⟩
  go_wp2
  go_ret
  exact ⟨rfl, hr1, hm0.non.trans' hm1⟩
end Go.Proofs.YtdclfdinhdaadaaGreatDoor

/- Package pack, the reader where all is well: the contracts of Raw, Text. -/
namespace Go.Proofs.YtdclfdinhdaadaaGreatDoor
open Go.RowKit

/-- 'b[lo:hi]', the address under one name -/
theorem run_bytes_slice (A Z : Option Addr) (n c lo hi : Nat) (h1 : lo ≤ hi) (h2 : hi ≤ c) (hZ : (if c = lo then A else A.map (·.add lo)) = Z) (L H : Int) (hL : L = lo) (hH : H = hi) (W : World) :
    (Instr.slice 35 (.slice A n c) (some (.int .i64 L)) (some (.int .i64 H)) none).run Tryz.prog W = .ok (.slice Z (hi - lo) (c - lo)) W := by
  have e0 : Tryz.prog.elem 35 = 5 := by kernel_rfl
  have e1 : (sizeOf 5).run Tryz.prog W = .ok 1 W := Tryz.sizeOf5 W
  subst hL hH
  rw [run_slice_lh W 35 A n c (by rw [e0]; exact Tryz.underlying35) .i64 .i64 _ _ (by omega) (by omega) (by omega), e0, e1]
  simp only [Result.andThen, sliced, Int.toNat_natCast, Nat.mul_one, hZ]

set_option maxRecDepth 100000 in
set_option maxHeartbeats 2000000 in
theorem rd_raw (g a v t : Nat) (l : List UInt8) (most : Int) (w : World) (hr : Rd w g l a) (hg : gscan 0 0 (l.drop a) = .ok (v, t)) (hm : (v : Int) ≤ most) (hv : a + t + v ≤ l.length) :
    Calls Tryz.prog 131 #[.pointer (some ⟨g, 0, none⟩), .int .i64 most] w fun e w' => ∃ x, e = .returned x ∧ OwnB w' w.heap.size x ((l.drop (a + t)).take v) ∧ Rd w' g l (a + t + v) ∧ Mod (One g) w w' := by
  have HG := Lib.hid hg
  have HM := Lib.hid hm
  have HV := Lib.hid hv
  have hlen : l.length ≤ 10000000 := hr.len.2
  have hgl := hr.lt
  have q1 : (((a + t : Nat) : Int) + v) = (a : Int) + t + v := by omega
  have q2 : IntKind.i64.wrap ((a : Int) + t + v - v) = (a : Int) + t := by rw [IntKind.wrap_i64]; omega
  have q3 : (0 : Int) ≤ (a : Int) + t := by omega
  clear hg hm
  go_enter Tryz.func131, Tryz.ntmps131
  go_wp2_with fail
  refine (rd_counted g a v t l most w hr HG.out HM.out HV.out).mono ?_
  rintro e w1 ⟨rfl, hr1, hm1⟩
  obtain ⟨A, n, c, hb, hrd, h1, h2, h3, h4, h5⟩ := hr1
  have c0 := hb.cell 0
  have c1 := hb.cell 1
  have c2 := hb.cell 2
  have f1 := hb.frozen 1
  simp at c0 c1 c2
  have hgo := Rd.go (a' := a + t + v) hb hrd h1 h2 hv h4 h5
  have ec : ((a + t + v : Nat) : Int) = (a : Int) + t + v := by omega
  have hb2 := hb.set_ 1 (.int .i64 ((a + t + v : Nat) : Int))
  have hrd2 := hrd.mod (Mod.one w1 g 1 (.int .i64 ((a + t + v : Nat) : Int))) fun k _ hk e => by simp only [One] at e; omega
  rw [ec] at hgo hb2 hrd2
  obtain ⟨W2, hW2⟩ : ∃ W2, w1.setCell ⟨g, 1, none⟩ (.int .i64 ((a : Int) + t + v)) = W2 := ⟨_, rfl⟩
  have hm2 : Mod (One g) w W2 := by rw [← hW2]; exact hm1.setOne _
  rw [hW2] at hgo hb2 hrd2
  have d0 := hb2.cell 0
  have d1 := hb2.cell 1
  simp at d0 d1
  have HW := Lib.hid hW2
  have hbody : Reads W2 (fun b => b < g) 1 (if c = a + t then A else A.map (·.add (a + t))) v (vbs ((l.drop (a + t)).take v)) := by
    have h6 := hrd2.cut (k := a + t) (cap := c) (by omega) h1
    rw [Nat.mul_one] at h6
    have h7 := h6.take (k := v) (by omega)
    simpa [vbs, List.map_drop, List.map_take] using h7
  have hbl : ((l.drop (a + t)).take v).length ≤ 140737488355328 := by rw [List.length_take]; omega
  have q4 : (a : Int) + t ≤ (a : Int) + t + v := by omega
  have q5 : (a : Int) + t + v ≤ (c : Int) := by omega
  have q6 : ((a : Int) + t).toNat = a + t := by omega
  have q7 : ((a : Int) + t + v).toNat = a + t + v := by omega
  have q8 : a + t + v - (a + t) = v := by omega
  have q15 : IntKind.i64.wrap ((a : Int) + t) = (a : Int) + t := by rw [IntKind.wrap_i64]; omega
  obtain ⟨Z, hZ⟩ : ∃ Z, (if c = a + t then A else A.map (·.add (a + t))) = Z := ⟨_, rfl⟩
  have hsl := fun W => run_bytes_slice A Z n c (a + t) (a + t + v) (by omega) (by omega) hZ ((a : Int) + t) ((a : Int) + t + v) (by omega) (by omega) W
  rw [q8] at hsl
  rw [hZ] at hbody
  clear hW2 ec hb hrd hb2 hrd2 hZ
  go_wp2
  clear c0 c1 c2 f1
  rw [HW.out]
  have HM2 := Lib.hid hm2
  have hg2 := hgo.lt
  have HGO := Lib.hid hgo
  clear hm2 hgo h3 h4 hm1
  go_region_held3 (fun w' => w'.cell? ⟨g, 0, none⟩ = some (.slice A n c) ∧ w'.cell? ⟨g, 1, none⟩ = some (.int .i64 ((a : Int) + t + v))) (go_keep)
    (first
      | (go_at_call 76
         refine (slices_Clone _ v _ _ ((l.drop (a + t)).take v) _ (by first | exact hbody | exact hbody.drewN _) hbl).mono ?_
         rintro e w3 ⟨v3, rfl, hown3, hm3⟩
         have s0 : w3.cell? ⟨g, 0, none⟩ = some (.slice A n c) := (hm3.cell (p := ⟨g, 0, none⟩) hg2 fun h => h).trans d0
         have s1 : w3.cell? ⟨g, 1, none⟩ = some (.int .i64 ((a : Int) + t + v)) := (hm3.cell (p := ⟨g, 1, none⟩) hg2 fun h => h).trans d1))
  go_wp2
  go_ret
  exact ⟨v3, rfl, hown3.below HM2.out.size, HGO.out.non hm3.undrew, HM2.out.trans' hm3.undrew.non⟩

set_option maxHeartbeats 1000000 in
theorem rd_Raw (g a v t : Nat) (l : List UInt8) (most : Int) (w : World) (hr : Rd w g l a) (hg : gscan 0 0 (l.drop a) = .ok (v, t)) (hm : (v : Int) ≤ most) (hv : a + t + v ≤ l.length) :
    Calls Tryz.prog 104 #[.pointer (some ⟨g, 0, none⟩), .int .i64 most] w fun e w' => ∃ x, e = .returned x ∧ OwnB w' w.heap.size x ((l.drop (a + t)).take v) ∧ Rd w' g l (a + t + v) ∧ Mod (One g) w w' := by
  have HG := Lib.hid hg
  have HM := Lib.hid hm
  clear hg hm
  obtain ⟨W2, hW2⟩ : ∃ W2, (w.alloc (.cells #[.pointer (some ⟨g, 0, none⟩)] 80)).alloc (.cells #[.int .i64 most] 3) = W2 := ⟨_, rfl⟩
  have hm0 : Mod Non w W2 := by rw [← hW2]; exact ((Mod.refl _ _).alloc _).alloc _
  have hr0 := hr.non hm0
  obtain ⟨H, hH⟩ : ∃ H, w.heap.size = H := ⟨_, rfl⟩
  have b0 : Blk W2 H 80 #[.pointer (some ⟨g, 0, none⟩)] := by rw [← hW2, ← hH]; exact (Blk.new w _ _).alloc _
  have b1 : Blk W2 (H + 1) 3 #[.int .i64 most] := by rw [← hW2, ← hH]; exact Blk.new1 w _ _ _
  have x0 := b0.cell 0
  have x1 := b1.cell 0
  simp at x0 x1
  have n2 := hr0.no
  have hC : Hid (Calls Tryz.prog 130 #[.pointer (some ⟨H, 0, none⟩), .pointer (some ⟨H + 1, 0, none⟩)] W2 fun e w' => ∃ x, e = .returned x ∧ OwnB w' W2.heap.size x ((l.drop (a + t)).take v) ∧ Rd w' g l (a + t + v) ∧ Mod (One g) W2 w') := by
    clear n2 hW2
    show Calls _ _ _ _ _
    go_enter Tryz.func130, Tryz.ntmps130
    go_wp2_with fail
    refine (rd_raw g a v t l most W2 hr0 HG.out HM.out hv).mono ?_
    rintro e w1 ⟨x, rfl, ho1, hr1, hm1⟩
    go_wp2
    go_ret
    exact ⟨x, rfl, ho1, hr1, hm1⟩
  have hR : Hid (Calls Tryz.prog 129 #[.pointer (some ⟨g, 0, none⟩), .func (.func 130) #[] #[.pointer (some ⟨H, 0, none⟩), .pointer (some ⟨H + 1, 0, none⟩)]] W2 fun e w' => ∃ x, e = .returned x ∧ OwnB w' W2.heap.size x ((l.drop (a + t)).take v) ∧ Rd w' g l (a + t + v) ∧ Mod (One g) W2 w') := by
    clear x0 x1 hW2
    show Calls _ _ _ _ _
    go_enter Tryz.func129, Tryz.ntmps129
    go_wp2_with fail
    refine hC.out.mono ?_
    rintro e w1 ⟨x, rfl, ho1, hr1, hm1⟩
    have n3 := hr1.no
    go_wp2
    go_ret
    exact ⟨x, rfl, ho1, hr1, hm1⟩
  have HW := Lib.hid hW2
  clear hW2 n2 b0 b1 hC
  go_enter Tryz.func104, Tryz.ntmps104
  go_wp2_with fail
  rw [HW.out]
  refine hR.out.mono ?_
  rintro e w1 ⟨x, rfl, ho1, hr1, hm1⟩
  go_wp2
  go_ret
  exact ⟨x, rfl, ho1.below (by have := hm0.size; omega), hr1, hm0.non.trans' hm1⟩

/-- 'string(b)' of a slice that reads as l -/
theorem text_of_bytes {w : World} {R : Nat → Prop} {A : Option Addr} {n c : Nat} {l : List UInt8} (hr : Reads w R 1 A n (vbs l)) : (convert 35 9 (.slice A n c)).run Tryz.prog w = .ok (.string ⟨l.toArray⟩) w := by
  have hl : l.length = n := by have := hr.1; rw [vbs_length, Nat.mul_one] at this; exact this
  subst hl
  rcases A with _ | ad
  · have h0 : l = [] := by
      rcases l with _ | ⟨x, r⟩
      · rfl
      · obtain ⟨ad, e, _⟩ := hr.2 (by simp); cases e
    subst h0
    exact run_convert_bytes_nil w 35 5 Tryz.underlying35 Tryz.underlying5 0 c 9 Tryz.underlying9
  · refine run_convert_bytes_back w 35 9 5 ad c l Tryz.underlying35 Tryz.underlying5 Tryz.underlying9 fun j hj => ?_
    obtain ⟨ad', e, _, _, hc⟩ := hr.2 (by omega)
    injection e with e; subst e
    exact hc j _ (vbs_get hj)

theorem rd_Text (g a v t : Nat) (l : List UInt8) (most : Int) (w : World) (hr : Rd w g l a) (hg : gscan 0 0 (l.drop a) = .ok (v, t)) (hm : (v : Int) ≤ most) (hv : a + t + v ≤ l.length) :
    Calls Tryz.prog 79 #[.pointer (some ⟨g, 0, none⟩), .int .i64 most] w fun e w' => e = .returned (.string ⟨((l.drop (a + t)).take v).toArray⟩) ∧ Rd w' g l (a + t + v) ∧ Mod (One g) w w' := by
  have HG := Lib.hid hg
  have HM := Lib.hid hm
  clear hg hm
  go_enter Tryz.func79, Tryz.ntmps79
  go_wp2_with fail
  refine (rd_Raw g a v t l most w hr HG.out HM.out hv).mono ?_
  rintro e w1 ⟨x, rfl, ho1, hr1, hm1⟩
  obtain ⟨A1, n1, c1, rfl, _, _⟩ := ho1.form
  have hrun := text_of_bytes (c := c1) ho1.reads
  obtain ⟨T, HT⟩ : ∃ T, Hid ((⟨((l.drop (a + t)).take v).toArray⟩ : ByteArray) = T) := ⟨_, rfl⟩
  rw [HT.out] at hrun
  go_wp2
  go_ret
  exact ⟨by rw [HT.out]; rfl, hr1, hm1⟩
end Go.Proofs.YtdclfdinhdaadaaGreatDoor

/- Package pack, the reader where all is well: the contracts of Flag, Err, Done, NewReader. -/
namespace Go.Proofs.YtdclfdinhdaadaaGreatDoor
open Go.RowKit

set_option maxRecDepth 100000 in
set_option maxHeartbeats 1000000 in
theorem rd_flag (g a : Nat) (l : List UInt8) (x : UInt8) (w : World) (hr : Rd w g l a) (hx : l[a]? = some x) (hx1 : x.toNat ≤ 1) :
    Calls Tryz.prog 141 #[.pointer (some ⟨g, 0, none⟩)] w fun e w' => e = .returned (.bool ((x.toNat : Int) == 1)) ∧ Rd w' g l (a + 1) ∧ Mod (One g) w w' := by
  have hal : a < l.length := (List.getElem?_eq_some_iff.1 hx).1
  have e0 : ((((l.length - a : Nat) : Int)) == 0) = false := by simp; omega
  have hlen := hr.len
  go_enter Tryz.func141, Tryz.ntmps141
  go_wp2_with fail
  refine (rd_left g a l w hr).mono ?_
  rintro e w1 ⟨rfl, hm1⟩
  have hr1 := hr.non hm1
  obtain ⟨q, HQ⟩ : ∃ q, Hid (l.length - a = q) := ⟨_, rfl⟩
  rw [HQ.out] at e0 ⊢
  obtain ⟨A, n, c, hb, hrd, h1, h2, h3, h4, h5⟩ := hr1
  have c0 := hb.cell 0
  have c1 := hb.cell 1
  have f1 := hb.frozen 1
  simp at c0 c1
  obtain ⟨b, off, hA, _, hbg, hcc⟩ := hrd.row (by omega) (by rw [vbs_length]; omega)
  have cx := hcc a (.int .u8 (x.toNat : Int)) (by
    rw [vbs_get hal]
    have : l[a] = x := by rw [List.getElem?_eq_getElem hal] at hx; injection hx
    rw [this])
  subst hA
  obtain ⟨y, hy⟩ : ∃ y : Nat, x.toNat = y := ⟨_, rfl⟩
  rw [hy] at cx hx1
  have an : (a : Int) < n := by omega
  have y1 : ¬ (1 : Int) < y := by omega
  have hgo := fun j => Rd.go (w := w1.drewN j) (a' := a + 1) (hb.drewN j) (hrd.drewN j) h1 h2 (by omega) h4 h5
  have HGO := Lib.hid hgo
  have HY := Lib.hid hy
  clear hgo hcc hx hy hb hrd h3 h4 hx1
  go_wp2
  go_quiet (fail)
  go_wp2
  go_ret
  exact ⟨by rw [HY.out]; rfl, HGO.out _, (hm1.non.drewN _).setOne _⟩

theorem bit_flag (b : Bool) : (((if b = true then (1 : UInt8) else 0).toNat : Int) == 1) = b := by cases b <;> rfl

set_option maxHeartbeats 1000000 in
theorem rd_Flag (g a : Nat) (l : List UInt8) (b : Bool) (w : World) (hr : Rd w g l a) (hx : l[a]? = some (if b = true then 1 else 0)) :
    Calls Tryz.prog 114 #[.pointer (some ⟨g, 0, none⟩)] w fun e w' => e = .returned (.bool b) ∧ Rd w' g l (a + 1) ∧ Mod (One g) w w' := by
  have hC := Lib.hid (rd_flag g a l _ w hr hx (by cases b <;> decide))
  rw [bit_flag] at hC
  have n2 := hr.no
  have hR : Hid (Calls Tryz.prog 142 #[.pointer (some ⟨g, 0, none⟩), .func (.func 141) #[.pointer (some ⟨g, 0, none⟩)] #[]] w fun e w' => e = .returned (.bool b) ∧ Rd w' g l (a + 1) ∧ Mod (One g) w w') := by
    clear hx
    show Calls _ _ _ _ _
    go_enter Tryz.func142, Tryz.ntmps142
    go_wp2_with fail
    refine hC.out.mono ?_
    rintro e w1 ⟨rfl, hr1, hm1⟩
    have n3 := hr1.no
    go_wp2
    go_ret
    exact ⟨rfl, hr1, hm1⟩
  clear hx hC n2
  go_enter Tryz.func114, Tryz.ntmps114
  go_wp2_with fail
  refine hR.out.mono ?_
  rintro e w1 ⟨rfl, hr1, hm1⟩
  go_wp2
  go_ret
  exact ⟨rfl, hr1, hm1⟩

theorem rd_Err (g a : Nat) (l : List UInt8) (w : World) (hr : Rd w g l a) :
    Calls Tryz.prog 60 #[.pointer (some ⟨g, 0, none⟩)] w fun e w' => e = .returned (.int .i64 0) ∧ w = w' := by
  have n2 := hr.no
  go_enter Tryz.func60, Tryz.ntmps60
  go_wp2
  go_ret
  exact ⟨rfl, rfl⟩

theorem rd_Done (g : Nat) (l : List UInt8) (w : World) (hr : Rd w g l l.length) :
    Calls Tryz.prog 83 #[.pointer (some ⟨g, 0, none⟩)] w fun e w' => e = .returned (.int .i64 0) ∧ Mod Non w w' := by
  have hL := rd_left g l.length l w hr
  rw [Nat.sub_self] at hL
  have HL := Lib.hid hL
  clear hL
  go_enter Tryz.func83, Tryz.ntmps83
  go_wp2_with fail
  refine (rd_Err g l.length l w hr).mono ?_
  rintro e w1 ⟨rfl, rfl⟩
  go_wp2_with fail
  refine HL.out.mono ?_
  rintro e w1 ⟨rfl, hm1⟩
  go_wp2
  go_ret
  exact ⟨rfl, hm1⟩

theorem rd_New (A : Option Addr) (n c : Nat) (R : Nat → Prop) (l : List UInt8) (w : World) (hr : Reads w R 1 A n (vbs l)) (hn : n ≤ 10000000) :
    Calls Tryz.prog 58 #[.slice A n c] w fun e w' => ∃ g, e = .returned (.pointer (some ⟨g, 0, none⟩)) ∧ w.heap.size ≤ g ∧ Rd w' g l 0 ∧ Mod Non w w' := by
  have hll : l.length = n := by have := hr.1; rw [vbs_length, Nat.mul_one] at this; exact this
  have HL := Lib.hid hll
  clear hll
  go_enter Tryz.func58, Tryz.ntmps58
  go_wp2_with fail
  refine (slices_Clone A n c R l w hr (by rw [HL.out]; omega)).mono ?_
  rintro e w1 ⟨v1, rfl, ho1, hm1⟩
  have hcap : ∃ A1 n1 c1, v1 = .slice A1 n1 c1 ∧ n1 = n ∧ n1 ≤ c1 ∧ (c1 : Int) ≤ 9223372036854775807 := by
    rcases ho1.2 with ⟨h0, h00⟩ | ⟨g', cap, cur, h0, _, _, hc', hmx, _⟩
    · exact ⟨none, 0, 0, h0, by have := HL.out; omega, Nat.le_refl _, by omega⟩
    · exact ⟨_, _, cap, h0, HL.out, hc', by unfold maxLen at hmx; omega⟩
  obtain ⟨A1, n1, c1, rfl, hn1, hnc, hcm⟩ := hcap
  have HN := Lib.hid hn1
  clear hn1
  go_wp2
  go_ret
  refine ⟨w1.heap.size, rfl, hm1.size, ⟨A1, n1, c1, Blk.new w1 _ _, ?_, hnc, hcm, Nat.zero_le _, by rw [HN.out]; exact HL.out, by rw [HN.out]; exact hn⟩, hm1.alloc _⟩
  refine (ho1.reads.alloc _).more fun k hk hh => ?_
  exact (World.ownsRow.lt ho1 k hh.2.symm).2
end Go.Proofs.YtdclfdinhdaadaaGreatDoor

/- Package answer: the contract of Get where the answer's bytes stand. -/
namespace Go.Proofs.YtdclfdinhdaadaaGreatDoor
open Go.RowKit

theorem at_num {l r : List UInt8} {a n : Nat} (h : l.drop a = vbytes n ++ r) (hn : n < 9223372036854775808) :
    gscan 0 0 (l.drop a) = .ok (n, (vbytes n).length) ∧ l.drop (a + (vbytes n).length) = r := by
  have h9 := vbytes_nine hn
  refine ⟨by rw [h, gscan_vbytes n 0 0 r (by omega) (.inr rfl)]; simp, ?_⟩
  rw [← List.drop_drop, h, List.drop_left' rfl]
theorem at_byte {l r : List UInt8} {a : Nat} {x : UInt8} (h : l.drop a = x :: r) : l[a]? = some x ∧ l.drop (a + 1) = r := by
  refine ⟨?_, by rw [← List.drop_drop, h]; rfl⟩
  have : (l.drop a)[0]? = some x := by rw [h]; rfl
  simpa using this
theorem at_text {l r x : List UInt8} {a : Nat} (h : l.drop a = x ++ r) : (l.drop a).take x.length = x ∧ l.drop (a + x.length) = r ∧ a + x.length ≤ l.length ∨ l.length < a := by
  rcases Nat.lt_or_ge l.length a with h0 | h0
  · exact .inr h0
  · refine .inl ⟨by rw [h, List.take_left' rfl], by rw [← List.drop_drop, h, List.drop_left' rfl], ?_⟩
    have := congrArg List.length h
    rw [List.length_drop, List.length_append] at this
    omega

/-- One result: a struct in memory. -/
theorem results_row {P : Program} {fn : Func} {p : Tmp} {ty : TypeId} (h : fn.results = #[.cell p ty]) (tmps : Array Value) (w : World) (g : Nat) (t : TypeId) (cs : Array Value) (fr : Nat × Nat) (d : TypeDesc)
    (hp : tmps.getD p undef = .pointer (some ⟨g, 0, none⟩)) (hg : w.heap[g]? = some (.cells cs t fr))
    (hu : P.underlying ty = some d) (hd : (match d with | .struct _ | .array _ _ => true | _ => false) = true) (hi : (P.info? ty).map (·.size) = some cs.size) :
    (results fn tmps).run P w = .ok (.agg cs) w := by
  have hp' : tmps[p]?.getD undef = .pointer (some ⟨g, 0, none⟩) := by simpa using hp
  simp [results, h, hp', asAddr, run_loadVar_row w g t ty cs fr d hg hu hd hi]

/-- A function that reads into a variable of its own: block H is what it will hand back, block H + 1 the variable. -/
structure GI (w : World) (g : Nat) (l : List UInt8) (T : TypeId) (H : Nat) (zs : Array Value) (W : World) (p : Nat) (cs : Array Value) : Prop where
  rd : Rd W g l p
  b0 : Blk W H T zs
  b1 : Blk W (H + 1) T cs
  mod : Mod (One g) w W
  lt : g < H
  sz : H = w.heap.size
section
variable {w W w1 : World} {g H p p' : Nat} {l : List UInt8} {T : TypeId} {zs cs : Array Value}
theorem GI.call (h : GI w g l T H zs W p cs) (hr : Rd w1 g l p') (hm : Mod (One g) W w1) : GI w g l T H zs w1 p' cs :=
  ⟨hr, h.b0.mod hm fun e => by have := h.lt; simp only [One] at e; omega, h.b1.mod hm fun e => by have := h.lt; simp only [One] at e; omega, h.mod.trans' hm, h.lt, h.sz⟩
theorem GI.store (h : GI w g l T H zs W p cs) (i : Nat) (u : Value) : GI w g l T H zs (W.setCell ⟨H + 1, i, none⟩ u) p (cs.setIfInBounds i u) :=
  ⟨h.rd.far (by have := h.lt; omega) u, h.b0.far (p := ⟨H + 1, i, none⟩) (by simp) u, h.b1.set_ i u, h.mod.setCell (p := ⟨H + 1, i, none⟩) (fun hk => by have := h.sz; simp only at hk; omega) u, h.lt, h.sz⟩
theorem GI.store0 (h : GI w g l T H zs W p cs) (i : Nat) (u : Value) : GI w g l T H (zs.setIfInBounds i u) (W.setCell ⟨H, i, none⟩ u) p cs :=
  ⟨h.rd.far h.lt u, h.b0.set_ i u, h.b1.far (p := ⟨H, i, none⟩) (by simp) u, h.mod.setCell (p := ⟨H, i, none⟩) (fun hk => by have := h.sz; simp only at hk; omega) u, h.lt, h.sz⟩
theorem GI.start (hr : Rd w g l p) (T : TypeId) (zs : Array Value) : GI w g l T w.heap.size zs ((w.alloc (.cells zs T)).alloc (.cells zs T)) p zs :=
  ⟨hr.non (((Mod.refl _ _).alloc _).alloc _), (Blk.new w _ _).alloc _, Blk.new1 w _ _ _, ((Mod.refl _ _).alloc _).alloc _, hr.lt, rfl⟩
end

set_option maxRecDepth 100000 in
set_option maxHeartbeats 4000000 in
theorem answer_Get (g a0 : Nat) (l r : List UInt8) (v : Int) (x : An) (w : World) (hx : x.Ok) (hr : Rd w g l a0) (hl : l.drop a0 = aenc v x ++ r) (h0 : v = 1 → x.rev = 0) :
    Calls Tryz.prog 82 #[.pointer (some ⟨g, 0, none⟩), .int .i64 v] w fun e w' => e = .returned x.v ∧ Rd w' g l (a0 + (aenc v x).length) ∧ Mod (One g) w w' := by
  obtain ⟨cl, sq, er, fd, vl, rv⟩ := x
  obtain ⟨k1, k2, k3, k4, k5⟩ := hx
  simp only at k1 k2 k3 k4 k5 h0
  obtain ⟨cl, rfl⟩ : ∃ n : Nat, cl = n := ⟨cl.toNat, by omega⟩
  obtain ⟨sq, rfl⟩ : ∃ n : Nat, sq = n := ⟨sq.toNat, by omega⟩
  obtain ⟨er, rfl⟩ : ∃ n : Nat, er = n := ⟨er.toNat, by omega⟩
  obtain ⟨rv, rfl⟩ : ∃ n : Nat, rv = n := ⟨rv.toNat, by omega⟩
  obtain ⟨T, hT⟩ : ∃ T, (if v = 1 then [] else vbytes rv) = T := ⟨_, rfl⟩
  have hE : aenc v ⟨cl, sq, er, fd, vl, rv⟩ = vbytes cl ++ vbytes sq ++ vbytes er ++ [if fd = true then 1 else 0] ++ vbytes vl.size ++ vl.data.toList ++ T := by
    unfold aenc; simp only [Int.toNat_natCast]; rw [hT]
  have e1 : l.drop a0 = vbytes cl ++ (vbytes sq ++ (vbytes er ++ ((if fd = true then 1 else 0) :: (vbytes vl.size ++ (vl.data.toList ++ (T ++ r)))))) := by
    rw [hl, hE]; simp
  have hL : (aenc v ⟨cl, sq, er, fd, vl, rv⟩).length = (vbytes cl).length + (vbytes sq).length + (vbytes er).length + 1 + (vbytes vl.size).length + vl.size + T.length := by
    rw [hE]; simp only [List.length_append, List.length_cons, List.length_nil, ByteArray.size_data, Array.length_toList]
  obtain ⟨g1, e2⟩ := at_num e1 (by omega)
  obtain ⟨g2, e3⟩ := at_num e2 (by omega)
  obtain ⟨g3, e4⟩ := at_num e3 (by omega)
  obtain ⟨g4, e5⟩ := at_byte e4
  obtain ⟨g5, e6⟩ := at_num e5 (by omega)
  have hvs : vl.data.toList.length = vl.size := by simp
  have e7 := at_text e6
  rw [hvs] at e7
  obtain ⟨p1, hp1⟩ : ∃ p, p = a0 + (vbytes cl).length := ⟨_, rfl⟩
  obtain ⟨p2, hp2⟩ : ∃ p, p = p1 + (vbytes sq).length := ⟨_, rfl⟩
  obtain ⟨p3, hp3⟩ : ∃ p, p = p2 + (vbytes er).length := ⟨_, rfl⟩
  obtain ⟨t5, ht5⟩ : ∃ p, p = (vbytes vl.size).length := ⟨_, rfl⟩
  rw [← hp1] at g2 e3 e4 g3 g4 g5 e5 e6 e7
  rw [← hp2] at g3 e4 g4 g5 e5 e6 e7
  rw [← hp3] at g4 g5 e5 e6 e7
  rw [← ht5] at e6 e7
  rw [← ht5] at g5
  have hp6 : p3 + 1 + t5 + vl.size ≤ l.length := by
    rcases e7 with h | h
    · exact h.2.2
    · exfalso
      have := congrArg List.length e5
      rw [List.length_drop, List.length_append, ← ht5] at this
      have h1 := vbytes_pos vl.size
      omega
  obtain ⟨f6, f7⟩ : (l.drop (p3 + 1 + t5)).take vl.size = vl.data.toList ∧ l.drop (p3 + 1 + t5 + vl.size) = T ++ r := by
    rcases e7 with h | h
    · exact ⟨h.1, h.2.1⟩
    · omega
  have htx : (⟨((l.drop (p3 + 1 + t5)).take vl.size).toArray⟩ : ByteArray) = vl := by rw [f6]
  have hend : Hid (a0 + (aenc v ⟨cl, sq, er, fd, vl, rv⟩).length = p3 + 1 + t5 + vl.size + T.length) := by show _ = _; omega
  have G1 := Lib.hid g1
  have G2 := Lib.hid g2
  have G3 := Lib.hid g3
  have G4 := Lib.hid g4
  have G5 := Lib.hid g5
  have HT := Lib.hid hT
  have F7 := Lib.hid f7
  have HTX := Lib.hid htx
  have hI := GI.start hr 57 #[.int .i64 0, .int .i64 0, .int .i64 0, .bool false, .string ⟨#[]⟩, .int .i64 0]
  have P1 := Lib.hid hp1
  have P2 := Lib.hid hp2
  have P3 := Lib.hid hp3
  clear g1 g2 g3 g4 g5 e1 e2 e3 e4 e5 e6 e7 f6 f7 htx hp1 hp2 hp3 ht5 hT hE hL hl hvs hr
  obtain ⟨H, hH⟩ : ∃ H, w.heap.size = H := ⟨_, rfl⟩
  rw [hH] at hI
  go_enter Tryz.func82, Tryz.ntmps82
  go_wp2_with fail
  refine (rd_Number g a0 cl _ l _ _ hI.rd G1.out (by omega)).mono ?_
  rintro e w1 ⟨rfl, hr1, hm1⟩
  rw [← P1.out] at hr1
  have hI1 := hI.call hr1 hm1
  clear hI hr1 hm1
  have x0 := hI1.b1.cell 0
  have f0 := hI1.b1.frozen 0
  simp at x0
  have hJ1 := hI1.store 0 (.int .i64 cl)
  clear hI1
  go_wp2_with fail
  refine (rd_Number g p1 sq _ l _ _ hJ1.rd G2.out (by omega)).mono ?_
  rintro e w2 ⟨rfl, hr2, hm2⟩
  rw [← P2.out] at hr2
  have hI2 := hJ1.call hr2 hm2
  clear hJ1 hr2 hm2 x0 f0
  have x0 := hI2.b1.cell 1
  have f0 := hI2.b1.frozen 1
  simp at x0
  have hJ2 := hI2.store 1 (.int .i64 sq)
  clear hI2
  go_wp2_with fail
  refine (rd_Number g p2 er _ l _ _ hJ2.rd G3.out (by omega)).mono ?_
  rintro e w3 ⟨rfl, hr3, hm3⟩
  rw [← P3.out] at hr3
  have hI3 := hJ2.call hr3 hm3
  clear hJ2 hr3 hm3 x0 f0
  have x0 := hI3.b1.cell 2
  have f0 := hI3.b1.frozen 2
  simp at x0
  have hJ3 := hI3.store 2 (.int .i64 er)
  clear hI3
  go_wp2_with fail
  refine (rd_Flag g p3 l fd _ hJ3.rd G4.out).mono ?_
  rintro e w4 ⟨rfl, hr4, hm4⟩
  have hI4 := hJ3.call hr4 hm4
  clear hJ3 hr4 hm4 x0 f0
  have x0 := hI4.b1.cell 3
  have f0 := hI4.b1.frozen 3
  simp at x0
  have hJ4 := hI4.store 3 (.bool fd)
  clear hI4
  go_wp2_with fail
  refine (rd_Text g (p3 + 1) vl.size t5 l _ _ hJ4.rd G5.out (by omega) hp6).mono ?_
  rw [HTX.out]
  rintro e w5 ⟨rfl, hr5, hm5⟩
  have hI5 := hJ4.call hr5 hm5
  clear hJ4 hr5 hm5 x0 f0
  have x0 := hI5.b1.cell 0
  have x1 := hI5.b1.cell 1
  have x2 := hI5.b1.cell 2
  have x3 := hI5.b1.cell 3
  have x4 := hI5.b1.cell 4
  have x5 := hI5.b1.cell 5
  have z0 := hI5.b0.cell 0
  have z1 := hI5.b0.cell 1
  have z2 := hI5.b0.cell 2
  have z3 := hI5.b0.cell 3
  have z4 := hI5.b0.cell 4
  have z5 := hI5.b0.cell 5
  simp at x0 x1 x2 x3 x4 x5 z0 z1 z2 z3 z4 z5
  have f4 := hI5.b1.frozen 4
  have fz0 := hI5.b0.frozen 0
  have fz1 := hI5.b0.frozen 1
  have fz2 := hI5.b0.frozen 2
  have fz3 := hI5.b0.frozen 3
  have fz4 := hI5.b0.frozen 4
  have fz5 := hI5.b0.frozen 5
  have hJ5 := hI5.store 4 (.string vl)
  clear hI5
  by_cases hv : v = 1
  · have hv1 : (v != 1) = false := by simp [hv]
    have hT0 : T = [] := by rw [← HT.out, if_pos hv]
    have hrv := h0 hv
    have hrv' : rv = 0 := by omega
    clear hv hrv h0
    subst hrv' hT0
    have hF := (((((hJ5.store0 0 (.int .i64 cl)).store0 1 (.int .i64 sq)).store0 2 (.int .i64 er)).store0 3 (.bool fd)).store0 4 (.string vl)).store0 5 (.int .i64 0)
    go_wp2
    refine bodyPost_ret (results_row rfl _ _ H 57 #[.int .i64 cl, .int .i64 sq, .int .i64 er, .bool fd, .string vl, .int .i64 0] (0, 0) _ rfl hF.b0 Tryz.underlying57 rfl (by kernel_rfl)) rfl ?_
    exact ⟨rfl, by rw [hend.out]; exact hF.rd, hF.mod⟩
  · have hv1 : (v != 1) = true := by simp [hv]
    have hT0 : T = vbytes rv := by rw [← HT.out, if_neg hv]
    have f7 := F7.out
    rw [hT0] at f7
    obtain ⟨g7, _⟩ := at_num f7 (by omega)
    have G7 := Lib.hid g7
    have HTL : Hid (p3 + 1 + t5 + vl.size + (vbytes rv).length = p3 + 1 + t5 + vl.size + T.length) := by rw [hT0]; rfl
    clear hv h0 f7 g7 hT0
    go_wp2_with fail
    refine (rd_Number g (p3 + 1 + t5 + vl.size) rv _ l _ _ hJ5.rd G7.out (by omega)).mono ?_
    rintro e w6 ⟨rfl, hr6, hm6⟩
    rw [HTL.out] at hr6
    have hI6 := hJ5.call hr6 hm6
    clear hJ5 hr6 hm6 x0 x1 x2 x3 x4 x5 z0 z1 z2 z3 z4 z5 f4 fz0 fz1 fz2 fz3 fz4 fz5
    have x0 := hI6.b1.cell 0
    have x1 := hI6.b1.cell 1
    have x2 := hI6.b1.cell 2
    have x3 := hI6.b1.cell 3
    have x4 := hI6.b1.cell 4
    have x5 := hI6.b1.cell 5
    have z0 := hI6.b0.cell 0
    have z1 := hI6.b0.cell 1
    have z2 := hI6.b0.cell 2
    have z3 := hI6.b0.cell 3
    have z4 := hI6.b0.cell 4
    have z5 := hI6.b0.cell 5
    simp at x0 x1 x2 x3 x4 x5 z0 z1 z2 z3 z4 z5
    have f5 := hI6.b1.frozen 5
    have fz0 := hI6.b0.frozen 0
    have fz1 := hI6.b0.frozen 1
    have fz2 := hI6.b0.frozen 2
    have fz3 := hI6.b0.frozen 3
    have fz4 := hI6.b0.frozen 4
    have fz5 := hI6.b0.frozen 5
    have hJ6 := hI6.store 5 (.int .i64 rv)
    have hF := (((((hJ6.store0 0 (.int .i64 cl)).store0 1 (.int .i64 sq)).store0 2 (.int .i64 er)).store0 3 (.bool fd)).store0 4 (.string vl)).store0 5 (.int .i64 rv)
    go_wp2
    refine bodyPost_ret (results_row rfl _ _ H 57 #[.int .i64 cl, .int .i64 sq, .int .i64 er, .bool fd, .string vl, .int .i64 rv] (0, 0) _ rfl hF.b0 Tryz.underlying57 rfl (by kernel_rfl)) rfl ?_
    exact ⟨rfl, by rw [hend.out]; exact hF.rd, hF.mod⟩
end Go.Proofs.YtdclfdinhdaadaaGreatDoor
