/- Package pack, the reader where all is well: the contracts of NewReader, limited, left, counted, fail-free. -/
import Derived.Test.YtdclfdinhdaadaaGreatDoorAnswerPut
import Derived.Test.YtdclfdinhdaadaaGreatDoorGet
namespace Go.Proofs.YtdclfdinhdaadaaGreatDoor
open Go.RowKit

/-- Block g is a reader of the bytes l, at a, and nothing has gone wrong. -/
def Rd (w : World) (g : Nat) (l : List UInt8) (a : Nat) : Prop :=
  ∃ A n c, Blk w g 145 #[.slice A n c, .int .i64 a, .int .i64 0] ∧ Reads w (fun b => b < g) 1 A n (vbs l) ∧ n ≤ c ∧ (c : Int) ≤ 9223372036854775807 ∧ a ≤ l.length ∧ l.length = n ∧ n ≤ 10000000

theorem quiet_left {P : Program} {f : FuncId} {args : Array Value} {w : World} {n : Nat} {v : Value}
    (h : Calls P f args (w.drewN n) fun e w' => e = .returned v ∧ w.drewN n = w') : Calls P f args (w.drewN n) fun e w'' => e = .returned v ∧ ∃ m, w'' = w.drewN m :=
  h.mono fun _ _ ⟨he, hm⟩ => ⟨he, n, hm.symm⟩

section
variable {w w' : World} {g a : Nat} {l : List UInt8}
theorem Rd.lt (h : Rd w g l a) : g < w.heap.size := by obtain ⟨A, n, c, hb, _⟩ := h; exact hb.lt
theorem Rd.len (h : Rd w g l a) : a ≤ l.length ∧ l.length ≤ 10000000 := by obtain ⟨A, n, c, hb, _, _, _, h1, h2, h3⟩ := h; omega
theorem Rd.mod {S : Nat → Prop} (h : Rd w g l a) (hm : Mod S w w') (hS : ∀ k, k ≤ g → ¬ S k) : Rd w' g l a := by
  obtain ⟨A, n, c, hb, hr, h1, h2, h3⟩ := h
  exact ⟨A, n, c, hb.mod hm (hS _ (Nat.le_refl _)), hr.mod hm fun k _ hk => hS k (Nat.le_of_lt hk), h1, h2, h3⟩
theorem Rd.non (h : Rd w g l a) (hm : Mod Non w w') : Rd w' g l a := h.mod hm fun _ _ h => h
/-- a store into a later block -/
theorem Rd.far (h : Rd w g l a) {b i : Nat} (hb : g < b) (u : Value) : Rd (w.setCell ⟨b, i, none⟩ u) g l a := h.mod (Mod.one w b i u) fun k hk e => by simp only [One] at e; omega
/-- the reader goes on to another place -/
theorem Rd.go {A : Option Addr} {n c a' : Nat} (hb : Blk w g 145 #[.slice A n c, .int .i64 a, .int .i64 0]) (hr : Reads w (fun b => b < g) 1 A n (vbs l)) (h1 : n ≤ c) (h2 : (c : Int) ≤ 9223372036854775807) (h3 : a' ≤ l.length) (h4 : l.length = n) (h5 : n ≤ 10000000) :
    Rd (w.setCell ⟨g, 1, none⟩ (.int .i64 a')) g l a' := by
  refine ⟨A, n, c, ?_, hr.mod (Mod.one w g 1 _) fun k _ hk e => by simp only [One] at e; omega, h1, h2, h3, h4, h5⟩
  exact hb.set_ 1 _
end

set_option maxRecDepth 100000 in
set_option maxHeartbeats 1000000 in
theorem rd_limited (g a v t : Nat) (l : List UInt8) (most : Int) (w : World) (hr : Rd w g l a) (hg : gscan 0 0 (l.drop a) = .ok (v, t)) (hm : (v : Int) ≤ most) :
    Calls Tryz.prog 102 #[.pointer (some ⟨g, 0, none⟩), .int .i64 most] w fun e w' => e = .returned (.int .i64 v) ∧ Rd w' g l (a + t) ∧ Mod (One g) w w' := by
  obtain ⟨A, n, c, hb, hrd, h1, h2, h3, h4, h5⟩ := hr
  have hat : a + t ≤ l.length := by
    obtain ⟨n', r, e1, _, e3, _⟩ := gscan_canon _ 0 0 v t (by omega) hg
    have : (l.drop a).length = (vbytes n').length + r.length := by rw [e1, List.length_append]
    rw [List.length_drop] at this; omega
  have c0 := hb.cell 0
  have c1 := hb.cell 1
  have f1 := hb.frozen 1
  simp at c0 c1
  have e1 : ¬ most < (v : Int) := by omega
  have HG : Hid (∀ j, Calls Tryz.prog 127 #[.slice A n c, .int .i64 a] (w.drewN j) fun e w' => e = .returned (.tuple #[.int .i64 v, .int .i64 ((a + t : Nat) : Int), .int .i64 0]) ∧ w.drewN j = w') := fun j => by
    have := varint_Get_in A n c _ l a (w.drewN j) (hrd.drewN j) (by omega) (by omega)
    rw [hg] at this
    exact this
  have HA := Lib.hid hat
  have HB := Lib.hid hb
  have HR := Lib.hid hrd
  have H34 := Lib.hid (show l.length = n ∧ n ≤ c ∧ n ≤ 10000000 from ⟨h4, h1, h5⟩)
  clear hg hm hat hb hrd h1 h3 h4 h5
  go_enter Tryz.func102, Tryz.ntmps102
  go_wp2
  go_quiet ((go_at_call 127; exact quiet_left (HG.out _)))
  go_wp2
  go_ret
  exact ⟨rfl, Rd.go (HB.out.drewN _) (HR.out.drewN _) H34.out.2.1 h2 HA.out H34.out.1 H34.out.2.2, ((Mod.refl _ w).drewN _).setOne _⟩

set_option maxRecDepth 100000 in
theorem rd_left (g a : Nat) (l : List UInt8) (w : World) (hr : Rd w g l a) :
    Calls Tryz.prog 115 #[.pointer (some ⟨g, 0, none⟩)] w fun e w' => e = .returned (.int .i64 ((l.length - a : Nat) : Int)) ∧ Mod Non w w' := by
  obtain ⟨A, n, c, hb, hrd, h1, h2, h3, h4, h5⟩ := hr
  have c0 := hb.cell 0
  have c1 := hb.cell 1
  simp at c0 c1
  have h6 : a ≤ n := by omega
  have HE : Hid (((l.length - a : Nat) : Int) = (n : Int) - a) := by show _ = _; omega
  clear h3 h4
  go_enter Tryz.func115, Tryz.ntmps115
  go_wp2
  go_quiet (fail)
  go_wp2
  go_ret
  exact ⟨by rw [HE.out]; rfl, (Mod.refl _ _).drewN _⟩
end Go.Proofs.YtdclfdinhdaadaaGreatDoor
