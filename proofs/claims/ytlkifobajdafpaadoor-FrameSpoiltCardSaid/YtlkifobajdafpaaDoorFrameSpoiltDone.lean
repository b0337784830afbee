/- FrameSpoilt: the walk's claim at the arguments as they come in. -/
import Derived.Test.YtlkifobajdafpaaDoorFrameSpoiltEdge
import Derived.Test.YtlkifobajdafpaaDoorOpen
namespace Go.Proofs.YtlkifobajdafpaaDoor
open Go.ChangeShapes Go.WideShapes Go.ChangeAt Go.RowKit Go.Deep

theorem u8_of {b : Int} (hw : (Lit.int .u8 b).wf = true) : ∃ x : UInt8, b = (x.toNat : Int) := by
  have hb : 0 ≤ b ∧ b ≤ 255 := by
    have hmin : IntKind.u8.min = 0 := rfl
    have hmax : IntKind.u8.max = 255 := rfl
    simp only [Lit.wf, Bool.and_eq_true, decide_eq_true_eq] at hw; omega
  refine ⟨UInt8.ofNat b.toNat, ?_⟩
  have : (UInt8.ofNat b.toNat).toNat = b.toNat := by rw [UInt8.toNat_ofNat']; omega
  rw [this]; omega

section
variable {H : Type} {enc : TypeId × Value → H} {w : World} {spare : Nat → Bool} {held : Bool}
theorem open_arr4 {v : Value} {base : Nat} {d : DataW H} {p : List MemPlace} (hv : Value.okWide Tryd.prog w .any base 30 v) (h : DataW.Trod enc Tryd.prog w 0 spare held 30 v d p) :
    ∃ x0 x1 x2 x3 : UInt8, v = .agg #[.int .u8 x0.toNat, .int .u8 x1.toNat, .int .u8 x2.toNat, .int .u8 x3.toNat] := by
  have u4 : Tryd.prog.underlying 30 = some (.array 4 5) := Tryd.underlying30
  have c4 : Tryd.prog.cellsOf 30 = 4 := by kernel_rfl
  have c1 : Tryd.prog.cellsOf 5 = 1 := by kernel_rfl
  simp only [Value.okWide, u4] at hv
  obtain ⟨cs, rfl, hsz, _⟩ := hv
  rw [c4] at hsz
  obtain ⟨l⟩ := cs
  obtain ⟨n, hn⟩ := h
  obtain ⟨xs, m, _, _, _, hxl, hel⟩ := DataW.trod_array u4 hn
  match l, hsz with
  | [v0, v1, v2, v3], _ =>
    have each : ∀ (i : Nat) (v : Value), i < 4 → [v0, v1, v2, v3][i]? = some v → ∃ x : UInt8, v = .int .u8 x.toNat := by
      intro i v hi hv
      have h1 := hel i hi
      rw [c1, Nat.mul_one, List.getElem?_eq_getElem (by omega)] at h1
      have h2 : ((Value.agg #[v0, v1, v2, v3]).cells.toList.drop i).take 1 = [v] := by
        show ([v0, v1, v2, v3].drop i).take 1 = [v]
        have : i = 0 ∨ i = 1 ∨ i = 2 ∨ i = 3 := by omega
        rcases this with rfl | rfl | rfl | rfl <;> simp at hv <;> simp [hv]
      rw [h2] at h1
      obtain ⟨b, e, _, hw⟩ := DataW.trod_int Tryd.underlying5 h1
      injection e with e _
      obtain ⟨x, rfl⟩ := u8_of hw
      exact ⟨x, e⟩
    obtain ⟨x0, rfl⟩ := each 0 v0 (by omega) rfl
    obtain ⟨x1, rfl⟩ := each 1 v1 (by omega) rfl
    obtain ⟨x2, rfl⟩ := each 2 v2 (by omega) rfl
    obtain ⟨x3, rfl⟩ := each 3 v3 (by omega) rfl
    exact ⟨x0, x1, x2, x3, rfl⟩
end

theorem spoilt_done (A : Option Addr) (n c : Nat) (l : List UInt8) (a : Int) (x0 x1 x2 x3 : UInt8) (W : World) (_ : l.length = n) (_ : n ≤ c) (_ : c ≤ maxLen) (hr : Reads W (fun _ => True) 1 A n (vbs l)) (ha : (Lit.int .i64 a).wf = true) (hT : Tab W) :
    Calls Tryd.prog 4 #[.slice A n c, .int .i64 a, .agg #[.int .u8 x0.toNat, .int .u8 x1.toNat, .int .u8 x2.toNat, .int .u8 x3.toNat]] W fun e W' => e = .returned (.bool true) ∧ Below W.heap.size W W' := by
  suffices h : Calls Tryd.prog 4 #[.slice A n c, .int .i64 a, .agg #[.int .u8 x0.toNat, .int .u8 x1.toNat, .int .u8 x2.toNat, .int .u8 x3.toNat]] W fun e W' => e = .returned (.bool true) ∧ Mod Non W W' from h.mono fun e W' ⟨h1, h2⟩ => ⟨h1, h2.below'⟩
  have ha' : a ≤ 9223372036854775807 := by
    have hmin : IntKind.i64.min = -9223372036854775808 := rfl
    have hmax : IntKind.i64.max = 9223372036854775807 := rfl
    simp only [Lit.wf, Bool.and_eq_true, decide_eq_true_eq] at ha; omega
  by_cases h : n = 0 ∨ 300 < n ∨ a < 0 ∨ (n : Int) < a + 4
  · exact spoilt_edge A n c a _ _ _ _ W hT ha' h
  · obtain ⟨k, rfl⟩ : ∃ k : Nat, a = k := ⟨a.toNat, by omega⟩
    by_cases hx : x0.toNat = 0 ∧ x1.toNat = 0 ∧ x2.toNat = 0 ∧ x3.toNat = 0
    · obtain ⟨i0, i1, i2, i3⟩ := hx
      rw [i0, i1, i2, i3]
      exact spoilt_zero A n c k W hT (by omega) (by omega)
    · exact spoilt_in A n c k (fun i => match i with | 0 => x0 | 1 => x1 | 2 => x2 | _ => x3) _ l W hr hT (by omega) (by omega) hx
end Go.Proofs.YtlkifobajdafpaaDoor
