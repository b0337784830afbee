/- Slices of bytes that the call makes: what an append leaves. -/
import Derived.Test.YtdclfdinhdaadaaGreatDoorProg
import Derived.Test.YtdclfdinhdaadaaGreatDoorVarintPlain
namespace Go.Proofs.YtdclfdinhdaadaaGreatDoor
open Go.RowKit

theorem byte_info : (Tryz.prog.info? 5).map (fun i => (i.zero, i.size, i.bytes)) = some (some (.int .u8 0), 1, 1) := by kernel_rfl

/-- 'append(s, x...)', s the call's own, x a slice of bytes that reads as m. -/
theorem wpList_append_bytes {w : World} {ops : Array Oper} {rest : List Oper} {o : Oper} {a : Act} {Q : Exit → Act → World → Prop} (hgd : o.guard = none) (s x : Operand)
    (ho : o.op = .call { callee := .builtin .append, args := #[s, x], argTypes := #[35, 35] })
    (B : Nat) (v : Value) (l : List UInt8) (hs : a.eval s = v) (hown : OwnB w B v l) (R : Nat → Prop) (A : Option Addr) (n c : Nat) (m : List UInt8) (hx : a.eval x = .slice A n c) (hr : Reads w R 1 A n (vbs m))
    (hlen : l.length + m.length ≤ 140737488355328) (hB : B ≤ w.heap.size)
    (h : ∀ v' w', OwnB w' B v' (l ++ m) → Mod (fun g => v.ownBlock = some g) w w' → (v'.ownBlock = v.ownBlock ∨ v'.ownBlock = some w.heap.size) → wpList Tryz.prog ops Q rest (a.put o.dst v') w') : wpList Tryz.prog ops Q (o :: rest) a w := by
  obtain ⟨i0, hi, hz0, hz1, hz2⟩ := info_parts byte_info
  have hn : n = m.length := by have := hr.1; rw [vbs_length] at this; omega
  subst hn
  refine wpList_append_any w hgd s x 35 ho B 5 i0 _ 1 1 Tryz.underlying35 hi hz0 hz1 hz2 rfl (by omega) v l.length (vbs l) hs hown R A m.length c (vbs m) hx hr (vbs_one m) (by unfold maxLen; omega) (by omega) hB ?_
  intro v' w' h1 h2 h3
  refine h v' w' ?_ (mod_of_grown h2) h3
  unfold OwnB
  rw [vbs_append, List.length_append]
  exact h1

/-- 'append(s, x)' of one byte: it lies in a block of its own first. -/
theorem wpList_append_byte {w : World} {ops : Array Oper} {rest : List Oper} {o : Oper} {a : Act} {Q : Exit → Act → World → Prop} (hgd : o.guard = none) (s x : Operand)
    (ho : o.op = .call { callee := .builtin .append, args := #[s, x], argTypes := #[35, 35] })
    (B : Nat) (v : Value) (l : List UInt8) (hs : a.eval s = v) (hown : OwnB w B v l) (k : Int) (h0 : 0 ≤ k) (h1 : k < 256) (hx : a.eval x = .slice (some ⟨w.heap.size, 0, none⟩) 1 1)
    (hlen : l.length ≤ 140737488355327) (hB : B ≤ w.heap.size)
    (h : ∀ v' w', OwnB w' B v' (l ++ [UInt8.ofNat k.toNat]) → Mod (fun g => v.ownBlock = some g) w w' → (v'.ownBlock = v.ownBlock ∨ ∃ g, v'.ownBlock = some g ∧ w.heap.size ≤ g) → wpList Tryz.prog ops Q rest (a.put o.dst v') w') :
    wpList Tryz.prog ops Q (o :: rest) a (w.alloc (.cells #[.int .u8 k] 5)) := by
  have e : Value.int .u8 k = vb (UInt8.ofNat k.toNat) := by
    rw [vb_of (by omega)]
    congr 1
    omega
  rw [e]
  refine wpList_append_bytes hgd s x ho B v l hs (hown.non ((Mod.refl _ _).alloc _)) (fun _ => True) _ 1 1 [UInt8.ofNat k.toNat] hx (reads_one _ _ _ _ trivial) (by simp; omega) (by simp; omega) ?_
  intro v' w' h1 h2 h3
  refine h v' w' h1 (((Mod.refl Non w).alloc _).non.trans h2 fun _ _ h => h) ?_
  rcases h3 with h3 | h3
  · exact .inl h3
  · exact .inr ⟨_, h3, by simp⟩

theorem OwnB.made (w : World) : OwnB (w.alloc (.cells #[] 5)) w.heap.size (.slice (some ⟨w.heap.size, 0, none⟩) 0 0) [] := World.ownsRow_made w #[] 0 (Nat.le_refl _) (by simp [maxLen]) rfl

/-- What is left of 'Mod' behind an append to a row of the call's own. -/
theorem OwnB.modNon {w0 w w' : World} {v : Value} {l : List UInt8} (h : OwnB w w0.heap.size v l) (hm : Mod Non w0 w) (hm' : Mod (fun g => v.ownBlock = some g) w w') : Mod Non w0 w' :=
  hm.trans hm' fun i hi h' => by have := (World.ownsRow.lt h i h').1; omega
end Go.Proofs.YtdclfdinhdaadaaGreatDoor
