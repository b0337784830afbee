/- Package pack, the writer: the contracts of Number, Raw, Text, Flag, Bytes. -/
import Derived.Test.YtdclfdinhdaadaaGreatDoorPut
import Derived.Laws.IdiomStrings
namespace Go.Proofs.YtdclfdinhdaadaaGreatDoor
open Go.RowKit

/-- Block g is a writer that has the bytes l. -/
def Wr (w : World) (g : Nat) (l : List UInt8) : Prop := ∃ v, Blk w g 74 #[v] ∧ OwnB w (g + 1) v l

section
variable {w w' : World} {g : Nat} {l : List UInt8}
theorem Wr.lt (h : Wr w g l) : g < w.heap.size := by obtain ⟨v, hb, _⟩ := h; exact hb.lt
theorem Wr.non (h : Wr w g l) (hm : Mod Non w w') : Wr w' g l := by obtain ⟨v, hb, ho⟩ := h; exact ⟨v, hb.mod hm fun h => h, ho.non hm⟩
theorem Wr.new (w : World) : Wr (w.alloc (.cells #[.slice none 0 0] 74)) w.heap.size [] := ⟨_, Blk.new _ _ _, OwnB.nil _ _⟩
/-- A new slice of bytes in the writer. -/
theorem Wr.set {v v' : Value} {l' : List UInt8} (hb : Blk w g 74 #[v]) (ho : OwnB w (g + 1) v' l') : Wr (w.setCell ⟨g, 0, none⟩ v') g l' :=
  ⟨v', hb.set_ 0 v', ho.mod (Mod.one w g 0 v') fun h hh e => own_blk_ne ho hb (by decide) (by rw [hh]; simp only [One] at e; rw [e])⟩
end

set_option maxHeartbeats 1000000 in
theorem wr_Number (g : Nat) (l : List UInt8) (n : Int) (hn : n ≤ 9223372036854775807) (w : World) (hw : Wr w g l) (hl : l.length ≤ 10000000) :
    Calls Tryz.prog 32 #[.pointer (some ⟨g, 0, none⟩), .int .i64 n] w fun e w' => e = .returned (.tuple #[]) ∧ Wr w' g (l ++ vbytes n.toNat) ∧ Mod (One g) w w' := by
  obtain ⟨v, hb, ho⟩ := hw
  obtain ⟨A, m, c, rfl, _, _⟩ := ho.form
  have c0 := hb.cell 0
  simp at c0
  have f0 := hb.frozen 0
  go_enter Tryz.func32, Tryz.ntmps32
  go_wp2_with fail
  refine (varint_Put A m c _ l n hn w ho.reads (by omega)).mono ?_
  rintro e w1 ⟨v1, rfl, hown1, hm1⟩
  have hb1 := hb.mod hm1 fun h => h
  have x0 := hb1.cell 0
  simp at x0
  have f1 := hb1.frozen 0
  obtain ⟨A1, m1, c1, rfl, _, _⟩ := hown1.form
  go_wp2
  go_end0
  exact ⟨rfl, Wr.set hb1 (hown1.below (by have := hb.lt; omega)), (hm1.non).setOne _⟩

set_option maxHeartbeats 1000000 in
theorem wr_Raw (g : Nat) (l : List UInt8) (A2 : Option Addr) (n2 c2 : Nat) (R2 : Nat → Prop) (l2 : List UInt8) (w : World) (hw : Wr w g l) (hl : l.length ≤ 10000000) (hr2 : Reads w R2 1 A2 n2 (vbs l2)) (hn2 : n2 ≤ 10000000) :
    Calls Tryz.prog 55 #[.pointer (some ⟨g, 0, none⟩), .slice A2 n2 c2] w fun e w' => e = .returned (.tuple #[]) ∧ Wr w' g (l ++ vbytes n2 ++ l2) ∧ Mod (One g) w w' := by
  obtain ⟨v, hb, ho⟩ := hw
  obtain ⟨A, m, c, rfl, _, _⟩ := ho.form
  have c0 := hb.cell 0
  simp at c0
  have f0 := hb.frozen 0
  have hl2 : Hid (l2.length = n2) := by have := hr2.1; rw [vbs_length, Nat.mul_one] at this; exact this
  have h9 := vbytes_nine (n := n2) (by omega)
  have hq : Hid ((l ++ vbytes n2).length + l2.length ≤ 140737488355328) := by show _ ≤ _; rw [List.length_append, hl2.out]; omega
  clear h9
  go_enter Tryz.func55, Tryz.ntmps55
  go_wp2_with fail
  refine (varint_Put A m c _ l n2 (by omega) w ho.reads (by omega)).mono ?_
  rintro e w1 ⟨v1, rfl, hown1, hm1⟩
  rw [Int.toNat_natCast] at hown1
  have hb1 := hb.mod hm1 fun h => h
  obtain ⟨A1, m1, c1, rfl, _, _⟩ := hown1.form
  have hsz := hm1.size
  go_wp2_with (at_builtin; refine wpList_append_bytes rfl (.tmp 13) (.tmp 14) rfl w.heap.size (.slice A1 m1 c1) _ rfl hown1 R2 A2 n2 c2 l2 rfl (hr2.mod hm1 fun _ _ _ h => h) hq.out hsz ?_; intro v3 w3 hown3 hm3 _; obtain ⟨A3, m3, c3, rfl, _, _⟩ := hown3.form; have hN := hown1.modNon hm1 hm3; have hb3 := hb.mod hN fun h => h; have x0 := hb3.cell 0; simp at x0; have f1 := hb3.frozen 0)
  go_end0
  exact ⟨rfl, Wr.set hb3 (hown3.below (by have := hb.lt; omega)), (hN.non).setOne _⟩

/-- '[]byte(s)': a new slice that reads as the text's bytes. -/
theorem bytes_of_text (s : ByteArray) (w : World) : ∃ W1 cap, (convert 9 35 (.string s)).run Tryz.prog w = .ok (.slice (some ⟨w.heap.size, 0, none⟩) s.size cap) W1 ∧
    Reads W1 (fun k => w.heap.size ≤ k) 1 (some ⟨w.heap.size, 0, none⟩) s.size (vbs s.data.toList) ∧ Mod Non w W1 := by
  refine ⟨_, _, run_bytes_of_string w 9 35 5 s Tryz.underlying9 Tryz.underlying35 Tryz.underlying5, ⟨by simp [vbs], fun _ => ⟨_, rfl, by simp, by simp, fun j u hu => ?_⟩⟩, ((Mod.refl _ _).drew).alloc _⟩
  have hj : j < s.size := by
    have := (List.getElem?_eq_some_iff.1 hu).1
    simpa [vbs] using this
  rw [show (⟨w.heap.size, 0, none⟩ : Addr).add j = ⟨w.heap.size, j, none⟩ by unfold Addr.add; split <;> simp_all]
  have hj2 : j < s.data.size := hj
  have e2 : u = .int .u8 (s.data[j].toNat : Int) := by
    have h3 : j < s.data.toList.length := by simpa using hj2
    rw [vbs_get h3] at hu
    injection hu with hu
    rw [← hu]; simp
  rw [e2, ← bytesRow_at s (grownCap w s.size 0 5) j hj2]
  exact cell_of_row _ _ _ _ _ _ (heap_alloc_new w.drew _)

theorem wr_Text (g : Nat) (l : List UInt8) (s : ByteArray) (w : World) (hw : Wr w g l) (hl : l.length ≤ 10000000) (hs : s.size ≤ 10000000) :
    Calls Tryz.prog 33 #[.pointer (some ⟨g, 0, none⟩), .string s] w fun e w' => e = .returned (.tuple #[]) ∧ Wr w' g (l ++ vbytes s.size ++ s.data.toList) ∧ Mod (One g) w w' := by
  obtain ⟨W1, cap, hrun, hr1, hm1⟩ := bytes_of_text s w
  go_enter Tryz.func33, Tryz.ntmps33
  go_wp2_with fail
  refine (wr_Raw g l _ s.size cap _ s.data.toList W1 (hw.non hm1) hl hr1 hs).mono ?_
  rintro e w2 ⟨rfl, hw2, hm2⟩
  go_wp2
  go_end0
  exact ⟨rfl, hw2, hm1.non.trans' hm2⟩

theorem wr_Flag (g : Nat) (l : List UInt8) (b : Bool) (w : World) (hw : Wr w g l) (hl : l.length ≤ 10000000) :
    Calls Tryz.prog 75 #[.pointer (some ⟨g, 0, none⟩), .bool b] w fun e w' => e = .returned (.tuple #[]) ∧ Wr w' g (l ++ [if b = true then 1 else 0]) ∧ Mod (One g) w w' := by
  have e1 : vbytes ((1 : Int).toNat) = [1] := vbytes_small (n := 1) (by omega)
  have e0 : vbytes ((0 : Int).toNat) = [0] := vbytes_small (n := 0) (by omega)
  cases b
  · have c1 := wr_Number g l 0 (by omega) w hw hl
    rw [e0] at c1
    have C := Lib.hid c1
    clear c1 e0 e1
    go_enter Tryz.func75, Tryz.ntmps75
    go_wp2_with fail
    refine C.out.mono ?_
    rintro e w2 ⟨rfl, hw2, hm2⟩
    go_wp2
    go_end0
    exact ⟨rfl, hw2, hm2⟩
  · have c1 := wr_Number g l 1 (by omega) w hw hl
    rw [e1] at c1
    have C := Lib.hid c1
    clear c1 e0 e1
    go_enter Tryz.func75, Tryz.ntmps75
    go_wp2_with fail
    refine C.out.mono ?_
    rintro e w2 ⟨rfl, hw2, hm2⟩
    go_wp2
    go_end0
    exact ⟨rfl, hw2, hm2⟩

theorem wr_Bytes (g : Nat) (l : List UInt8) (w : World) (hw : Wr w g l) (hl : l.length ≤ 10000000) :
    Calls Tryz.prog 35 #[.pointer (some ⟨g, 0, none⟩)] w fun e w' => ∃ v, e = .returned v ∧ OwnB w' w.heap.size v l ∧ Mod Non w w' := by
  obtain ⟨v, hb, ho⟩ := hw
  obtain ⟨A, m, c, rfl, _, _⟩ := ho.form
  have c0 := hb.cell 0
  simp at c0
  go_enter Tryz.func35, Tryz.ntmps35
  go_wp2_with fail
  refine (slices_Clone A m c _ l w ho.reads (by omega)).mono ?_
  rintro e w1 ⟨v1, rfl, hown1, hm1⟩
  go_wp2
  go_ret
  exact ⟨v1, rfl, hown1, hm1⟩
end Go.Proofs.YtdclfdinhdaadaaGreatDoor
