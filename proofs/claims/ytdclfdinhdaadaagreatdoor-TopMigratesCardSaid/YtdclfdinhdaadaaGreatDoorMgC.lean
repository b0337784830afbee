/- Package cmd: the fields of a command, one by one. -/
import Derived.Test.YtdclfdinhdaadaaGreatDoorMgD
import Derived.Test.YtdclfdinhdaadaaGreatDoorMgA
namespace Go.Proofs.YtdclfdinhdaadaaGreatDoor
open Go.RowKit

/-- the fields that a kind has -/
def fbits (k : Int) : Int := if k = 2 then 11 else if k = 3 ∨ k = 4 then 3 else if k = 5 then 15 else if k = 7 ∨ k = 8 then 16 else 0
def fknown (k : Int) : Bool := k == 1 || k == 2 || k == 3 || k == 4 || k == 5 || k == 6 || k == 7 || k == 8

theorem cmd_at1 (g : Nat) (w : World) : Calls Tryz.prog 120 #[.pointer (some ⟨g, 0, none⟩)] w fun e w' => e = .returned (.iface 164 (.pointer (some ⟨g, 1, none⟩))) ∧ w = w' := by
  go_enter Tryz.func120, Tryz.ntmps120
  go_wp2
  go_ret
  exact ⟨rfl, rfl⟩
abbrev part1 : Value := .agg #[.int .i64 1, .int .i64 8, .nilFunc, .func (.func 120) #[] #[]]
theorem cmd_at2 (g : Nat) (w : World) : Calls Tryz.prog 121 #[.pointer (some ⟨g, 0, none⟩)] w fun e w' => e = .returned (.iface 164 (.pointer (some ⟨g, 2, none⟩))) ∧ w = w' := by
  go_enter Tryz.func121, Tryz.ntmps121
  go_wp2
  go_ret
  exact ⟨rfl, rfl⟩
abbrev part2 : Value := .agg #[.int .i64 1, .int .i64 4294967296, .nilFunc, .func (.func 121) #[] #[]]
theorem cmd_at3 (g : Nat) (w : World) : Calls Tryz.prog 122 #[.pointer (some ⟨g, 0, none⟩)] w fun e w' => e = .returned (.iface 165 (.pointer (some ⟨g, 3, none⟩))) ∧ w = w' := by
  go_enter Tryz.func122, Tryz.ntmps122
  go_wp2
  go_ret
  exact ⟨rfl, rfl⟩
abbrev part3 : Value := .agg #[.int .i64 2, .int .i64 0, .func (.func 108) #[] #[], .func (.func 122) #[] #[]]
theorem cmd_at4 (g : Nat) (w : World) : Calls Tryz.prog 123 #[.pointer (some ⟨g, 0, none⟩)] w fun e w' => e = .returned (.iface 165 (.pointer (some ⟨g, 5, none⟩))) ∧ w = w' := by
  go_enter Tryz.func123, Tryz.ntmps123
  go_wp2
  go_ret
  exact ⟨rfl, rfl⟩
abbrev part4 : Value := .agg #[.int .i64 4, .int .i64 0, .func (.func 109) #[] #[], .func (.func 123) #[] #[]]
theorem cmd_at5 (g : Nat) (w : World) : Calls Tryz.prog 124 #[.pointer (some ⟨g, 0, none⟩)] w fun e w' => e = .returned (.iface 165 (.pointer (some ⟨g, 4, none⟩))) ∧ w = w' := by
  go_enter Tryz.func124, Tryz.ntmps124
  go_wp2
  go_ret
  exact ⟨rfl, rfl⟩
abbrev part5 : Value := .agg #[.int .i64 8, .int .i64 0, .func (.func 109) #[] #[], .func (.func 124) #[] #[]]
theorem cmd_at6 (g : Nat) (w : World) : Calls Tryz.prog 125 #[.pointer (some ⟨g, 0, none⟩)] w fun e w' => e = .returned (.iface 164 (.pointer (some ⟨g, 6, none⟩))) ∧ w = w' := by
  go_enter Tryz.func125, Tryz.ntmps125
  go_wp2
  go_ret
  exact ⟨rfl, rfl⟩
abbrev part6 : Value := .agg #[.int .i64 16, .int .i64 9, .nilFunc, .func (.func 125) #[] #[]]

theorem as_ii (v : Value) (w : World) : (Instr.typeAssert (.iface 164 v) 20 164 true).run Tryz.prog w = .ok (.tuple #[v, .bool true]) w := by kernel_rfl
theorem as_is (v : Value) (w : World) : (Instr.typeAssert (.iface 164 v) 20 165 true).run Tryz.prog w = .ok (.tuple #[.pointer none, .bool false]) w := by kernel_rfl
theorem as_si (v : Value) (w : World) : (Instr.typeAssert (.iface 165 v) 20 164 true).run Tryz.prog w = .ok (.tuple #[.pointer none, .bool false]) w := by kernel_rfl
theorem as_ss (v : Value) (w : World) : (Instr.typeAssert (.iface 165 v) 20 165 true).run Tryz.prog w = .ok (.tuple #[v, .bool true]) w := by kernel_rfl

set_option maxHeartbeats 2000000 in
theorem cmd_fields (k : Int) (w : World) : Calls Tryz.prog 91 #[.int .i64 k] w fun e w' => e = .returned (.tuple #[.int .i64 (fbits k), .bool (fknown k)]) ∧ w = w' := by
  obtain ⟨b, hb⟩ : ∃ b, b = fbits k := ⟨_, rfl⟩
  obtain ⟨r, hr⟩ : ∃ r, r = fknown k := ⟨_, rfl⟩
  rw [← hb, ← hr]
  unfold fbits at hb
  unfold fknown at hr
  by_cases h1 : k = 1
  · subst h1
    have hb2 : b = 0 := by rw [hb]; rfl
    have hr2 : r = true := by rw [hr]; rfl
    subst hb2 hr2
    clear hb hr
    go_enter Tryz.func91, Tryz.ntmps91
    go_wp2
    go_ret2
    exact ⟨rfl, rfl⟩
  by_cases h2 : k = 2
  · subst h2
    have hb2 : b = 11 := by rw [hb]; rfl
    have hr2 : r = true := by rw [hr]; rfl
    subst hb2 hr2
    clear hb hr
    go_enter Tryz.func91, Tryz.ntmps91
    go_wp2
    go_ret2
    exact ⟨rfl, rfl⟩
  by_cases h3 : k = 3
  · subst h3
    have hb2 : b = 3 := by rw [hb]; rfl
    have hr2 : r = true := by rw [hr]; rfl
    subst hb2 hr2
    clear hb hr
    go_enter Tryz.func91, Tryz.ntmps91
    go_wp2
    go_ret2
    exact ⟨rfl, rfl⟩
  by_cases h4 : k = 4
  · subst h4
    have hb2 : b = 3 := by rw [hb]; rfl
    have hr2 : r = true := by rw [hr]; rfl
    subst hb2 hr2
    clear hb hr
    go_enter Tryz.func91, Tryz.ntmps91
    go_wp2
    go_ret2
    exact ⟨rfl, rfl⟩
  by_cases h5 : k = 5
  · subst h5
    have hb2 : b = 15 := by rw [hb]; rfl
    have hr2 : r = true := by rw [hr]; rfl
    subst hb2 hr2
    clear hb hr
    go_enter Tryz.func91, Tryz.ntmps91
    go_wp2
    go_ret2
    exact ⟨rfl, rfl⟩
  by_cases h6 : k = 6
  · subst h6
    have hb2 : b = 0 := by rw [hb]; rfl
    have hr2 : r = true := by rw [hr]; rfl
    subst hb2 hr2
    clear hb hr
    go_enter Tryz.func91, Tryz.ntmps91
    go_wp2
    go_ret2
    exact ⟨rfl, rfl⟩
  by_cases h7 : k = 7
  · subst h7
    have hb2 : b = 16 := by rw [hb]; rfl
    have hr2 : r = true := by rw [hr]; rfl
    subst hb2 hr2
    clear hb hr
    go_enter Tryz.func91, Tryz.ntmps91
    go_wp2
    go_ret2
    exact ⟨rfl, rfl⟩
  by_cases h8 : k = 8
  · subst h8
    have hb2 : b = 16 := by rw [hb]; rfl
    have hr2 : r = true := by rw [hr]; rfl
    subst hb2 hr2
    clear hb hr
    go_enter Tryz.func91, Tryz.ntmps91
    go_wp2
    go_ret2
    exact ⟨rfl, rfl⟩
  have hb2 : b = 0 := by rw [hb, if_neg h2, if_neg (by omega), if_neg h5, if_neg (by omega)]
  have hr2 : r = false := by rw [hr]; simp [h1, h2, h3, h4, h5, h6, h7, h8]
  subst hb2 hr2
  clear hb hr
  have e1 : (k == 1) = false := by simpa using h1
  have e2 : (k == 2) = false := by simpa using h2
  have e3 : (k == 3) = false := by simpa using h3
  have e4 : (k == 4) = false := by simpa using h4
  have e5 : (k == 5) = false := by simpa using h5
  have e6 : (k == 6) = false := by simpa using h6
  have e7 : (k == 7) = false := by simpa using h7
  have e8 : (k == 8) = false := by simpa using h8
  clear h1 h2 h3 h4 h5 h6 h7 h8
  go_enter Tryz.func91, Tryz.ntmps91
  go_wp2
  go_ret2
  exact ⟨rfl, rfl⟩

set_option maxRecDepth 100000 in
set_option maxHeartbeats 2000000 in
theorem number1_off (f n : Int) (g : Nat) (w : World) (hf : f = 0 ∨ f = 16) (hc : w.cell? ⟨g, 1, none⟩ = some (.int .i64 n)) (hg : g < w.heap.size) :
    Calls Tryz.prog 93 #[part1, .pointer (some ⟨g, 0, none⟩), .int .i64 f] w fun e w' => e = .returned (.tuple #[.bool true, .bool (n == 0)]) ∧ Mod Non w w' := by
  have aii := as_ii
  rcases hf with rfl | rfl
  all_goals
    go_enter Tryz.func93, Tryz.ntmps93
    go_wp2_with fail
    refine (cmd_at1 g _).mono ?_
    rintro e w1 ⟨rfl, rfl⟩
    go_wp2_with fail
    go_region
    go_wp2
    go_ret2
    exact ⟨rfl, ((Mod.refl _ _).alloc _).drew⟩
set_option maxRecDepth 100000 in
set_option maxHeartbeats 2000000 in
theorem number1_on (f n : Int) (g : Nat) (w : World) (hf : f = 3 ∨ f = 11 ∨ f = 15) (hc : w.cell? ⟨g, 1, none⟩ = some (.int .i64 n)) (hg : g < w.heap.size) :
    Calls Tryz.prog 93 #[part1, .pointer (some ⟨g, 0, none⟩), .int .i64 f] w fun e w' => e = .returned (.tuple #[.bool (decide (1 ≤ n) && decide (n ≤ 8)), .bool true]) ∧ Mod Non w w' := by
  obtain ⟨r, hr⟩ : ∃ r, r = (decide (1 ≤ n) && decide (n ≤ 8)) := ⟨_, rfl⟩
  rw [← hr]
  have aii := as_ii
  by_cases h1 : 1 ≤ n
  · have hr1 : r = decide (n ≤ 8) := by rw [hr]; simp [h1]
    have HR := Lib.hid hr1
    clear hr hr1
    rcases hf with rfl | rfl | rfl
    all_goals
      go_enter Tryz.func93, Tryz.ntmps93
      go_wp2_with fail
      refine (cmd_at1 g _).mono ?_
      rintro e w1 ⟨rfl, rfl⟩
      go_wp2_with fail
      go_region
      go_wp2
      go_ret2
      exact ⟨by rw [HR.out]; rfl, ((Mod.refl _ _).alloc _).drew⟩
  · have hr1 : r = false := by rw [hr]; simp [h1]
    subst hr1
    clear hr
    have hd1 : decide (1 ≤ n) = false := by simpa using h1
    have hd2 : n < 1 := by omega
    rcases hf with rfl | rfl | rfl
    all_goals
      go_enter Tryz.func93, Tryz.ntmps93
      go_wp2_with fail
      refine (cmd_at1 g _).mono ?_
      rintro e w1 ⟨rfl, rfl⟩
      go_wp2_with fail
      go_region
      go_wp2
      go_ret2
      exact ⟨rfl, ((Mod.refl _ _).alloc _).drew⟩

set_option maxRecDepth 100000 in
set_option maxHeartbeats 2000000 in
theorem number2_off (f n : Int) (g : Nat) (w : World) (hf : f = 0 ∨ f = 16) (hc : w.cell? ⟨g, 2, none⟩ = some (.int .i64 n)) (hg : g < w.heap.size) :
    Calls Tryz.prog 93 #[part2, .pointer (some ⟨g, 0, none⟩), .int .i64 f] w fun e w' => e = .returned (.tuple #[.bool true, .bool (n == 0)]) ∧ Mod Non w w' := by
  have aii := as_ii
  rcases hf with rfl | rfl
  all_goals
    go_enter Tryz.func93, Tryz.ntmps93
    go_wp2_with fail
    refine (cmd_at2 g _).mono ?_
    rintro e w1 ⟨rfl, rfl⟩
    go_wp2_with fail
    go_region
    go_wp2
    go_ret2
    exact ⟨rfl, ((Mod.refl _ _).alloc _).drew⟩
set_option maxRecDepth 100000 in
set_option maxHeartbeats 2000000 in
theorem number2_on (f n : Int) (g : Nat) (w : World) (hf : f = 3 ∨ f = 11 ∨ f = 15) (hc : w.cell? ⟨g, 2, none⟩ = some (.int .i64 n)) (hg : g < w.heap.size) :
    Calls Tryz.prog 93 #[part2, .pointer (some ⟨g, 0, none⟩), .int .i64 f] w fun e w' => e = .returned (.tuple #[.bool (decide (1 ≤ n) && decide (n ≤ 4294967296)), .bool true]) ∧ Mod Non w w' := by
  obtain ⟨r, hr⟩ : ∃ r, r = (decide (1 ≤ n) && decide (n ≤ 4294967296)) := ⟨_, rfl⟩
  rw [← hr]
  have aii := as_ii
  by_cases h1 : 1 ≤ n
  · have hr1 : r = decide (n ≤ 4294967296) := by rw [hr]; simp [h1]
    have HR := Lib.hid hr1
    clear hr hr1
    rcases hf with rfl | rfl | rfl
    all_goals
      go_enter Tryz.func93, Tryz.ntmps93
      go_wp2_with fail
      refine (cmd_at2 g _).mono ?_
      rintro e w1 ⟨rfl, rfl⟩
      go_wp2_with fail
      go_region
      go_wp2
      go_ret2
      exact ⟨by rw [HR.out]; rfl, ((Mod.refl _ _).alloc _).drew⟩
  · have hr1 : r = false := by rw [hr]; simp [h1]
    subst hr1
    clear hr
    have hd1 : decide (1 ≤ n) = false := by simpa using h1
    have hd2 : n < 1 := by omega
    rcases hf with rfl | rfl | rfl
    all_goals
      go_enter Tryz.func93, Tryz.ntmps93
      go_wp2_with fail
      refine (cmd_at2 g _).mono ?_
      rintro e w1 ⟨rfl, rfl⟩
      go_wp2_with fail
      go_region
      go_wp2
      go_ret2
      exact ⟨rfl, ((Mod.refl _ _).alloc _).drew⟩

set_option maxRecDepth 100000 in
set_option maxHeartbeats 2000000 in
theorem number6_off (f n : Int) (g : Nat) (w : World) (hf : f = 0 ∨ f = 3 ∨ f = 11 ∨ f = 15) (hc : w.cell? ⟨g, 6, none⟩ = some (.int .i64 n)) (hg : g < w.heap.size) :
    Calls Tryz.prog 93 #[part6, .pointer (some ⟨g, 0, none⟩), .int .i64 f] w fun e w' => e = .returned (.tuple #[.bool true, .bool (n == 0)]) ∧ Mod Non w w' := by
  have aii := as_ii
  rcases hf with rfl | rfl | rfl | rfl
  all_goals
    go_enter Tryz.func93, Tryz.ntmps93
    go_wp2_with fail
    refine (cmd_at6 g _).mono ?_
    rintro e w1 ⟨rfl, rfl⟩
    go_wp2_with fail
    go_region
    go_wp2
    go_ret2
    exact ⟨rfl, ((Mod.refl _ _).alloc _).drew⟩
set_option maxRecDepth 100000 in
set_option maxHeartbeats 2000000 in
theorem number6_on (f n : Int) (g : Nat) (w : World) (hf : f = 16) (hc : w.cell? ⟨g, 6, none⟩ = some (.int .i64 n)) (hg : g < w.heap.size) :
    Calls Tryz.prog 93 #[part6, .pointer (some ⟨g, 0, none⟩), .int .i64 f] w fun e w' => e = .returned (.tuple #[.bool (decide (1 ≤ n) && decide (n ≤ 9)), .bool true]) ∧ Mod Non w w' := by
  obtain ⟨r, hr⟩ : ∃ r, r = (decide (1 ≤ n) && decide (n ≤ 9)) := ⟨_, rfl⟩
  rw [← hr]
  have aii := as_ii
  by_cases h1 : 1 ≤ n
  · have hr1 : r = decide (n ≤ 9) := by rw [hr]; simp [h1]
    have HR := Lib.hid hr1
    clear hr hr1
    subst hf
    all_goals
      go_enter Tryz.func93, Tryz.ntmps93
      go_wp2_with fail
      refine (cmd_at6 g _).mono ?_
      rintro e w1 ⟨rfl, rfl⟩
      go_wp2_with fail
      go_region
      go_wp2
      go_ret2
      exact ⟨by rw [HR.out]; rfl, ((Mod.refl _ _).alloc _).drew⟩
  · have hr1 : r = false := by rw [hr]; simp [h1]
    subst hr1
    clear hr
    have hd1 : decide (1 ≤ n) = false := by simpa using h1
    have hd2 : n < 1 := by omega
    subst hf
    all_goals
      go_enter Tryz.func93, Tryz.ntmps93
      go_wp2_with fail
      refine (cmd_at6 g _).mono ?_
      rintro e w1 ⟨rfl, rfl⟩
      go_wp2_with fail
      go_region
      go_wp2
      go_ret2
      exact ⟨rfl, ((Mod.refl _ _).alloc _).drew⟩
end Go.Proofs.YtdclfdinhdaadaaGreatDoor

/- Package cmd: the fields of a command that are texts. -/
namespace Go.Proofs.YtdclfdinhdaadaaGreatDoor
open Go.RowKit

set_option maxRecDepth 100000 in
set_option maxHeartbeats 2000000 in
theorem text1_any (f : Int) (g : Nat) (w : World) :
    Calls Tryz.prog 94 #[part1, .pointer (some ⟨g, 0, none⟩), .int .i64 f] w fun e w' => e = .returned (.tuple #[.bool true, .bool true]) ∧ Mod Non w w' := by
  have aii := as_is
  have ass := as_si
  go_enter Tryz.func94, Tryz.ntmps94
  go_wp2_with fail
  refine (cmd_at1 g _).mono ?_
  rintro e w1 ⟨rfl, rfl⟩
  go_wp2
  go_ret2
  exact ⟨rfl, (Mod.refl _ _).alloc _⟩

set_option maxRecDepth 100000 in
set_option maxHeartbeats 2000000 in
theorem text2_any (f : Int) (g : Nat) (w : World) :
    Calls Tryz.prog 94 #[part2, .pointer (some ⟨g, 0, none⟩), .int .i64 f] w fun e w' => e = .returned (.tuple #[.bool true, .bool true]) ∧ Mod Non w w' := by
  have aii := as_is
  have ass := as_si
  go_enter Tryz.func94, Tryz.ntmps94
  go_wp2_with fail
  refine (cmd_at2 g _).mono ?_
  rintro e w1 ⟨rfl, rfl⟩
  go_wp2
  go_ret2
  exact ⟨rfl, (Mod.refl _ _).alloc _⟩

set_option maxRecDepth 100000 in
set_option maxHeartbeats 2000000 in
theorem number3_any (f : Int) (g : Nat) (w : World) :
    Calls Tryz.prog 93 #[part3, .pointer (some ⟨g, 0, none⟩), .int .i64 f] w fun e w' => e = .returned (.tuple #[.bool true, .bool true]) ∧ Mod Non w w' := by
  have aii := as_is
  have ass := as_si
  go_enter Tryz.func93, Tryz.ntmps93
  go_wp2_with fail
  refine (cmd_at3 g _).mono ?_
  rintro e w1 ⟨rfl, rfl⟩
  go_wp2
  go_ret2
  exact ⟨rfl, (Mod.refl _ _).alloc _⟩

set_option maxRecDepth 100000 in
set_option maxHeartbeats 2000000 in
theorem text3_off (f : Int) (s : ByteArray) (g : Nat) (w : World) (hf : f = 0 ∨ f = 16) (hc : w.cell? ⟨g, 3, none⟩ = some (.string s)) (hg : g < w.heap.size) :
    Calls Tryz.prog 94 #[part3, .pointer (some ⟨g, 0, none⟩), .int .i64 f] w fun e w' => e = .returned (.tuple #[.bool true, .bool s.toList.isEmpty]) ∧ Mod Non w w' := by
  have aii := as_ss
  rcases hf with rfl | rfl
  all_goals
    go_enter Tryz.func94, Tryz.ntmps94
    go_wp2_with fail
    refine (cmd_at3 g _).mono ?_
    rintro e w1 ⟨rfl, rfl⟩
    go_wp2_with fail
    go_region
    go_wp2
    go_ret2
    exact ⟨rfl, ((Mod.refl _ _).alloc _).drew⟩
set_option maxRecDepth 100000 in
set_option maxHeartbeats 2000000 in
theorem text3_on (f : Int) (s : ByteArray) (g : Nat) (w : World) (hf : f = 3 ∨ f = 11 ∨ f = 15) (hc : w.cell? ⟨g, 3, none⟩ = some (.string s)) (hg : g < w.heap.size) (hT : T8 w) :
    Calls Tryz.prog 94 #[part3, .pointer (some ⟨g, 0, none⟩), .int .i64 f] w fun e w' => e = .returned (.tuple #[.bool (keyB s), .bool true]) ∧ Mod Non w w' := by
  have aii := as_ss
  rcases hf with rfl | rfl | rfl
  all_goals
    go_enter Tryz.func94, Tryz.ntmps94
    go_wp2_with fail
    refine (cmd_at3 g _).mono ?_
    rintro e w1 ⟨rfl, rfl⟩
    go_wp2_with fail
    go_region_with (go_at_call 108; refine (runes_Key s _ (hT.non (((Mod.refl _ _).alloc _).drew))).mono ?_; rintro e w2 ⟨rfl, hm2⟩)
    all_goals
      go_wp2
      go_ret2
      exact ⟨rfl, (((Mod.refl _ _).alloc _).drew).trans' hm2⟩

set_option maxRecDepth 100000 in
set_option maxHeartbeats 2000000 in
theorem number4_any (f : Int) (g : Nat) (w : World) :
    Calls Tryz.prog 93 #[part4, .pointer (some ⟨g, 0, none⟩), .int .i64 f] w fun e w' => e = .returned (.tuple #[.bool true, .bool true]) ∧ Mod Non w w' := by
  have aii := as_is
  have ass := as_si
  go_enter Tryz.func93, Tryz.ntmps93
  go_wp2_with fail
  refine (cmd_at4 g _).mono ?_
  rintro e w1 ⟨rfl, rfl⟩
  go_wp2
  go_ret2
  exact ⟨rfl, (Mod.refl _ _).alloc _⟩

set_option maxRecDepth 100000 in
set_option maxHeartbeats 2000000 in
theorem text4_off (f : Int) (s : ByteArray) (g : Nat) (w : World) (hf : f = 0 ∨ f = 3 ∨ f = 11 ∨ f = 16) (hc : w.cell? ⟨g, 5, none⟩ = some (.string s)) (hg : g < w.heap.size) :
    Calls Tryz.prog 94 #[part4, .pointer (some ⟨g, 0, none⟩), .int .i64 f] w fun e w' => e = .returned (.tuple #[.bool true, .bool s.toList.isEmpty]) ∧ Mod Non w w' := by
  have aii := as_ss
  rcases hf with rfl | rfl | rfl | rfl
  all_goals
    go_enter Tryz.func94, Tryz.ntmps94
    go_wp2_with fail
    refine (cmd_at4 g _).mono ?_
    rintro e w1 ⟨rfl, rfl⟩
    go_wp2_with fail
    go_region
    go_wp2
    go_ret2
    exact ⟨rfl, ((Mod.refl _ _).alloc _).drew⟩
set_option maxRecDepth 100000 in
set_option maxHeartbeats 2000000 in
theorem text4_on (f : Int) (s : ByteArray) (g : Nat) (w : World) (hf : f = 15) (hc : w.cell? ⟨g, 5, none⟩ = some (.string s)) (hg : g < w.heap.size) (hT : T8 w) :
    Calls Tryz.prog 94 #[part4, .pointer (some ⟨g, 0, none⟩), .int .i64 f] w fun e w' => e = .returned (.tuple #[.bool (valB s), .bool true]) ∧ Mod Non w w' := by
  have aii := as_ss
  subst hf
  all_goals
    go_enter Tryz.func94, Tryz.ntmps94
    go_wp2_with fail
    refine (cmd_at4 g _).mono ?_
    rintro e w1 ⟨rfl, rfl⟩
    go_wp2_with fail
    go_region_with (go_at_call 109; refine (runes_Val s _ (hT.non (((Mod.refl _ _).alloc _).drew))).mono ?_; rintro e w2 ⟨rfl, hm2⟩)
    all_goals
      go_wp2
      go_ret2
      exact ⟨rfl, (((Mod.refl _ _).alloc _).drew).trans' hm2⟩

set_option maxRecDepth 100000 in
set_option maxHeartbeats 2000000 in
theorem number5_any (f : Int) (g : Nat) (w : World) :
    Calls Tryz.prog 93 #[part5, .pointer (some ⟨g, 0, none⟩), .int .i64 f] w fun e w' => e = .returned (.tuple #[.bool true, .bool true]) ∧ Mod Non w w' := by
  have aii := as_is
  have ass := as_si
  go_enter Tryz.func93, Tryz.ntmps93
  go_wp2_with fail
  refine (cmd_at5 g _).mono ?_
  rintro e w1 ⟨rfl, rfl⟩
  go_wp2
  go_ret2
  exact ⟨rfl, (Mod.refl _ _).alloc _⟩

set_option maxRecDepth 100000 in
set_option maxHeartbeats 2000000 in
theorem text5_off (f : Int) (s : ByteArray) (g : Nat) (w : World) (hf : f = 0 ∨ f = 3 ∨ f = 16) (hc : w.cell? ⟨g, 4, none⟩ = some (.string s)) (hg : g < w.heap.size) :
    Calls Tryz.prog 94 #[part5, .pointer (some ⟨g, 0, none⟩), .int .i64 f] w fun e w' => e = .returned (.tuple #[.bool true, .bool s.toList.isEmpty]) ∧ Mod Non w w' := by
  have aii := as_ss
  rcases hf with rfl | rfl | rfl
  all_goals
    go_enter Tryz.func94, Tryz.ntmps94
    go_wp2_with fail
    refine (cmd_at5 g _).mono ?_
    rintro e w1 ⟨rfl, rfl⟩
    go_wp2_with fail
    go_region
    go_wp2
    go_ret2
    exact ⟨rfl, ((Mod.refl _ _).alloc _).drew⟩
set_option maxRecDepth 100000 in
set_option maxHeartbeats 2000000 in
theorem text5_on (f : Int) (s : ByteArray) (g : Nat) (w : World) (hf : f = 11 ∨ f = 15) (hc : w.cell? ⟨g, 4, none⟩ = some (.string s)) (hg : g < w.heap.size) (hT : T8 w) :
    Calls Tryz.prog 94 #[part5, .pointer (some ⟨g, 0, none⟩), .int .i64 f] w fun e w' => e = .returned (.tuple #[.bool (valB s), .bool true]) ∧ Mod Non w w' := by
  have aii := as_ss
  rcases hf with rfl | rfl
  all_goals
    go_enter Tryz.func94, Tryz.ntmps94
    go_wp2_with fail
    refine (cmd_at5 g _).mono ?_
    rintro e w1 ⟨rfl, rfl⟩
    go_wp2_with fail
    go_region_with (go_at_call 109; refine (runes_Val s _ (hT.non (((Mod.refl _ _).alloc _).drew))).mono ?_; rintro e w2 ⟨rfl, hm2⟩)
    all_goals
      go_wp2
      go_ret2
      exact ⟨rfl, (((Mod.refl _ _).alloc _).drew).trans' hm2⟩

set_option maxRecDepth 100000 in
set_option maxHeartbeats 2000000 in
theorem text6_any (f : Int) (g : Nat) (w : World) :
    Calls Tryz.prog 94 #[part6, .pointer (some ⟨g, 0, none⟩), .int .i64 f] w fun e w' => e = .returned (.tuple #[.bool true, .bool true]) ∧ Mod Non w w' := by
  have aii := as_is
  have ass := as_si
  go_enter Tryz.func94, Tryz.ntmps94
  go_wp2_with fail
  refine (cmd_at6 g _).mono ?_
  rintro e w1 ⟨rfl, rfl⟩
  go_wp2
  go_ret2
  exact ⟨rfl, (Mod.refl _ _).alloc _⟩
end Go.Proofs.YtdclfdinhdaadaaGreatDoor
