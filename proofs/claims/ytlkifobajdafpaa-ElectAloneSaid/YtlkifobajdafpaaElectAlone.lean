/- The walk of ElectAlone: whatever list of nodes: it returns true, and turns nothing that was there. -/
import Derived.Test.YtlkifobajdafpaaElectAwake
namespace Go.Proofs.Ytlkifobajdafpaa
open Go.RowKit

/-- The clocks of nodes, each in a block of its own; Q says what each has counted. -/
structure Clks (w : World) (B : Nat) (zs : List Int) (bs : List Nat) (Q : Nat → Int → Prop) : Prop where
  nodup : bs.Nodup
  ge : ∀ b ∈ bs, B ≤ b ∧ b < w.heap.size
  clk : ∀ i b n, bs[i]? = some b → zs[i]? = some n → ∃ q, Q i q ∧ Clk w b (8 + 2 * n) q

section
variable {w w' : World} {B : Nat} {zs : List Int} {bs : List Nat} {Q Q' : Nat → Int → Prop} {S : Nat → Prop}
theorem Clks.mod (h : Clks w B zs bs Q) (hm : Mod S w w') (hS : ∀ b ∈ bs, ¬ S b) : Clks w' B zs bs Q :=
  ⟨h.nodup, fun b hb => ⟨(h.ge b hb).1, Nat.lt_of_lt_of_le (h.ge b hb).2 hm.size⟩, fun i b n hb hn => by
    obtain ⟨q, h1, h2⟩ := h.clk i b n hb hn
    exact ⟨q, h1, Blk.mod h2 hm (hS b (List.mem_of_getElem? hb))⟩⟩
theorem Clks.weak (h : Clks w B zs bs Q) (hq : ∀ i q, i < bs.length → Q i q → Q' i q) : Clks w B zs bs Q' :=
  ⟨h.nodup, h.ge, fun i b n hb hn => by
    obtain ⟨q, h1, h2⟩ := h.clk i b n hb hn
    exact ⟨q, hq i q (by
      rcases Nat.lt_or_ge i bs.length with hh | hh
      · exact hh
      · rw [List.getElem?_eq_none hh] at hb; cases hb) h1, h2⟩⟩
theorem Clks.grow (h : Clks w B zs bs Q) {b : Nat} {n q : Int} (hc : Clk w b (8 + 2 * n) q) (hq : Q bs.length q) (hn : zs[bs.length]? = some n) (hb : b ∉ bs) (hB : B ≤ b) : Clks w B zs (bs ++ [b]) Q := by
  refine ⟨?_, ?_, ?_⟩
  · rw [List.nodup_append]
    exact ⟨h.nodup, by simp, fun a ha c hc' => by simp at hc'; subst hc'; rintro rfl; exact hb ha⟩
  · intro c hc'
    rcases List.mem_append.1 hc' with h1 | h1
    · exact h.ge c h1
    · simp at h1; subst h1; exact ⟨hB, Blk.lt hc⟩
  · intro i c m hc' hm
    rw [List.getElem?_append] at hc'
    split at hc'
    · exact h.clk i c m hc' hm
    · rw [List.getElem?_singleton] at hc'
      split at hc'
      · injection hc' with hc'; subst hc'
        have : i = bs.length := by omega
        subst this
        rw [hn] at hm; injection hm with hm; subst hm
        exact ⟨q, hq, hc⟩
      · cases hc'
theorem Clks.own {base n : Nat} {v : Value} {xs : List Value} (h : Clks w B zs bs Q) (hl : bs.length ≤ zs.length) (ho : w.ownsRow base 24 1 v n xs) : ∀ b ∈ bs, ¬ v.ownBlock = some b := by
  intro b hb
  obtain ⟨i, hi, rfl⟩ := List.getElem_of_mem hb
  obtain ⟨q, _, hc⟩ := h.clk i _ _ (List.getElem?_eq_getElem hi) (List.getElem?_eq_getElem (by omega))
  exact own_ne_blk ho hc (by decide)
theorem Clks.tick (h : Clks w B zs bs Q) {j b : Nat} {n q : Int} (hj : bs[j]? = some b) (hn : zs[j]? = some n) (hm : Mod (One b) w w') (hc : Clk w' b (8 + 2 * n) q) (hq : Q' j q) (hk : ∀ i q, i ≠ j → Q i q → Q' i q) : Clks w' B zs bs Q' := by
  refine ⟨h.nodup, fun b hb => ⟨(h.ge b hb).1, Nat.lt_of_lt_of_le (h.ge b hb).2 hm.size⟩, fun i c m hc' hm' => ?_⟩
  by_cases hij : i = j
  · subst hij
    rw [hj] at hc'; injection hc' with hc'; subst hc'
    rw [hn] at hm'; injection hm' with hm'; subst hm'
    exact ⟨q, hq, hc⟩
  · obtain ⟨q', h1, h2⟩ := h.clk i c m hc' hm'
    refine ⟨q', hk i q' hij h1, Blk.mod h2 hm fun e => hij ?_⟩
    unfold One at e; subst e
    obtain ⟨hi1, hi2⟩ := List.getElem?_eq_some_iff.1 hc'
    obtain ⟨hj1, hj2⟩ := List.getElem?_eq_some_iff.1 hj
    exact (List.getElem_inj h.nodup).1 (hi2.trans hj2.symm)
end

theorem alone_all {zs : List Int} {k : Nat} {q q' z : Int} (h : ∀ (j : Nat) n, j < k → zs[j]? = some n → 1 ≤ n ∧ n ≤ 9 ∧ q ≤ n) (hz : zs[k]? = some z) (h1 : 1 ≤ z) (h9 : z ≤ 9) (hq : q' ≤ q) (hqz : q' ≤ z) :
    ∀ (j : Nat) n, j < k + 1 → zs[j]? = some n → 1 ≤ n ∧ n ≤ 9 ∧ q' ≤ n := by
  intro j n hj hn
  by_cases hjk : j < k
  · have := h j n hjk hn; omega
  · have : j = k := by omega
    subst this
    rw [hz] at hn; injection hn with hn; subst hn
    omega

def pv (b : Nat) : Value := .pointer (some ⟨b, 0, none⟩)

theorem alone_edge (a0 : Option Addr) (len cap : Nat) (w : World) (hlen : 20 < len ∨ len = 0) :
    Calls Try.prog 4 #[.slice a0 len cap] w fun e w' => e = .returned (.bool true) ∧ Mod Non w w' := by
  rcases hlen with h | rfl
  · have hl : (20 : Int) < (len : Int) := by omega
    go_enter Try.func4, Try.ntmps4
    go_wp2_with (go_at_call 10; refine (elect_awake _).mono ?_; rintro e w1 ⟨rfl, hm⟩)
    go_ret
    exact ⟨rfl, hm⟩
  · go_enter Try.func4, Try.ntmps4
    go_wp2_with (go_at_call 10; refine (elect_awake _).mono ?_; rintro e w1 ⟨rfl, hm⟩)
    go_ret
    exact ⟨rfl, hm⟩

theorem clockptr_info : (Try.prog.info? 24).map (fun i => (i.zero, i.size, i.bytes)) = some (some (.pointer none), 1, 8) := by kernel_rfl

set_option maxHeartbeats 2000000 in
theorem alone_in (a0 : Option Addr) (len cap : Nat) (zs : List Int) (w : World) (hr : Reads w (fun _ => True) 1 a0 len (zs.map (Value.int .i64))) (hlen : len ≤ 20) (hpos : 0 < len) :
    Calls Try.prog 4 #[.slice a0 len cap] w fun e w' => e = .returned (.bool true) ∧ Mod Non w w' := by
  have hl : ¬ (20 : Int) < (len : Int) := by omega
  have hl0 : ((len : Int) == 0) = false := by simp; omega
  have hll := hr.1
  rw [List.length_map, Nat.mul_one] at hll
  have HLL := Lib.hid hll
  clear hll
  obtain ⟨i0, hi, hz0, hz1, hz2⟩ := info_parts clockptr_info
  have Hi := Lib.hid hi; have Hz0 := Lib.hid hz0; have Hz1 := Lib.hid hz1; have Hz2 := Lib.hid hz2
  clear hi hz0 hz1 hz2
  go_enter Try.func4, Try.ntmps4
  go_wp2
  go_loopw [3, 4, 5] (fun m v i wr => ∃ (k : Nat) (q : Int) (bs : List Nat), k ≤ len ∧ i = .int .i64 k ∧ m = .int .i64 q ∧ bs.length = k ∧ 1 ≤ q ∧ q ≤ 10 ∧
      (∀ (j : Nat) n, j < k → zs[j]? = some n → 1 ≤ n ∧ n ≤ 9 ∧ q ≤ n) ∧ Clks wr w.heap.size zs bs (fun _ x => x = 0) ∧ wr.ownsRow w.heap.size 24 1 v k (bs.map pv) ∧ Mod Non w wr)
    (fun _ _ i _ => len - (intOf i).toNat)
  case atStart => exact ⟨0, 10, [], by omega, rfl, rfl, rfl, by omega, by omega, fun j n hj => by omega, ⟨by simp, by simp, by simp⟩, World.ownsRow_nil _ _ _ _, Mod.refl _ _⟩
  case round =>
    obtain ⟨k, q, bs, hk, rfl, rfl, hbl, hq1, hq10, hall, hcl, hown, hmr⟩ := hrel
    have HBL := Lib.hid hbl
    have HALL := Lib.hid hall
    clear hbl hall
    by_cases hlt : k < len
    · have hrr := hr.mod hmr (fun _ _ _ h => h)
      obtain ⟨ab, off, ha0, _, _, hcell⟩ := hrr.row (by omega) (by rw [List.length_map, HLL.out]; omega)
      have hkl : k < zs.length := by rw [HLL.out]; exact hlt
      obtain ⟨z, hz⟩ : ∃ z, zs[k]? = some z := ⟨_, List.getElem?_eq_getElem hkl⟩
      have hck := hcell k (.int .i64 z) (by simp [hz])
      clear hcell
      subst ha0
      have HZ := Lib.hid hz
      clear hz
      by_cases hz1 : z < 1
      · go_wp2_with (go_at_call 10; refine (elect_awake _).mono ?_; rintro e w1 ⟨rfl, hm⟩)
        go_ret
        exact ⟨rfl, hmr.trans' hm⟩
      · by_cases hz9 : 9 < z
        · go_wp2_with (go_at_call 10; refine (elect_awake _).mono ?_; rintro e w1 ⟨rfl, hm⟩)
          go_ret
          exact ⟨rfl, hmr.trans' hm⟩
        · have hsz := hmr.size
          have hnew : ∀ u ∈ [pv wr.heap.size], u.oneCell' = true := by intro u hu; simp at hu; subst hu; rfl
          by_cases hqz : q ≤ z
          all_goals
            go_wp2_with fail
            refine (elect_New_in z _ (by omega) (by omega)).mono ?_
            rintro e w1 ⟨rfl, hc1, hm1⟩
            have hown1 := own_non hown hm1
            have hcl1 := hcl.mod hm1 fun _ _ h => h
            have hne := hcl1.own (by rw [HBL.out]; omega) hown1
            have hnb : Hid (wr.heap.size ∉ bs) := fun hb => by have := (hcl.ge _ hb).2; omega
            have hsz1 : w.heap.size ≤ (w1.alloc (.cells #[pv wr.heap.size] 24)).heap.size := by have := hm1.size; simp; omega
            go_wp2_with (at_builtin; refine wpList_append_any _ rfl (.tmp 42) (.tmp 48) _ rfl w.heap.size 24 i0 _ 1 8 Try.underlying29 Hi.out Hz0.out Hz1.out Hz2.out rfl (by omega) _ k (bs.map pv) rfl (hown1.alloc _) (fun _ => True) (some ⟨w1.heap.size, 0, none⟩) 1 1 [pv wr.heap.size] rfl (reads_one _ _ _ _ trivial) hnew (by unfold maxLen; omega) (by omega) hsz1 ?_; intro v2 w2 hown2 hg2 hat2; clear hat2)
            have hm2 := mod_of_grown hg2
            have hcl2 := (hcl1.mod ((Mod.refl Non _).alloc _) fun _ _ h => h).mod hm2 hne
            have hc2 := (hc1.alloc _).mod hm2 (own_ne_blk hown1 hc1 (by decide))
            have hmod : Mod Non w w2 := ((hmr.trans' hm1).alloc _).trans hm2 fun i hi h => by have := (hown1.lt i h).1; omega
            have hgrow := hcl2.grow hc2 rfl (by rw [HBL.out]; exact HZ.out) hnb.out hsz
            clear hg2 hm2 hown1 hcl1 hne hc1 hm1 hcl2 hc2 hsz1 hck hown hcl hnew
            go_wp2
            go_roundw
            case rel =>
              first
                | exact ⟨k + 1, q, bs ++ [wr.heap.size], by omega, by go_num, rfl, by simp [HBL.out], hq1, hq10, alone_all HALL.out HZ.out (by omega) (by omega) (by omega) (by omega), hgrow, by simpa using hown2, hmod⟩
                | exact ⟨k + 1, z, bs ++ [wr.heap.size], by omega, by go_num, rfl, by simp [HBL.out], by omega, by omega, alone_all HALL.out HZ.out (by omega) (by omega) (by omega) (by omega), hgrow, by simpa using hown2, hmod⟩
            case measure => simp [intOf]; omega
    · obtain ⟨g, c, hv, hg1, hg2⟩ := hown.form (by omega)
      subst hv
      have hkl : len ≤ k := by omega
      go_wp2
      obtain ⟨wo, rfl⟩ : ∃ wo : World, wo = wr := ⟨_, rfl⟩
      go_loopw [6] (fun t wr => ∃ tt : Nat, 1 ≤ tt ∧ t = .int .i64 tt ∧ (tt : Int) ≤ 9 + 2 * q ∧ ((tt : Int) ≤ 8 + 2 * q → Clks wr w.heap.size zs bs (fun _ x => x = (tt : Int) - 1)) ∧
          wr.ownsRow w.heap.size 24 1 (.slice (some ⟨g, 0, none⟩) k c) k (bs.map pv) ∧ Mod Non w wr) (fun t _ => (9 + 2 * q - intOf t).toNat)
      case atStart => exact ⟨1, by omega, rfl, by omega, fun _ => hcl.weak fun _ _ _ h => by omega, hown, hmr⟩
      case round =>
        obtain ⟨tt, htt, rfl, htq, hcl', hown', hmr'⟩ := hrel
        by_cases hlast : (tt : Int) ≤ 8 + 2 * q
        · have hcl2 := hcl' hlast
          clear hcl'
          go_wp2
          obtain ⟨w1, rfl⟩ : ∃ w1 : World, w1 = wr := ⟨_, rfl⟩
          go_loopw [7] (fun j wr => ∃ jj : Nat, jj ≤ k ∧ j = .int .i64 jj ∧ Clks wr w.heap.size zs bs (fun i x => (jj ≤ i → x = (tt : Int) - 1) ∧ (i < jj → (tt : Int) < 8 + 2 * q → x = tt)) ∧
              wr.ownsRow w.heap.size 24 1 (.slice (some ⟨g, 0, none⟩) k c) k (bs.map pv) ∧ Mod Non w wr) (fun j _ => k - (intOf j).toNat)
          case atStart => exact ⟨0, by omega, rfl, hcl2.weak fun _ _ _ h => ⟨fun _ => h, fun h => by omega⟩, hown', hmr'⟩
          case round =>
            obtain ⟨jj, hjk, rfl, hcl3, hown3, hmr3⟩ := hrel
            by_cases hj : jj < k
            · have hrr := hr.here.mod hmr3 (fun _ _ _ h => h)
              obtain ⟨ab, off, ha0, hab3, hab, hcell⟩ := hrr.row (by omega) (by rw [List.length_map, HLL.out]; omega)
              have hjl : jj < zs.length := by rw [HLL.out]; omega
              have hjb : jj < bs.length := by rw [HBL.out]; exact hj
              obtain ⟨z, hz⟩ : ∃ z, zs[jj]? = some z := ⟨_, List.getElem?_eq_getElem hjl⟩
              obtain ⟨b, hb⟩ : ∃ b, bs[jj]? = some b := ⟨_, List.getElem?_eq_getElem hjb⟩
              have hck := hcell jj (.int .i64 z) (by simp [hz])
              have hcp : _ = some (Value.pointer (some ⟨b, 0, none⟩)) := (hown3.cellAt jj (by omega)).trans (by simp [hb, pv])
              clear hcell
              subst ha0
              obtain ⟨x, ⟨hx1, _⟩, hclk⟩ := hcl3.clk jj b z hb hz
              obtain ⟨z1, z9, zq⟩ := HALL.out jj z (by omega) hz
              have hx := hx1 (Nat.le_refl _)
              have HX := Lib.hid hx
              have HZ := Lib.hid hz
              have HB := Lib.hid hb
              have hge := (hcl3.ge b (List.mem_of_getElem? hb)).1
              have hob : ¬ (Value.slice (some ⟨g, 0, none⟩) k c).ownBlock = some b := own_ne_blk hown3 hclk (by decide)
              have hog : ∀ g', (Value.slice (some ⟨g, 0, none⟩) k c).ownBlock = some g' → ¬ One b g' := fun g' h1 h2 => hob (by unfold One at h2; rw [← h2]; exact h1)
              clear hx hz hb hx1 hjl hjb hob
              by_cases htl : (tt : Int) < 8 + 2 * q
              · have e1 : ((tt : Int) == 8 + 2 * q) = false := by simp; omega
                go_wp2_with fail
                refine (elect_Tick_no b _ x _ hclk (by rw [HX.out]; omega) (by rw [HX.out]; omega) (by rw [HX.out]; omega)).mono ?_
                rintro e w2 ⟨rfl, hc2, hm2⟩
                have hcl4 := hcl3.tick (Q' := fun i x => (jj + 1 ≤ i → x = (tt : Int) - 1) ∧ (i < jj + 1 → (tt : Int) < 8 + 2 * q → x = tt)) HB.out HZ.out hm2 hc2 ⟨fun h => by omega, fun _ _ => by rw [HX.out]; omega⟩ (fun i y hi h => ⟨fun h' => h.1 (by omega), fun h' h'' => h.2 (by omega) h''⟩)
                have hown4 := own_mod hown3 hm2 hog
                have hmr4 := hmr3.trans hm2 fun i hi h => by unfold One at h; omega
                clear hcl3 hm2 hc2 hclk hown3 hcp
                go_wp2
                go_roundw
                case rel => exact ⟨jj + 1, by omega, by go_num, hcl4, hown4, hmr4⟩
                case measure => simp [intOf]; omega
              · have hte : Hid ((tt : Int) = 8 + 2 * q) := by show _ = _; omega
                have e1 : ((tt : Int) == 8 + 2 * q) = true := by rw [hte.out]; simp
                by_cases hzq : z = q
                · have HZQ := Lib.hid hzq
                  clear hzq
                  have e2 : (z == q) = true := by rw [HZQ.out]; simp
                  go_wp2_with fail
                  refine (elect_Tick_yes b _ x _ hclk (by rw [HX.out]; omega) (by rw [HX.out]; omega) (by rw [HX.out, hte.out, HZQ.out]; omega)).mono ?_
                  rintro e w2 ⟨rfl, hc2, hm2⟩
                  have hck2 := (hm2.cell (p := ⟨ab, off + jj, none⟩) hab3 (fun h => by unfold One at h; simp only at h; omega)).trans hck
                  have hcl4 := hcl3.tick (Q' := fun i x => (jj + 1 ≤ i → x = (tt : Int) - 1) ∧ (i < jj + 1 → (tt : Int) < 8 + 2 * q → x = tt)) HB.out HZ.out hm2 hc2 ⟨fun h => by omega, fun _ h => by omega⟩ (fun i y hi h => ⟨fun h' => h.1 (by omega), fun h' h'' => h.2 (by omega) h''⟩)
                  have hown4 := own_mod hown3 hm2 hog
                  have hmr4 := hmr3.trans hm2 fun i hi h => by unfold One at h; omega
                  clear hcl3 hm2 hc2 hclk hown3 hcp hck
                  go_wp2
                  go_roundw
                  case rel => exact ⟨jj + 1, by omega, by go_num, hcl4, hown4, hmr4⟩
                  case measure => simp [intOf]; omega
                · have e2 : (z == q) = false := by simp [hzq]
                  have hzq' : q < z := by omega
                  clear hzq
                  go_wp2_with fail
                  refine (elect_Tick_no b _ x _ hclk (by rw [HX.out]; omega) (by rw [HX.out]; omega) (by rw [HX.out, hte.out]; omega)).mono ?_
                  rintro e w2 ⟨rfl, hc2, hm2⟩
                  have hck2 := (hm2.cell (p := ⟨ab, off + jj, none⟩) hab3 (fun h => by unfold One at h; simp only at h; omega)).trans hck
                  have hcl4 := hcl3.tick (Q' := fun i x => (jj + 1 ≤ i → x = (tt : Int) - 1) ∧ (i < jj + 1 → (tt : Int) < 8 + 2 * q → x = tt)) HB.out HZ.out hm2 hc2 ⟨fun h => by omega, fun _ h => by omega⟩ (fun i y hi h => ⟨fun h' => h.1 (by omega), fun h' h'' => h.2 (by omega) h''⟩)
                  have hown4 := own_mod hown3 hm2 hog
                  have hmr4 := hmr3.trans hm2 fun i hi h => by unfold One at h; omega
                  clear hcl3 hm2 hc2 hclk hown3 hcp hck
                  go_wp2
                  go_roundw
                  case rel => exact ⟨jj + 1, by omega, by go_num, hcl4, hown4, hmr4⟩
                  case measure => simp [intOf]; omega
            · go_wp2
              go_roundw
              case rel => exact ⟨tt + 1, by omega, by go_num, by omega, fun h => hcl3.weak fun i y hi hy => by have := hy.2 (by rw [HBL.out] at hi; omega) (by omega); omega, hown3, hmr3⟩
              case measure => simp [intOf]; omega
        · go_wp2_with (go_at_call 10; refine (elect_awake _).mono ?_; rintro e w1 ⟨rfl, hm⟩)
          go_ret
          exact ⟨rfl, hmr'.trans' hm⟩

theorem alone_done (a0 : Option Addr) (len cap : Nat) (zs : List Int) (w : World) (_ : zs.length = len) (_ : ∀ n ∈ zs, (Lit.int .i64 n).wf = true) (_ : len ≤ cap) (_ : cap ≤ maxLen) (hr : Reads w (fun _ => True) 1 a0 len (zs.map (Value.int .i64))) :
    Calls Try.prog 4 #[.slice a0 len cap] w fun e w' => e = .returned (.bool true) ∧ Below w.heap.size w w' := by
  by_cases h : 20 < len ∨ len = 0
  · exact (alone_edge a0 len cap w h).mono fun _ _ hh => ⟨hh.1, hh.2.below'⟩
  · exact (alone_in a0 len cap zs w hr (by omega) (by omega)).mono fun _ _ hh => ⟨hh.1, hh.2.below'⟩
end Go.Proofs.Ytlkifobajdafpaa
