/- Words on memory that the proofs of this seat share: what a call may turn ('Mod'), a block that is known whole ('Blk'), a slice that reads as a list ('Reads'). Plain theorems over any program; no condition. -/
import Derived.Handy
import Derived.WalkLawsBesides
import Derived.WalkSpells
import Derived.Deep.QuietTactic
import Derived.BigQuiet
import Derived.Lib.Hide
import Derived.Deep.Draws
import Derived.Deep.AppendLies
import Derived.Deep.DeepFit
import Derived.Deep.DeepMust
import Derived.Maps.AppendAt
import Derived.Lib.SliceRun
import Derived.RegionTactic
import Derived.Laws.ResultCell
import Derived.OwnWalk
import Derived.WalkKit
import Derived.ProofKit
import Derived.OpenShut
import Derived.ShutString
import Derived.ChangeOld
import Derived.Deep.Slices
import Derived.ChangeArms
import Derived.Test.YtdclfdinhdaadaaGreatDoorProg
import Derived.Laws.IdiomStrings
namespace Go.Proofs.YtdclfdinhdaadaaGreatDoor
open Go.RowKit

/-- Of what was there only blocks of S may have turned. -/
structure Mod (S : Nat → Prop) (w w' : World) : Prop where
  os : w'.os = w.os
  tape : w'.tape = w.tape
  output : w'.output = w.output
  size : w.heap.size ≤ w'.heap.size
  block : ∀ k, k < w.heap.size → ¬ S k → w'.heap[k]? = w.heap[k]?

def Non : Nat → Prop := fun _ => False
def One (b : Nat) : Nat → Prop := fun k => k = b

section
variable {S T : Nat → Prop} {a b c w w' : World}
theorem Mod.refl (S : Nat → Prop) (w : World) : Mod S w w := ⟨rfl, rfl, rfl, Nat.le_refl _, fun _ _ _ => rfl⟩
theorem Mod.mono (h : Mod S a b) (hs : ∀ k, k < a.heap.size → S k → T k) : Mod T a b :=
  ⟨h.os, h.tape, h.output, h.size, fun k hk hn => h.block k hk (fun hS => hn (hs k hk hS))⟩
/-- A later call may turn what the first may, and whatever is new. -/
theorem Mod.trans (h : Mod S a b) (k : Mod T b c) (ht : ∀ i, i < a.heap.size → T i → S i) : Mod S a c :=
  ⟨k.os.trans h.os, k.tape.trans h.tape, k.output.trans h.output, Nat.le_trans h.size k.size,
    fun i hi hn => (k.block i (Nat.lt_of_lt_of_le hi h.size) (fun hT => hn (ht i hi hT))).trans (h.block i hi hn)⟩
theorem Mod.trans' (h : Mod S a b) (k : Mod S b c) : Mod S a c := h.trans k fun _ _ h => h
theorem Mod.non (h : Mod Non a b) : Mod S a b := h.mono fun _ _ h => h.elim
theorem Mod.drew (h : Mod S a w) : Mod S a w.drew := ⟨h.os, h.tape, h.output, h.size, h.block⟩
theorem Mod.drewN (h : Mod S a w) (n : Nat) : Mod S a (w.drewN n) := ⟨h.os, h.tape, h.output, h.size, h.block⟩
theorem Mod.undrew (h : Mod S a.drew b) : Mod S a b := ⟨h.os, h.tape, h.output, h.size, h.block⟩
theorem Mod.undrewN {n : Nat} (h : Mod S (a.drewN n) b) : Mod S a b := ⟨h.os, h.tape, h.output, h.size, h.block⟩
theorem Mod.alloc (h : Mod S a w) (o : Obj) : Mod S a (w.alloc o) :=
  ⟨h.os, h.tape, h.output, Nat.le_trans h.size (by simp), fun k hk hn => (Below.heap_alloc w o k (Nat.lt_of_lt_of_le hk h.size)).trans (h.block k hk hn)⟩
theorem Mod.setCell (h : Mod S a w) {p : Addr} (hp : p.block < a.heap.size → S p.block) (u : Value) : Mod S a (w.setCell p u) :=
  ⟨h.os, h.tape, h.output, by simpa [World.setCell] using h.size, fun k hk hn => (Below.heap_setCell w p u k (fun e => hn (e ▸ hp (e ▸ hk)))).trans (h.block k hk hn)⟩
theorem Mod.setOne {b i : Nat} (h : Mod (One b) a w) (u : Value) : Mod (One b) a (w.setCell ⟨b, i, none⟩ u) := h.setCell (p := ⟨b, i, none⟩) (fun _ => rfl) u
theorem Mod.cell (h : Mod S a b) {p : Addr} (hp : p.block < a.heap.size) (hn : ¬ S p.block) : b.cell? p = a.cell? p := World.cell?_of_block (h.block p.block hp hn)
theorem Mod.frozen (h : Mod S a b) {p : Addr} (hp : p.block < a.heap.size) (hn : ¬ S p.block) : b.frozen? p = a.frozen? p := World.frozen?_of_block (h.block p.block hp hn)
theorem Mod.one (w : World) (b i : Nat) (u : Value) : Mod (One b) w (w.setCell ⟨b, i, none⟩ u) := (Mod.refl _ _).setOne u
theorem Mod.of_below {B : Nat} (h : Below B a b) : Mod (fun k => B ≤ k) a b := ⟨h.os, h.tape, h.output, h.size, fun k _ hn => h.block k (by omega)⟩
theorem Mod.of_below' (h : Below a.heap.size a b) : Mod S a b := (Mod.of_below h).mono fun k hk hB => by omega
theorem Mod.of_grown {row : Option Nat} (h : a.grownBy b row) (hr : ∀ k, row = some k → k < a.heap.size → S k) : Mod S a b :=
  ⟨h.os, h.tape, h.output, h.size, fun k hk hn => h.block k hk (fun e => hn (hr k e.symm hk))⟩
theorem Mod.below {B : Nat} (h : Mod S a b) (hB : B ≤ a.heap.size) (hs : ∀ k, k < B → ¬ S k) : Below B a b :=
  ⟨h.os, h.tape, h.output, h.size, fun k hk => h.block k (by omega) (hs k hk)⟩
theorem Mod.below' (h : Mod Non a b) : Below a.heap.size a b := h.below (Nat.le_refl _) fun _ _ h => h
theorem Mod.grown (h : Mod Non a b) (row : Option Nat) : a.grownBy b row := ⟨h.os, h.tape, h.output, h.size, fun k hk _ => h.block k hk (fun h => h)⟩
theorem Mod.grownOne {g : Nat} (h : Mod (One g) a b) : a.grownBy b (some g) := ⟨h.os, h.tape, h.output, h.size, fun k hk hn => h.block k hk (fun e => hn (by rw [e]))⟩
end

/-- Block g is just the cells cs of element type t, none frozen. -/
def Blk (w : World) (g : Nat) (t : TypeId) (cs : Array Value) : Prop := w.heap[g]? = some (.cells cs t (0, 0))
section
variable {w w' : World} {g : Nat} {t : TypeId} {cs : Array Value} {S : Nat → Prop}
theorem Blk.lt (h : Blk w g t cs) : g < w.heap.size := by
  rcases Nat.lt_or_ge g w.heap.size with hlt | hge
  · exact hlt
  · unfold Blk at h; rw [Array.getElem?_eq_none hge] at h; cases h
theorem Blk.cell (h : Blk w g t cs) (i : Nat) : w.cell? ⟨g, i, none⟩ = cs[i]? := cell_of_row w g i cs t (0, 0) h
theorem Blk.frozen (h : Blk w g t cs) (i : Nat) : w.frozen? ⟨g, i, none⟩ = false := by
  unfold Blk at h
  simp [World.frozen?, h]
theorem Blk.new (w : World) (t : TypeId) (cs : Array Value) : Blk (w.alloc (.cells cs t)) w.heap.size t cs := heap_alloc_new w _
theorem Blk.drew (h : Blk w g t cs) : Blk w.drew g t cs := h
theorem Blk.drewN (h : Blk w g t cs) (n : Nat) : Blk (w.drewN n) g t cs := h
theorem Blk.alloc (h : Blk w g t cs) (o : Obj) : Blk (w.alloc o) g t cs := (Below.heap_alloc w o g h.lt).trans h
theorem Blk.set_ (h : Blk w g t cs) (i : Nat) (u : Value) : Blk (w.setCell ⟨g, i, none⟩ u) g t (cs.setIfInBounds i u) := by
  unfold Blk at h ⊢
  simp [World.setCell, Array.getElem?_modify, h]
theorem Blk.far (h : Blk w g t cs) {p : Addr} (hp : g ≠ p.block) (u : Value) : Blk (w.setCell p u) g t cs := (Below.heap_setCell w p u g hp).trans h
theorem Blk.below {B : Nat} (h : Blk w g t cs) (hb : Below B w w') (hg : g < B) : Blk w' g t cs := (hb.block g hg).trans h
theorem Blk.mod (h : Blk w g t cs) (hm : Mod S w w') (hg : ¬ S g) : Blk w' g t cs := (hm.block g h.lt hg).trans h
theorem Blk.grown {row : Option Nat} (h : Blk w g t cs) (hb : w.grownBy w' row) (hg : some g ≠ row) : Blk w' g t cs := (hb.block g h.lt hg).trans h
theorem Blk.ne_ {g' : Nat} {t' : TypeId} {cs' : Array Value} (h : Blk w g t cs) (h' : Blk w g' t' cs') (hne : t ≠ t') : g ≠ g' := by
  rintro rfl
  unfold Blk at h h'
  rw [h] at h'
  injection h' with h'
  injection h' with _ ht
  exact hne ht
theorem Blk.same {t' : TypeId} {cs' : Array Value} (h : Blk w g t cs) (h' : Blk w g t' cs') : cs = cs' := by
  unfold Blk at h h'
  rw [h] at h'
  injection h' with h'
  injection h' with h' _
theorem own_blk_ne {base : Nat} {e : TypeId} {size n : Nat} {v : Value} {xs : List Value} (h : w.ownsRow base e size v n xs) (hg : Blk w g t cs) (hne : e ≠ t) : v.ownBlock ≠ some g := by
  rcases h.2 with ⟨rfl, _⟩ | ⟨g', cap, cur, rfl, _, hh, _⟩
  · simp [Value.ownBlock]
  · intro he
    have : g' = g := by simpa [Value.ownBlock] using he
    subst this
    exact Blk.ne_ (t := e) hh hg hne rfl
end

theorem block_of_add (a : Addr) (n : Nat) : (a.add n).block = a.block := by unfold Addr.add; split <;> rfl
theorem add_of_add (a : Addr) (i j : Nat) : (a.add i).add j = a.add (i + j) := by
  unfold Addr.add
  by_cases hi : i = 0 <;> by_cases hj : j = 0 <;> simp [hi, hj, Nat.add_assoc]

/-- The slice value '.slice A n c' holds the cells xs, and lies in a block that keeps to R. -/
def Reads (w : World) (R : Nat → Prop) (size : Nat) (A : Option Addr) (n : Nat) (xs : List Value) : Prop :=
  xs.length = n * size ∧ (0 < n → ∃ ad, A = some ad ∧ ad.block < w.heap.size ∧ R ad.block ∧ ∀ j u, xs[j]? = some u → w.cell? (ad.add j) = some u)

section
variable {w w' : World} {R R' S : Nat → Prop} {size n : Nat} {A : Option Addr} {xs : List Value}
theorem Reads.none_ : Reads w R size A 0 [] := ⟨by simp, fun h => absurd h (by omega)⟩
theorem Reads.at_ {k : Nat} (h : Reads w R 1 A n xs) (hk : k < n) : ∃ ad u, A = some ad ∧ R ad.block ∧ xs[k]? = some u ∧ w.cell? (ad.add k) = some u := by
  obtain ⟨ad, e, _, hb, hc⟩ := h.2 (by omega)
  have hl : k < xs.length := by have := h.1; omega
  exact ⟨ad, xs[k], e, hb, List.getElem?_eq_getElem hl, hc k _ (List.getElem?_eq_getElem hl)⟩
theorem Reads.keep (h : Reads w R size A n xs) (hs : w.heap.size ≤ w'.heap.size) (hk : ∀ p : Addr, p.block < w.heap.size → R p.block → w'.cell? p = w.cell? p) : Reads w' R size A n xs :=
  ⟨h.1, fun hn => by
    obtain ⟨ad, e, hl, hb, hc⟩ := h.2 hn
    exact ⟨ad, e, by omega, hb, fun j u hu => (hk _ (by rw [block_of_add]; exact hl) (by rw [block_of_add]; exact hb)).trans (hc j u hu)⟩⟩
theorem Reads.more (h : Reads w R size A n xs) (hR : ∀ k, k < w.heap.size → R k → R' k) : Reads w R' size A n xs :=
  ⟨h.1, fun hn => by
    obtain ⟨ad, e, hl, hb, hc⟩ := h.2 hn
    exact ⟨ad, e, hl, hR _ hl hb, hc⟩⟩
theorem Reads.more' (h : Reads w R size A n xs) (hR : ∀ k, k < w.heap.size → R k → R' k) : Reads w R' size A n xs := h.more hR
theorem Reads.mod (h : Reads w R size A n xs) (hm : Mod S w w') (hS : ∀ k, k < w.heap.size → R k → ¬ S k) : Reads w' R size A n xs :=
  h.keep hm.size fun p hp hr => World.cell?_of_block (hm.block p.block hp (hS _ hp hr))
theorem Reads.drewN (h : Reads w R size A n xs) (k : Nat) : Reads (w.drewN k) R size A n xs := h
theorem Reads.alloc (h : Reads w R size A n xs) (o : Obj) : Reads (w.alloc o) R size A n xs := h.keep (by simp) fun p hp _ => World.cell?_alloc_lt w o p hp
theorem Reads.cut (h : Reads w R size A n xs) {k cap : Nat} (hk : k ≤ n) (hc : n ≤ cap) :
    Reads w R size (if cap = k then A else A.map (·.add (k * size))) (n - k) (xs.drop (k * size)) := by
  refine ⟨by rw [List.length_drop, h.1, Nat.sub_mul], fun hn => ?_⟩
  obtain ⟨ad, rfl, hl, hb, hcell⟩ := h.2 (by omega)
  rw [if_neg (by omega)]
  refine ⟨ad.add (k * size), rfl, by rw [block_of_add]; exact hl, by rw [block_of_add]; exact hb, fun j u hu => ?_⟩
  rw [add_of_add]
  exact hcell _ u (by rw [← hu, List.getElem?_drop])
theorem Reads.take (h : Reads w R size A n xs) {k : Nat} (hk : k ≤ n) : Reads w R size A k (xs.take (k * size)) := by
  refine ⟨by rw [List.length_take, h.1]; exact Nat.min_eq_left (Nat.mul_le_mul_right _ hk), fun hn => ?_⟩
  obtain ⟨ad, rfl, hl, hb, hcell⟩ := h.2 (by omega)
  refine ⟨ad, rfl, hl, hb, fun j u hu => hcell j u ?_⟩
  rw [List.getElem?_take] at hu
  split at hu
  · exact hu
  · cases hu
theorem Reads.here (h : Reads w R size A n xs) : Reads w (fun k => k < w.heap.size) size A n xs := h.more' fun _ hk _ => hk
theorem Reads.row (h : Reads w R size A n xs) (hn : 0 < n) (hk : 0 < xs.length) :
    ∃ b off, A = some ⟨b, off, none⟩ ∧ b < w.heap.size ∧ R b ∧ ∀ j u, xs[j]? = some u → w.cell? ⟨b, off + j, none⟩ = some u := by
  obtain ⟨ad, rfl, hl, hb, hc⟩ := h.2 hn
  obtain ⟨b, off, spot⟩ := ad
  have h0 := hc 0 _ (List.getElem?_eq_getElem hk)
  have hs : spot = none := World.cell?_spot h0
  subst hs
  refine ⟨b, off, rfl, hl, hb, fun j u hu => ?_⟩
  have hj := hc j u hu
  rwa [show (⟨b, off, none⟩ : Addr).add j = ⟨b, off + j, none⟩ from by unfold Addr.add; split <;> simp_all] at hj
theorem Reads.of_own {base : Nat} {e : TypeId} {c : Nat} (h : w.ownsRow base e size (.slice A n c) n xs) : Reads w (fun k => some k = (Value.slice A n c).ownBlock) size A n xs := by
  refine ⟨h.1, fun hn => ?_⟩
  obtain ⟨g, cap, hv, _, hlt⟩ := h.form hn
  have hA : A = some ⟨g, 0, none⟩ := by injection hv
  subst hA
  exact ⟨_, rfl, hlt, rfl, h.cells (g := g) rfl⟩
end
section
variable {P : Program} (w : World)

theorem run_append_of_nil (base : Nat) (t ty e : TypeId) (i : TypeInfo) (size : Nat) (ht : P.underlying t = some (.slice e)) (hi : P.info? e = some i)
    (v : Value) (n : Nat) (xs : List Value) (hown : w.ownsRow base e size v n xs) (c : Nat) : (Builtin.append_ #[t, t] ty #[v, .slice none 0 c]).run P w = .ok v w := by
  rcases hown.2 with ⟨rfl, rfl⟩ | ⟨g, cap, cur, rfl, _, _, hnc, _⟩
  · simp [Builtin.append_, run_underlying ht, sizeOf, typeInfo, hi, Builtin.lenOf, Builtin.firstCells]
  · simp [Builtin.append_, run_underlying ht, sizeOf, typeInfo, hi, Builtin.lenOf, Builtin.firstCells, hnc, storeCells]

theorem run_append_any (base : Nat) (t ty e : TypeId) (i : TypeInfo) (z : Value) (size bytes : Nat) (ht : P.underlying t = some (.slice e)) (hi : P.info? e = some i) (hz : i.zero = some z)
    (hsize : i.size = size) (hby : i.bytes = bytes) (hzs : z.cells.size = size) (hsz : 0 < size)
    (v : Value) (n : Nat) (xs : List Value) (hown : w.ownsRow base e size v n xs)
    (R : Nat → Prop) (A : Option Addr) (m c : Nat) (news : List Value) (hr : Reads w R size A m news) (h1 : ∀ u ∈ news, u.oneCell' = true)
    (h63 : n + m ≤ maxLen) (hbytes : (n + m) * bytes ≤ 140737488355328) (hbase : base ≤ w.heap.size) :
    ∃ v' w', (Builtin.append_ #[t, t] ty #[v, .slice A m c]).run P w = .ok v' w' ∧ w'.ownsRow base e size v' (n + m) (xs ++ news) ∧ w.grownBy w' v.ownBlock ∧
      (v'.ownBlock = v.ownBlock ∨ v'.ownBlock = some w.heap.size) := by
  rcases A with _ | ad
  · have hm : m = 0 := by
      rcases Nat.eq_zero_or_pos m with h0 | h0
      · exact h0
      · obtain ⟨ad, h, _⟩ := hr.2 h0
        cases h
    subst hm
    have hn : news = [] := List.eq_nil_of_length_eq_zero (by simpa using hr.1)
    subst hn
    exact ⟨v, w, run_append_of_nil w base t ty e i size ht hi v n xs hown c, by simpa using hown, World.grownBy.refl w _, .inl rfl⟩
  · have hcells : ∀ j u, news[j]? = some u → w.cell? (ad.add j) = some u := by
      intro j u hu
      rcases Nat.eq_zero_or_pos m with h0 | h0
      · subst h0
        have hn : news = [] := List.eq_nil_of_length_eq_zero (by simpa using hr.1)
        subst hn
        simp at hu
      · obtain ⟨ad', h, _, _, hc⟩ := hr.2 h0
        injection h with h
        subst h
        exact hc j u hu
    obtain ⟨v', w', hrun, h2, h3, _, h5⟩ := run_append_own_at (P := P) w base t ty e i z size bytes ht hi hz hsize hby hzs hsz v n xs hown ad m c news hr.1 hcells h1 h63 hbytes hbase
    exact ⟨v', w', hrun, h2, h3, h5⟩

theorem wp_append_any {o : Oper} {a : Act} {K : Act → World → Prop} {Q : Exit → Act → World → Prop} (s x : Operand) (t : TypeId)
    (ho : o.op = .call { callee := .builtin .append, args := #[s, x], argTypes := #[t, t] })
    (base : Nat) (e : TypeId) (i : TypeInfo) (z : Value) (size bytes : Nat) (ht : P.underlying t = some (.slice e)) (hi : P.info? e = some i) (hz : i.zero = some z)
    (hsize : i.size = size) (hby : i.bytes = bytes) (hzs : z.cells.size = size) (hsz : 0 < size)
    (v : Value) (n : Nat) (xs : List Value) (hs : a.eval s = v) (hown : w.ownsRow base e size v n xs)
    (R : Nat → Prop) (A : Option Addr) (m c : Nat) (news : List Value) (hx : a.eval x = .slice A m c) (hr : Reads w R size A m news) (h1 : ∀ u ∈ news, u.oneCell' = true)
    (h63 : n + m ≤ maxLen) (hbytes : (n + m) * bytes ≤ 140737488355328) (hbase : base ≤ w.heap.size)
    (h : ∀ v' w', w'.ownsRow base e size v' (n + m) (xs ++ news) → w.grownBy w' v.ownBlock → (v'.ownBlock = v.ownBlock ∨ v'.ownBlock = some w.heap.size) → K (a.put o.dst v') w') : o.wp P a w K Q := by
  obtain ⟨v', w', hrun, h2, h3, h4⟩ := run_append_any (P := P) w base t o.type e i z size bytes ht hi hz hsize hby hzs hsz v n xs hown R A m c news hr h1 h63 hbytes hbase
  unfold Oper.wp execOp
  simp only [ho, resolve, invoke, builtin, Sem.run_bind, Sem.run_pure, Result.andThen_ok, List.map_toArray, List.map_cons, List.map_nil, hs, hx, hrun]
  exact h v' w' h2 h3 h4

theorem wpList_append_any {ops : Array Oper} {rest : List Oper} {o : Oper} {a : Act} {Q : Exit → Act → World → Prop} (hgd : o.guard = none) (s x : Operand) (t : TypeId)
    (ho : o.op = .call { callee := .builtin .append, args := #[s, x], argTypes := #[t, t] })
    (base : Nat) (e : TypeId) (i : TypeInfo) (z : Value) (size bytes : Nat) (ht : P.underlying t = some (.slice e)) (hi : P.info? e = some i) (hz : i.zero = some z)
    (hsize : i.size = size) (hby : i.bytes = bytes) (hzs : z.cells.size = size) (hsz : 0 < size)
    (v : Value) (n : Nat) (xs : List Value) (hs : a.eval s = v) (hown : w.ownsRow base e size v n xs)
    (R : Nat → Prop) (A : Option Addr) (m c : Nat) (news : List Value) (hx : a.eval x = .slice A m c) (hr : Reads w R size A m news) (h1 : ∀ u ∈ news, u.oneCell' = true)
    (h63 : n + m ≤ maxLen) (hbytes : (n + m) * bytes ≤ 140737488355328) (hbase : base ≤ w.heap.size)
    (h : ∀ v' w', w'.ownsRow base e size v' (n + m) (xs ++ news) → w.grownBy w' v.ownBlock → (v'.ownBlock = v.ownBlock ∨ v'.ownBlock = some w.heap.size) → wpList P ops Q rest (a.put o.dst v') w') : wpList P ops Q (o :: rest) a w :=
  wpList_plain hgd fun _ hK => wp_append_any w s x t ho base e i z size bytes ht hi hz hsize hby hzs hsz v n xs hs hown R A m c news hx hr h1 h63 hbytes hbase fun v' w' h2 h3 h4 => hK _ _ (h v' w' h2 h3 h4)

theorem step_append_any {ops : Array Oper} {o : Oper} {a : Act} {K : Act → World → Prop} {Q : Exit → Act → World → Prop} {E : Prop} (hgd : o.guard = none) (s x : Operand) (t : TypeId)
    (ho : o.op = .call { callee := .builtin .append, args := #[s, x], argTypes := #[t, t] })
    (base : Nat) (e : TypeId) (i : TypeInfo) (z : Value) (size bytes : Nat) (ht : P.underlying t = some (.slice e)) (hi : P.info? e = some i) (hz : i.zero = some z)
    (hsize : i.size = size) (hby : i.bytes = bytes) (hzs : z.cells.size = size) (hsz : 0 < size)
    (v : Value) (n : Nat) (xs : List Value) (hs : a.eval s = v) (hown : w.ownsRow base e size v n xs)
    (R : Nat → Prop) (A : Option Addr) (m c : Nat) (news : List Value) (hx : a.eval x = .slice A m c) (hr : Reads w R size A m news) (h1 : ∀ u ∈ news, u.oneCell' = true)
    (h63 : n + m ≤ maxLen) (hbytes : (n + m) * bytes ≤ 140737488355328) (hbase : base ≤ w.heap.size)
    (h : ∀ v' w', w'.ownsRow base e size v' (n + m) (xs ++ news) → w.grownBy w' v.ownBlock → (v'.ownBlock = v.ownBlock ∨ v'.ownBlock = some w.heap.size) → K (a.put o.dst v') w') :
    if Region.wanted o (yielded ops a.tmps) = true then Oper.wp P o a w K Q else E := by
  have hw : Region.wanted o (yielded ops a.tmps) = true := by simp [Region.wanted, hgd]
  rw [if_pos hw]
  exact wp_append_any w s x t ho base e i z size bytes ht hi hz hsize hby hzs hsz v n xs hs hown R A m c news hx hr h1 h63 hbytes hbase h
end

theorem reads_one (w : World) (x : Value) (t : TypeId) (R : Nat → Prop) (hR : R w.heap.size) : Reads (w.alloc (.cells #[x] t)) R 1 (some ⟨w.heap.size, 0, none⟩) 1 [x] :=
  ⟨rfl, fun _ => ⟨_, rfl, by simp, hR, cell_one_new w x t⟩⟩
theorem reads_new (w : World) (cs : Array Value) (t : TypeId) (R : Nat → Prop) (hR : R w.heap.size) (size : Nat) (hs : cs.size = size) : Reads (w.alloc (.cells cs t)) R size (some ⟨w.heap.size, 0, none⟩) 1 cs.toList :=
  ⟨by simp [hs], fun _ => ⟨_, rfl, by simp, hR, World.news_of_block (heap_alloc_new w _)⟩⟩
section
variable {w w' : World} {S : Nat → Prop} {base : Nat} {e : TypeId} {size n : Nat} {v : Value} {xs : List Value}
theorem own_mod (h : w.ownsRow base e size v n xs) (hm : Mod S w w') (hS : ∀ g, v.ownBlock = some g → ¬ S g) : w'.ownsRow base e size v n xs := by
  refine ⟨h.1, ?_⟩
  rcases h.2 with hn | ⟨g, cap, cur, rfl, hb, hgg, rest⟩
  · exact .inl hn
  · refine .inr ⟨g, cap, cur, rfl, hb, ?_, rest⟩
    rw [hm.block g (Array.getElem?_eq_some_iff.1 hgg).1 (hS g rfl)]
    exact hgg
theorem own_take {g c i : Nat} (h : w.ownsRow base e size (.slice (some ⟨g, 0, none⟩) n c) n xs) (hi : i ≤ n) : w.ownsRow base e size (.slice (some ⟨g, 0, none⟩) i c) i (xs.take (i * size)) := by
  obtain ⟨h1, h2⟩ := h
  rcases h2 with ⟨h0, _⟩ | ⟨g', cap, cur, hv, hb, hgg, hnc, hcm, hcs, htk⟩
  · cases h0
  · injection hv with hv1 _ hv3
    injection hv1 with hv1
    injection hv1 with hv1 _ _
    subst hv1 hv3
    refine ⟨by rw [List.length_take, h1]; exact Nat.min_eq_left (Nat.mul_le_mul_right _ hi), .inr ⟨g, c, cur, rfl, hb, hgg, by omega, hcm, hcs, ?_⟩⟩
    rw [← htk, List.take_take, Nat.min_eq_left (Nat.mul_le_mul_right _ hi)]
theorem own_non (h : w.ownsRow base e size v n xs) (hm : Mod Non w w') : w'.ownsRow base e size v n xs := own_mod h hm fun _ _ h => h
/-- What an append leaves, as 'Mod': only v's own block may have turned. -/
theorem mod_of_grown (hg : w.grownBy w' v.ownBlock) : Mod (fun k => v.ownBlock = some k) w w' := Mod.of_grown hg fun _ h _ => h
theorem mod_own (h : w.ownsRow base e size v n xs) (hg : w.grownBy w' v.ownBlock) : Mod (fun k => base ≤ k) w w' := Mod.of_grown hg fun k hk _ => (h.lt k hk).1
theorem own_ne_blk (h : w.ownsRow base e size v n xs) {g : Nat} {t : TypeId} {cs : Array Value} (hg : Blk w g t cs) (hne : e ≠ t) : ¬ (v.ownBlock = some g) := own_blk_ne h hg hne
end

/-- Two results, the first a struct or an array in memory. -/
theorem results_row_tmp {P : Program} {fn : Func} {p u : Tmp} {ty : TypeId} (h : fn.results = #[.cell p ty, .tmp u]) (tmps : Array Value) (w : World) (g : Nat) (t : TypeId) (cs : Array Value) (fr : Nat × Nat) (d : TypeDesc)
    (hp : tmps.getD p undef = .pointer (some ⟨g, 0, none⟩)) (hg : w.heap[g]? = some (.cells cs t fr))
    (hu : P.underlying ty = some d) (hd : (match d with | .struct _ | .array _ _ => true | _ => false) = true) (hi : (P.info? ty).map (·.size) = some cs.size) :
    (results fn tmps).run P w = .ok (.tuple #[.agg cs, tmps.getD u undef]) w := by
  rw [results_cell_tmp h, hp]
  simp [asAddr, run_loadVar_row w g t ty cs fr d hg hu hd hi]

/-- Three results, the one in the middle a struct or an array in memory. -/
theorem results_tmp_row_tmp {P : Program} {fn : Func} {s p u : Tmp} {ty : TypeId} (h : fn.results = #[.tmp s, .cell p ty, .tmp u]) (tmps : Array Value) (w : World) (g : Nat) (t : TypeId) (cs : Array Value) (fr : Nat × Nat) (d : TypeDesc)
    (hp : tmps.getD p undef = .pointer (some ⟨g, 0, none⟩)) (hg : w.heap[g]? = some (.cells cs t fr))
    (hu : P.underlying ty = some d) (hd : (match d with | .struct _ | .array _ _ => true | _ => false) = true) (hi : (P.info? ty).map (·.size) = some cs.size) :
    (results fn tmps).run P w = .ok (.tuple #[tmps.getD s undef, .agg cs, tmps.getD u undef]) w := by
  have hp' : tmps[p]?.getD undef = .pointer (some ⟨g, 0, none⟩) := by simpa using hp
  simp [results, h, hp', asAddr, run_loadVar_row w g t ty cs fr d hg hu hd hi]
theorem Blk.reads {w : World} {g t size : Nat} {cs : Array Value} (h : Blk w g t cs) (hs : cs.size = size) : Reads w (fun _ => True) size (some ⟨g, 0, none⟩) 1 cs.toList :=
  ⟨by simp [hs], fun _ => ⟨_, rfl, h.lt, trivial, World.news_of_block h⟩⟩
theorem Blk.new1 (w : World) (o1 : Obj) (t : TypeId) (cs : Array Value) : Blk ((w.alloc o1).alloc (.cells cs t)) (w.heap.size + 1) t cs := by
  have h := Blk.new (w.alloc o1) t cs
  rwa [World.size_alloc] at h
theorem Blk.new2 (w : World) (o1 o2 : Obj) (t : TypeId) (cs : Array Value) : Blk (((w.alloc o1).alloc o2).alloc (.cells cs t)) (w.heap.size + 2) t cs := by
  have h := Blk.new ((w.alloc o1).alloc o2) t cs
  simpa using h
theorem Blk.new3 (w : World) (o1 o2 o3 : Obj) (t : TypeId) (cs : Array Value) : Blk ((((w.alloc o1).alloc o2).alloc o3).alloc (.cells cs t)) (w.heap.size + 3) t cs := by
  have h := Blk.new (((w.alloc o1).alloc o2).alloc o3) t cs
  simpa using h
end Go.Proofs.YtdclfdinhdaadaaGreatDoor

/- Numbers in as few bytes as can be, in plain Lean: the bytes of a number, the number of bytes. No program in sight. -/
namespace Go.Proofs.YtdclfdinhdaadaaGreatDoor
open Go.RowKit

/-- a byte as a value -/
def vb (x : UInt8) : Value := .int .u8 (x.toNat : Int)
def vbs (l : List UInt8) : List Value := l.map vb
theorem vbs_length (l : List UInt8) : (vbs l).length = l.length := by simp [vbs]
theorem vbs_append (a b : List UInt8) : vbs (a ++ b) = vbs a ++ vbs b := by simp [vbs]
theorem vbs_one (l : List UInt8) : ∀ u ∈ vbs l, u.oneCell' = true := by
  intro u hu
  obtain ⟨x, _, rfl⟩ := List.mem_map.1 hu
  rfl
theorem vbs_get {l : List UInt8} {j : Nat} (h : j < l.length) : (vbs l)[j]? = some (.int .u8 ((l[j]).toNat : Int)) := by simp [vbs, vb, h]

theorem vb_of {k : Nat} (h : k < 256) : vb (UInt8.ofNat k) = .int .u8 (k : Int) := by
  unfold vb
  rw [UInt8.toNat_ofNat', Nat.mod_eq_of_lt h]

/-- The value v is a slice of bytes that the call itself made: just the bytes l. -/
def OwnB (w : World) (B : Nat) (v : Value) (l : List UInt8) : Prop := w.ownsRow B 5 1 v l.length (vbs l)
section
variable {w w' : World} {B : Nat} {v : Value} {l : List UInt8} {S : Nat → Prop}
theorem OwnB.nil (w : World) (B : Nat) : OwnB w B (.slice none 0 0) [] := World.ownsRow_nil _ _ _ _
theorem OwnB.form (h : OwnB w B v l) : ∃ A m c, v = .slice A m c ∧ Hid (m = l.length) ∧ m ≤ c := by
  rcases h.2 with ⟨rfl, h0⟩ | ⟨g, cap, cur, rfl, _, _, hc, _⟩
  · exact ⟨none, 0, 0, rfl, h0.symm, Nat.le_refl _⟩
  · exact ⟨_, _, cap, rfl, rfl, hc⟩
theorem OwnB.reads {A : Option Addr} {n c : Nat} (h : OwnB w B (.slice A n c) l) : Reads w (fun k => B ≤ k ∧ some k = (Value.slice A n c).ownBlock) 1 A n (vbs l) := by
  have hn : n = l.length := by
    rcases h.2 with ⟨h1, h0⟩ | ⟨g, cap, cur, h1, _⟩
    · injection h1 with _ h2 _; rw [h2, h0]
    · injection h1
  subst hn
  exact (Reads.of_own h).more fun k _ hk => ⟨(World.ownsRow.lt h k hk.symm).1, hk⟩
theorem OwnB.non (h : OwnB w B v l) (hm : Mod Non w w') : OwnB w' B v l := own_non h hm
theorem OwnB.mod (h : OwnB w B v l) (hm : Mod S w w') (hS : ∀ g, v.ownBlock = some g → ¬ S g) : OwnB w' B v l := own_mod h hm hS
theorem OwnB.below (h : OwnB w B v l) {B' : Nat} (hB : B' ≤ B) : OwnB w B' v l := by
  refine ⟨h.1, ?_⟩
  rcases h.2 with h1 | ⟨g, cap, cur, h1, h2, h3⟩
  · exact .inl h1
  · exact .inr ⟨g, cap, cur, h1, by omega, h3⟩
end

/-- The bytes of a number: seven bits each, the least first; all but the last have 128 besides. -/
def vbytes (n : Nat) : List UInt8 :=
  if n < 128 then [UInt8.ofNat n] else UInt8.ofNat (128 + n % 128) :: vbytes (n / 128)
termination_by n
decreasing_by omega

theorem vbytes_small {n : Nat} (h : n < 128) : vbytes n = [UInt8.ofNat n] := by rw [vbytes, if_pos h]
theorem vbytes_large {n : Nat} (h : ¬ n < 128) : vbytes n = UInt8.ofNat (128 + n % 128) :: vbytes (n / 128) := by rw [vbytes, if_neg h]

theorem vbytes_pos (n : Nat) : 1 ≤ (vbytes n).length := by
  rw [vbytes]; split <;> simp

theorem vbytes_le (k : Nat) : ∀ n, n < 128 ^ (k + 1) → (vbytes n).length ≤ k + 1 := by
  induction k with
  | zero => intro n h; rw [vbytes_small (by simpa using h)]; simp
  | succ k ih =>
    intro n h
    by_cases hn : n < 128
    · rw [vbytes_small hn]; simp
    · rw [vbytes_large hn, List.length_cons]
      have := ih (n / 128) (by rw [Nat.div_lt_iff_lt_mul (by omega)]; rw [Nat.pow_succ] at h; exact h)
      omega
theorem vbytes_nine {n : Nat} (h : n < 9223372036854775808) : (vbytes n).length ≤ 9 := vbytes_le 8 n (by simpa using h)

/-- A number and what stands behind its bytes: told apart from another number and what stands behind that. -/
theorem vbytes_apart (a : Nat) : ∀ b (x y : List UInt8), vbytes a ++ x = vbytes b ++ y → a = b ∧ x = y := by
  induction a using Nat.strongRecOn with
  | _ a ih =>
    intro b x y h
    by_cases ha : a < 128
    · rw [vbytes_small ha] at h
      by_cases hb : b < 128
      · rw [vbytes_small hb] at h
        simp at h
        obtain ⟨h1, h2⟩ := h
        have e := congrArg UInt8.toNat h1
        simp [UInt8.toNat_ofNat'] at e
        exact ⟨by omega, h2⟩
      · rw [vbytes_large hb] at h
        simp at h
        have e := congrArg UInt8.toNat h.1
        simp [UInt8.toNat_ofNat', UInt8.toNat_add] at e
        omega
    · rw [vbytes_large ha] at h
      by_cases hb : b < 128
      · rw [vbytes_small hb] at h
        simp at h
        have e := congrArg UInt8.toNat h.1
        simp [UInt8.toNat_ofNat', UInt8.toNat_add] at e
        omega
      · rw [vbytes_large hb] at h
        simp only [List.cons_append, List.cons.injEq] at h
        obtain ⟨h1, h2⟩ := h
        obtain ⟨h3, h4⟩ := ih (a / 128) (by omega) _ _ _ h2
        have e := congrArg UInt8.toNat h1
        simp only [UInt8.toNat_ofNat'] at e
        exact ⟨by omega, h4⟩

theorem or_128 (k : Nat) : bits BinOp.or IntKind.u8 ((k : Int) % 256) 128 = 128 + (k : Int) % 128 := by
  have h : ∀ x : Fin 256, bits BinOp.or IntKind.u8 (x.val : Int) 128 = 128 + (x.val : Int) % 128 := by decide +kernel
  have h1 := h ⟨k % 256, by omega⟩
  simp only at h1
  have e1 : ((k % 256 : Nat) : Int) = (k : Int) % 256 := by omega
  rw [e1] at h1
  rw [h1]
  omega

def sameB (a b : List UInt8) : Bool := a == b
theorem sameB_yes {a b : List UInt8} (h : a = b) : sameB a b = true := by simp [sameB, h]
theorem sameB_iff {a b : List UInt8} : sameB a b = true ↔ a = b := by simp [sameB]
end Go.Proofs.YtdclfdinhdaadaaGreatDoor

/- Arguments opened: a slice of whatever element type reads as a list. Plain theorems over any program. -/
namespace Go.Proofs.YtdclfdinhdaadaaGreatDoor
open Go.ChangeShapes Go.WideShapes Go.ChangeAt Go.RowKit Go.Deep

theorem flatMap_at {α β : Type} (f : α → List β) (s : Nat) (l : List α) (hf : ∀ x ∈ l, (f x).length = s) (j : Nat) (u : β) (h : (l.flatMap f)[j]? = some u) :
    ∃ i r x, j = i * s + r ∧ r < s ∧ l[i]? = some x ∧ (f x)[r]? = some u := by
  induction l generalizing j with
  | nil => simp at h
  | cons a l ih =>
    have ha : (f a).length = s := hf a (by simp)
    rw [List.flatMap_cons, List.getElem?_append] at h
    by_cases hj : j < (f a).length
    · rw [if_pos hj] at h
      exact ⟨0, j, a, by omega, by omega, rfl, h⟩
    · rw [if_neg hj] at h
      obtain ⟨i, r, x, h1, h2, h3, h4⟩ := ih (fun x hx => hf x (by simp [hx])) _ h
      refine ⟨i + 1, r, x, ?_, h2, by simpa using h3, h4⟩
      rw [Nat.succ_mul]; omega
theorem flatMap_length' {α β : Type} (f : α → List β) (s : Nat) (l : List α) (hf : ∀ x ∈ l, (f x).length = s) : (l.flatMap f).length = l.length * s := by
  induction l with
  | nil => simp
  | cons a l ih =>
    rw [List.flatMap_cons, List.length_append, hf a (by simp), ih (fun x hx => hf x (by simp [hx])), List.length_cons, Nat.succ_mul]; omega

section
variable {H : Type} {enc : TypeId × Value → H} {P : Program} {w : World} {spare : Nat → Bool} {held : Bool}

theorem choose_list {α : Type} (n : Nat) (Q : Nat → α → Prop) (h : ∀ i, i < n → ∃ x, Q i x) : ∃ l : List α, l.length = n ∧ ∀ i x, l[i]? = some x → Q i x := by
  induction n with
  | zero => exact ⟨[], rfl, by simp⟩
  | succ n ih =>
    obtain ⟨l, hl, hq⟩ := ih fun i hi => h i (by omega)
    obtain ⟨x, hx⟩ := h n (by omega)
    refine ⟨l ++ [x], by simp [hl], fun i y hy => ?_⟩
    rw [List.getElem?_append] at hy
    split at hy
    · exact hq i y hy
    · rw [List.getElem?_singleton] at hy
      split at hy
      · injection hy with hy; subst hy
        have : i = n := by omega
        subst this; exact hx
      · cases hy

/-- A slice that came in, whatever its elements are: each element's cells are f of something that keeps to Q. -/
theorem open_rows {α : Type} {t e : TypeId} {size : Nat} {a0 : Option Addr} {len cap : Nat} {d : DataW H} {p : List MemPlace} (f : α → List Value) (Q : α → Prop)
    (ht : P.underlying t = some (.slice e)) (hC : P.cellsOf e = size) (h : DataW.Trod enc P w 0 spare held t (.slice a0 len cap) d p)
    (hlt : ∀ x ∈ p, x.block < w.heap.size) (hs : 0 < size) (hfs : ∀ x, Q x → (f x).length = size)
    (hel : ∀ n cs y, DataW.trod enc P w 0 spare held n e cs = some y → (∀ x ∈ y.2, x.block < w.heap.size) → ∃ x, cs = f x ∧ Q x) :
    ∃ l : List α, l.length = len ∧ (∀ x ∈ l, Q x) ∧ len ≤ cap ∧ cap ≤ maxLen ∧ Reads w (fun _ => True) size a0 len (l.flatMap f) := by
  obtain ⟨fuel, hf⟩ := h
  rcases open_slice ht hf with ⟨hcs, _⟩ | ⟨a, len', cap', m, n, D, Pl, hcs, hb, hl, hm, hmm, hx, hi⟩
  · simp [Value.cells] at hcs
    obtain ⟨rfl, rfl, rfl⟩ := hcs
    exact ⟨[], rfl, by simp, Nat.le_refl _, by simp [maxLen], Reads.none_⟩
  · simp [Value.cells] at hcs
    obtain ⟨rfl, rfl, rfl⟩ := hcs
    simp only [Prod.mk.injEq] at hx
    obtain ⟨_, hp⟩ := hx
    have hlm : len ≤ m := by rw [hmm]; split <;> omega
    have each : ∀ i, i < len → ∃ x, w.cells? 0 (a.add (i * size)) size = some (f x) ∧ Q x := by
      intro i hi'
      obtain ⟨cs', h1, h2⟩ := hi i (by omega)
      rw [hC] at h1
      obtain ⟨x, rfl, hq⟩ := hel n cs' _ h2 (fun y hy => hlt y (by
        rw [hp]
        exact List.mem_append_right _ (List.mem_flatMap.2 ⟨i, List.mem_range.2 (by omega), hy⟩)))
      exact ⟨x, h1, hq⟩
    obtain ⟨l, hll, hq⟩ := choose_list len _ each
    have hQ : ∀ x ∈ l, Q x := by
      intro x hx
      obtain ⟨i, hi', rfl⟩ := List.getElem_of_mem hx
      exact (hq i _ (List.getElem?_eq_getElem hi')).2
    refine ⟨l, hll, hQ, hl, hm, by rw [flatMap_length' f size l (fun x hx => hfs x (hQ x hx)), hll], fun hn => ⟨a, rfl, ?_, trivial, fun j u hu => ?_⟩⟩
    · obtain ⟨x, hx1, hx2⟩ := each 0 hn
      obtain ⟨_, hlen', hat⟩ := World.cells?_some hx1
      have h0 := hat 0 hs
      rw [List.getElem?_eq_getElem (by omega)] at h0
      have := World.block_lt_of_cell? w _ h0
      rwa [block_of_add, block_of_add] at this
    · obtain ⟨i, r, x, rfl, hr, hlx, hfx⟩ := flatMap_at f size l (fun x hx => hfs x (hQ x hx)) j u hu
      obtain ⟨h1, _⟩ := hq i x hlx
      obtain ⟨_, _, hat⟩ := World.cells?_some h1
      rw [← add_of_add, hat r hr, hfx]

theorem flatMap_one {α : Type} (g : α → Value) (l : List α) : l.flatMap (fun x => [g x]) = l.map g := by
  induction l <;> simp_all

theorem open_bools {t e : TypeId} {a0 : Option Addr} {len cap : Nat} {d : DataW H} {p : List MemPlace} (ht : P.underlying t = some (.slice e)) (he : P.underlying e = some .bool) (hC : P.cellsOf e = 1)
    (h : DataW.Trod enc P w 0 spare held t (.slice a0 len cap) d p) (hlt : ∀ x ∈ p, x.block < w.heap.size) :
    ∃ l : List Bool, l.length = len ∧ len ≤ cap ∧ cap ≤ maxLen ∧ Reads w (fun _ => True) 1 a0 len (l.map Value.bool) := by
  obtain ⟨l, h1, _, h3, h4, h5⟩ := open_rows (fun b : Bool => [Value.bool b]) (fun _ => True) ht hC h hlt (by omega) (fun _ _ => rfl) (fun n cs y hy _ => by
    obtain ⟨b, rfl, _⟩ := DataW.trod_bool he hy
    exact ⟨b, rfl, trivial⟩)
  exact ⟨l, h1, h3, h4, by rw [flatMap_one] at h5; exact h5⟩

theorem open_nums {k : IntKind} {t e : TypeId} {a0 : Option Addr} {len cap : Nat} {d : DataW H} {p : List MemPlace} (ht : P.underlying t = some (.slice e)) (he : P.underlying e = some (.int k)) (hC : P.cellsOf e = 1)
    (h : DataW.Trod enc P w 0 spare held t (.slice a0 len cap) d p) (hlt : ∀ x ∈ p, x.block < w.heap.size) :
    ∃ l : List Int, l.length = len ∧ (∀ n ∈ l, (Lit.int k n).wf = true) ∧ len ≤ cap ∧ cap ≤ maxLen ∧ Reads w (fun _ => True) 1 a0 len (l.map (Value.int k)) := by
  obtain ⟨l, h1, h2, h3, h4, h5⟩ := open_rows (fun n : Int => [Value.int k n]) (fun n => (Lit.int k n).wf = true) ht hC h hlt (by omega) (fun _ _ => rfl) (fun n cs y hy _ => by
    obtain ⟨b, rfl, _, hw⟩ := DataW.trod_int he hy
    exact ⟨b, rfl, hw⟩)
  exact ⟨l, h1, h2, h3, h4, by rw [flatMap_one] at h5; exact h5⟩

theorem open_bytes {t e : TypeId} {a0 : Option Addr} {len cap : Nat} {d : DataW H} {p : List MemPlace} (ht : P.underlying t = some (.slice e)) (he : P.underlying e = some (.int .u8)) (hC : P.cellsOf e = 1)
    (h : DataW.Trod enc P w 0 spare held t (.slice a0 len cap) d p) (hlt : ∀ x ∈ p, x.block < w.heap.size) :
    ∃ l : List UInt8, l.length = len ∧ len ≤ cap ∧ cap ≤ maxLen ∧ Reads w (fun _ => True) 1 a0 len (l.map vb) := by
  obtain ⟨l, h1, _, h3, h4, h5⟩ := open_rows (fun x : UInt8 => [vb x]) (fun _ => True) ht hC h hlt (by omega) (fun _ _ => rfl) (fun n cs y hy _ => by
    obtain ⟨b, rfl, _, hw⟩ := DataW.trod_int he hy
    have hb : 0 ≤ b ∧ b ≤ 255 := by
      have hmin : IntKind.u8.min = 0 := rfl
      have hmax : IntKind.u8.max = 255 := rfl
      simp only [Lit.wf, Bool.and_eq_true, decide_eq_true_eq] at hw; omega
    refine ⟨UInt8.ofNat b.toNat, ?_, trivial⟩
    unfold vb
    have : (UInt8.ofNat b.toNat).toNat = b.toNat := by rw [UInt8.toNat_ofNat']; omega
    rw [this]
    congr 2
    omega)
  exact ⟨l, h1, h3, h4, by rw [flatMap_one] at h5; exact h5⟩
end
end Go.Proofs.YtdclfdinhdaadaaGreatDoor

/- Slices of bytes that the call makes: what an append leaves. -/
namespace Go.Proofs.YtdclfdinhdaadaaGreatDoor
open Go.RowKit

theorem byte_info : (Tryz.prog.info? 5).map (fun i => (i.zero, i.size, i.bytes)) = some (some (.int .u8 0), 1, 1) := by kernel_rfl

/-- 'append(s, x...)', s the call's own, x a slice of bytes that reads as m. -/
theorem wpList_append_bytes {w : World} {ops : Array Oper} {rest : List Oper} {o : Oper} {a : Act} {Q : Exit → Act → World → Prop} (hgd : o.guard = none) (s x : Operand)
    (ho : o.op = .call { callee := .builtin .append, args := #[s, x], argTypes := #[35, 35] })
    (B : Nat) (v : Value) (l : List UInt8) (hs : a.eval s = v) (hown : OwnB w B v l) (R : Nat → Prop) (A : Option Addr) (n c : Nat) (m : List UInt8) (hx : a.eval x = .slice A n c) (hr : Reads w R 1 A n (vbs m))
    (hlen : l.length + m.length ≤ 140737488355328) (hB : B ≤ w.heap.size)
    (h : ∀ v' w', OwnB w' B v' (l ++ m) → Mod (fun g => v.ownBlock = some g) w w' → (v'.ownBlock = v.ownBlock ∨ v'.ownBlock = some w.heap.size) → wpList Tryz.prog ops Q rest (a.put o.dst v') w') : wpList Tryz.prog ops Q (o :: rest) a w := by
  obtain ⟨i0, hi, hz0, hz1, hz2⟩ := info_parts byte_info
  have hn : n = m.length := by have := hr.1; rw [vbs_length] at this; omega
  subst hn
  refine wpList_append_any w hgd s x 35 ho B 5 i0 _ 1 1 Tryz.underlying35 hi hz0 hz1 hz2 rfl (by omega) v l.length (vbs l) hs hown R A m.length c (vbs m) hx hr (vbs_one m) (by unfold maxLen; omega) (by omega) hB ?_
  intro v' w' h1 h2 h3
  refine h v' w' ?_ (mod_of_grown h2) h3
  unfold OwnB
  rw [vbs_append, List.length_append]
  exact h1

/-- 'append(s, x)' of one byte: it lies in a block of its own first. -/
theorem wpList_append_byte {w : World} {ops : Array Oper} {rest : List Oper} {o : Oper} {a : Act} {Q : Exit → Act → World → Prop} (hgd : o.guard = none) (s x : Operand)
    (ho : o.op = .call { callee := .builtin .append, args := #[s, x], argTypes := #[35, 35] })
    (B : Nat) (v : Value) (l : List UInt8) (hs : a.eval s = v) (hown : OwnB w B v l) (k : Int) (h0 : 0 ≤ k) (h1 : k < 256) (hx : a.eval x = .slice (some ⟨w.heap.size, 0, none⟩) 1 1)
    (hlen : l.length ≤ 140737488355327) (hB : B ≤ w.heap.size)
    (h : ∀ v' w', OwnB w' B v' (l ++ [UInt8.ofNat k.toNat]) → Mod (fun g => v.ownBlock = some g) w w' → (v'.ownBlock = v.ownBlock ∨ ∃ g, v'.ownBlock = some g ∧ w.heap.size ≤ g) → wpList Tryz.prog ops Q rest (a.put o.dst v') w') :
    wpList Tryz.prog ops Q (o :: rest) a (w.alloc (.cells #[.int .u8 k] 5)) := by
  have e : Value.int .u8 k = vb (UInt8.ofNat k.toNat) := by
    rw [vb_of (by omega)]
    congr 1
    omega
  rw [e]
  refine wpList_append_bytes hgd s x ho B v l hs (hown.non ((Mod.refl _ _).alloc _)) (fun _ => True) _ 1 1 [UInt8.ofNat k.toNat] hx (reads_one _ _ _ _ trivial) (by simp; omega) (by simp; omega) ?_
  intro v' w' h1 h2 h3
  refine h v' w' h1 (((Mod.refl Non w).alloc _).non.trans h2 fun _ _ h => h) ?_
  rcases h3 with h3 | h3
  · exact .inl h3
  · exact .inr ⟨_, h3, by simp⟩

theorem OwnB.made (w : World) : OwnB (w.alloc (.cells #[] 5)) w.heap.size (.slice (some ⟨w.heap.size, 0, none⟩) 0 0) [] := World.ownsRow_made w #[] 0 (Nat.le_refl _) (by simp [maxLen]) rfl

/-- What is left of 'Mod' behind an append to a row of the call's own. -/
theorem OwnB.modNon {w0 w w' : World} {v : Value} {l : List UInt8} (h : OwnB w w0.heap.size v l) (hm : Mod Non w0 w) (hm' : Mod (fun g => v.ownBlock = some g) w w') : Mod Non w0 w' :=
  hm.trans hm' fun i hi h' => by have := (World.ownsRow.lt h i h').1; omega
end Go.Proofs.YtdclfdinhdaadaaGreatDoor

/- slices.Clone of bytes, varint.Put: their contracts. -/
namespace Go.Proofs.YtdclfdinhdaadaaGreatDoor
open Go.RowKit

theorem slices_Clone (A : Option Addr) (n c : Nat) (R : Nat → Prop) (l : List UInt8) (w : World) (hr : Reads w R 1 A n (vbs l)) (hl : l.length ≤ 140737488355328) :
    Calls Tryz.prog 76 #[.slice A n c] w fun e w' => ∃ v, e = .returned v ∧ OwnB w' w.heap.size v l ∧ Mod Non w w' := by
  have qT : ∀ (w : World) (a : Option Addr) (n c n' c' : Nat), (binOp .eql 35 (.slice a n c) (.slice none n' c')).run Tryz.prog w = .ok (.bool a.isNone) w := fun w a n c n' c' => Lib.run_eql_slice_nil w _ _ a n c n' c' Tryz.underlying35
  cases A with
  | none =>
    have hn : l = [] := by
      have h1 := hr.1
      rcases Nat.eq_zero_or_pos n with h0 | h0
      · subst h0
        rw [vbs_length] at h1
        exact List.eq_nil_of_length_eq_zero (by omega)
      · obtain ⟨ad, h, _⟩ := hr.2 h0
        cases h
    subst hn
    go_enter Tryz.func76, Tryz.ntmps76
    go_wp2
    go_ret
    exact ⟨_, rfl, OwnB.nil _ _, Mod.refl _ _⟩
  | some ad =>
    go_enter Tryz.func76, Tryz.ntmps76
    go_wp2_with (at_builtin; refine wpList_append_bytes rfl (.tmp 5) (.tmp 6) rfl w.heap.size _ [] rfl (OwnB.made _) R (some ad) n c l rfl (hr.alloc _) (by simpa using hl) (by simp) ?_; intro v' w' hown' hm' _)
    go_ret
    exact ⟨_, rfl, by simpa using hown', (OwnB.made w).modNon ((Mod.refl _ _).alloc _) hm'⟩

set_option maxHeartbeats 1000000 in
theorem varint_Put_nat (A : Option Addr) (m c : Nat) (R : Nat → Prop) (l : List UInt8) (n : Nat) (hn : n < 9223372036854775808) (w : World) (hr : Reads w R 1 A m (vbs l)) (hl : l.length ≤ 140737488355000) :
    Calls Tryz.prog 74 #[.slice A m c, .int .i64 n] w fun e w' => ∃ v, e = .returned v ∧ OwnB w' w.heap.size v (l ++ vbytes n) ∧ Mod Non w w' := by
  have h9 := vbytes_nine hn
  go_enter Tryz.func74, Tryz.ntmps74
  go_wp2_with (go_at_call 76; refine (slices_Clone A m c R l _ hr (by omega)).mono ?_; rintro e w1 ⟨v1, rfl, hown1, hm1⟩)
  go_loopw [1, 5] (fun m v wr => ∃ (k : Nat) (acc : List UInt8), m = .int .i64 k ∧ k ≤ n ∧ acc ++ vbytes k = l ++ vbytes n ∧ OwnB wr w.heap.size v acc ∧ Mod Non w wr) (fun m _ _ => (intOf m).toNat)
  case atStart => exact ⟨n, l, by go_num, Nat.le_refl _, rfl, hown1, hm1⟩
  case round =>
    obtain ⟨k, acc, rfl, hk, hacc, hown, hmr⟩ := hrel
    have HA := Lib.hid hacc
    clear hacc
    have hlen : acc.length + (vbytes k).length ≤ l.length + 9 := by rw [← List.length_append, HA.out, List.length_append]; omega
    have hpos := vbytes_pos k
    have hsz := hmr.size
    by_cases hlt : k < 128
    · have hlt' : ¬ (128 : Int) ≤ k := by omega
      go_wp2_with (at_builtin; refine wpList_append_byte rfl (.tmp 20) (.tmp 23) rfl w.heap.size _ acc rfl hown k (by omega) (by omega) rfl (by omega) hsz ?_; intro v' w' hown' hm' _)
      have hmod := hown.modNon hmr hm'
      go_ret
      refine ⟨_, rfl, ?_, hmod⟩
      rw [← HA.out, vbytes_small hlt]
      simpa using hown'
    · have hlt' : (128 : Int) ≤ k := by omega
      obtain ⟨y, hy⟩ : ∃ y, y = bits BinOp.or IntKind.u8 ((k : Int) % 256) 128 := ⟨_, rfl⟩
      have hyv : y = 128 + (k : Int) % 128 := hy.trans (or_128 k)
      have HY := Lib.hid hy
      have HYV := Lib.hid hyv
      have hy0 : 0 ≤ y := by omega
      have hy1 : y < 256 := by omega
      clear hy hyv
      go_wp2_with (at_builtin; rw [← HY.out]; refine wpList_append_byte rfl (.tmp 14) (.tmp 18) rfl w.heap.size _ acc rfl hown y hy0 hy1 rfl (by omega) hsz ?_; intro v' w' hown' hm' _)
      have hmod := hown.modNon hmr hm'
      clear hm' hown
      go_wp2
      go_roundw
      case rel =>
        refine ⟨k / 128, acc ++ [UInt8.ofNat (128 + k % 128)], by go_num, by omega, ?_, ?_, hmod⟩
        · rw [← HA.out, vbytes_large hlt]; simp
        · have e : y.toNat = 128 + k % 128 := by rw [HYV.out]; omega
          rw [e] at hown'
          exact hown'
      case measure => simp [intOf]; omega

theorem varint_Put (A : Option Addr) (m c : Nat) (R : Nat → Prop) (l : List UInt8) (n : Int) (hn : n ≤ 9223372036854775807) (w : World) (hr : Reads w R 1 A m (vbs l)) (hl : l.length ≤ 140737488355000) :
    Calls Tryz.prog 74 #[.slice A m c, .int .i64 n] w fun e w' => ∃ v, e = .returned v ∧ OwnB w' w.heap.size v (l ++ vbytes n.toNat) ∧ Mod Non w w' := by
  by_cases h0 : 0 ≤ n
  · obtain ⟨k, rfl⟩ := Int.eq_ofNat_of_zero_le h0
    exact varint_Put_nat A m c R l k (by omega) w hr hl
  · have hneg : n < 0 := by omega
    have e0 : n.toNat = 0 := by omega
    rw [e0, vbytes_small (by omega)]
    clear e0
    go_enter Tryz.func74, Tryz.ntmps74
    go_wp2_with (go_at_call 76; refine (slices_Clone A m c R l _ hr (by omega)).mono ?_; rintro e w1 ⟨v1, rfl, hown1, hm1⟩)
    refine wp_loop_rounds 1 ?_
    rw [rounds_succ]
    go_wp2_with (at_builtin; refine wpList_append_byte rfl (.tmp 20) (.tmp 23) rfl w.heap.size _ l rfl hown1 0 (by omega) (by omega) rfl (by omega) hm1.size ?_; intro v' w' hown' hm' _)
    go_ret
    exact ⟨_, rfl, hown', hown1.modNon hm1 hm'⟩

end Go.Proofs.YtdclfdinhdaadaaGreatDoor

/- Package pack, the writer: the contracts of Number, Raw, Text, Flag, Bytes. -/
namespace Go.Proofs.YtdclfdinhdaadaaGreatDoor
open Go.RowKit

/-- Block g is a writer that has the bytes l. -/
def Wr (w : World) (g : Nat) (l : List UInt8) : Prop := ∃ v, Blk w g 74 #[v] ∧ OwnB w (g + 1) v l

section
variable {w w' : World} {g : Nat} {l : List UInt8}
theorem Wr.lt (h : Wr w g l) : g < w.heap.size := by obtain ⟨v, hb, _⟩ := h; exact hb.lt
theorem Wr.non (h : Wr w g l) (hm : Mod Non w w') : Wr w' g l := by obtain ⟨v, hb, ho⟩ := h; exact ⟨v, hb.mod hm fun h => h, ho.non hm⟩
theorem Wr.new (w : World) : Wr (w.alloc (.cells #[.slice none 0 0] 74)) w.heap.size [] := ⟨_, Blk.new _ _ _, OwnB.nil _ _⟩
/-- A new slice of bytes in the writer. -/
theorem Wr.set {v v' : Value} {l' : List UInt8} (hb : Blk w g 74 #[v]) (ho : OwnB w (g + 1) v' l') : Wr (w.setCell ⟨g, 0, none⟩ v') g l' :=
  ⟨v', hb.set_ 0 v', ho.mod (Mod.one w g 0 v') fun h hh e => own_blk_ne ho hb (by decide) (by rw [hh]; simp only [One] at e; rw [e])⟩
end

set_option maxHeartbeats 1000000 in
theorem wr_Number (g : Nat) (l : List UInt8) (n : Int) (hn : n ≤ 9223372036854775807) (w : World) (hw : Wr w g l) (hl : l.length ≤ 10000000) :
    Calls Tryz.prog 32 #[.pointer (some ⟨g, 0, none⟩), .int .i64 n] w fun e w' => e = .returned (.tuple #[]) ∧ Wr w' g (l ++ vbytes n.toNat) ∧ Mod (One g) w w' := by
  obtain ⟨v, hb, ho⟩ := hw
  obtain ⟨A, m, c, rfl, _, _⟩ := ho.form
  have c0 := hb.cell 0
  simp at c0
  have f0 := hb.frozen 0
  go_enter Tryz.func32, Tryz.ntmps32
  go_wp2_with fail
  refine (varint_Put A m c _ l n hn w ho.reads (by omega)).mono ?_
  rintro e w1 ⟨v1, rfl, hown1, hm1⟩
  have hb1 := hb.mod hm1 fun h => h
  have x0 := hb1.cell 0
  simp at x0
  have f1 := hb1.frozen 0
  obtain ⟨A1, m1, c1, rfl, _, _⟩ := hown1.form
  go_wp2
  go_end0
  exact ⟨rfl, Wr.set hb1 (hown1.below (by have := hb.lt; omega)), (hm1.non).setOne _⟩

set_option maxHeartbeats 1000000 in
theorem wr_Raw (g : Nat) (l : List UInt8) (A2 : Option Addr) (n2 c2 : Nat) (R2 : Nat → Prop) (l2 : List UInt8) (w : World) (hw : Wr w g l) (hl : l.length ≤ 10000000) (hr2 : Reads w R2 1 A2 n2 (vbs l2)) (hn2 : n2 ≤ 10000000) :
    Calls Tryz.prog 55 #[.pointer (some ⟨g, 0, none⟩), .slice A2 n2 c2] w fun e w' => e = .returned (.tuple #[]) ∧ Wr w' g (l ++ vbytes n2 ++ l2) ∧ Mod (One g) w w' := by
  obtain ⟨v, hb, ho⟩ := hw
  obtain ⟨A, m, c, rfl, _, _⟩ := ho.form
  have c0 := hb.cell 0
  simp at c0
  have f0 := hb.frozen 0
  have hl2 : Hid (l2.length = n2) := by have := hr2.1; rw [vbs_length, Nat.mul_one] at this; exact this
  have h9 := vbytes_nine (n := n2) (by omega)
  have hq : Hid ((l ++ vbytes n2).length + l2.length ≤ 140737488355328) := by show _ ≤ _; rw [List.length_append, hl2.out]; omega
  clear h9
  go_enter Tryz.func55, Tryz.ntmps55
  go_wp2_with fail
  refine (varint_Put A m c _ l n2 (by omega) w ho.reads (by omega)).mono ?_
  rintro e w1 ⟨v1, rfl, hown1, hm1⟩
  rw [Int.toNat_natCast] at hown1
  have hb1 := hb.mod hm1 fun h => h
  obtain ⟨A1, m1, c1, rfl, _, _⟩ := hown1.form
  have hsz := hm1.size
  go_wp2_with (at_builtin; refine wpList_append_bytes rfl (.tmp 13) (.tmp 14) rfl w.heap.size (.slice A1 m1 c1) _ rfl hown1 R2 A2 n2 c2 l2 rfl (hr2.mod hm1 fun _ _ _ h => h) hq.out hsz ?_; intro v3 w3 hown3 hm3 _; obtain ⟨A3, m3, c3, rfl, _, _⟩ := hown3.form; have hN := hown1.modNon hm1 hm3; have hb3 := hb.mod hN fun h => h; have x0 := hb3.cell 0; simp at x0; have f1 := hb3.frozen 0)
  go_end0
  exact ⟨rfl, Wr.set hb3 (hown3.below (by have := hb.lt; omega)), (hN.non).setOne _⟩

/-- '[]byte(s)': a new slice that reads as the text's bytes. -/
theorem bytes_of_text (s : ByteArray) (w : World) : ∃ W1 cap, (convert 9 35 (.string s)).run Tryz.prog w = .ok (.slice (some ⟨w.heap.size, 0, none⟩) s.size cap) W1 ∧
    Reads W1 (fun k => w.heap.size ≤ k) 1 (some ⟨w.heap.size, 0, none⟩) s.size (vbs s.data.toList) ∧ Mod Non w W1 := by
  refine ⟨_, _, run_bytes_of_string w 9 35 5 s Tryz.underlying9 Tryz.underlying35 Tryz.underlying5, ⟨by simp [vbs], fun _ => ⟨_, rfl, by simp, by simp, fun j u hu => ?_⟩⟩, ((Mod.refl _ _).drew).alloc _⟩
  have hj : j < s.size := by
    have := (List.getElem?_eq_some_iff.1 hu).1
    simpa [vbs] using this
  rw [show (⟨w.heap.size, 0, none⟩ : Addr).add j = ⟨w.heap.size, j, none⟩ by unfold Addr.add; split <;> simp_all]
  have hj2 : j < s.data.size := hj
  have e2 : u = .int .u8 (s.data[j].toNat : Int) := by
    have h3 : j < s.data.toList.length := by simpa using hj2
    rw [vbs_get h3] at hu
    injection hu with hu
    rw [← hu]; simp
  rw [e2, ← bytesRow_at s (grownCap w s.size 0 5) j hj2]
  exact cell_of_row _ _ _ _ _ _ (heap_alloc_new w.drew _)

theorem wr_Text (g : Nat) (l : List UInt8) (s : ByteArray) (w : World) (hw : Wr w g l) (hl : l.length ≤ 10000000) (hs : s.size ≤ 10000000) :
    Calls Tryz.prog 33 #[.pointer (some ⟨g, 0, none⟩), .string s] w fun e w' => e = .returned (.tuple #[]) ∧ Wr w' g (l ++ vbytes s.size ++ s.data.toList) ∧ Mod (One g) w w' := by
  obtain ⟨W1, cap, hrun, hr1, hm1⟩ := bytes_of_text s w
  go_enter Tryz.func33, Tryz.ntmps33
  go_wp2_with fail
  refine (wr_Raw g l _ s.size cap _ s.data.toList W1 (hw.non hm1) hl hr1 hs).mono ?_
  rintro e w2 ⟨rfl, hw2, hm2⟩
  go_wp2
  go_end0
  exact ⟨rfl, hw2, hm1.non.trans' hm2⟩

theorem wr_Flag (g : Nat) (l : List UInt8) (b : Bool) (w : World) (hw : Wr w g l) (hl : l.length ≤ 10000000) :
    Calls Tryz.prog 75 #[.pointer (some ⟨g, 0, none⟩), .bool b] w fun e w' => e = .returned (.tuple #[]) ∧ Wr w' g (l ++ [if b = true then 1 else 0]) ∧ Mod (One g) w w' := by
  have e1 : vbytes ((1 : Int).toNat) = [1] := vbytes_small (n := 1) (by omega)
  have e0 : vbytes ((0 : Int).toNat) = [0] := vbytes_small (n := 0) (by omega)
  cases b
  · have c1 := wr_Number g l 0 (by omega) w hw hl
    rw [e0] at c1
    have C := Lib.hid c1
    clear c1 e0 e1
    go_enter Tryz.func75, Tryz.ntmps75
    go_wp2_with fail
    refine C.out.mono ?_
    rintro e w2 ⟨rfl, hw2, hm2⟩
    go_wp2
    go_end0
    exact ⟨rfl, hw2, hm2⟩
  · have c1 := wr_Number g l 1 (by omega) w hw hl
    rw [e1] at c1
    have C := Lib.hid c1
    clear c1 e0 e1
    go_enter Tryz.func75, Tryz.ntmps75
    go_wp2_with fail
    refine C.out.mono ?_
    rintro e w2 ⟨rfl, hw2, hm2⟩
    go_wp2
    go_end0
    exact ⟨rfl, hw2, hm2⟩

theorem wr_Bytes (g : Nat) (l : List UInt8) (w : World) (hw : Wr w g l) (hl : l.length ≤ 10000000) :
    Calls Tryz.prog 35 #[.pointer (some ⟨g, 0, none⟩)] w fun e w' => ∃ v, e = .returned v ∧ OwnB w' w.heap.size v l ∧ Mod Non w w' := by
  obtain ⟨v, hb, ho⟩ := hw
  obtain ⟨A, m, c, rfl, _, _⟩ := ho.form
  have c0 := hb.cell 0
  simp at c0
  go_enter Tryz.func35, Tryz.ntmps35
  go_wp2_with fail
  refine (slices_Clone A m c _ l w ho.reads (by omega)).mono ?_
  rintro e w1 ⟨v1, rfl, hown1, hm1⟩
  go_wp2
  go_ret
  exact ⟨v1, rfl, hown1, hm1⟩
end Go.Proofs.YtdclfdinhdaadaaGreatDoor

/- The program's data as plain structures: answers, sessions, pairs, commands. Plain Lean. -/
namespace Go.Proofs.YtdclfdinhdaadaaGreatDoor
open Go.RowKit

structure An where
  client : Int
  seq : Int
  err : Int
  found : Bool
  val : ByteArray
  rev : Int
deriving DecidableEq
structure Se where
  client : Int
  seq : Int
  last : An
deriving DecidableEq
structure Pa where
  key : ByteArray
  val : ByteArray
  rev : Int
deriving DecidableEq
structure Cm where
  kind : Int
  client : Int
  seq : Int
  key : ByteArray
  val : ByteArray
  old : ByteArray
  node : Int
deriving DecidableEq

def An.cells (a : An) : List Value := [.int .i64 a.client, .int .i64 a.seq, .int .i64 a.err, .bool a.found, .string a.val, .int .i64 a.rev]
def Se.cells (s : Se) : List Value := [.int .i64 s.client, .int .i64 s.seq, .int .i64 s.last.client, .int .i64 s.last.seq, .int .i64 s.last.err, .bool s.last.found, .string s.last.val, .int .i64 s.last.rev]
def Pa.cells (p : Pa) : List Value := [.string p.key, .string p.val, .int .i64 p.rev]
def Cm.cells (c : Cm) : List Value := [.int .i64 c.kind, .int .i64 c.client, .int .i64 c.seq, .string c.key, .string c.val, .string c.old, .int .i64 c.node]
abbrev An.v (a : An) : Value := .agg #[.int .i64 a.client, .int .i64 a.seq, .int .i64 a.err, .bool a.found, .string a.val, .int .i64 a.rev]
abbrev Se.v (s : Se) : Value := .agg #[.int .i64 s.client, .int .i64 s.seq, .int .i64 s.last.client, .int .i64 s.last.seq, .int .i64 s.last.err, .bool s.last.found, .string s.last.val, .int .i64 s.last.rev]
abbrev Pa.v (p : Pa) : Value := .agg #[.string p.key, .string p.val, .int .i64 p.rev]
abbrev Cm.v (c : Cm) : Value := .agg #[.int .i64 c.kind, .int .i64 c.client, .int .i64 c.seq, .string c.key, .string c.val, .string c.old, .int .i64 c.node]

def ecs (l : List Se) : List Value := l.flatMap Se.cells
def pcs (l : List Pa) : List Value := l.flatMap Pa.cells
def ccs (l : List Cm) : List Value := l.flatMap Cm.cells
def acs (l : List An) : List Value := l.flatMap An.cells

theorem flat_length {α β : Type} (f : α → List β) (s : Nat) (l : List α) (hf : ∀ x, (f x).length = s) : (l.flatMap f).length = l.length * s := by
  induction l with
  | nil => simp
  | cons a l ih => rw [List.flatMap_cons, List.length_append, hf, ih, List.length_cons, Nat.succ_mul]; omega
theorem ecs_length (l : List Se) : (ecs l).length = l.length * 8 := flat_length _ _ _ fun _ => rfl
theorem pcs_length (l : List Pa) : (pcs l).length = l.length * 3 := flat_length _ _ _ fun _ => rfl
theorem ccs_length (l : List Cm) : (ccs l).length = l.length * 7 := flat_length _ _ _ fun _ => rfl
theorem acs_length (l : List An) : (acs l).length = l.length * 6 := flat_length _ _ _ fun _ => rfl

theorem flat_get {α β : Type} (f : α → List β) (s : Nat) (l : List α) (hf : ∀ x, (f x).length = s) {i : Nat} {x : α} (hx : l[i]? = some x) (r : Nat) (hr : r < s) : (l.flatMap f)[i * s + r]? = (f x)[r]? := by
  induction l generalizing i with
  | nil => simp at hx
  | cons a l ih =>
    rw [List.flatMap_cons]
    cases i with
    | zero =>
      simp at hx
      subst hx
      rw [Nat.zero_mul, Nat.zero_add, List.getElem?_append_left (by rw [hf]; exact hr)]
    | succ i =>
      simp at hx
      rw [List.getElem?_append_right (by rw [hf, Nat.succ_mul]; omega), hf, ← ih hx]
      congr 1
      rw [Nat.succ_mul]; omega

section
variable {w : World} {R : Nat → Prop} {A : Option Addr} {n k : Nat}
/-- the cells of a pair -/
theorem Reads.pa {ps : List Pa} (hr : Reads w R 3 A n (pcs ps)) (hk : k < n) :
    ∃ b off p, A = some ⟨b, off, none⟩ ∧ b < w.heap.size ∧ R b ∧ ps[k]? = some p ∧ w.cell? ⟨b, off + k * 3, none⟩ = some (.string p.key) ∧ w.cell? ⟨b, off + k * 3 + 1, none⟩ = some (.string p.val) ∧
      w.cell? ⟨b, off + k * 3 + 2, none⟩ = some (.int .i64 p.rev) := by
  have hl := hr.1
  rw [pcs_length] at hl
  have hkq : k < ps.length := by omega
  obtain ⟨b, off, hA, hb, hR, hc⟩ := hr.row (by omega) (by rw [pcs_length]; omega)
  have hx := List.getElem?_eq_getElem hkq
  have p : ∀ r, r < 3 → (pcs ps)[k * 3 + r]? = (ps[k].cells)[r]? := fun r h => flat_get Pa.cells 3 ps (fun _ => rfl) hx r h
  exact ⟨b, off, ps[k], hA, hb, hR, hx, hc _ _ (p 0 (by omega)), by simpa [Nat.add_assoc] using hc _ _ (p 1 (by omega)), by simpa [Nat.add_assoc] using hc _ _ (p 2 (by omega))⟩
/-- the cells of a session -/
theorem Reads.se {ss : List Se} (hr : Reads w R 8 A n (ecs ss)) (hk : k < n) :
    ∃ b off s, A = some ⟨b, off, none⟩ ∧ b < w.heap.size ∧ R b ∧ ss[k]? = some s ∧ w.cell? ⟨b, off + k * 8, none⟩ = some (.int .i64 s.client) ∧ w.cell? ⟨b, off + k * 8 + 1, none⟩ = some (.int .i64 s.seq) ∧
      w.cell? ⟨b, off + k * 8 + 2, none⟩ = some (.int .i64 s.last.client) ∧ w.cell? ⟨b, off + k * 8 + 3, none⟩ = some (.int .i64 s.last.seq) ∧ w.cell? ⟨b, off + k * 8 + 4, none⟩ = some (.int .i64 s.last.err) ∧
      w.cell? ⟨b, off + k * 8 + 5, none⟩ = some (.bool s.last.found) ∧ w.cell? ⟨b, off + k * 8 + 6, none⟩ = some (.string s.last.val) ∧ w.cell? ⟨b, off + k * 8 + 7, none⟩ = some (.int .i64 s.last.rev) := by
  have hl := hr.1
  rw [ecs_length] at hl
  have hkq : k < ss.length := by omega
  obtain ⟨b, off, hA, hb, hR, hc⟩ := hr.row (by omega) (by rw [ecs_length]; omega)
  have hx := List.getElem?_eq_getElem hkq
  have p : ∀ r, r < 8 → (ecs ss)[k * 8 + r]? = (ss[k].cells)[r]? := fun r h => flat_get Se.cells 8 ss (fun _ => rfl) hx r h
  exact ⟨b, off, ss[k], hA, hb, hR, hx, hc _ _ (p 0 (by omega)), by simpa [Nat.add_assoc] using hc _ _ (p 1 (by omega)), by simpa [Nat.add_assoc] using hc _ _ (p 2 (by omega)), by simpa [Nat.add_assoc] using hc _ _ (p 3 (by omega)),
    by simpa [Nat.add_assoc] using hc _ _ (p 4 (by omega)), by simpa [Nat.add_assoc] using hc _ _ (p 5 (by omega)), by simpa [Nat.add_assoc] using hc _ _ (p 6 (by omega)), by simpa [Nat.add_assoc] using hc _ _ (p 7 (by omega))⟩
/-- the cells of a command -/
theorem Reads.cm {cs : List Cm} (hr : Reads w R 7 A n (ccs cs)) (hk : k < n) :
    ∃ b off c, A = some ⟨b, off, none⟩ ∧ b < w.heap.size ∧ R b ∧ cs[k]? = some c ∧ w.cell? ⟨b, off + k * 7, none⟩ = some (.int .i64 c.kind) ∧ w.cell? ⟨b, off + k * 7 + 1, none⟩ = some (.int .i64 c.client) ∧
      w.cell? ⟨b, off + k * 7 + 2, none⟩ = some (.int .i64 c.seq) ∧ w.cell? ⟨b, off + k * 7 + 3, none⟩ = some (.string c.key) ∧ w.cell? ⟨b, off + k * 7 + 4, none⟩ = some (.string c.val) ∧
      w.cell? ⟨b, off + k * 7 + 5, none⟩ = some (.string c.old) ∧ w.cell? ⟨b, off + k * 7 + 6, none⟩ = some (.int .i64 c.node) := by
  have hl := hr.1
  rw [ccs_length] at hl
  have hkq : k < cs.length := by omega
  obtain ⟨b, off, hA, hb, hR, hc⟩ := hr.row (by omega) (by rw [ccs_length]; omega)
  have hx := List.getElem?_eq_getElem hkq
  have p : ∀ r, r < 7 → (ccs cs)[k * 7 + r]? = (cs[k].cells)[r]? := fun r h => flat_get Cm.cells 7 cs (fun _ => rfl) hx r h
  exact ⟨b, off, cs[k], hA, hb, hR, hx, hc _ _ (p 0 (by omega)), by simpa [Nat.add_assoc] using hc _ _ (p 1 (by omega)), by simpa [Nat.add_assoc] using hc _ _ (p 2 (by omega)), by simpa [Nat.add_assoc] using hc _ _ (p 3 (by omega)),
    by simpa [Nat.add_assoc] using hc _ _ (p 4 (by omega)), by simpa [Nat.add_assoc] using hc _ _ (p 5 (by omega)), by simpa [Nat.add_assoc] using hc _ _ (p 6 (by omega))⟩
/-- the cells of an answer -/
theorem Reads.an {ans : List An} (hr : Reads w R 6 A n (acs ans)) (hk : k < n) :
    ∃ b off a, A = some ⟨b, off, none⟩ ∧ b < w.heap.size ∧ R b ∧ ans[k]? = some a ∧ w.cell? ⟨b, off + k * 6, none⟩ = some (.int .i64 a.client) ∧ w.cell? ⟨b, off + k * 6 + 1, none⟩ = some (.int .i64 a.seq) ∧
      w.cell? ⟨b, off + k * 6 + 2, none⟩ = some (.int .i64 a.err) ∧ w.cell? ⟨b, off + k * 6 + 3, none⟩ = some (.bool a.found) ∧ w.cell? ⟨b, off + k * 6 + 4, none⟩ = some (.string a.val) ∧
      w.cell? ⟨b, off + k * 6 + 5, none⟩ = some (.int .i64 a.rev) := by
  have hl := hr.1
  rw [acs_length] at hl
  have hkq : k < ans.length := by omega
  obtain ⟨b, off, hA, hb, hR, hc⟩ := hr.row (by omega) (by rw [acs_length]; omega)
  have hx := List.getElem?_eq_getElem hkq
  have p : ∀ r, r < 6 → (acs ans)[k * 6 + r]? = (ans[k].cells)[r]? := fun r h => flat_get An.cells 6 ans (fun _ => rfl) hx r h
  exact ⟨b, off, ans[k], hA, hb, hR, hx, hc _ _ (p 0 (by omega)), by simpa [Nat.add_assoc] using hc _ _ (p 1 (by omega)), by simpa [Nat.add_assoc] using hc _ _ (p 2 (by omega)), by simpa [Nat.add_assoc] using hc _ _ (p 3 (by omega)),
    by simpa [Nat.add_assoc] using hc _ _ (p 4 (by omega)), by simpa [Nat.add_assoc] using hc _ _ (p 5 (by omega))⟩
end

/-- An answer's bytes, in a schema. -/
def aenc (v : Int) (a : An) : List UInt8 :=
  vbytes a.client.toNat ++ vbytes a.seq.toNat ++ vbytes a.err.toNat ++ [if a.found = true then 1 else 0] ++ vbytes a.val.size ++ a.val.data.toList ++ (if v = 1 then [] else vbytes a.rev.toNat)

/-- the bounds of an answer that may be, its text's runes aside -/
structure An.Ok (a : An) : Prop where
  client : 1 ≤ a.client ∧ a.client ≤ 8
  seq : 1 ≤ a.seq ∧ a.seq ≤ 4294967296
  err : 0 ≤ a.err ∧ a.err ≤ 17
  val : a.val.size ≤ 48
  rev : 0 ≤ a.rev ∧ a.rev ≤ 4294967296

theorem vbytes_five {n : Nat} (h : n ≤ 4294967296) : (vbytes n).length ≤ 5 := vbytes_le 4 n (by omega)
end Go.Proofs.YtdclfdinhdaadaaGreatDoor
