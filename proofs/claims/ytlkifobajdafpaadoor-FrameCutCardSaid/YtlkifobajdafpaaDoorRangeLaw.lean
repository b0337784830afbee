/- A loop over a function value whose yields hand over memory that is new: what is handed over is known in the round's own world. No condition on the program. -/
import Derived.Test.YtlkifobajdafpaaDoorBase
import Derived.RangeFuncBox
import Derived.Shelf.Abstract
namespace Go.Proofs.YtlkifobajdafpaaDoor
open Go.RowKit Go.Shelf

section
variable {α σ : Type} {P : Program} {n : Nat}

theorem range_law {g : Operand} {ps : Array Tmp} {assign body : Code} {Q : Exit → Act → World → Prop} {a : Act} {w : World}
    (gf : Nat) (lb : Array Value) (hg : a.eval g = .func (.func gf) #[] lb) (eg : ∀ args w, (callFunc gf args).run P w = .ok (.enter gf args) w)
    (I : σ → World → Prop) (s0 : σ) (h0 : I s0 w) (hIn : ∀ s W W', I s W → Mod Non W W' → I s W')
    (hIp : ∀ s W L o o', I s W → W.heap[L]? = some o → o.isCells = false → w.heap.size ≤ L → I s (W.putObj L o'))
    (Nx : σ → α → World → σ → Prop) (hNp : ∀ s x s' W L o o', Nx s x W s' → W.heap[L]? = some o → o.isCells = false → Nx s x (W.putObj L o') s')
    (encs : α → Array Value) (hps : ∀ x, (encs x).size = ps.size) (a₁ : α → Act)
    (hassign : ∀ (l : Nat) (x : α) (W : World) (K : Act → World → Prop), K (a₁ x) W →
      assign.wpIn (Fence.wide.inRound l) n P (Exit.then K (fun _ _ _ => False)) { tmps := (ps.zip (encs x)).foldl (fun t (p, v) => t.setIfInBounds p v) a.tmps, defers := [] } W)
    (hbody : ∀ (l : Nat) s x s' W, I s W → Nx s x W s' → body.wpIn (Fence.wide.inRound l) n P (fun e _ W' => e = .normal ∧ KeepsOthers W W' ∧ I s' W') (a₁ x) W)
    (S : σ → Prop)
    (hiter : ∀ (l : Nat) (J : σ → World → Prop), (∀ s W, J s W → I s W) → (∀ s W W', J s W → Mod Non W W' → J s W') →
      (∀ s x s' W, J s W → Nx s x W s' → YieldAt Fence.wide n P l (encs x) W fun e W' => e = .returned (.bool true) ∧ J s' W') → ∀ W, J s0 W →
      CallsIn Fence.wide (n + 1) P gf (#[.func (.yield l) #[] #[]] ++ lb) W fun e W' => (∃ v, e = .returned v) ∧ ∃ s, S s ∧ J s W')
    (hdone : ∀ s W, S s → I s W → W.heap[w.heap.size]? = some (.deferred (some [])) → Q .normal { a with defers := { target := .collected w.heap.size, args := #[] } :: a.defers } W) :
    (Code.rangeFunc g ps assign body).wpIn Fence.wide (n + 2) P Q a w := by
  refine wpIn_rangeFunc ?_
  intro fn hfn
  obtain ⟨rec, hrec⟩ : ∃ rec : LoopState → Loop, rec = fun st => { state := st, pending := none, fn, tmps := a.tmps, params := ps, assign, body, defers := w.heap.size } := ⟨_, rfl⟩
  obtain ⟨W1, hW1⟩ : ∃ W1, (w.alloc (.deferred (some []))).alloc (.loop (rec .ready)) = W1 := ⟨_, rfl⟩
  have hL : W1.heap[w.heap.size + 1]? = some (.loop (rec .ready)) := by
    rw [← hW1]; have := World.alloc_heap_new (w.alloc (.deferred (some []))) (.loop (rec .ready)); rwa [World.size_alloc] at this
  have hK : W1.heap[w.heap.size]? = some (.deferred (some [])) := by
    rw [← hW1]; exact (Below.heap_alloc _ _ _ (by simp)).trans (World.alloc_heap_new w _)
  have hI1 : I s0 W1 := hIn _ _ _ h0 (by rw [← hW1]; exact ((Mod.refl _ _).alloc _).alloc _)
  refine ⟨w.heap.size + 1, [{ target := .collected w.heap.size, args := #[] }], W1, { target := .fn (.func gf) lb, args := #[.func (.yield (w.heap.size + 1)) #[] #[]] }, W1, gf,
    #[.func (.yield (w.heap.size + 1)) #[] #[]] ++ lb, W1, ?_, ?_, fun _ _ => trivial, ?_, fun _ => by omega, ?_⟩
  · rw [← hW1, hrec]; exact run_enterLoop_outer _ _ _ _ _
  · simp only [resolve, hg]
    simp [go_sem]
  · simp [invoke, go_sem, eg]
  · have keep : ∀ {W W' : World} {k : Nat} {o : Obj}, Mod Non W W' → W.heap[k]? = some o → W'.heap[k]? = some o := fun hm h => (hm.block _ (Array.getElem?_eq_some_iff.1 h).1 fun h => h).trans h
    refine (hiter (w.heap.size + 1) (fun s W => I s W ∧ W.heap[w.heap.size + 1]? = some (.loop (rec .ready)) ∧ W.heap[w.heap.size]? = some (.deferred (some [])))
      (fun s W h => h.1) (fun s W W' h hm => ⟨hIn _ _ _ h.1 hm, keep hm h.2.1, keep hm h.2.2⟩) ?_ W1 ⟨hI1, hL, hK⟩).mono ?_
    · rintro s x s' W ⟨hi, hl, hk⟩ hx
      have hlt : w.heap.size + 1 < W.heap.size := (Array.getElem?_eq_some_iff.1 hl).1
      have hy := run_yield (P := P) (args := encs x) hl (by rw [hrec]; exact hps x)
      rw [hrec] at hy
      refine ⟨fn, _, assign, body, hy, roundIn_of_wpIn hfn (hassign _ x W _ ⟨_, run_beginRound hl (by rw [hrec]), ?_⟩)⟩
      have hl2 := World.putObj_heap_same (o := .loop { rec .ready with state := .busy }) hlt
      have hk2 : (W.putObj (w.heap.size + 1) (.loop { rec .ready with state := .busy })).heap[w.heap.size]? = some (.deferred (some [])) := (World.putObj_heap_other (by omega)).trans hk
      refine wpIn_mono (hbody _ s x s' _ (hIp _ _ _ _ _ hi hl rfl (by omega)) (hNp _ _ _ _ _ _ _ hx hl rfl)) ?_
      rintro e a3 W3 ⟨rfl, hk3, hi3⟩
      have hl3 := hk3.same _ _ hl2 rfl
      have hr := run_endRound (P := P) none hl3
      refine ⟨_, _, hr, rfl, hIp _ _ _ _ _ hi3 hl3 rfl (by omega), ?_, (World.putObj_heap_other (by omega)).trans (hk3.same _ _ hk2 rfl)⟩
      rw [World.putObj_heap_same (Array.getElem?_eq_some_iff.1 hl3).1, hrec]; rfl
    · rintro e W2 ⟨⟨v, rfl⟩, s, hS, hi, hl, hk⟩
      refine ⟨none, _, ?_, hdone s _ hS (hIp _ _ _ _ (.loop { rec .ready with state := .exhausted }) hi hl rfl (by omega)) ((World.putObj_heap_other (by omega)).trans hk)⟩
      have := run_endLoop (P := P) hl (by rw [hrec]; simp)
      rw [this, hrec]
end
end Go.Proofs.YtlkifobajdafpaaDoor
