/- BagDoes: the walk's claim at the arguments as they come in. -/
import Derived.Test.YtlkifobajdafpaaBagDoes
import Derived.Test.YtlkifobajdafpaaBagOpen
namespace Go.Proofs.Ytlkifobajdafpaa
open Go.RowKit

theorem does_done (A : Option Addr) (len c : Nat) (ss : List Sv) (node : Int) (W : World) (hs : ∀ s ∈ ss, OkPv W s.q) (hc : len ≤ c) (hm : c ≤ maxLen) (hr : Reads W (fun _ => True) 5 A len (scs ss)) (_ : (Lit.int .i64 node).wf = true) :
    Calls Try.prog 8 #[.slice A len c, .int .i64 node] W fun e W' => e = .returned (.bool true) ∧ Below W.heap.size W W' :=
  bag_does A len c ss node W hr (by simp only [maxLen] at hm; omega) fun s h => (hs s h).1
end Go.Proofs.Ytlkifobajdafpaa
