/- BagFull: the walk's claim at the arguments as they come in. -/
import Derived.Test.YtlkifobajdafpaaBagFull
import Derived.Test.YtlkifobajdafpaaBagOpen
namespace Go.Proofs.Ytlkifobajdafpaa
open Go.RowKit

theorem full_doneV (q : Pv) (m : Int) (W : World) (hq : OkPv W q) (hm : (Lit.int .u8 m).wf = true) :
    Calls Try.prog 9 #[.agg #[.int .i64 q.f, .int .i64 q.t, .slice q.A q.n q.c], .int .u8 m] W fun e W' => e = .returned (.bool true) ∧ Below W.heap.size W W' :=
  full_done q m W hq hm
end Go.Proofs.Ytlkifobajdafpaa
