/- FrameAdds: the walk's claim at the arguments as they come in. -/
import Derived.Test.YtlkifobajdafpaaDoorFrameAdds
namespace Go.Proofs.YtlkifobajdafpaaDoor
open Go.RowKit

theorem adds_done (A : Option Addr) (n c : Nat) (b : List UInt8) (A2 : Option Addr) (n2 c2 : Nat) (l : List UInt8) (W : World) (_ : b.length = n) (_ : n ≤ c) (_ : c ≤ maxLen) (hr : Reads W (fun _ => True) 1 A n (vbs b))
    (_ : l.length = n2) (_ : n2 ≤ c2) (_ : c2 ≤ maxLen) (hr2 : Reads W (fun _ => True) 1 A2 n2 (vbs l)) (hT : Tab W) :
    Calls Tryd.prog 3 #[.slice A n c, .slice A2 n2 c2] W fun e W' => e = .returned (.bool true) ∧ Below W.heap.size W W' := by
  suffices h : Calls Tryd.prog 3 #[.slice A n c, .slice A2 n2 c2] W fun e W' => e = .returned (.bool true) ∧ Mod Non W W' from h.mono fun e W' ⟨h1, h2⟩ => ⟨h1, h2.below'⟩
  by_cases h : 500 < n ∨ (500 < n2 ∧ n2 < 65536) ∨ 65540 < n2
  · exact adds_edge A A2 n c n2 c2 W hT h
  · by_cases h0 : n2 = 0
    · subst h0; exact adds_zero A A2 n c c2 W hT (by omega)
    · by_cases h1 : 65536 < n2
      · exact adds_long A A2 n c n2 c2 W hT (by omega) h1 (by omega)
      · exact adds_in A A2 n c n2 c2 _ _ b l W hr hr2 hT (by omega) (by omega) (by omega)
end Go.Proofs.YtlkifobajdafpaaDoor
