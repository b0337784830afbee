/-
  No cell of these rows narrows 'for every input' (looked for: loops, veiled, ifaces, maps, wideKeys, modest, calm, conditions, laid).
  DERIVED. THE GIVEN ROWS OF THIS SEAT. 7 by the template 'for every input the law returns true; each argument reads behind the call as it read before'; 0 by the template 'total and deterministic' (their statements: YtlkifobajdafpaaTotals.lean).
  GIVEN WITH THE SEED: the statements are not yours to turn. If you find one false, say at which input.
  Laid BY PROGRAM, IN A SANDBOX (cutbox-rows.mjs): the forced cells as the released guide's own fill.sh prints them over the translation eba6342a6e8cca9a… (all of the seat's roots in one cut). By AI agents, Wed Nov 11 2026. No macro, syntax, notation, axiom, sorry.
-/
import Derived.Test.YtlkifobajdafpaaChecked
import GoSem.Claim
import GoSem.ClaimJoined
import GoSem.ClaimMapViews
import Derived.JoinedTies
import Derived.KernelRfl
namespace Go.Proofs.Ytlkifobajdafpaa
/- THE CELL 'sum', in the pinned program and in every row, IS THE sha256 OF THE DUMP (.gsa) THAT YtlkifobajdafpaaProg.lean LOADS. Nothing in Lean hashes anything: it is a label: what it is worth is what the hold of that sum in a sandbox is worth. -/
noncomputable def Try.pinned : Pinned := { name := "ytlkifobajdafpaa", sum := "eba6342a6e8cca9ac5b41e8d1172c25543145c51048a41cd44c1fee6688c8925", checked := Try.checked }
namespace Rows
def none {H : Type} : Left H := { results := [], args := [] }

/-- 'changeoverlaw35.ElectRings': WHATEVER THE INPUT: true; the input reads as it did. -/
def electRingsSpec : ChangeSpec := { name := "electRings", fn := fun _ => fun
  | [d1, d2] => { results := [.lit (.bool true)], args := [d1, d2] }
  | _ => none }
def electRingsRow : OpenClaim := { program := "ytlkifobajdafpaa", sum := "eba6342a6e8cca9ac5b41e8d1172c25543145c51048a41cd44c1fee6688c8925", func := "changeover/changeoverlaw35.ElectRings", spec := "electRings", unfollowed := true, recurses := true, apart := false }
def ElectRingsSaid : Prop := electRingsRow.holds Try.pinned (OpenSpec.ofChange electRingsSpec)

/-- ITS FALSE NEIGHBOUR: 'it returns false'. Refute it at one input. -/
def electRingsWrong : ChangeSpec := { name := "electRings", fn := fun _ => fun
  | [d1, d2] => { results := [.lit (.bool false)], args := [d1, d2] }
  | _ => none }
def ElectRingsWrongFalsely : Prop := electRingsRow.holds Try.pinned (OpenSpec.ofChange electRingsWrong)

/-- 'changeoverlaw35.ElectAlone': WHATEVER THE INPUT: true; the input reads as it did. -/
def electAloneSpec : ChangeSpec := { name := "electAlone", fn := fun _ => fun
  | [d] => { results := [.lit (.bool true)], args := [d] }
  | _ => none }
def electAloneRow : OpenClaim := { program := "ytlkifobajdafpaa", sum := "eba6342a6e8cca9ac5b41e8d1172c25543145c51048a41cd44c1fee6688c8925", func := "changeover/changeoverlaw35.ElectAlone", spec := "electAlone", unfollowed := true, recurses := true, apart := false }
def ElectAloneSaid : Prop := electAloneRow.holds Try.pinned (OpenSpec.ofChange electAloneSpec)

/-- ITS FALSE NEIGHBOUR: 'it returns false'. Refute it at one input. -/
def electAloneWrong : ChangeSpec := { name := "electAlone", fn := fun _ => fun
  | [d] => { results := [.lit (.bool false)], args := [d] }
  | _ => none }
def ElectAloneWrongFalsely : Prop := electAloneRow.holds Try.pinned (OpenSpec.ofChange electAloneWrong)

/-- 'changeoverlaw01.VarintBytes': WHATEVER THE INPUT: true; the input reads as it did. -/
def varintBytesSpec : ChangeSpec := { name := "varintBytes", fn := fun _ => fun
  | [d1, d2] => { results := [.lit (.bool true)], args := [d1, d2] }
  | _ => none }
def varintBytesRow : OpenClaim := { program := "ytlkifobajdafpaa", sum := "eba6342a6e8cca9ac5b41e8d1172c25543145c51048a41cd44c1fee6688c8925", func := "changeover/changeoverlaw01.VarintBytes", spec := "varintBytes", apart := false }
def VarintBytesSaid : Prop := varintBytesRow.holds Try.pinned (OpenSpec.ofChange varintBytesSpec)

/-- ITS FALSE NEIGHBOUR: 'it returns false'. Refute it at one input. -/
def varintBytesWrong : ChangeSpec := { name := "varintBytes", fn := fun _ => fun
  | [d1, d2] => { results := [.lit (.bool false)], args := [d1, d2] }
  | _ => none }
def VarintBytesWrongFalsely : Prop := varintBytesRow.holds Try.pinned (OpenSpec.ofChange varintBytesWrong)

/-- 'changeoverlaw01.VarintApart': WHATEVER THE INPUT: true; the input reads as it did. -/
def varintApartSpec : ChangeSpec := { name := "varintApart", fn := fun _ => fun
  | [d1, d2] => { results := [.lit (.bool true)], args := [d1, d2] }
  | _ => none }
def varintApartRow : OpenClaim := { program := "ytlkifobajdafpaa", sum := "eba6342a6e8cca9ac5b41e8d1172c25543145c51048a41cd44c1fee6688c8925", func := "changeover/changeoverlaw01.VarintApart", spec := "varintApart", apart := false }
def VarintApartSaid : Prop := varintApartRow.holds Try.pinned (OpenSpec.ofChange varintApartSpec)

/-- ITS FALSE NEIGHBOUR: 'it returns false'. Refute it at one input. -/
def varintApartWrong : ChangeSpec := { name := "varintApart", fn := fun _ => fun
  | [d1, d2] => { results := [.lit (.bool false)], args := [d1, d2] }
  | _ => none }
def VarintApartWrongFalsely : Prop := varintApartRow.holds Try.pinned (OpenSpec.ofChange varintApartWrong)

/-- 'changeoverlaw01.VarintBack': WHATEVER THE INPUT: true; the input reads as it did. -/
def varintBackSpec : ChangeSpec := { name := "varintBack", fn := fun _ => fun
  | [d1, d2, d3] => { results := [.lit (.bool true)], args := [d1, d2, d3] }
  | _ => none }
def varintBackRow : OpenClaim := { program := "ytlkifobajdafpaa", sum := "eba6342a6e8cca9ac5b41e8d1172c25543145c51048a41cd44c1fee6688c8925", func := "changeover/changeoverlaw01.VarintBack", spec := "varintBack", apart := false }
def VarintBackSaid : Prop := varintBackRow.holds Try.pinned (OpenSpec.ofChange varintBackSpec)

/-- ITS FALSE NEIGHBOUR: 'it returns false'. Refute it at one input. -/
def varintBackWrong : ChangeSpec := { name := "varintBack", fn := fun _ => fun
  | [d1, d2, d3] => { results := [.lit (.bool false)], args := [d1, d2, d3] }
  | _ => none }
def VarintBackWrongFalsely : Prop := varintBackRow.holds Try.pinned (OpenSpec.ofChange varintBackWrong)

/-- 'changeoverlaw38.BagDoes': WHATEVER THE INPUT: true; the input reads as it did. -/
def bagDoesSpec : ChangeSpec := { name := "bagDoes", fn := fun _ => fun
  | [d1, d2] => { results := [.lit (.bool true)], args := [d1, d2] }
  | _ => none }
def bagDoesRow : OpenClaim := { program := "ytlkifobajdafpaa", sum := "eba6342a6e8cca9ac5b41e8d1172c25543145c51048a41cd44c1fee6688c8925", func := "changeover/changeoverlaw38.BagDoes", spec := "bagDoes", unfollowed := true, recurses := true, apart := false }
def BagDoesSaid : Prop := bagDoesRow.holds Try.pinned (OpenSpec.ofChange bagDoesSpec)

/-- ITS FALSE NEIGHBOUR: 'it returns false'. Refute it at one input. -/
def bagDoesWrong : ChangeSpec := { name := "bagDoes", fn := fun _ => fun
  | [d1, d2] => { results := [.lit (.bool false)], args := [d1, d2] }
  | _ => none }
def BagDoesWrongFalsely : Prop := bagDoesRow.holds Try.pinned (OpenSpec.ofChange bagDoesWrong)

/-- 'changeoverlaw38.BagFull': WHATEVER THE INPUT: true; the input reads as it did. -/
def bagFullSpec : ChangeSpec := { name := "bagFull", fn := fun _ => fun
  | [d1, d2] => { results := [.lit (.bool true)], args := [d1, d2] }
  | _ => none }
def bagFullRow : OpenClaim := { program := "ytlkifobajdafpaa", sum := "eba6342a6e8cca9ac5b41e8d1172c25543145c51048a41cd44c1fee6688c8925", func := "changeover/changeoverlaw38.BagFull", spec := "bagFull", unfollowed := true, recurses := true, apart := false }
def BagFullSaid : Prop := bagFullRow.holds Try.pinned (OpenSpec.ofChange bagFullSpec)

/-- ITS FALSE NEIGHBOUR: 'it returns false'. Refute it at one input. -/
def bagFullWrong : ChangeSpec := { name := "bagFull", fn := fun _ => fun
  | [d1, d2] => { results := [.lit (.bool false)], args := [d1, d2] }
  | _ => none }
def BagFullWrongFalsely : Prop := bagFullRow.holds Try.pinned (OpenSpec.ofChange bagFullWrong)

/- THE SECOND FORM. 'bulk': how many values and letters a reading holds, each counted each time it is reached (what is shared counts as often as it is met; a slice's spare places count too). A statement '..UptoSaid' is the law's where the arguments, and the package variables that the reading takes, are together of bulk at most 1048576: NARROWER than '..Said'. Prove '..Said' where nothing that the law and all that it calls make is longer than what came in: it says more and counts as full. Else prove '..UptoSaid'. A law counts once. -/
mutual
def uptoBulk {H : Type} : DataW H → Nat
  | .lit (.string bytes) => bytes.length + 1
  | .lit _ => 1
  | .nil => 1
  | .ptr d => uptoBulk d + 1
  | .slice elems spare => uptoBulkAll elems + uptoBulkAll spare + 1
  | .agg parts => uptoBulkAll parts + 1
  | .iface _ d => uptoBulk d + 1
  | .map entries => uptoBulkEntries entries + 1
  | .held _ => 1
def uptoBulkAll {H : Type} : List (DataW H) → Nat
  | [] => 0
  | d :: r => uptoBulk d + uptoBulkAll r
def uptoBulkEntries {H : Type} : List (Lit × DataW H) → Nat
  | [] => 0
  | x :: r => uptoBulkEntry x + uptoBulkEntries r
def uptoBulkEntry {H : Type} : Lit × DataW H → Nat
  | (.string bytes, d) => bytes.length + uptoBulk d + 1
  | (_, d) => uptoBulk d + 1
 end
def uptoSmall : (H : Type) → List (DataW H) → Bool := fun _ ds => decide (uptoBulkAll ds ≤ 1048576)
def OpenSpec.upto (s : _root_.Go.ChangeSpec) : _root_.Go.OpenSpec := { _root_.Go.OpenSpec.ofChange s with cond := some uptoSmall }

/-- 'changeoverlaw35.ElectRings', WHERE WHAT IT READS IS OF BULK AT MOST 1048576: true; the input reads as it did. -/
def electRingsUptoRow : OpenClaim := { program := "ytlkifobajdafpaa", sum := "eba6342a6e8cca9ac5b41e8d1172c25543145c51048a41cd44c1fee6688c8925", func := "changeover/changeoverlaw35.ElectRings", spec := "electRings", unfollowed := true, recurses := true, apart := false, narrowed := true }
def ElectRingsUptoSaid : Prop := electRingsUptoRow.holds Try.pinned (OpenSpec.upto electRingsSpec)

/-- 'changeoverlaw35.ElectAlone', WHERE WHAT IT READS IS OF BULK AT MOST 1048576: true; the input reads as it did. -/
def electAloneUptoRow : OpenClaim := { program := "ytlkifobajdafpaa", sum := "eba6342a6e8cca9ac5b41e8d1172c25543145c51048a41cd44c1fee6688c8925", func := "changeover/changeoverlaw35.ElectAlone", spec := "electAlone", unfollowed := true, recurses := true, apart := false, narrowed := true }
def ElectAloneUptoSaid : Prop := electAloneUptoRow.holds Try.pinned (OpenSpec.upto electAloneSpec)

/-- 'changeoverlaw01.VarintBytes', WHERE WHAT IT READS IS OF BULK AT MOST 1048576: true; the input reads as it did. -/
def varintBytesUptoRow : OpenClaim := { program := "ytlkifobajdafpaa", sum := "eba6342a6e8cca9ac5b41e8d1172c25543145c51048a41cd44c1fee6688c8925", func := "changeover/changeoverlaw01.VarintBytes", spec := "varintBytes", apart := false, narrowed := true }
def VarintBytesUptoSaid : Prop := varintBytesUptoRow.holds Try.pinned (OpenSpec.upto varintBytesSpec)

/-- 'changeoverlaw01.VarintApart', WHERE WHAT IT READS IS OF BULK AT MOST 1048576: true; the input reads as it did. -/
def varintApartUptoRow : OpenClaim := { program := "ytlkifobajdafpaa", sum := "eba6342a6e8cca9ac5b41e8d1172c25543145c51048a41cd44c1fee6688c8925", func := "changeover/changeoverlaw01.VarintApart", spec := "varintApart", apart := false, narrowed := true }
def VarintApartUptoSaid : Prop := varintApartUptoRow.holds Try.pinned (OpenSpec.upto varintApartSpec)

/-- 'changeoverlaw01.VarintBack', WHERE WHAT IT READS IS OF BULK AT MOST 1048576: true; the input reads as it did. -/
def varintBackUptoRow : OpenClaim := { program := "ytlkifobajdafpaa", sum := "eba6342a6e8cca9ac5b41e8d1172c25543145c51048a41cd44c1fee6688c8925", func := "changeover/changeoverlaw01.VarintBack", spec := "varintBack", apart := false, narrowed := true }
def VarintBackUptoSaid : Prop := varintBackUptoRow.holds Try.pinned (OpenSpec.upto varintBackSpec)

/-- 'changeoverlaw38.BagDoes', WHERE WHAT IT READS IS OF BULK AT MOST 1048576: true; the input reads as it did. -/
def bagDoesUptoRow : OpenClaim := { program := "ytlkifobajdafpaa", sum := "eba6342a6e8cca9ac5b41e8d1172c25543145c51048a41cd44c1fee6688c8925", func := "changeover/changeoverlaw38.BagDoes", spec := "bagDoes", unfollowed := true, recurses := true, apart := false, narrowed := true }
def BagDoesUptoSaid : Prop := bagDoesUptoRow.holds Try.pinned (OpenSpec.upto bagDoesSpec)

/-- 'changeoverlaw38.BagFull', WHERE WHAT IT READS IS OF BULK AT MOST 1048576: true; the input reads as it did. -/
def bagFullUptoRow : OpenClaim := { program := "ytlkifobajdafpaa", sum := "eba6342a6e8cca9ac5b41e8d1172c25543145c51048a41cd44c1fee6688c8925", func := "changeover/changeoverlaw38.BagFull", spec := "bagFull", unfollowed := true, recurses := true, apart := false, narrowed := true }
def BagFullUptoSaid : Prop := bagFullUptoRow.holds Try.pinned (OpenSpec.upto bagFullSpec)

end Rows
end Go.Proofs.Ytlkifobajdafpaa
