/-
  DERIVED. GIVEN WITH THE SEED: THE CARDS: each row of YtdclfdinhdaadaaGreatDoorRows.lean that lists a variable, with what it lists TIED to the program's text (the seventh form; the later family's looks); each row that meets fmt, with fmt's text TOLD by the authors' own Lean function (tested against real Go, not proved from fmt's source: count such statements apart). THE CARD IS WHAT COUNTS. Prove the row's statement (the work); the ties are given (YtdclfdinhdaadaaGreatDoorTie.lean); close each card by the builder's one call (the guide's Derived/Test/ToyasCard.lean, 'card_holds'). Laid BY PROGRAM, IN A SANDBOX (cutbox-door.mjs). By AI agents, Wed Nov 11 2026. No macro, syntax, notation, axiom, sorry.
-/
import Derived.Test.YtdclfdinhdaadaaGreatDoorRows
import GoSem.ClaimSeven
namespace Go.Proofs.YtdclfdinhdaadaaGreatDoor
namespace Rows

/-- THE TIED CARD OF 'changeovertop.TopMigrates'. -/
def topMigratesCard : Claim7 := { stood := { row := topMigratesRow, standIns := [], harness := (true, "220420d55b4e0548a879c425699afc3c4923d7fddd720585100badfbd4b16764"), looks := true }, kinds := [], alts := [], laidByText := true, laidKinds := [.data, .pinned], laidTests := true, laidLooks := .later }
def TopMigratesCardSaid : Prop := Claim7.holds Tryz.pinned (.plain (OpenSpec.ofChange topMigratesSpec)) topMigratesCard

/-- THE TIED CARD OF 'changeovertop.TopImages'. -/
def topImagesCard : Claim7 := { stood := { row := topImagesRow, standIns := [], harness := (true, "220420d55b4e0548a879c425699afc3c4923d7fddd720585100badfbd4b16764"), looks := true }, kinds := [], alts := [], laidByText := true, laidKinds := [.data, .pinned], laidTests := true, laidLooks := .later }
def TopImagesCardSaid : Prop := Claim7.holds Tryz.pinned (.plain (OpenSpec.ofChange topImagesSpec)) topImagesCard

/-- THE SECOND FORM's CARD OF 'changeovertop.TopMigrates'. -/
def topMigratesUptoCard : Claim7 := { stood := { row := topMigratesUptoRow, standIns := [], harness := (true, "220420d55b4e0548a879c425699afc3c4923d7fddd720585100badfbd4b16764"), looks := true }, kinds := [], alts := [], laidByText := true, laidKinds := [.data, .pinned], laidTests := true, laidLooks := .later }
def TopMigratesUptoCardSaid : Prop := Claim7.holds Tryz.pinned (.plain (OpenSpec.upto topMigratesSpec)) topMigratesUptoCard

/-- THE SECOND FORM's CARD OF 'changeovertop.TopImages'. -/
def topImagesUptoCard : Claim7 := { stood := { row := topImagesUptoRow, standIns := [], harness := (true, "220420d55b4e0548a879c425699afc3c4923d7fddd720585100badfbd4b16764"), looks := true }, kinds := [], alts := [], laidByText := true, laidKinds := [.data, .pinned], laidTests := true, laidLooks := .later }
def TopImagesUptoCardSaid : Prop := Claim7.holds Tryz.pinned (.plain (OpenSpec.upto topImagesSpec)) topImagesUptoCard
end Rows
end Go.Proofs.YtdclfdinhdaadaaGreatDoor
