/-
  DERIVED. GIVEN WITH THE SEED: THE CARDS: each row of YteaeipgfjmnecaaGreatDoorRows.lean that lists a variable, with what it lists TIED to the program's text (the seventh form; the later family's looks); each row that meets fmt, with fmt's text TOLD by the authors' own Lean function (tested against real Go, not proved from fmt's source: count such statements apart). THE CARD IS WHAT COUNTS. Prove the row's statement (the work); the ties are given (YteaeipgfjmnecaaGreatDoorTie.lean); close each card by the builder's one call (the guide's Derived/Test/ToyasCard.lean, 'card_holds'). Laid BY PROGRAM, IN A SANDBOX (cutbox-door.mjs). By AI agents, Wed Nov 11 2026. No macro, syntax, notation, axiom, sorry.
-/
import Derived.Test.YteaeipgfjmnecaaGreatDoorRows
import GoSem.ClaimSeven
namespace Go.Proofs.YteaeipgfjmnecaaGreatDoor
namespace Rows

/-- THE TIED CARD OF 'pleatlaw.StackTells'. -/
def stackTellsCard : Claim7 := { stood := { row := stackTellsRow, standIns := [], harness := (true, "670f2609efcf5f74fc718d7963aa0dd7e01bb8b2324ef9010b3bdb5f71b67c21"), looks := false }, kinds := [], alts := [], laidByText := true, laidKinds := [.data], laidTests := true, laidLooks := .later }
def StackTellsCardSaid : Prop := Claim7.holds Tryz.pinned (.plain (OpenSpec.ofChange stackTellsSpec)) stackTellsCard

/-- THE SECOND FORM's CARD OF 'pleatlaw.StackTells'. -/
def stackTellsUptoCard : Claim7 := { stood := { row := stackTellsUptoRow, standIns := [], harness := (true, "670f2609efcf5f74fc718d7963aa0dd7e01bb8b2324ef9010b3bdb5f71b67c21"), looks := false }, kinds := [], alts := [], laidByText := true, laidKinds := [.data], laidTests := true, laidLooks := .later }
def StackTellsUptoCardSaid : Prop := Claim7.holds Tryz.pinned (.plain (OpenSpec.upto stackTellsSpec)) stackTellsUptoCard
end Rows
end Go.Proofs.YteaeipgfjmnecaaGreatDoor
