/-
  DERIVED. GIVEN WITH THE SEED: THE CARDS: each row of YtbnkabmnenginaaGreatDoorRows.lean that lists a variable, with what it lists TIED to the program's text (the seventh form; the later family's looks); each row that meets fmt, with fmt's text TOLD by the authors' own Lean function (tested against real Go, not proved from fmt's source: count such statements apart). THE CARD IS WHAT COUNTS. Prove the row's statement (the work); the ties are given (YtbnkabmnenginaaGreatDoorTie.lean); close each card by the builder's one call (the guide's Derived/Test/ToyasCard.lean, 'card_holds'). Laid BY PROGRAM, IN A SANDBOX (cutbox-door.mjs). By AI agents, Wed Nov 11 2026. No macro, syntax, notation, axiom, sorry.
-/
import Derived.Test.YtbnkabmnenginaaGreatDoorRows
import GoSem.ClaimSeven
namespace Go.Proofs.YtbnkabmnenginaaGreatDoor
namespace Rows

/-- THE TIED CARD OF 'pleatlaw.FoldFlat'. -/
def foldFlatCard : Claim7 := { stood := { row := foldFlatRow, standIns := [], harness := (true, "ba2f20c518ee07e313b76af170502f97bc76662d219a1db37aff272c617c649d"), looks := false }, kinds := [], alts := [], laidByText := true, laidKinds := [.data], laidTests := true, laidLooks := .later }
def FoldFlatCardSaid : Prop := Claim7.holds Tryz.pinned (.plain (OpenSpec.ofChange foldFlatSpec)) foldFlatCard

/-- THE SECOND FORM's CARD OF 'pleatlaw.FoldFlat'. -/
def foldFlatUptoCard : Claim7 := { stood := { row := foldFlatUptoRow, standIns := [], harness := (true, "ba2f20c518ee07e313b76af170502f97bc76662d219a1db37aff272c617c649d"), looks := false }, kinds := [], alts := [], laidByText := true, laidKinds := [.data], laidTests := true, laidLooks := .later }
def FoldFlatUptoCardSaid : Prop := Claim7.holds Tryz.pinned (.plain (OpenSpec.upto foldFlatSpec)) foldFlatUptoCard
end Rows
end Go.Proofs.YtbnkabmnenginaaGreatDoor
