/-
  DERIVED. GIVEN WITH THE SEED: THE CARDS: each row of YtnndadhkedlohaaDoorRows.lean that lists a variable, with what it lists TIED to the program's text (the seventh form; the later family's looks); each row that meets fmt, with fmt's text TOLD by the authors' own Lean function (tested against real Go, not proved from fmt's source: count such statements apart). THE CARD IS WHAT COUNTS. Prove the row's statement (the work); the ties are given (YtnndadhkedlohaaDoorTie.lean); close each card by the builder's one call (the guide's Derived/Test/ToyasCard.lean, 'card_holds'). Laid BY PROGRAM, IN A SANDBOX (cutbox-door.mjs). By AI agents, Wed Nov 11 2026. No macro, syntax, notation, axiom, sorry.
-/
import Derived.Test.YtnndadhkedlohaaDoorRows
import GoSem.ClaimSeven
namespace Go.Proofs.YtnndadhkedlohaaDoor
namespace Rows

/-- THE TIED CARD OF 'pleatlaw.CutPunches'. -/
def cutPunchesCard : Claim7 := { stood := { row := cutPunchesRow, standIns := [], harness := (true, "813024216cca57f6f16718514edaafc3ae29329ffdba4f68016ea5ce5a0e08ed"), looks := false }, kinds := [], alts := [], laidByText := true, laidKinds := [.data], laidTests := true, laidLooks := .later }
def CutPunchesCardSaid : Prop := Claim7.holds Tryd.pinned (.plain (OpenSpec.ofChange cutPunchesSpec)) cutPunchesCard

/-- THE TIED CARD OF 'pleatlaw.CutTells'. -/
def cutTellsCard : Claim7 := { stood := { row := cutTellsRow, standIns := [], harness := (true, "813024216cca57f6f16718514edaafc3ae29329ffdba4f68016ea5ce5a0e08ed"), looks := false }, kinds := [], alts := [], laidByText := true, laidKinds := [.data], laidTests := true, laidLooks := .later }
def CutTellsCardSaid : Prop := Claim7.holds Tryd.pinned (.plain (OpenSpec.ofChange cutTellsSpec)) cutTellsCard

/-- THE SECOND FORM's CARD OF 'pleatlaw.CutPunches'. -/
def cutPunchesUptoCard : Claim7 := { stood := { row := cutPunchesUptoRow, standIns := [], harness := (true, "813024216cca57f6f16718514edaafc3ae29329ffdba4f68016ea5ce5a0e08ed"), looks := false }, kinds := [], alts := [], laidByText := true, laidKinds := [.data], laidTests := true, laidLooks := .later }
def CutPunchesUptoCardSaid : Prop := Claim7.holds Tryd.pinned (.plain (OpenSpec.upto cutPunchesSpec)) cutPunchesUptoCard

/-- THE SECOND FORM's CARD OF 'pleatlaw.CutTells'. -/
def cutTellsUptoCard : Claim7 := { stood := { row := cutTellsUptoRow, standIns := [], harness := (true, "813024216cca57f6f16718514edaafc3ae29329ffdba4f68016ea5ce5a0e08ed"), looks := false }, kinds := [], alts := [], laidByText := true, laidKinds := [.data], laidTests := true, laidLooks := .later }
def CutTellsUptoCardSaid : Prop := Claim7.holds Tryd.pinned (.plain (OpenSpec.upto cutTellsSpec)) cutTellsUptoCard
end Rows
end Go.Proofs.YtnndadhkedlohaaDoor
