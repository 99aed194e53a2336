/-
  DERIVED. GIVEN WITH THE SEED: THE CARDS: each row of YtoienokpchbglaaDoorRows.lean that lists a variable, with what it lists TIED to the program's text (the seventh form; the later family's looks); each row that meets fmt, with fmt's text TOLD by the authors' own Lean function (tested against real Go, not proved from fmt's source: count such statements apart). THE CARD IS WHAT COUNTS. Prove the row's statement (the work); the ties are given (YtoienokpchbglaaDoorTie.lean); close each card by the builder's one call (the guide's Derived/Test/ToyasCard.lean, 'card_holds'). Laid BY PROGRAM, IN A SANDBOX (cutbox-door.mjs). By AI agents, Wed Nov 11 2026. No macro, syntax, notation, axiom, sorry.
-/
import Derived.Test.YtoienokpchbglaaDoorRows
import GoSem.ClaimSeven
namespace Go.Proofs.YtoienokpchbglaaDoor
namespace Rows

/-- THE TIED CARD OF 'pleatlaw.SheetTells'. -/
def sheetTellsCard : Claim7 := { stood := { row := sheetTellsRow, standIns := [], harness := (true, "51057a1016e90602d2ad4fcd39979c9c5a3c23eb591d07af25222d87ee9f1812"), looks := false }, kinds := [], alts := [], laidByText := true, laidKinds := [.data, .data, .data, .data], laidTests := true, laidLooks := .later }
def SheetTellsCardSaid : Prop := Claim7.holds Tryd.pinned (.plain (OpenSpec.ofChange sheetTellsSpec)) sheetTellsCard

/-- THE TIED CARD OF 'pleatlaw.FacesTell'. -/
def facesTellCard : Claim7 := { stood := { row := facesTellRow, standIns := [], harness := (true, "51057a1016e90602d2ad4fcd39979c9c5a3c23eb591d07af25222d87ee9f1812"), looks := false }, kinds := [], alts := [], laidByText := true, laidKinds := [.data], laidTests := true, laidLooks := .later }
def FacesTellCardSaid : Prop := Claim7.holds Tryd.pinned (.plain (OpenSpec.ofChange facesTellSpec)) facesTellCard

/-- THE TIED CARD OF 'pleatlaw.FacesStars'. -/
def facesStarsCard : Claim7 := { stood := { row := facesStarsRow, standIns := [], harness := (true, "51057a1016e90602d2ad4fcd39979c9c5a3c23eb591d07af25222d87ee9f1812"), looks := false }, kinds := [], alts := [], laidByText := true, laidKinds := [.data], laidTests := true, laidLooks := .later }
def FacesStarsCardSaid : Prop := Claim7.holds Tryd.pinned (.plain (OpenSpec.ofChange facesStarsSpec)) facesStarsCard

/-- THE TIED CARD OF 'pleatlaw.FlatPlaces'. -/
def flatPlacesCard : Claim7 := { stood := { row := flatPlacesRow, standIns := [], harness := (true, "51057a1016e90602d2ad4fcd39979c9c5a3c23eb591d07af25222d87ee9f1812"), looks := false }, kinds := [], alts := [], laidByText := true, laidKinds := [.data], laidTests := true, laidLooks := .later }
def FlatPlacesCardSaid : Prop := Claim7.holds Tryd.pinned (.plain (OpenSpec.ofChange flatPlacesSpec)) flatPlacesCard

/-- THE TIED CARD OF 'pleatlaw.FlatTroubles'. -/
def flatTroublesCard : Claim7 := { stood := { row := flatTroublesRow, standIns := [], harness := (true, "51057a1016e90602d2ad4fcd39979c9c5a3c23eb591d07af25222d87ee9f1812"), looks := false }, kinds := [], alts := [], laidByText := true, laidKinds := [.data], laidTests := true, laidLooks := .later }
def FlatTroublesCardSaid : Prop := Claim7.holds Tryd.pinned (.plain (OpenSpec.ofChange flatTroublesSpec)) flatTroublesCard

/-- THE SECOND FORM's CARD OF 'pleatlaw.SheetTells'. -/
def sheetTellsUptoCard : Claim7 := { stood := { row := sheetTellsUptoRow, standIns := [], harness := (true, "51057a1016e90602d2ad4fcd39979c9c5a3c23eb591d07af25222d87ee9f1812"), looks := false }, kinds := [], alts := [], laidByText := true, laidKinds := [.data, .data, .data, .data], laidTests := true, laidLooks := .later }
def SheetTellsUptoCardSaid : Prop := Claim7.holds Tryd.pinned (.plain (OpenSpec.upto sheetTellsSpec)) sheetTellsUptoCard

/-- THE SECOND FORM's CARD OF 'pleatlaw.FacesTell'. -/
def facesTellUptoCard : Claim7 := { stood := { row := facesTellUptoRow, standIns := [], harness := (true, "51057a1016e90602d2ad4fcd39979c9c5a3c23eb591d07af25222d87ee9f1812"), looks := false }, kinds := [], alts := [], laidByText := true, laidKinds := [.data], laidTests := true, laidLooks := .later }
def FacesTellUptoCardSaid : Prop := Claim7.holds Tryd.pinned (.plain (OpenSpec.upto facesTellSpec)) facesTellUptoCard

/-- THE SECOND FORM's CARD OF 'pleatlaw.FacesStars'. -/
def facesStarsUptoCard : Claim7 := { stood := { row := facesStarsUptoRow, standIns := [], harness := (true, "51057a1016e90602d2ad4fcd39979c9c5a3c23eb591d07af25222d87ee9f1812"), looks := false }, kinds := [], alts := [], laidByText := true, laidKinds := [.data], laidTests := true, laidLooks := .later }
def FacesStarsUptoCardSaid : Prop := Claim7.holds Tryd.pinned (.plain (OpenSpec.upto facesStarsSpec)) facesStarsUptoCard

/-- THE SECOND FORM's CARD OF 'pleatlaw.FlatPlaces'. -/
def flatPlacesUptoCard : Claim7 := { stood := { row := flatPlacesUptoRow, standIns := [], harness := (true, "51057a1016e90602d2ad4fcd39979c9c5a3c23eb591d07af25222d87ee9f1812"), looks := false }, kinds := [], alts := [], laidByText := true, laidKinds := [.data], laidTests := true, laidLooks := .later }
def FlatPlacesUptoCardSaid : Prop := Claim7.holds Tryd.pinned (.plain (OpenSpec.upto flatPlacesSpec)) flatPlacesUptoCard

/-- THE SECOND FORM's CARD OF 'pleatlaw.FlatTroubles'. -/
def flatTroublesUptoCard : Claim7 := { stood := { row := flatTroublesUptoRow, standIns := [], harness := (true, "51057a1016e90602d2ad4fcd39979c9c5a3c23eb591d07af25222d87ee9f1812"), looks := false }, kinds := [], alts := [], laidByText := true, laidKinds := [.data], laidTests := true, laidLooks := .later }
def FlatTroublesUptoCardSaid : Prop := Claim7.holds Tryd.pinned (.plain (OpenSpec.upto flatTroublesSpec)) flatTroublesUptoCard
end Rows
end Go.Proofs.YtoienokpchbglaaDoor
