/-
  DERIVED. GIVEN WITH THE SEED: THE CARDS: each row of YthfhkmgegkhljaaDoorRows.lean that lists a variable, with what it lists TIED to the program's text (the seventh form; the later family's looks); each row that meets fmt, with fmt's text TOLD by the authors' own Lean function (tested against real Go, not proved from fmt's source: count such statements apart). THE CARD IS WHAT COUNTS. Prove the row's statement (the work); the ties are given (YthfhkmgegkhljaaDoorTie.lean); close each card by the builder's one call (the guide's Derived/Test/ToyasCard.lean, 'card_holds'). Laid BY PROGRAM, IN A SANDBOX (cutbox-door.mjs). By AI agents, Wed Nov 11 2026. No macro, syntax, notation, axiom, sorry.
-/
import Derived.Test.YthfhkmgegkhljaaDoorRows
import GoSem.ClaimSeven
namespace Go.Proofs.YthfhkmgegkhljaaDoor
namespace Rows

/-- THE TIED CARD OF 'pleatlaw.GridTris'. -/
def gridTrisCard : Claim7 := { stood := { row := gridTrisRow, standIns := [], harness := (true, "dee50abab729980a33be139521d88b695c5d65e7e737ff20d30cb7f18671fa4b"), looks := false }, kinds := [], alts := [], laidByText := true, laidKinds := [.data], laidTests := true, laidLooks := .later }
def GridTrisCardSaid : Prop := Claim7.holds Tryd.pinned (.plain (OpenSpec.ofChange gridTrisSpec)) gridTrisCard

/-- THE TIED CARD OF 'pleatlaw.GridLines'. -/
def gridLinesCard : Claim7 := { stood := { row := gridLinesRow, standIns := [], harness := (true, "dee50abab729980a33be139521d88b695c5d65e7e737ff20d30cb7f18671fa4b"), looks := false }, kinds := [], alts := [], laidByText := true, laidKinds := [.data], laidTests := true, laidLooks := .later }
def GridLinesCardSaid : Prop := Claim7.holds Tryd.pinned (.plain (OpenSpec.ofChange gridLinesSpec)) gridLinesCard

/-- THE TIED CARD OF 'pleatlaw.GridMaps'. -/
def gridMapsCard : Claim7 := { stood := { row := gridMapsRow, standIns := [], harness := (true, "dee50abab729980a33be139521d88b695c5d65e7e737ff20d30cb7f18671fa4b"), looks := false }, kinds := [], alts := [], laidByText := true, laidKinds := [.data], laidTests := true, laidLooks := .later }
def GridMapsCardSaid : Prop := Claim7.holds Tryd.pinned (.plain (OpenSpec.ofChange gridMapsSpec)) gridMapsCard

/-- THE TIED CARD OF 'pleatkeep.GridGroup'. -/
def gridGroupCard : Claim7 := { stood := { row := gridGroupRow, standIns := [], harness := (true, "dee50abab729980a33be139521d88b695c5d65e7e737ff20d30cb7f18671fa4b"), looks := false }, kinds := [], alts := [], laidByText := true, laidKinds := [.data], laidTests := true, laidLooks := .later }
def GridGroupCardSaid : Prop := Claim7.holds Tryd.pinned (.plain (OpenSpec.ofChange gridGroupSpec)) gridGroupCard

/-- THE TIED CARD OF 'pleatkeep.GridTwice'. -/
def gridTwiceCard : Claim7 := { stood := { row := gridTwiceRow, standIns := [], harness := (true, "dee50abab729980a33be139521d88b695c5d65e7e737ff20d30cb7f18671fa4b"), looks := false }, kinds := [], alts := [], laidByText := true, laidKinds := [.data], laidTests := true, laidLooks := .later }
def GridTwiceCardSaid : Prop := Claim7.holds Tryd.pinned (.plain (OpenSpec.ofChange gridTwiceSpec)) gridTwiceCard

/-- THE SECOND FORM's CARD OF 'pleatlaw.GridTris'. -/
def gridTrisUptoCard : Claim7 := { stood := { row := gridTrisUptoRow, standIns := [], harness := (true, "dee50abab729980a33be139521d88b695c5d65e7e737ff20d30cb7f18671fa4b"), looks := false }, kinds := [], alts := [], laidByText := true, laidKinds := [.data], laidTests := true, laidLooks := .later }
def GridTrisUptoCardSaid : Prop := Claim7.holds Tryd.pinned (.plain (OpenSpec.upto gridTrisSpec)) gridTrisUptoCard

/-- THE SECOND FORM's CARD OF 'pleatlaw.GridLines'. -/
def gridLinesUptoCard : Claim7 := { stood := { row := gridLinesUptoRow, standIns := [], harness := (true, "dee50abab729980a33be139521d88b695c5d65e7e737ff20d30cb7f18671fa4b"), looks := false }, kinds := [], alts := [], laidByText := true, laidKinds := [.data], laidTests := true, laidLooks := .later }
def GridLinesUptoCardSaid : Prop := Claim7.holds Tryd.pinned (.plain (OpenSpec.upto gridLinesSpec)) gridLinesUptoCard

/-- THE SECOND FORM's CARD OF 'pleatlaw.GridMaps'. -/
def gridMapsUptoCard : Claim7 := { stood := { row := gridMapsUptoRow, standIns := [], harness := (true, "dee50abab729980a33be139521d88b695c5d65e7e737ff20d30cb7f18671fa4b"), looks := false }, kinds := [], alts := [], laidByText := true, laidKinds := [.data], laidTests := true, laidLooks := .later }
def GridMapsUptoCardSaid : Prop := Claim7.holds Tryd.pinned (.plain (OpenSpec.upto gridMapsSpec)) gridMapsUptoCard

/-- THE SECOND FORM's CARD OF 'pleatkeep.GridGroup'. -/
def gridGroupUptoCard : Claim7 := { stood := { row := gridGroupUptoRow, standIns := [], harness := (true, "dee50abab729980a33be139521d88b695c5d65e7e737ff20d30cb7f18671fa4b"), looks := false }, kinds := [], alts := [], laidByText := true, laidKinds := [.data], laidTests := true, laidLooks := .later }
def GridGroupUptoCardSaid : Prop := Claim7.holds Tryd.pinned (.plain (OpenSpec.upto gridGroupSpec)) gridGroupUptoCard

/-- THE SECOND FORM's CARD OF 'pleatkeep.GridTwice'. -/
def gridTwiceUptoCard : Claim7 := { stood := { row := gridTwiceUptoRow, standIns := [], harness := (true, "dee50abab729980a33be139521d88b695c5d65e7e737ff20d30cb7f18671fa4b"), looks := false }, kinds := [], alts := [], laidByText := true, laidKinds := [.data], laidTests := true, laidLooks := .later }
def GridTwiceUptoCardSaid : Prop := Claim7.holds Tryd.pinned (.plain (OpenSpec.upto gridTwiceSpec)) gridTwiceUptoCard
end Rows
end Go.Proofs.YthfhkmgegkhljaaDoor
