/-
  NARROWER THAN 'FOR EVERY INPUT', by the rows' own cells (each row's printed sentence says how): GridTris: laid · GridLines: laid · GridMaps: laid · GridGroup: laid · GridTwice: laid.
  DERIVED. THE GIVEN ROWS OF THIS SEAT. 5 by the template 'for every input the law returns true; each argument reads behind the call as it read before'; 0 by the template 'total and deterministic' (their statements: YthfhkmgegkhljaaDoorTotals.lean).
  GIVEN WITH THE SEED: the statements are not yours to turn. If you find one false, say at which input.
  Laid BY PROGRAM, IN A SANDBOX (cutbox-rows.mjs): the forced cells as the released guide's own fill.sh prints them over the translation 991d733a4d51af5f… (all of the seat's roots in one cut). By AI agents, Wed Nov 11 2026. No macro, syntax, notation, axiom, sorry.
-/
import Derived.Test.YthfhkmgegkhljaaDoorChecked
import GoSem.Claim
import GoSem.ClaimJoined
import GoSem.ClaimMapViews
import Derived.JoinedTies
import Derived.KernelRfl
namespace Go.Proofs.YthfhkmgegkhljaaDoor
/- THE CELL 'sum', in the pinned program and in every row, IS THE sha256 OF THE DUMP (.gsa) THAT YthfhkmgegkhljaaDoorProg.lean LOADS. Nothing in Lean hashes anything: it is a label: what it is worth is what the hold of that sum in a sandbox is worth. -/
noncomputable def Tryd.pinned : Pinned := { name := "ythfhkmgegkhljaadoor", sum := "991d733a4d51af5f82d1e1e648c3ab21db589eca0445aa129d8e7f603ac34f47", checked := Tryd.checked }
namespace Rows
def none {H : Type} : Left H := { results := [], args := [] }

/- WHAT THE LISTED PACKAGE-LEVEL VARIABLES READ AS WHEN THE CALL BEGINS. Each datum BY PROGRAM (the guide's laid-datum.mjs) off the statement by which the dump's own 'gosem.cut.vars' lays the variable. In a bare row this is a premise. The card (YthfhkmgegkhljaaDoorCards.lean) ties it to the program's text. -/
def laid_pleat_tile_steps {H : Type} : DataW H := .agg [.agg [.lit (.int .i64 (-1)), .lit (.int .i64 (-1))], .agg [.lit (.int .i64 1), .lit (.int .i64 (-1))], .agg [.lit (.int .i64 1), .lit (.int .i64 1)], .agg [.lit (.int .i64 (-1)), .lit (.int .i64 1)]]

/-- 'pleatlaw.GridTris': WHATEVER THE INPUT: true; the input reads as it did. -/
def gridTrisSpec : ChangeSpec := { name := "gridTris", fn := fun _ => fun
  | [d1, d2] => { results := [.lit (.bool true)], args := [d1, d2] }
  | _ => none }
def gridTrisRow : OpenClaim := { program := "ythfhkmgegkhljaadoor", sum := "991d733a4d51af5f82d1e1e648c3ab21db589eca0445aa129d8e7f603ac34f47", func := "pleat/pleatlaw.GridTris", spec := "gridTris", unfollowed := true, recurses := true, named := ["pleat/tile.steps"], apart := false, laid := [("pleat/tile.steps", laid_pleat_tile_steps)] }
def GridTrisSaid : Prop := gridTrisRow.holds Tryd.pinned (OpenSpec.ofChange gridTrisSpec)

/-- ITS FALSE NEIGHBOUR: 'it returns false'. Refute it at one input. -/
def gridTrisWrong : ChangeSpec := { name := "gridTris", fn := fun _ => fun
  | [d1, d2] => { results := [.lit (.bool false)], args := [d1, d2] }
  | _ => none }
def GridTrisWrongFalsely : Prop := gridTrisRow.holds Tryd.pinned (OpenSpec.ofChange gridTrisWrong)

/-- 'pleatlaw.GridLines': WHATEVER THE INPUT: true; the input reads as it did. -/
def gridLinesSpec : ChangeSpec := { name := "gridLines", fn := fun _ => fun
  | [d1, d2] => { results := [.lit (.bool true)], args := [d1, d2] }
  | _ => none }
def gridLinesRow : OpenClaim := { program := "ythfhkmgegkhljaadoor", sum := "991d733a4d51af5f82d1e1e648c3ab21db589eca0445aa129d8e7f603ac34f47", func := "pleat/pleatlaw.GridLines", spec := "gridLines", unfollowed := true, recurses := true, named := ["pleat/tile.steps"], apart := false, laid := [("pleat/tile.steps", laid_pleat_tile_steps)] }
def GridLinesSaid : Prop := gridLinesRow.holds Tryd.pinned (OpenSpec.ofChange gridLinesSpec)

/-- ITS FALSE NEIGHBOUR: 'it returns false'. Refute it at one input. -/
def gridLinesWrong : ChangeSpec := { name := "gridLines", fn := fun _ => fun
  | [d1, d2] => { results := [.lit (.bool false)], args := [d1, d2] }
  | _ => none }
def GridLinesWrongFalsely : Prop := gridLinesRow.holds Tryd.pinned (OpenSpec.ofChange gridLinesWrong)

/-- 'pleatlaw.GridMaps': WHATEVER THE INPUT: true; the input reads as it did. -/
def gridMapsSpec : ChangeSpec := { name := "gridMaps", fn := fun _ => fun
  | [d1, d2, d3] => { results := [.lit (.bool true)], args := [d1, d2, d3] }
  | _ => none }
def gridMapsRow : OpenClaim := { program := "ythfhkmgegkhljaadoor", sum := "991d733a4d51af5f82d1e1e648c3ab21db589eca0445aa129d8e7f603ac34f47", func := "pleat/pleatlaw.GridMaps", spec := "gridMaps", unfollowed := true, recurses := true, named := ["pleat/tile.steps"], apart := false, laid := [("pleat/tile.steps", laid_pleat_tile_steps)] }
def GridMapsSaid : Prop := gridMapsRow.holds Tryd.pinned (OpenSpec.ofChange gridMapsSpec)

/-- ITS FALSE NEIGHBOUR: 'it returns false'. Refute it at one input. -/
def gridMapsWrong : ChangeSpec := { name := "gridMaps", fn := fun _ => fun
  | [d1, d2, d3] => { results := [.lit (.bool false)], args := [d1, d2, d3] }
  | _ => none }
def GridMapsWrongFalsely : Prop := gridMapsRow.holds Tryd.pinned (OpenSpec.ofChange gridMapsWrong)

/-- 'pleatkeep.GridGroup': WHATEVER THE INPUT: true; the input reads as it did. -/
def gridGroupSpec : ChangeSpec := { name := "gridGroup", fn := fun _ => fun
  | [d1, d2, d3, d4, d5] => { results := [.lit (.bool true)], args := [d1, d2, d3, d4, d5] }
  | _ => none }
def gridGroupRow : OpenClaim := { program := "ythfhkmgegkhljaadoor", sum := "991d733a4d51af5f82d1e1e648c3ab21db589eca0445aa129d8e7f603ac34f47", func := "pleat/pleatkeep.GridGroup", spec := "gridGroup", unfollowed := true, recurses := true, named := ["pleat/tile.steps"], apart := false, laid := [("pleat/tile.steps", laid_pleat_tile_steps)] }
def GridGroupSaid : Prop := gridGroupRow.holds Tryd.pinned (OpenSpec.ofChange gridGroupSpec)

/-- ITS FALSE NEIGHBOUR: 'it returns false'. Refute it at one input. -/
def gridGroupWrong : ChangeSpec := { name := "gridGroup", fn := fun _ => fun
  | [d1, d2, d3, d4, d5] => { results := [.lit (.bool false)], args := [d1, d2, d3, d4, d5] }
  | _ => none }
def GridGroupWrongFalsely : Prop := gridGroupRow.holds Tryd.pinned (OpenSpec.ofChange gridGroupWrong)

/-- 'pleatkeep.GridTwice': WHATEVER THE INPUT: true; the input reads as it did. -/
def gridTwiceSpec : ChangeSpec := { name := "gridTwice", fn := fun _ => fun
  | [d1, d2, d3, d4, d5] => { results := [.lit (.bool true)], args := [d1, d2, d3, d4, d5] }
  | _ => none }
def gridTwiceRow : OpenClaim := { program := "ythfhkmgegkhljaadoor", sum := "991d733a4d51af5f82d1e1e648c3ab21db589eca0445aa129d8e7f603ac34f47", func := "pleat/pleatkeep.GridTwice", spec := "gridTwice", unfollowed := true, recurses := true, named := ["pleat/tile.steps"], apart := false, laid := [("pleat/tile.steps", laid_pleat_tile_steps)] }
def GridTwiceSaid : Prop := gridTwiceRow.holds Tryd.pinned (OpenSpec.ofChange gridTwiceSpec)

/-- ITS FALSE NEIGHBOUR: 'it returns false'. Refute it at one input. -/
def gridTwiceWrong : ChangeSpec := { name := "gridTwice", fn := fun _ => fun
  | [d1, d2, d3, d4, d5] => { results := [.lit (.bool false)], args := [d1, d2, d3, d4, d5] }
  | _ => none }
def GridTwiceWrongFalsely : Prop := gridTwiceRow.holds Tryd.pinned (OpenSpec.ofChange gridTwiceWrong)

/- THE SECOND FORM. 'bulk': how many values and letters a reading holds, each counted each time it is reached (what is shared counts as often as it is met; a slice's spare places count too). A statement '..UptoSaid' is the law's where the arguments, and the package variables that the reading takes, are together of bulk at most 1048576: NARROWER than '..Said'. Prove '..Said' where nothing that the law and all that it calls make is longer than what came in: it says more and counts as full. Else prove '..UptoSaid'. A law counts once. -/
mutual
def uptoBulk {H : Type} : DataW H → Nat
  | .lit (.string bytes) => bytes.length + 1
  | .lit _ => 1
  | .nil => 1
  | .ptr d => uptoBulk d + 1
  | .slice elems spare => uptoBulkAll elems + uptoBulkAll spare + 1
  | .agg parts => uptoBulkAll parts + 1
  | .iface _ d => uptoBulk d + 1
  | .map entries => uptoBulkEntries entries + 1
  | .held _ => 1
def uptoBulkAll {H : Type} : List (DataW H) → Nat
  | [] => 0
  | d :: r => uptoBulk d + uptoBulkAll r
def uptoBulkEntries {H : Type} : List (Lit × DataW H) → Nat
  | [] => 0
  | x :: r => uptoBulkEntry x + uptoBulkEntries r
def uptoBulkEntry {H : Type} : Lit × DataW H → Nat
  | (.string bytes, d) => bytes.length + uptoBulk d + 1
  | (_, d) => uptoBulk d + 1
 end
def uptoSmall : (H : Type) → List (DataW H) → Bool := fun _ ds => decide (uptoBulkAll ds ≤ 1048576)
def OpenSpec.upto (s : _root_.Go.ChangeSpec) : _root_.Go.OpenSpec := { _root_.Go.OpenSpec.ofChange s with cond := some uptoSmall }

/-- 'pleatlaw.GridTris', WHERE WHAT IT READS IS OF BULK AT MOST 1048576: true; the input reads as it did. -/
def gridTrisUptoRow : OpenClaim := { program := "ythfhkmgegkhljaadoor", sum := "991d733a4d51af5f82d1e1e648c3ab21db589eca0445aa129d8e7f603ac34f47", func := "pleat/pleatlaw.GridTris", spec := "gridTris", unfollowed := true, recurses := true, named := ["pleat/tile.steps"], apart := false, laid := [("pleat/tile.steps", laid_pleat_tile_steps)], narrowed := true }
def GridTrisUptoSaid : Prop := gridTrisUptoRow.holds Tryd.pinned (OpenSpec.upto gridTrisSpec)

/-- 'pleatlaw.GridLines', WHERE WHAT IT READS IS OF BULK AT MOST 1048576: true; the input reads as it did. -/
def gridLinesUptoRow : OpenClaim := { program := "ythfhkmgegkhljaadoor", sum := "991d733a4d51af5f82d1e1e648c3ab21db589eca0445aa129d8e7f603ac34f47", func := "pleat/pleatlaw.GridLines", spec := "gridLines", unfollowed := true, recurses := true, named := ["pleat/tile.steps"], apart := false, laid := [("pleat/tile.steps", laid_pleat_tile_steps)], narrowed := true }
def GridLinesUptoSaid : Prop := gridLinesUptoRow.holds Tryd.pinned (OpenSpec.upto gridLinesSpec)

/-- 'pleatlaw.GridMaps', WHERE WHAT IT READS IS OF BULK AT MOST 1048576: true; the input reads as it did. -/
def gridMapsUptoRow : OpenClaim := { program := "ythfhkmgegkhljaadoor", sum := "991d733a4d51af5f82d1e1e648c3ab21db589eca0445aa129d8e7f603ac34f47", func := "pleat/pleatlaw.GridMaps", spec := "gridMaps", unfollowed := true, recurses := true, named := ["pleat/tile.steps"], apart := false, laid := [("pleat/tile.steps", laid_pleat_tile_steps)], narrowed := true }
def GridMapsUptoSaid : Prop := gridMapsUptoRow.holds Tryd.pinned (OpenSpec.upto gridMapsSpec)

/-- 'pleatkeep.GridGroup', WHERE WHAT IT READS IS OF BULK AT MOST 1048576: true; the input reads as it did. -/
def gridGroupUptoRow : OpenClaim := { program := "ythfhkmgegkhljaadoor", sum := "991d733a4d51af5f82d1e1e648c3ab21db589eca0445aa129d8e7f603ac34f47", func := "pleat/pleatkeep.GridGroup", spec := "gridGroup", unfollowed := true, recurses := true, named := ["pleat/tile.steps"], apart := false, laid := [("pleat/tile.steps", laid_pleat_tile_steps)], narrowed := true }
def GridGroupUptoSaid : Prop := gridGroupUptoRow.holds Tryd.pinned (OpenSpec.upto gridGroupSpec)

/-- 'pleatkeep.GridTwice', WHERE WHAT IT READS IS OF BULK AT MOST 1048576: true; the input reads as it did. -/
def gridTwiceUptoRow : OpenClaim := { program := "ythfhkmgegkhljaadoor", sum := "991d733a4d51af5f82d1e1e648c3ab21db589eca0445aa129d8e7f603ac34f47", func := "pleat/pleatkeep.GridTwice", spec := "gridTwice", unfollowed := true, recurses := true, named := ["pleat/tile.steps"], apart := false, laid := [("pleat/tile.steps", laid_pleat_tile_steps)], narrowed := true }
def GridTwiceUptoSaid : Prop := gridTwiceUptoRow.holds Tryd.pinned (OpenSpec.upto gridTwiceSpec)

end Rows
end Go.Proofs.YthfhkmgegkhljaaDoor
