/-
  NARROWER THAN 'FOR EVERY INPUT', by the rows' own cells (each row's printed sentence says how): CutPunches: laid · CutTells: laid.
  DERIVED. THE GIVEN ROWS OF THIS SEAT. 2 by the template 'for every input the law returns true; each argument reads behind the call as it read before'; 0 by the template 'total and deterministic' (their statements: YtnndadhkedlohaaDoorTotals.lean).
  GIVEN WITH THE SEED: the statements are not yours to turn. If you find one false, say at which input.
  Laid BY PROGRAM, IN A SANDBOX (cutbox-rows.mjs): the forced cells as the released guide's own fill.sh prints them over the translation c5da029ab023d883… (all of the seat's roots in one cut). By AI agents, Wed Nov 11 2026. No macro, syntax, notation, axiom, sorry.
-/
import Derived.Test.YtnndadhkedlohaaDoorChecked
import GoSem.Claim
import GoSem.ClaimJoined
import GoSem.ClaimMapViews
import Derived.JoinedTies
import Derived.KernelRfl
namespace Go.Proofs.YtnndadhkedlohaaDoor
/- THE CELL 'sum', in the pinned program and in every row, IS THE sha256 OF THE DUMP (.gsa) THAT YtnndadhkedlohaaDoorProg.lean LOADS. Nothing in Lean hashes anything: it is a label: what it is worth is what the hold of that sum in a sandbox is worth. -/
noncomputable def Tryd.pinned : Pinned := { name := "ytnndadhkedlohaadoor", sum := "c5da029ab023d88325e094736bfc36c3d91230b02e76b73c40e096abb6def244", checked := Tryd.checked }
namespace Rows
def none {H : Type} : Left H := { results := [], args := [] }

/- WHAT THE LISTED PACKAGE-LEVEL VARIABLES READ AS WHEN THE CALL BEGINS. Each datum BY PROGRAM (the guide's laid-datum.mjs) off the statement by which the dump's own 'gosem.cut.vars' lays the variable. In a bare row this is a premise. The card (YtnndadhkedlohaaDoorCards.lean) ties it to the program's text. -/
def laid_pleat_tile_steps {H : Type} : DataW H := .agg [.agg [.lit (.int .i64 (-1)), .lit (.int .i64 (-1))], .agg [.lit (.int .i64 1), .lit (.int .i64 (-1))], .agg [.lit (.int .i64 1), .lit (.int .i64 1)], .agg [.lit (.int .i64 (-1)), .lit (.int .i64 1)]]

/-- 'pleatlaw.CutPunches': WHATEVER THE INPUT: true; the input reads as it did. -/
def cutPunchesSpec : ChangeSpec := { name := "cutPunches", fn := fun _ => fun
  | [d1, d2] => { results := [.lit (.bool true)], args := [d1, d2] }
  | _ => none }
def cutPunchesRow : OpenClaim := { program := "ytnndadhkedlohaadoor", sum := "c5da029ab023d88325e094736bfc36c3d91230b02e76b73c40e096abb6def244", func := "pleat/pleatlaw.CutPunches", spec := "cutPunches", unfollowed := true, recurses := true, named := ["pleat/tile.steps"], plainKeys := false, apart := false, laid := [("pleat/tile.steps", laid_pleat_tile_steps)] }
def CutPunchesSaid : Prop := cutPunchesRow.holds Tryd.pinned (OpenSpec.ofChange cutPunchesSpec)

/-- ITS FALSE NEIGHBOUR: 'it returns false'. Refute it at one input. -/
def cutPunchesWrong : ChangeSpec := { name := "cutPunches", fn := fun _ => fun
  | [d1, d2] => { results := [.lit (.bool false)], args := [d1, d2] }
  | _ => none }
def CutPunchesWrongFalsely : Prop := cutPunchesRow.holds Tryd.pinned (OpenSpec.ofChange cutPunchesWrong)

/-- 'pleatlaw.CutTells': WHATEVER THE INPUT: true; the input reads as it did. -/
def cutTellsSpec : ChangeSpec := { name := "cutTells", fn := fun _ => fun
  | [d1, d2] => { results := [.lit (.bool true)], args := [d1, d2] }
  | _ => none }
def cutTellsRow : OpenClaim := { program := "ytnndadhkedlohaadoor", sum := "c5da029ab023d88325e094736bfc36c3d91230b02e76b73c40e096abb6def244", func := "pleat/pleatlaw.CutTells", spec := "cutTells", unfollowed := true, recurses := true, named := ["pleat/tile.steps"], plainKeys := false, apart := false, laid := [("pleat/tile.steps", laid_pleat_tile_steps)] }
def CutTellsSaid : Prop := cutTellsRow.holds Tryd.pinned (OpenSpec.ofChange cutTellsSpec)

/-- ITS FALSE NEIGHBOUR: 'it returns false'. Refute it at one input. -/
def cutTellsWrong : ChangeSpec := { name := "cutTells", fn := fun _ => fun
  | [d1, d2] => { results := [.lit (.bool false)], args := [d1, d2] }
  | _ => none }
def CutTellsWrongFalsely : Prop := cutTellsRow.holds Tryd.pinned (OpenSpec.ofChange cutTellsWrong)

/- THE SECOND FORM. 'bulk': how many values and letters a reading holds, each counted each time it is reached (what is shared counts as often as it is met; a slice's spare places count too). A statement '..UptoSaid' is the law's where the arguments, and the package variables that the reading takes, are together of bulk at most 1048576: NARROWER than '..Said'. Prove '..Said' where nothing that the law and all that it calls make is longer than what came in: it says more and counts as full. Else prove '..UptoSaid'. A law counts once. -/
mutual
def uptoBulk {H : Type} : DataW H → Nat
  | .lit (.string bytes) => bytes.length + 1
  | .lit _ => 1
  | .nil => 1
  | .ptr d => uptoBulk d + 1
  | .slice elems spare => uptoBulkAll elems + uptoBulkAll spare + 1
  | .agg parts => uptoBulkAll parts + 1
  | .iface _ d => uptoBulk d + 1
  | .map entries => uptoBulkEntries entries + 1
  | .held _ => 1
def uptoBulkAll {H : Type} : List (DataW H) → Nat
  | [] => 0
  | d :: r => uptoBulk d + uptoBulkAll r
def uptoBulkEntries {H : Type} : List (Lit × DataW H) → Nat
  | [] => 0
  | x :: r => uptoBulkEntry x + uptoBulkEntries r
def uptoBulkEntry {H : Type} : Lit × DataW H → Nat
  | (.string bytes, d) => bytes.length + uptoBulk d + 1
  | (_, d) => uptoBulk d + 1
 end
def uptoSmall : (H : Type) → List (DataW H) → Bool := fun _ ds => decide (uptoBulkAll ds ≤ 1048576)
def OpenSpec.upto (s : _root_.Go.ChangeSpec) : _root_.Go.OpenSpec := { _root_.Go.OpenSpec.ofChange s with cond := some uptoSmall }

/-- 'pleatlaw.CutPunches', WHERE WHAT IT READS IS OF BULK AT MOST 1048576: true; the input reads as it did. -/
def cutPunchesUptoRow : OpenClaim := { program := "ytnndadhkedlohaadoor", sum := "c5da029ab023d88325e094736bfc36c3d91230b02e76b73c40e096abb6def244", func := "pleat/pleatlaw.CutPunches", spec := "cutPunches", unfollowed := true, recurses := true, named := ["pleat/tile.steps"], plainKeys := false, apart := false, laid := [("pleat/tile.steps", laid_pleat_tile_steps)], narrowed := true }
def CutPunchesUptoSaid : Prop := cutPunchesUptoRow.holds Tryd.pinned (OpenSpec.upto cutPunchesSpec)

/-- 'pleatlaw.CutTells', WHERE WHAT IT READS IS OF BULK AT MOST 1048576: true; the input reads as it did. -/
def cutTellsUptoRow : OpenClaim := { program := "ytnndadhkedlohaadoor", sum := "c5da029ab023d88325e094736bfc36c3d91230b02e76b73c40e096abb6def244", func := "pleat/pleatlaw.CutTells", spec := "cutTells", unfollowed := true, recurses := true, named := ["pleat/tile.steps"], plainKeys := false, apart := false, laid := [("pleat/tile.steps", laid_pleat_tile_steps)], narrowed := true }
def CutTellsUptoSaid : Prop := cutTellsUptoRow.holds Tryd.pinned (OpenSpec.upto cutTellsSpec)

end Rows
end Go.Proofs.YtnndadhkedlohaaDoor
