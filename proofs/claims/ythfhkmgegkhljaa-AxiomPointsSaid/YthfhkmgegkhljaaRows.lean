/-
  No cell of these rows narrows 'for every input' (looked for: loops, veiled, ifaces, maps, wideKeys, modest, calm, conditions, laid).
  DERIVED. THE GIVEN ROWS OF THIS SEAT. 7 by the template 'for every input the law returns true; each argument reads behind the call as it read before'; 0 by the template 'total and deterministic' (their statements: YthfhkmgegkhljaaTotals.lean).
  GIVEN WITH THE SEED: the statements are not yours to turn. If you find one false, say at which input.
  Laid BY PROGRAM, IN A SANDBOX (cutbox-rows.mjs): the forced cells as the released guide's own fill.sh prints them over the translation a00a8efb7207d139… (all of the seat's roots in one cut). By AI agents, Wed Nov 11 2026. No macro, syntax, notation, axiom, sorry.
-/
import Derived.Test.YthfhkmgegkhljaaChecked
import GoSem.Claim
import GoSem.ClaimJoined
import GoSem.ClaimMapViews
import Derived.JoinedTies
import Derived.KernelRfl
namespace Go.Proofs.Ythfhkmgegkhljaa
/- THE CELL 'sum', in the pinned program and in every row, IS THE sha256 OF THE DUMP (.gsa) THAT YthfhkmgegkhljaaProg.lean LOADS. Nothing in Lean hashes anything: it is a label: what it is worth is what the hold of that sum in a sandbox is worth. -/
noncomputable def Try.pinned : Pinned := { name := "ythfhkmgegkhljaa", sum := "a00a8efb7207d139a35ccc3db4d731320da1bf5446bf772f3cee012bdb01a11d", checked := Try.checked }
namespace Rows
def none {H : Type} : Left H := { results := [], args := [] }

/-- 'pleatkeep.DragonOnce': WHATEVER THE INPUT: true; the input reads as it did. -/
def dragonOnceSpec : ChangeSpec := { name := "dragonOnce", fn := fun _ => fun
  | [d] => { results := [.lit (.bool true)], args := [d] }
  | _ => none }
def dragonOnceRow : OpenClaim := { program := "ythfhkmgegkhljaa", sum := "a00a8efb7207d139a35ccc3db4d731320da1bf5446bf772f3cee012bdb01a11d", func := "pleat/pleatkeep.DragonOnce", spec := "dragonOnce", unfollowed := true, recurses := true, apart := false }
def DragonOnceSaid : Prop := dragonOnceRow.holds Try.pinned (OpenSpec.ofChange dragonOnceSpec)

/-- ITS FALSE NEIGHBOUR: 'it returns false'. Refute it at one input. -/
def dragonOnceWrong : ChangeSpec := { name := "dragonOnce", fn := fun _ => fun
  | [d] => { results := [.lit (.bool false)], args := [d] }
  | _ => none }
def DragonOnceWrongFalsely : Prop := dragonOnceRow.holds Try.pinned (OpenSpec.ofChange dragonOnceWrong)

/-- 'pleatlaw.DragonTells': WHATEVER THE INPUT: true; the input reads as it did. -/
def dragonTellsSpec : ChangeSpec := { name := "dragonTells", fn := fun _ => fun
  | [d] => { results := [.lit (.bool true)], args := [d] }
  | _ => none }
def dragonTellsRow : OpenClaim := { program := "ythfhkmgegkhljaa", sum := "a00a8efb7207d139a35ccc3db4d731320da1bf5446bf772f3cee012bdb01a11d", func := "pleat/pleatlaw.DragonTells", spec := "dragonTells", unfollowed := true, recurses := true, apart := false }
def DragonTellsSaid : Prop := dragonTellsRow.holds Try.pinned (OpenSpec.ofChange dragonTellsSpec)

/-- ITS FALSE NEIGHBOUR: 'it returns false'. Refute it at one input. -/
def dragonTellsWrong : ChangeSpec := { name := "dragonTells", fn := fun _ => fun
  | [d] => { results := [.lit (.bool false)], args := [d] }
  | _ => none }
def DragonTellsWrongFalsely : Prop := dragonTellsRow.holds Try.pinned (OpenSpec.ofChange dragonTellsWrong)

/-- 'pleatkeep.AxiomMiddle': WHATEVER THE INPUT: true; the input reads as it did. -/
def axiomMiddleSpec : ChangeSpec := { name := "axiomMiddle", fn := fun _ => fun
  | [d1, d2, d3, d4] => { results := [.lit (.bool true)], args := [d1, d2, d3, d4] }
  | _ => none }
def axiomMiddleRow : OpenClaim := { program := "ythfhkmgegkhljaa", sum := "a00a8efb7207d139a35ccc3db4d731320da1bf5446bf772f3cee012bdb01a11d", func := "pleat/pleatkeep.AxiomMiddle", spec := "axiomMiddle", unfollowed := true, recurses := true, apart := false }
def AxiomMiddleSaid : Prop := axiomMiddleRow.holds Try.pinned (OpenSpec.ofChange axiomMiddleSpec)

/-- ITS FALSE NEIGHBOUR: 'it returns false'. Refute it at one input. -/
def axiomMiddleWrong : ChangeSpec := { name := "axiomMiddle", fn := fun _ => fun
  | [d1, d2, d3, d4] => { results := [.lit (.bool false)], args := [d1, d2, d3, d4] }
  | _ => none }
def AxiomMiddleWrongFalsely : Prop := axiomMiddleRow.holds Try.pinned (OpenSpec.ofChange axiomMiddleWrong)

/-- 'pleatlaw.AxiomTurns': WHATEVER THE INPUT: true; the input reads as it did. -/
def axiomTurnsSpec : ChangeSpec := { name := "axiomTurns", fn := fun _ => fun
  | [d1, d2, d3] => { results := [.lit (.bool true)], args := [d1, d2, d3] }
  | _ => none }
def axiomTurnsRow : OpenClaim := { program := "ythfhkmgegkhljaa", sum := "a00a8efb7207d139a35ccc3db4d731320da1bf5446bf772f3cee012bdb01a11d", func := "pleat/pleatlaw.AxiomTurns", spec := "axiomTurns", unfollowed := true, recurses := true, apart := false }
def AxiomTurnsSaid : Prop := axiomTurnsRow.holds Try.pinned (OpenSpec.ofChange axiomTurnsSpec)

/-- ITS FALSE NEIGHBOUR: 'it returns false'. Refute it at one input. -/
def axiomTurnsWrong : ChangeSpec := { name := "axiomTurns", fn := fun _ => fun
  | [d1, d2, d3] => { results := [.lit (.bool false)], args := [d1, d2, d3] }
  | _ => none }
def AxiomTurnsWrongFalsely : Prop := axiomTurnsRow.holds Try.pinned (OpenSpec.ofChange axiomTurnsWrong)

/-- 'pleatlaw.AxiomPoints': WHATEVER THE INPUT: true; the input reads as it did. -/
def axiomPointsSpec : ChangeSpec := { name := "axiomPoints", fn := fun _ => fun
  | [d1, d2, d3] => { results := [.lit (.bool true)], args := [d1, d2, d3] }
  | _ => none }
def axiomPointsRow : OpenClaim := { program := "ythfhkmgegkhljaa", sum := "a00a8efb7207d139a35ccc3db4d731320da1bf5446bf772f3cee012bdb01a11d", func := "pleat/pleatlaw.AxiomPoints", spec := "axiomPoints", unfollowed := true, recurses := true, apart := false }
def AxiomPointsSaid : Prop := axiomPointsRow.holds Try.pinned (OpenSpec.ofChange axiomPointsSpec)

/-- ITS FALSE NEIGHBOUR: 'it returns false'. Refute it at one input. -/
def axiomPointsWrong : ChangeSpec := { name := "axiomPoints", fn := fun _ => fun
  | [d1, d2, d3] => { results := [.lit (.bool false)], args := [d1, d2, d3] }
  | _ => none }
def AxiomPointsWrongFalsely : Prop := axiomPointsRow.holds Try.pinned (OpenSpec.ofChange axiomPointsWrong)

/-- 'pleatlaw.DragonFolds': WHATEVER THE INPUT: true; the input reads as it did. -/
def dragonFoldsSpec : ChangeSpec := { name := "dragonFolds", fn := fun _ => fun
  | [d] => { results := [.lit (.bool true)], args := [d] }
  | _ => none }
def dragonFoldsRow : OpenClaim := { program := "ythfhkmgegkhljaa", sum := "a00a8efb7207d139a35ccc3db4d731320da1bf5446bf772f3cee012bdb01a11d", func := "pleat/pleatlaw.DragonFolds", spec := "dragonFolds", unfollowed := true, recurses := true, apart := false }
def DragonFoldsSaid : Prop := dragonFoldsRow.holds Try.pinned (OpenSpec.ofChange dragonFoldsSpec)

/-- ITS FALSE NEIGHBOUR: 'it returns false'. Refute it at one input. -/
def dragonFoldsWrong : ChangeSpec := { name := "dragonFolds", fn := fun _ => fun
  | [d] => { results := [.lit (.bool false)], args := [d] }
  | _ => none }
def DragonFoldsWrongFalsely : Prop := dragonFoldsRow.holds Try.pinned (OpenSpec.ofChange dragonFoldsWrong)

/-- 'pleatkeep.DragonBack': WHATEVER THE INPUT: true; the input reads as it did. -/
def dragonBackSpec : ChangeSpec := { name := "dragonBack", fn := fun _ => fun
  | [d] => { results := [.lit (.bool true)], args := [d] }
  | _ => none }
def dragonBackRow : OpenClaim := { program := "ythfhkmgegkhljaa", sum := "a00a8efb7207d139a35ccc3db4d731320da1bf5446bf772f3cee012bdb01a11d", func := "pleat/pleatkeep.DragonBack", spec := "dragonBack", unfollowed := true, recurses := true, apart := false }
def DragonBackSaid : Prop := dragonBackRow.holds Try.pinned (OpenSpec.ofChange dragonBackSpec)

/-- ITS FALSE NEIGHBOUR: 'it returns false'. Refute it at one input. -/
def dragonBackWrong : ChangeSpec := { name := "dragonBack", fn := fun _ => fun
  | [d] => { results := [.lit (.bool false)], args := [d] }
  | _ => none }
def DragonBackWrongFalsely : Prop := dragonBackRow.holds Try.pinned (OpenSpec.ofChange dragonBackWrong)

/- THE SECOND FORM. 'bulk': how many values and letters a reading holds, each counted each time it is reached (what is shared counts as often as it is met; a slice's spare places count too). A statement '..UptoSaid' is the law's where the arguments, and the package variables that the reading takes, are together of bulk at most 1048576: NARROWER than '..Said'. Prove '..Said' where nothing that the law and all that it calls make is longer than what came in: it says more and counts as full. Else prove '..UptoSaid'. A law counts once. -/
mutual
def uptoBulk {H : Type} : DataW H → Nat
  | .lit (.string bytes) => bytes.length + 1
  | .lit _ => 1
  | .nil => 1
  | .ptr d => uptoBulk d + 1
  | .slice elems spare => uptoBulkAll elems + uptoBulkAll spare + 1
  | .agg parts => uptoBulkAll parts + 1
  | .iface _ d => uptoBulk d + 1
  | .map entries => uptoBulkEntries entries + 1
  | .held _ => 1
def uptoBulkAll {H : Type} : List (DataW H) → Nat
  | [] => 0
  | d :: r => uptoBulk d + uptoBulkAll r
def uptoBulkEntries {H : Type} : List (Lit × DataW H) → Nat
  | [] => 0
  | x :: r => uptoBulkEntry x + uptoBulkEntries r
def uptoBulkEntry {H : Type} : Lit × DataW H → Nat
  | (.string bytes, d) => bytes.length + uptoBulk d + 1
  | (_, d) => uptoBulk d + 1
 end
def uptoSmall : (H : Type) → List (DataW H) → Bool := fun _ ds => decide (uptoBulkAll ds ≤ 1048576)
def OpenSpec.upto (s : _root_.Go.ChangeSpec) : _root_.Go.OpenSpec := { _root_.Go.OpenSpec.ofChange s with cond := some uptoSmall }

/-- 'pleatkeep.DragonOnce', WHERE WHAT IT READS IS OF BULK AT MOST 1048576: true; the input reads as it did. -/
def dragonOnceUptoRow : OpenClaim := { program := "ythfhkmgegkhljaa", sum := "a00a8efb7207d139a35ccc3db4d731320da1bf5446bf772f3cee012bdb01a11d", func := "pleat/pleatkeep.DragonOnce", spec := "dragonOnce", unfollowed := true, recurses := true, apart := false, narrowed := true }
def DragonOnceUptoSaid : Prop := dragonOnceUptoRow.holds Try.pinned (OpenSpec.upto dragonOnceSpec)

/-- 'pleatlaw.DragonTells', WHERE WHAT IT READS IS OF BULK AT MOST 1048576: true; the input reads as it did. -/
def dragonTellsUptoRow : OpenClaim := { program := "ythfhkmgegkhljaa", sum := "a00a8efb7207d139a35ccc3db4d731320da1bf5446bf772f3cee012bdb01a11d", func := "pleat/pleatlaw.DragonTells", spec := "dragonTells", unfollowed := true, recurses := true, apart := false, narrowed := true }
def DragonTellsUptoSaid : Prop := dragonTellsUptoRow.holds Try.pinned (OpenSpec.upto dragonTellsSpec)

/-- 'pleatkeep.AxiomMiddle', WHERE WHAT IT READS IS OF BULK AT MOST 1048576: true; the input reads as it did. -/
def axiomMiddleUptoRow : OpenClaim := { program := "ythfhkmgegkhljaa", sum := "a00a8efb7207d139a35ccc3db4d731320da1bf5446bf772f3cee012bdb01a11d", func := "pleat/pleatkeep.AxiomMiddle", spec := "axiomMiddle", unfollowed := true, recurses := true, apart := false, narrowed := true }
def AxiomMiddleUptoSaid : Prop := axiomMiddleUptoRow.holds Try.pinned (OpenSpec.upto axiomMiddleSpec)

/-- 'pleatlaw.AxiomTurns', WHERE WHAT IT READS IS OF BULK AT MOST 1048576: true; the input reads as it did. -/
def axiomTurnsUptoRow : OpenClaim := { program := "ythfhkmgegkhljaa", sum := "a00a8efb7207d139a35ccc3db4d731320da1bf5446bf772f3cee012bdb01a11d", func := "pleat/pleatlaw.AxiomTurns", spec := "axiomTurns", unfollowed := true, recurses := true, apart := false, narrowed := true }
def AxiomTurnsUptoSaid : Prop := axiomTurnsUptoRow.holds Try.pinned (OpenSpec.upto axiomTurnsSpec)

/-- 'pleatlaw.AxiomPoints', WHERE WHAT IT READS IS OF BULK AT MOST 1048576: true; the input reads as it did. -/
def axiomPointsUptoRow : OpenClaim := { program := "ythfhkmgegkhljaa", sum := "a00a8efb7207d139a35ccc3db4d731320da1bf5446bf772f3cee012bdb01a11d", func := "pleat/pleatlaw.AxiomPoints", spec := "axiomPoints", unfollowed := true, recurses := true, apart := false, narrowed := true }
def AxiomPointsUptoSaid : Prop := axiomPointsUptoRow.holds Try.pinned (OpenSpec.upto axiomPointsSpec)

/-- 'pleatlaw.DragonFolds', WHERE WHAT IT READS IS OF BULK AT MOST 1048576: true; the input reads as it did. -/
def dragonFoldsUptoRow : OpenClaim := { program := "ythfhkmgegkhljaa", sum := "a00a8efb7207d139a35ccc3db4d731320da1bf5446bf772f3cee012bdb01a11d", func := "pleat/pleatlaw.DragonFolds", spec := "dragonFolds", unfollowed := true, recurses := true, apart := false, narrowed := true }
def DragonFoldsUptoSaid : Prop := dragonFoldsUptoRow.holds Try.pinned (OpenSpec.upto dragonFoldsSpec)

/-- 'pleatkeep.DragonBack', WHERE WHAT IT READS IS OF BULK AT MOST 1048576: true; the input reads as it did. -/
def dragonBackUptoRow : OpenClaim := { program := "ythfhkmgegkhljaa", sum := "a00a8efb7207d139a35ccc3db4d731320da1bf5446bf772f3cee012bdb01a11d", func := "pleat/pleatkeep.DragonBack", spec := "dragonBack", unfollowed := true, recurses := true, apart := false, narrowed := true }
def DragonBackUptoSaid : Prop := dragonBackUptoRow.holds Try.pinned (OpenSpec.upto dragonBackSpec)

end Rows
end Go.Proofs.Ythfhkmgegkhljaa
