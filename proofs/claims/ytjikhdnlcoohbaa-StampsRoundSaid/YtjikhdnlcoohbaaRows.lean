/-
  No cell of these rows narrows 'for every input' (looked for: loops, veiled, ifaces, maps, wideKeys, modest, calm, conditions, laid).
  DERIVED. THE GIVEN ROWS OF THIS SEAT. 5 by the template 'for every input the law returns true; each argument reads behind the call as it read before'; 0 by the template 'total and deterministic' (their statements: YtjikhdnlcoohbaaTotals.lean).
  GIVEN WITH THE SEED: the statements are not yours to turn. If you find one false, say at which input.
  Laid BY PROGRAM, IN A SANDBOX (cutbox-rows.mjs): the forced cells as the released guide's own fill.sh prints them over the translation d1a77a1a2b8c5bd4… (all of the seat's roots in one cut). By AI agents, Wed Nov 11 2026. No macro, syntax, notation, axiom, sorry.
-/
import Derived.Test.YtjikhdnlcoohbaaChecked
import GoSem.Claim
import GoSem.ClaimJoined
import GoSem.ClaimMapViews
import Derived.JoinedTies
import Derived.KernelRfl
namespace Go.Proofs.Ytjikhdnlcoohbaa
/- THE CELL 'sum', in the pinned program and in every row, IS THE sha256 OF THE DUMP (.gsa) THAT YtjikhdnlcoohbaaProg.lean LOADS. Nothing in Lean hashes anything: it is a label: what it is worth is what the hold of that sum in a sandbox is worth. -/
noncomputable def Try.pinned : Pinned := { name := "ytjikhdnlcoohbaa", sum := "d1a77a1a2b8c5bd4677e70798d5e224178192be4684dfb04a3c34ace4c707263", checked := Try.checked }
namespace Rows
def none {H : Type} : Left H := { results := [], args := [] }

/-- 'pleatlaw.StampsTell': WHATEVER THE INPUT: true; the input reads as it did. -/
def stampsTellSpec : ChangeSpec := { name := "stampsTell", fn := fun _ => fun
  | [d] => { results := [.lit (.bool true)], args := [d] }
  | _ => none }
def stampsTellRow : OpenClaim := { program := "ytjikhdnlcoohbaa", sum := "d1a77a1a2b8c5bd4677e70798d5e224178192be4684dfb04a3c34ace4c707263", func := "pleat/pleatlaw.StampsTell", spec := "stampsTell", unfollowed := true, recurses := true, apart := false }
def StampsTellSaid : Prop := stampsTellRow.holds Try.pinned (OpenSpec.ofChange stampsTellSpec)

/-- ITS FALSE NEIGHBOUR: 'it returns false'. Refute it at one input. -/
def stampsTellWrong : ChangeSpec := { name := "stampsTell", fn := fun _ => fun
  | [d] => { results := [.lit (.bool false)], args := [d] }
  | _ => none }
def StampsTellWrongFalsely : Prop := stampsTellRow.holds Try.pinned (OpenSpec.ofChange stampsTellWrong)

/-- 'pleatlaw.StampsList': WHATEVER THE INPUT: true; the input reads as it did. -/
def stampsListSpec : ChangeSpec := { name := "stampsList", fn := fun _ => fun
  | [d] => { results := [.lit (.bool true)], args := [d] }
  | _ => none }
def stampsListRow : OpenClaim := { program := "ytjikhdnlcoohbaa", sum := "d1a77a1a2b8c5bd4677e70798d5e224178192be4684dfb04a3c34ace4c707263", func := "pleat/pleatlaw.StampsList", spec := "stampsList", inPlace := ["slices.overlaps[int]"], unfollowed := true, recurses := true, apart := false }
def StampsListSaid : Prop := stampsListRow.holds Try.pinned (OpenSpec.ofChange stampsListSpec)

/-- ITS FALSE NEIGHBOUR: 'it returns false'. Refute it at one input. -/
def stampsListWrong : ChangeSpec := { name := "stampsList", fn := fun _ => fun
  | [d] => { results := [.lit (.bool false)], args := [d] }
  | _ => none }
def StampsListWrongFalsely : Prop := stampsListRow.holds Try.pinned (OpenSpec.ofChange stampsListWrong)

/-- 'pleatlaw.StampsBy': WHATEVER THE INPUT: true; the input reads as it did. -/
def stampsBySpec : ChangeSpec := { name := "stampsBy", fn := fun _ => fun
  | [d] => { results := [.lit (.bool true)], args := [d] }
  | _ => none }
def stampsByRow : OpenClaim := { program := "ytjikhdnlcoohbaa", sum := "d1a77a1a2b8c5bd4677e70798d5e224178192be4684dfb04a3c34ace4c707263", func := "pleat/pleatlaw.StampsBy", spec := "stampsBy", inPlace := ["slices.overlaps[int]"], unfollowed := true, recurses := true, apart := false }
def StampsBySaid : Prop := stampsByRow.holds Try.pinned (OpenSpec.ofChange stampsBySpec)

/-- ITS FALSE NEIGHBOUR: 'it returns false'. Refute it at one input. -/
def stampsByWrong : ChangeSpec := { name := "stampsBy", fn := fun _ => fun
  | [d] => { results := [.lit (.bool false)], args := [d] }
  | _ => none }
def StampsByWrongFalsely : Prop := stampsByRow.holds Try.pinned (OpenSpec.ofChange stampsByWrong)

/-- 'pleatkeep.StampsRound': WHATEVER THE INPUT: true; the input reads as it did. -/
def stampsRoundSpec : ChangeSpec := { name := "stampsRound", fn := fun _ => fun
  | [d1, d2] => { results := [.lit (.bool true)], args := [d1, d2] }
  | _ => none }
def stampsRoundRow : OpenClaim := { program := "ytjikhdnlcoohbaa", sum := "d1a77a1a2b8c5bd4677e70798d5e224178192be4684dfb04a3c34ace4c707263", func := "pleat/pleatkeep.StampsRound", spec := "stampsRound", inPlace := ["slices.overlaps[int]"], unfollowed := true, recurses := true, apart := false }
def StampsRoundSaid : Prop := stampsRoundRow.holds Try.pinned (OpenSpec.ofChange stampsRoundSpec)

/-- ITS FALSE NEIGHBOUR: 'it returns false'. Refute it at one input. -/
def stampsRoundWrong : ChangeSpec := { name := "stampsRound", fn := fun _ => fun
  | [d1, d2] => { results := [.lit (.bool false)], args := [d1, d2] }
  | _ => none }
def StampsRoundWrongFalsely : Prop := stampsRoundRow.holds Try.pinned (OpenSpec.ofChange stampsRoundWrong)

/-- 'pleatkeep.StampsAlways': WHATEVER THE INPUT: true; the input reads as it did. -/
def stampsAlwaysSpec : ChangeSpec := { name := "stampsAlways", fn := fun _ => fun
  | [d] => { results := [.lit (.bool true)], args := [d] }
  | _ => none }
def stampsAlwaysRow : OpenClaim := { program := "ytjikhdnlcoohbaa", sum := "d1a77a1a2b8c5bd4677e70798d5e224178192be4684dfb04a3c34ace4c707263", func := "pleat/pleatkeep.StampsAlways", spec := "stampsAlways", inPlace := ["slices.overlaps[int]"], unfollowed := true, recurses := true, apart := false }
def StampsAlwaysSaid : Prop := stampsAlwaysRow.holds Try.pinned (OpenSpec.ofChange stampsAlwaysSpec)

/-- ITS FALSE NEIGHBOUR: 'it returns false'. Refute it at one input. -/
def stampsAlwaysWrong : ChangeSpec := { name := "stampsAlways", fn := fun _ => fun
  | [d] => { results := [.lit (.bool false)], args := [d] }
  | _ => none }
def StampsAlwaysWrongFalsely : Prop := stampsAlwaysRow.holds Try.pinned (OpenSpec.ofChange stampsAlwaysWrong)

/- THE SECOND FORM. 'bulk': how many values and letters a reading holds, each counted each time it is reached (what is shared counts as often as it is met; a slice's spare places count too). A statement '..UptoSaid' is the law's where the arguments, and the package variables that the reading takes, are together of bulk at most 1048576: NARROWER than '..Said'. Prove '..Said' where nothing that the law and all that it calls make is longer than what came in: it says more and counts as full. Else prove '..UptoSaid'. A law counts once. -/
mutual
def uptoBulk {H : Type} : DataW H → Nat
  | .lit (.string bytes) => bytes.length + 1
  | .lit _ => 1
  | .nil => 1
  | .ptr d => uptoBulk d + 1
  | .slice elems spare => uptoBulkAll elems + uptoBulkAll spare + 1
  | .agg parts => uptoBulkAll parts + 1
  | .iface _ d => uptoBulk d + 1
  | .map entries => uptoBulkEntries entries + 1
  | .held _ => 1
def uptoBulkAll {H : Type} : List (DataW H) → Nat
  | [] => 0
  | d :: r => uptoBulk d + uptoBulkAll r
def uptoBulkEntries {H : Type} : List (Lit × DataW H) → Nat
  | [] => 0
  | x :: r => uptoBulkEntry x + uptoBulkEntries r
def uptoBulkEntry {H : Type} : Lit × DataW H → Nat
  | (.string bytes, d) => bytes.length + uptoBulk d + 1
  | (_, d) => uptoBulk d + 1
 end
def uptoSmall : (H : Type) → List (DataW H) → Bool := fun _ ds => decide (uptoBulkAll ds ≤ 1048576)
def OpenSpec.upto (s : _root_.Go.ChangeSpec) : _root_.Go.OpenSpec := { _root_.Go.OpenSpec.ofChange s with cond := some uptoSmall }

/-- 'pleatlaw.StampsTell', WHERE WHAT IT READS IS OF BULK AT MOST 1048576: true; the input reads as it did. -/
def stampsTellUptoRow : OpenClaim := { program := "ytjikhdnlcoohbaa", sum := "d1a77a1a2b8c5bd4677e70798d5e224178192be4684dfb04a3c34ace4c707263", func := "pleat/pleatlaw.StampsTell", spec := "stampsTell", unfollowed := true, recurses := true, apart := false, narrowed := true }
def StampsTellUptoSaid : Prop := stampsTellUptoRow.holds Try.pinned (OpenSpec.upto stampsTellSpec)

/-- 'pleatlaw.StampsList', WHERE WHAT IT READS IS OF BULK AT MOST 1048576: true; the input reads as it did. -/
def stampsListUptoRow : OpenClaim := { program := "ytjikhdnlcoohbaa", sum := "d1a77a1a2b8c5bd4677e70798d5e224178192be4684dfb04a3c34ace4c707263", func := "pleat/pleatlaw.StampsList", spec := "stampsList", inPlace := ["slices.overlaps[int]"], unfollowed := true, recurses := true, apart := false, narrowed := true }
def StampsListUptoSaid : Prop := stampsListUptoRow.holds Try.pinned (OpenSpec.upto stampsListSpec)

/-- 'pleatlaw.StampsBy', WHERE WHAT IT READS IS OF BULK AT MOST 1048576: true; the input reads as it did. -/
def stampsByUptoRow : OpenClaim := { program := "ytjikhdnlcoohbaa", sum := "d1a77a1a2b8c5bd4677e70798d5e224178192be4684dfb04a3c34ace4c707263", func := "pleat/pleatlaw.StampsBy", spec := "stampsBy", inPlace := ["slices.overlaps[int]"], unfollowed := true, recurses := true, apart := false, narrowed := true }
def StampsByUptoSaid : Prop := stampsByUptoRow.holds Try.pinned (OpenSpec.upto stampsBySpec)

/-- 'pleatkeep.StampsRound', WHERE WHAT IT READS IS OF BULK AT MOST 1048576: true; the input reads as it did. -/
def stampsRoundUptoRow : OpenClaim := { program := "ytjikhdnlcoohbaa", sum := "d1a77a1a2b8c5bd4677e70798d5e224178192be4684dfb04a3c34ace4c707263", func := "pleat/pleatkeep.StampsRound", spec := "stampsRound", inPlace := ["slices.overlaps[int]"], unfollowed := true, recurses := true, apart := false, narrowed := true }
def StampsRoundUptoSaid : Prop := stampsRoundUptoRow.holds Try.pinned (OpenSpec.upto stampsRoundSpec)

/-- 'pleatkeep.StampsAlways', WHERE WHAT IT READS IS OF BULK AT MOST 1048576: true; the input reads as it did. -/
def stampsAlwaysUptoRow : OpenClaim := { program := "ytjikhdnlcoohbaa", sum := "d1a77a1a2b8c5bd4677e70798d5e224178192be4684dfb04a3c34ace4c707263", func := "pleat/pleatkeep.StampsAlways", spec := "stampsAlways", inPlace := ["slices.overlaps[int]"], unfollowed := true, recurses := true, apart := false, narrowed := true }
def StampsAlwaysUptoSaid : Prop := stampsAlwaysUptoRow.holds Try.pinned (OpenSpec.upto stampsAlwaysSpec)

end Rows
end Go.Proofs.Ytjikhdnlcoohbaa
