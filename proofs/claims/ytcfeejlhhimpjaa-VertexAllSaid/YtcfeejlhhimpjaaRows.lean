/-
  No cell of these rows narrows 'for every input' (looked for: loops, veiled, ifaces, maps, wideKeys, modest, calm, conditions, laid).
  DERIVED. THE GIVEN ROWS OF THIS SEAT. 4 by the template 'for every input the law returns true; each argument reads behind the call as it read before'; 0 by the template 'total and deterministic' (their statements: YtcfeejlhhimpjaaTotals.lean).
  GIVEN WITH THE SEED: the statements are not yours to turn. If you find one false, say at which input.
  Laid BY PROGRAM, IN A SANDBOX (cutbox-rows.mjs): the forced cells as the released guide's own fill.sh prints them over the translation acbd7b13177f0338… (all of the seat's roots in one cut). By AI agents, Wed Nov 11 2026. No macro, syntax, notation, axiom, sorry.
-/
import Derived.Test.YtcfeejlhhimpjaaChecked
import GoSem.Claim
import GoSem.ClaimJoined
import GoSem.ClaimMapViews
import Derived.JoinedTies
import Derived.KernelRfl
namespace Go.Proofs.Ytcfeejlhhimpjaa
/- THE CELL 'sum', in the pinned program and in every row, IS THE sha256 OF THE DUMP (.gsa) THAT YtcfeejlhhimpjaaProg.lean LOADS. Nothing in Lean hashes anything: it is a label: what it is worth is what the hold of that sum in a sandbox is worth. -/
noncomputable def Try.pinned : Pinned := { name := "ytcfeejlhhimpjaa", sum := "acbd7b13177f03384b8eff469e8542e6e994ca2dc1963caa503035e4b7b82f29", checked := Try.checked }
namespace Rows
def none {H : Type} : Left H := { results := [], args := [] }

/-- 'pleatlaw.VertexFlat': WHATEVER THE INPUT: true; the input reads as it did. -/
def vertexFlatSpec : ChangeSpec := { name := "vertexFlat", fn := fun _ => fun
  | [d1, d2] => { results := [.lit (.bool true)], args := [d1, d2] }
  | _ => none }
def vertexFlatRow : OpenClaim := { program := "ytcfeejlhhimpjaa", sum := "acbd7b13177f03384b8eff469e8542e6e994ca2dc1963caa503035e4b7b82f29", func := "pleat/pleatlaw.VertexFlat", spec := "vertexFlat", unfollowed := true, recurses := true, apart := false }
def VertexFlatSaid : Prop := vertexFlatRow.holds Try.pinned (OpenSpec.ofChange vertexFlatSpec)

/-- ITS FALSE NEIGHBOUR: 'it returns false'. Refute it at one input. -/
def vertexFlatWrong : ChangeSpec := { name := "vertexFlat", fn := fun _ => fun
  | [d1, d2] => { results := [.lit (.bool false)], args := [d1, d2] }
  | _ => none }
def VertexFlatWrongFalsely : Prop := vertexFlatRow.holds Try.pinned (OpenSpec.ofChange vertexFlatWrong)

/-- 'pleatlaw.VertexAll': WHATEVER THE INPUT: true; the input reads as it did. -/
def vertexAllSpec : ChangeSpec := { name := "vertexAll", fn := fun _ => fun
  | [d] => { results := [.lit (.bool true)], args := [d] }
  | _ => none }
def vertexAllRow : OpenClaim := { program := "ytcfeejlhhimpjaa", sum := "acbd7b13177f03384b8eff469e8542e6e994ca2dc1963caa503035e4b7b82f29", func := "pleat/pleatlaw.VertexAll", spec := "vertexAll", unfollowed := true, recurses := true, apart := false }
def VertexAllSaid : Prop := vertexAllRow.holds Try.pinned (OpenSpec.ofChange vertexAllSpec)

/-- ITS FALSE NEIGHBOUR: 'it returns false'. Refute it at one input. -/
def vertexAllWrong : ChangeSpec := { name := "vertexAll", fn := fun _ => fun
  | [d] => { results := [.lit (.bool false)], args := [d] }
  | _ => none }
def VertexAllWrongFalsely : Prop := vertexAllRow.holds Try.pinned (OpenSpec.ofChange vertexAllWrong)

/-- 'pleatkeep.VertexCrimps': WHATEVER THE INPUT: true; the input reads as it did. -/
def vertexCrimpsSpec : ChangeSpec := { name := "vertexCrimps", fn := fun _ => fun
  | [d1, d2] => { results := [.lit (.bool true)], args := [d1, d2] }
  | _ => none }
def vertexCrimpsRow : OpenClaim := { program := "ytcfeejlhhimpjaa", sum := "acbd7b13177f03384b8eff469e8542e6e994ca2dc1963caa503035e4b7b82f29", func := "pleat/pleatkeep.VertexCrimps", spec := "vertexCrimps", unfollowed := true, recurses := true, apart := false }
def VertexCrimpsSaid : Prop := vertexCrimpsRow.holds Try.pinned (OpenSpec.ofChange vertexCrimpsSpec)

/-- ITS FALSE NEIGHBOUR: 'it returns false'. Refute it at one input. -/
def vertexCrimpsWrong : ChangeSpec := { name := "vertexCrimps", fn := fun _ => fun
  | [d1, d2] => { results := [.lit (.bool false)], args := [d1, d2] }
  | _ => none }
def VertexCrimpsWrongFalsely : Prop := vertexCrimpsRow.holds Try.pinned (OpenSpec.ofChange vertexCrimpsWrong)

/-- 'pleatkeep.VertexTwo': WHATEVER THE INPUT: true; the input reads as it did. -/
def vertexTwoSpec : ChangeSpec := { name := "vertexTwo", fn := fun _ => fun
  | [d] => { results := [.lit (.bool true)], args := [d] }
  | _ => none }
def vertexTwoRow : OpenClaim := { program := "ytcfeejlhhimpjaa", sum := "acbd7b13177f03384b8eff469e8542e6e994ca2dc1963caa503035e4b7b82f29", func := "pleat/pleatkeep.VertexTwo", spec := "vertexTwo", unfollowed := true, recurses := true, apart := false }
def VertexTwoSaid : Prop := vertexTwoRow.holds Try.pinned (OpenSpec.ofChange vertexTwoSpec)

/-- ITS FALSE NEIGHBOUR: 'it returns false'. Refute it at one input. -/
def vertexTwoWrong : ChangeSpec := { name := "vertexTwo", fn := fun _ => fun
  | [d] => { results := [.lit (.bool false)], args := [d] }
  | _ => none }
def VertexTwoWrongFalsely : Prop := vertexTwoRow.holds Try.pinned (OpenSpec.ofChange vertexTwoWrong)

/- THE SECOND FORM. 'bulk': how many values and letters a reading holds, each counted each time it is reached (what is shared counts as often as it is met; a slice's spare places count too). A statement '..UptoSaid' is the law's where the arguments, and the package variables that the reading takes, are together of bulk at most 1048576: NARROWER than '..Said'. Prove '..Said' where nothing that the law and all that it calls make is longer than what came in: it says more and counts as full. Else prove '..UptoSaid'. A law counts once. -/
mutual
def uptoBulk {H : Type} : DataW H → Nat
  | .lit (.string bytes) => bytes.length + 1
  | .lit _ => 1
  | .nil => 1
  | .ptr d => uptoBulk d + 1
  | .slice elems spare => uptoBulkAll elems + uptoBulkAll spare + 1
  | .agg parts => uptoBulkAll parts + 1
  | .iface _ d => uptoBulk d + 1
  | .map entries => uptoBulkEntries entries + 1
  | .held _ => 1
def uptoBulkAll {H : Type} : List (DataW H) → Nat
  | [] => 0
  | d :: r => uptoBulk d + uptoBulkAll r
def uptoBulkEntries {H : Type} : List (Lit × DataW H) → Nat
  | [] => 0
  | x :: r => uptoBulkEntry x + uptoBulkEntries r
def uptoBulkEntry {H : Type} : Lit × DataW H → Nat
  | (.string bytes, d) => bytes.length + uptoBulk d + 1
  | (_, d) => uptoBulk d + 1
 end
def uptoSmall : (H : Type) → List (DataW H) → Bool := fun _ ds => decide (uptoBulkAll ds ≤ 1048576)
def OpenSpec.upto (s : _root_.Go.ChangeSpec) : _root_.Go.OpenSpec := { _root_.Go.OpenSpec.ofChange s with cond := some uptoSmall }

/-- 'pleatlaw.VertexFlat', WHERE WHAT IT READS IS OF BULK AT MOST 1048576: true; the input reads as it did. -/
def vertexFlatUptoRow : OpenClaim := { program := "ytcfeejlhhimpjaa", sum := "acbd7b13177f03384b8eff469e8542e6e994ca2dc1963caa503035e4b7b82f29", func := "pleat/pleatlaw.VertexFlat", spec := "vertexFlat", unfollowed := true, recurses := true, apart := false, narrowed := true }
def VertexFlatUptoSaid : Prop := vertexFlatUptoRow.holds Try.pinned (OpenSpec.upto vertexFlatSpec)

/-- 'pleatlaw.VertexAll', WHERE WHAT IT READS IS OF BULK AT MOST 1048576: true; the input reads as it did. -/
def vertexAllUptoRow : OpenClaim := { program := "ytcfeejlhhimpjaa", sum := "acbd7b13177f03384b8eff469e8542e6e994ca2dc1963caa503035e4b7b82f29", func := "pleat/pleatlaw.VertexAll", spec := "vertexAll", unfollowed := true, recurses := true, apart := false, narrowed := true }
def VertexAllUptoSaid : Prop := vertexAllUptoRow.holds Try.pinned (OpenSpec.upto vertexAllSpec)

/-- 'pleatkeep.VertexCrimps', WHERE WHAT IT READS IS OF BULK AT MOST 1048576: true; the input reads as it did. -/
def vertexCrimpsUptoRow : OpenClaim := { program := "ytcfeejlhhimpjaa", sum := "acbd7b13177f03384b8eff469e8542e6e994ca2dc1963caa503035e4b7b82f29", func := "pleat/pleatkeep.VertexCrimps", spec := "vertexCrimps", unfollowed := true, recurses := true, apart := false, narrowed := true }
def VertexCrimpsUptoSaid : Prop := vertexCrimpsUptoRow.holds Try.pinned (OpenSpec.upto vertexCrimpsSpec)

/-- 'pleatkeep.VertexTwo', WHERE WHAT IT READS IS OF BULK AT MOST 1048576: true; the input reads as it did. -/
def vertexTwoUptoRow : OpenClaim := { program := "ytcfeejlhhimpjaa", sum := "acbd7b13177f03384b8eff469e8542e6e994ca2dc1963caa503035e4b7b82f29", func := "pleat/pleatkeep.VertexTwo", spec := "vertexTwo", unfollowed := true, recurses := true, apart := false, narrowed := true }
def VertexTwoUptoSaid : Prop := vertexTwoUptoRow.holds Try.pinned (OpenSpec.upto vertexTwoSpec)

end Rows
end Go.Proofs.Ytcfeejlhhimpjaa
