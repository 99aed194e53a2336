/- The contract of slices.Insert, laid at this dump: slices.Insert[[]int,int] (printed by the kit's lay-plain.mjs). -/
import Derived.Shelf.Spec.SlicesInsert
import Derived.Shelf.Spec.SlicesInsertGrow
import Derived.Test.YtjikhdnlcoohbaaProg
namespace Go.Proofs.Ytjikhdnlcoohbaa
set_option linter.unusedSimpArgs false
set_option linter.unusedVariables false
open Go.Shelf
def insA_ren : Go.Shelf.Ren := ⟨fun | 21 => 51 | 27 => 66 | 28 => 67 | 35 => 82 | 39 => 87 | n => n, fun | 22 => 22 | 3 => 3 | 4 => 4 | 0 => 0 | n => n, fun | n => n⟩
theorem insA : Go.Proofs.Lays2.n21 Try.prog insA_ren := {
  mixed := by kernel_rfl
  f21 := Try.func51.trans (congrArg some (by kernel_rfl))
  f27 := Try.func66.trans (congrArg some (by kernel_rfl))
  f28 := Try.func67.trans (congrArg some (by kernel_rfl))
  f35 := Try.func82.trans (congrArg some (by kernel_rfl))
  f39 := Try.func87.trans (congrArg some (by kernel_rfl))
  t0 := Try.underlying0
  a0 := Try.isAgg0
  z0 := Try.sizeOf0
  v0 := Try.zeroValue0
  t3 := Try.underlying3
  a3 := Try.isAgg3
  z3 := Try.sizeOf3
  v3 := Try.zeroValue3
  t4 := Try.underlying4
  a4 := Try.isAgg4
  z4 := Try.sizeOf4
  v4 := Try.zeroValue4
  t22 := Try.underlying22
  a22 := Try.isAgg22
  z22 := Try.sizeOf22
  v22 := Try.zeroValue22
  i3 := by kernel_rfl }
end Go.Proofs.Ytjikhdnlcoohbaa
