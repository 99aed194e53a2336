/- Of four listed tables the last is the one that is read. -/
import Derived.Test.YtoienokpchbglaaDoorGrLaid
namespace Go.Proofs.YtoienokpchbglaaDoor
set_option linter.unusedSimpArgs false
set_option linter.unusedVariables false
open Go.Deep Go.Joins Go.ChangeShapes Go.WideShapes Go.ChangeAt Go.WideElems Go.RowKit

def laid4 : List (String × DataW Unit) := [("math/bits.deBruijn32tab", Rows.laid_math_bits_deBruijn32tab), ("math/bits.deBruijn64tab", Rows.laid_math_bits_deBruijn64tab), ("internal/strconv.uint64pow10", Rows.laid_internal_strconv_uint64pow10), ("pleat/tile.steps", Rows.laid_pleat_tile_steps)]
theorem door_met4 (os : Os) (args : Array Value) : laidMetH Tryd.prog laid4 ((World.doorLaid Tryd.prog 400 os).forCall (fun _ _ => 0) ⟨#[], args, []⟩).memory :=
  laidMetH_of_parts3 (fuel := 8) (laidMet_of_run' 8 (by kernel_rfl) (by kernel_rfl)) (by kernel_rfl) (by kernel_rfl)
theorem met_tail {P : Program} {w : World} {x : String × DataW Unit} {l : List (String × DataW Unit)} (h : laidMet P (x :: l) w) : laidMet P l w := by
  obtain ⟨ps, h1, h2, h3⟩ := h
  obtain ⟨n, d⟩ := x
  obtain ⟨g, t, cs, fuel, p, q, _, _, _, _, h4, rfl⟩ := h1
  exact ⟨q, h4, (List.nodup_append.1 h2).2.1, fun b off hm => h3 b off (List.mem_append_right _ hm)⟩
theorem laid_of4 {W : World} (h : laidMetH Tryd.prog laid4 W) : laidMetH Tryd.prog laid1 W := by
  rw [MakeChecks.laidMetH_plain _ _ _ (by kernel_rfl)] at h ⊢
  exact met_tail (met_tail (met_tail h))
end Go.Proofs.YtoienokpchbglaaDoor
