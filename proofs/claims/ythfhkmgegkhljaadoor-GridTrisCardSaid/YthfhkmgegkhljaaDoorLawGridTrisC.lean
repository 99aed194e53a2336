/-
  THE TIED CARD OF GridTris: the row (LawGridTris), tied by the given text Tie.
-/
import Derived.Test.YthfhkmgegkhljaaDoorLawGridTris
import Derived.Test.YthfhkmgegkhljaaDoorCards
import Derived.Test.YthfhkmgegkhljaaDoorTie
import Derived.SevenTiedAt
namespace Go.Proofs.YthfhkmgegkhljaaDoor.gridTris
open Go
theorem card : Rows.GridTrisCardSaid :=
  Claim7.holds_tied_plain_at .later [] [.data] true (true, "dee50abab729980a33be139521d88b695c5d65e7e737ff20d30cb7f18671fa4b") false
    proved (fun _ h => by cases h) (by kernel_rfl) (fun _ h => by cases h) gridTris_row_tie rfl ⟨rfl, rfl⟩ (by kernel_rfl) rfl
    (fun f fn hf hfn => by
      obtain rfl : f = 3 := Option.some.inj ((show Tryd.prog.funcNamed "pleat/pleatlaw.GridTris" = some 3 by kernel_rfl).symm.trans hf) |>.symm
      obtain rfl : fn = Tryd.f3 := (Option.some.inj (Tryd.func3.symm.trans hfn)).symm
      exact ⟨by kernel_rfl, fun j t ht => by
        rw [Tryd.params3] at ht
        have hm : t ∈ [23, 27] := by simpa using Array.mem_of_getElem? ht
        have hall : ([23, 27].all fun u => !Tryd.prog.wantsStandIn u) = true := by kernel_rfl
        exact (show Tryd.prog.wantsStandIn t = false by simpa using List.all_eq_true.1 hall t hm)⟩)
    (by kernel_rfl)
#print axioms card
end Go.Proofs.YthfhkmgegkhljaaDoor.gridTris
