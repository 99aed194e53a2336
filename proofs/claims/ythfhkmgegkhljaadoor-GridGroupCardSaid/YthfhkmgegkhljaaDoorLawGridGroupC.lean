/-
  THE TIED CARD OF GridGroup: the row (LawGridGroup), tied by the given text Tie.
-/
import Derived.Test.YthfhkmgegkhljaaDoorLawGridGroup
import Derived.Test.YthfhkmgegkhljaaDoorCards
import Derived.Test.YthfhkmgegkhljaaDoorTie
import Derived.SevenTiedAt
namespace Go.Proofs.YthfhkmgegkhljaaDoor.gridGroup
open Go
theorem card : Rows.GridGroupCardSaid :=
  Claim7.holds_tied_plain_at .later [] [.data] true (true, "dee50abab729980a33be139521d88b695c5d65e7e737ff20d30cb7f18671fa4b") false
    proved (fun _ h => by cases h) (by kernel_rfl) (fun _ h => by cases h) gridGroup_row_tie rfl ⟨rfl, rfl⟩ (by kernel_rfl) rfl
    (fun f fn hf hfn => by
      obtain rfl : f = 6 := Option.some.inj ((show Tryd.prog.funcNamed "pleat/pleatkeep.GridGroup" = some 6 by kernel_rfl).symm.trans hf) |>.symm
      obtain rfl : fn = Tryd.f6 := (Option.some.inj (Tryd.func6.symm.trans hfn)).symm
      exact ⟨by kernel_rfl, fun j t ht => by
        rw [Tryd.params6] at ht
        have hm : t ∈ [66, 66, 3, 3, 3] := by simpa using Array.mem_of_getElem? ht
        have hall : ([66, 66, 3, 3, 3].all fun u => !Tryd.prog.wantsStandIn u) = true := by kernel_rfl
        exact (show Tryd.prog.wantsStandIn t = false by simpa using List.all_eq_true.1 hall t hm)⟩)
    (by kernel_rfl)
#print axioms card
end Go.Proofs.YthfhkmgegkhljaaDoor.gridGroup
