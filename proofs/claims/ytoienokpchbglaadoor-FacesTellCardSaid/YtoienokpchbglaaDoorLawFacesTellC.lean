/-
  THE TIED CARD OF FacesTell: the row (LawFacesTell), tied by the given text Tie.
-/
import Derived.Test.YtoienokpchbglaaDoorLawFacesTell
import Derived.Test.YtoienokpchbglaaDoorCards
import Derived.Test.YtoienokpchbglaaDoorTie
import Derived.SevenTiedAt
namespace Go.Proofs.YtoienokpchbglaaDoor.facesTell
open Go
theorem card : Rows.FacesTellCardSaid :=
  Claim7.holds_tied_plain_at .later [] [.data] true (true, "51057a1016e90602d2ad4fcd39979c9c5a3c23eb591d07af25222d87ee9f1812") false
    proved (fun _ h => by cases h) (by kernel_rfl) (fun _ h => by cases h) facesTell_row_tie rfl ⟨rfl, rfl⟩ (by kernel_rfl) rfl
    (fun f fn hf hfn => by
      obtain rfl : f = 4 := Option.some.inj ((show Tryd.prog.funcNamed "pleat/pleatlaw.FacesTell" = some 4 by kernel_rfl).symm.trans hf) |>.symm
      obtain rfl : fn = Tryd.f4 := (Option.some.inj (Tryd.func4.symm.trans hfn)).symm
      exact ⟨by kernel_rfl, fun j t ht => by
        rw [Tryd.params4] at ht
        have hm : t ∈ [25] := by simpa using Array.mem_of_getElem? ht
        have hall : ([25].all fun u => !Tryd.prog.wantsStandIn u) = true := by kernel_rfl
        exact (show Tryd.prog.wantsStandIn t = false by simpa using List.all_eq_true.1 hall t hm)⟩)
    (by kernel_rfl)
#print axioms card
end Go.Proofs.YtoienokpchbglaaDoor.facesTell
