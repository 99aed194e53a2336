/-
  THE TIED CARD OF SheetTells: the row (LawSheetTells), tied by the given text Tie.
-/
import Derived.Test.YtoienokpchbglaaDoorLawSheetTells
import Derived.Test.YtoienokpchbglaaDoorCards
import Derived.Test.YtoienokpchbglaaDoorTie
import Derived.SevenTiedAt
namespace Go.Proofs.YtoienokpchbglaaDoor.sheetTells
open Go
theorem card : Rows.SheetTellsCardSaid :=
  Claim7.holds_tied_plain_at .later [] [.data, .data, .data, .data] true (true, "51057a1016e90602d2ad4fcd39979c9c5a3c23eb591d07af25222d87ee9f1812") false
    proved (fun _ h => by cases h) (by kernel_rfl) (fun _ h => by cases h) sheetTells_row_tie rfl ⟨rfl, rfl⟩ (by kernel_rfl) rfl
    (fun f fn hf hfn => by
      obtain rfl : f = 3 := Option.some.inj ((show Tryd.prog.funcNamed "pleat/pleatlaw.SheetTells" = some 3 by kernel_rfl).symm.trans hf) |>.symm
      obtain rfl : fn = Tryd.f3 := (Option.some.inj (Tryd.func3.symm.trans hfn)).symm
      exact ⟨by kernel_rfl, fun j t ht => by
        rw [Tryd.params3] at ht
        have hm : t ∈ [25] := by simpa using Array.mem_of_getElem? ht
        have hall : ([25].all fun u => !Tryd.prog.wantsStandIn u) = true := by kernel_rfl
        exact (show Tryd.prog.wantsStandIn t = false by simpa using List.all_eq_true.1 hall t hm)⟩)
    (by kernel_rfl)
#print axioms card
end Go.Proofs.YtoienokpchbglaaDoor.sheetTells
