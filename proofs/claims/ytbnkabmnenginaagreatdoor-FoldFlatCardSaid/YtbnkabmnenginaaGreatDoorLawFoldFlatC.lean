/-
  THE TIED CARD OF FoldFlat: the row (LawFoldFlat), tied by the given text Tie.
-/
import Derived.Test.YtbnkabmnenginaaGreatDoorLawFoldFlat
import Derived.Test.YtbnkabmnenginaaGreatDoorCards
import Derived.Test.YtbnkabmnenginaaGreatDoorTie
import Derived.SevenTiedAt
namespace Go.Proofs.YtbnkabmnenginaaGreatDoor.foldFlat
open Go
theorem card : Rows.FoldFlatCardSaid :=
  Claim7.holds_tied_plain_at .later [] [.data] true (true, "ba2f20c518ee07e313b76af170502f97bc76662d219a1db37aff272c617c649d") false
    proved (fun _ h => by cases h) (by kernel_rfl) (fun _ h => by cases h) foldFlat_row_tie rfl ⟨rfl, rfl⟩ (by kernel_rfl) rfl
    (fun f fn hf hfn => by
      obtain rfl : f = 3 := Option.some.inj ((show Tryz.prog.funcNamed "pleat/pleatlaw.FoldFlat" = some 3 by kernel_rfl).symm.trans hf) |>.symm
      obtain rfl : fn = Tryz.f3 := (Option.some.inj (Tryz.func3.symm.trans hfn)).symm
      exact ⟨by kernel_rfl, fun j t ht => by
        rw [Tryz.params3] at ht
        have hm : t ∈ [25] := by simpa using Array.mem_of_getElem? ht
        have hall : ([25].all fun u => !Tryz.prog.wantsStandIn u) = true := by kernel_rfl
        exact (show Tryz.prog.wantsStandIn t = false by simpa using List.all_eq_true.1 hall t hm)⟩)
    (by kernel_rfl)
#print axioms card
end Go.Proofs.YtbnkabmnenginaaGreatDoor.foldFlat
