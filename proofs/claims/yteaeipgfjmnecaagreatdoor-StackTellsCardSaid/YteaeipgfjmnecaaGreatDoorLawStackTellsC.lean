/-
  THE TIED CARD OF StackTells: the row (LawStackTells), tied by the given text Tie.
-/
import Derived.Test.YteaeipgfjmnecaaGreatDoorLawStackTells
import Derived.Test.YteaeipgfjmnecaaGreatDoorCards
import Derived.Test.YteaeipgfjmnecaaGreatDoorTie
import Derived.SevenTiedAt
namespace Go.Proofs.YteaeipgfjmnecaaGreatDoor.stackTells
open Go
theorem card : Rows.StackTellsCardSaid :=
  Claim7.holds_tied_plain_at .later [] [.data] true (true, "670f2609efcf5f74fc718d7963aa0dd7e01bb8b2324ef9010b3bdb5f71b67c21") false
    proved (fun _ h => by cases h) (by kernel_rfl) (fun _ h => by cases h) stackTells_row_tie rfl ⟨rfl, rfl⟩ (by kernel_rfl) rfl
    (fun f fn hf hfn => by
      obtain rfl : f = 3 := Option.some.inj ((show Tryz.prog.funcNamed "pleat/pleatlaw.StackTells" = some 3 by kernel_rfl).symm.trans hf) |>.symm
      obtain rfl : fn = Tryz.f3 := (Option.some.inj (Tryz.func3.symm.trans hfn)).symm
      exact ⟨by kernel_rfl, fun j t ht => by
        rw [Tryz.params3] at ht
        have hm : t ∈ [29] := by simpa using Array.mem_of_getElem? ht
        have hall : ([29].all fun u => !Tryz.prog.wantsStandIn u) = true := by kernel_rfl
        exact (show Tryz.prog.wantsStandIn t = false by simpa using List.all_eq_true.1 hall t hm)⟩)
    (by kernel_rfl)
end Go.Proofs.YteaeipgfjmnecaaGreatDoor.stackTells
