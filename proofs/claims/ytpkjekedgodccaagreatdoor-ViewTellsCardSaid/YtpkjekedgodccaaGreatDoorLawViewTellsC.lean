/-
  THE TIED CARD OF ViewTells: the row (LawViewTells), tied by the given text Tie.
-/
import Derived.Test.YtpkjekedgodccaaGreatDoorLawViewTells
import Derived.Test.YtpkjekedgodccaaGreatDoorCards
import Derived.Test.YtpkjekedgodccaaGreatDoorTie
import Derived.SevenTiedAt
namespace Go.Proofs.YtpkjekedgodccaaGreatDoor.viewTells
open Go
theorem card : Rows.ViewTellsCardSaid :=
  Claim7.holds_tied_plain_at .later [] [.data] true (true, "ed43398305936c07d97d188de08957fe9d259b4ea12b37c4f19f831e4d5eaf30") false
    proved (fun _ h => by cases h) (by kernel_rfl) (fun _ h => by cases h) viewTells_row_tie rfl ⟨rfl, rfl⟩ (by kernel_rfl) rfl
    (fun f fn hf hfn => by
      obtain rfl : f = 3 := Option.some.inj ((show Tryz.prog.funcNamed "pleat/pleatlaw.ViewTells" = some 3 by kernel_rfl).symm.trans hf) |>.symm
      obtain rfl : fn = Tryz.f3 := (Option.some.inj (Tryz.func3.symm.trans hfn)).symm
      exact ⟨by kernel_rfl, fun j t ht => by
        rw [Tryz.params3] at ht
        have hm : t ∈ [29] := by simpa using Array.mem_of_getElem? ht
        have hall : ([29].all fun u => !Tryz.prog.wantsStandIn u) = true := by kernel_rfl
        exact (show Tryz.prog.wantsStandIn t = false by simpa using List.all_eq_true.1 hall t hm)⟩)
    (by kernel_rfl)
#print axioms card
end Go.Proofs.YtpkjekedgodccaaGreatDoor.viewTells
