/-
  THE TIED CARD OF CutPunches: the row (LawCutPunches), tied by the given text Tie.
-/
import Derived.Test.YtnndadhkedlohaaDoorLawCutPunches
import Derived.Test.YtnndadhkedlohaaDoorCards
import Derived.Test.YtnndadhkedlohaaDoorTie
import Derived.SevenTiedAt
namespace Go.Proofs.YtnndadhkedlohaaDoor.cutPunches
open Go
theorem card : Rows.CutPunchesCardSaid :=
  Claim7.holds_tied_plain_at .later [] [.data] true (true, "813024216cca57f6f16718514edaafc3ae29329ffdba4f68016ea5ce5a0e08ed") false
    proved (fun _ h => by cases h) (by kernel_rfl) (fun _ h => by cases h) cutPunches_row_tie rfl ⟨rfl, rfl⟩ (by kernel_rfl) rfl
    (fun f fn hf hfn => by
      obtain rfl : f = 3 := Option.some.inj ((show Tryd.prog.funcNamed "pleat/pleatlaw.CutPunches" = some 3 by kernel_rfl).symm.trans hf) |>.symm
      obtain rfl : fn = Tryd.f3 := (Option.some.inj (Tryd.func3.symm.trans hfn)).symm
      exact ⟨by kernel_rfl, fun j t ht => by
        rw [Tryd.params3] at ht
        have hm : t ∈ [29, 31] := by simpa using Array.mem_of_getElem? ht
        have hall : ([29, 31].all fun u => !Tryd.prog.wantsStandIn u) = true := by kernel_rfl
        exact (show Tryd.prog.wantsStandIn t = false by simpa using List.all_eq_true.1 hall t hm)⟩)
    (by kernel_rfl)
#print axioms card
end Go.Proofs.YtnndadhkedlohaaDoor.cutPunches
