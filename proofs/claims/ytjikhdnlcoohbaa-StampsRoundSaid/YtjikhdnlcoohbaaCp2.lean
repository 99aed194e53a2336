/- Compare's sign is the order of words. -/
import Derived.Test.YtjikhdnlcoohbaaSl3
import Derived.Test.YtjikhdnlcoohbaaSf
namespace Go.Proofs.Ytjikhdnlcoohbaa
set_option linter.unusedSimpArgs false
set_option linter.unusedVariables false
open Go.RowKit St
theorem cmpL_lt : ∀ (a b : List Int), cmpL a b < 0 ↔ lexLt a b
  | [], [] => by simp [cmpL, lexLt]
  | [], y :: ys => by simp [cmpL, lexLt]
  | x :: xs, [] => by simp [cmpL, lexLt]
  | x :: xs, y :: ys => by
    have ih := cmpL_lt xs ys
    unfold cmpL lexLt
    by_cases h1 : x < y
    · simp [h1]
    · by_cases h2 : y < x
      · have : x ≠ y := by omega
        simp [h1, h2, this]
      · have : x = y := by omega
        subst this
        simp [ih]
theorem swo_lex {α : Type} (f : α → List Int) : Go.Sort.SWO (ltOf fun x y : α => cmpL (f x) (f y)) where
  irrefl x := decide_eq_false (fun h => lexLt_irrefl _ ((cmpL_lt _ _).1 h))
  trans x y z h1 h2 := decide_eq_true ((cmpL_lt _ _).2 (lexLt_trans ((cmpL_lt _ _).1 (of_decide_eq_true h1)) ((cmpL_lt _ _).1 (of_decide_eq_true h2))))
  ntrans x y z h1 h2 := by
    have n1 := fun h => of_decide_eq_false h1 ((cmpL_lt _ _).2 h)
    have n2 := fun h => of_decide_eq_false h2 ((cmpL_lt _ _).2 h)
    refine decide_eq_false fun h => ?_
    have h3 := (cmpL_lt _ _).1 h
    rcases lexLt_tri (f y) (f x) with a | a | a
    · exact n2 (by rcases lexLt_tri (f y) (f z) with b | b | b
                   · exact b
                   · exact absurd (b ▸ lexLt_trans a h3) (lexLt_irrefl _)
                   · exact absurd (lexLt_trans (lexLt_trans b a) h3) (lexLt_irrefl _))
    · exact n2 (by rw [a]; exact h3)
    · exact n1 a
end Go.Proofs.Ytjikhdnlcoohbaa
