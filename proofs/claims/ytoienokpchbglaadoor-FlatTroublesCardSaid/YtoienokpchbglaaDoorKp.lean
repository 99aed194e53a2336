/- Points as keys of maps. -/
import Derived.Test.YtoienokpchbglaaDoorPts
import Derived.Test.YtoienokpchbglaaDoorEn
namespace Go.Proofs.YtoienokpchbglaaDoor
set_option linter.unusedSimpArgs false
set_option linter.unusedVariables false
open Go.RowKit Go.Maps

def kP : KE P2 where
  K := 49
  T := 96
  enc p := aggP p.1 p.2
  ok p := inR p.1 ∧ inR p.2
  law := Keyed.of_law lawP
  ht := Tryd.underlying96
  key a h := keyOf_P h.1 h.2
  inj a b h := by
    obtain ⟨a1, a2⟩ := a
    obtain ⟨b1, b2⟩ := b
    simp at h
    simp [h]
theorem SmT.corner {t : T3} (h : SmT t) {i : Nat} (hi : i < 3) : kP.ok (crT t i) ∧ (-3000 ≤ (crT t i).1 ∧ (crT t i).1 ≤ 3000) ∧ (-3000 ≤ (crT t i).2 ∧ (crT t i).2 ≤ 3000) := by
  obtain ⟨h1, h2, h3⟩ := h
  have s1 : ∀ j, -1 ≤ stepX j ∧ stepX j ≤ 1 := fun j => by unfold stepX; (repeat' split) <;> omega
  have s2 : ∀ j, -1 ≤ stepY j ∧ stepY j ≤ 1 := fun j => by unfold stepY; (repeat' split) <;> omega
  have key : (-3000 ≤ (crT t i).1 ∧ (crT t i).1 ≤ 3000) ∧ (-3000 ≤ (crT t i).2 ∧ (crT t i).2 ≤ 3000) := by
    rcases i3_cases hi with rfl | rfl | rfl
    · simp only [crT]; omega
    · simp only [crT, cornX, cornY]
      have := s1 (t.2.2 % 4)
      have := s2 (t.2.2 % 4)
      omega
    · simp only [crT, cornX, cornY]
      have := s1 ((t.2.2 + 1) % 4)
      have := s2 ((t.2.2 + 1) % 4)
      omega
  refine ⟨⟨?_, ?_⟩, key⟩ <;> unfold inR <;> omega
end Go.Proofs.YtoienokpchbglaaDoor
