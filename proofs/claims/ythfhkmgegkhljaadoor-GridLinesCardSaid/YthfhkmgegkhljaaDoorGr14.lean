/- The plain law of the sides: the middle's side is a corner's. -/
import Derived.Test.YthfhkmgegkhljaaDoorGr12
namespace Go.Proofs.YthfhkmgegkhljaaDoor
open Go.RowKit

theorem side_law (v c x y k : Int) (hl : lineMayB v c = true) (ht : triMayB x y k = true) : sideB v c x y k = sideOfB v c x y k := by
  obtain ⟨⟨v1, v2⟩, _, he⟩ := lineMayB_bd hl
  obtain ⟨_, _, k1, k2⟩ := triMayB_bd ht
  clear hl ht
  have hk : k = 0 ∨ k = 1 ∨ k = 2 ∨ k = 3 := by omega
  have hv : v = 0 ∨ v = 1 ∨ v = 2 ∨ v = 3 := by omega
  have key : 3 * c < sumB v x y k ↔ anyB v c x y k := by
    unfold sumB anyB
    rcases hk with rfl | rfl | rfl | rfl <;> rcases hv with rfl | rfl | rfl | rfl <;> simp [valB, cornX, cornY, stepX, stepY] <;> omega
  unfold sideB sideOfB
  by_cases h : anyB v c x y k
  · rw [if_pos h, if_pos (key.2 h)]
  · rw [if_neg h, if_neg (fun h' => h (key.1 h'))]
end Go.Proofs.YthfhkmgegkhljaaDoor
