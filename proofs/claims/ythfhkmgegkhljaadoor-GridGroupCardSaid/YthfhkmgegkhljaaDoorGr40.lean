/- The plain law of MoveOf: of the four triangles of a cell just one has the corners to which a map brings this one's. Printed by gen_gr40.py. -/
import Derived.Test.YthfhkmgegkhljaaDoorGr36
namespace Go.Proofs.YthfhkmgegkhljaaDoor
set_option linter.unusedSimpArgs false
set_option linter.unusedVariables false
open Go.RowKit

def CornAt (X Y n P1 Q1 P2 Q2 : Int) : Prop := ((cornX X n = P1 ∧ cornY Y n = Q1) ∧ (cornX X (n + 1) = P2 ∧ cornY Y (n + 1) = Q2)) ∨ ((cornX X n = P2 ∧ cornY Y n = Q2) ∧ (cornX X (n + 1) = P1 ∧ cornY Y (n + 1) = Q1))
theorem cx0 (X : Int) : cornX X 0 = 2 * X := by simp [cornX, stepX]; omega
theorem cx1 (X : Int) : cornX X 1 = 2 * X + 2 := by simp [cornX, stepX]; omega
theorem cx2 (X : Int) : cornX X 2 = 2 * X + 2 := by simp [cornX, stepX]; omega
theorem cx3 (X : Int) : cornX X 3 = 2 * X := by simp [cornX, stepX]; omega
theorem cx4 (X : Int) : cornX X 4 = 2 * X := by simp [cornX, stepX]; omega
theorem cy0 (X : Int) : cornY X 0 = 2 * X := by simp [cornY, stepY]; omega
theorem cy1 (X : Int) : cornY X 1 = 2 * X := by simp [cornY, stepY]; omega
theorem cy2 (X : Int) : cornY X 2 = 2 * X + 2 := by simp [cornY, stepY]; omega
theorem cy3 (X : Int) : cornY X 3 = 2 * X + 2 := by simp [cornY, stepY]; omega
theorem cy4 (X : Int) : cornY X 4 = 2 * X := by simp [cornY, stepY]; omega
theorem at_law {X Y P0 Q0 P1 Q1 P2 Q2 K dx dy : Int} (h0 : 2 * X + 1 = P0) (h1 : 2 * Y + 1 = Q0) (hx : P1 + P2 - 2 * P0 = dx) (hy : Q1 + Q2 - 2 * Q0 = dy)
    (hk : (K = 0 ∧ dx = 0 ∧ dy = -2 ∧ (P1 - P0 = -1 ∨ P1 - P0 = 1) ∧ Q1 - Q0 = -1) ∨ (K = 1 ∧ dx = 2 ∧ dy = 0 ∧ (Q1 - Q0 = -1 ∨ Q1 - Q0 = 1) ∧ P1 - P0 = 1) ∨ (K = 2 ∧ dx = 0 ∧ dy = 2 ∧ (P1 - P0 = -1 ∨ P1 - P0 = 1) ∧ Q1 - Q0 = 1) ∨ (K = 3 ∧ dx = -2 ∧ dy = 0 ∧ (Q1 - Q0 = -1 ∨ Q1 - Q0 = 1) ∧ P1 - P0 = -1)) :
    ofK dx dy = K ∧ ∀ n : Int, 0 ≤ n → n ≤ 3 → (CornAt X Y n P1 Q1 P2 Q2 ↔ n = K) := by
  constructor
  · rcases hk with ⟨rfl, rfl, rfl, _⟩ | ⟨rfl, rfl, rfl, _⟩ | ⟨rfl, rfl, rfl, _⟩ | ⟨rfl, rfl, rfl, _⟩ <;> rfl
  · intro n n1 n2
    have hn : n = 0 ∨ n = 1 ∨ n = 2 ∨ n = 3 := by omega
    unfold CornAt
    rcases hn with rfl | rfl | rfl | rfl
    · simp only [Int.zero_add, cx0, cx1, cy0, cy1]
      omega
    · rw [show (1 : Int) + 1 = 2 from rfl]
      simp only [cx2, cx1, cy2, cy1]
      omega
    · rw [show (2 : Int) + 1 = 3 from rfl]
      simp only [cx2, cx3, cy2, cy3]
      omega
    · rw [show (3 : Int) + 1 = 4 from rfl]
      simp only [cx4, cx3, cy4, cy3]
      omega
set_option maxHeartbeats 6400000 in
theorem mv_law {a b c d e f x y k P0 Q0 P1 Q1 P2 Q2 : Int} (hP0 : P0 = a * (2 * x + 1) + b * (2 * y + 1) + e) (hQ0 : Q0 = c * (2 * x + 1) + d * (2 * y + 1) + f)
    (hP1 : P1 = a * cornX x k + b * cornY y k + e) (hQ1 : Q1 = c * cornX x k + d * cornY y k + f) (hP2 : P2 = a * cornX x (k + 1) + b * cornY y (k + 1) + e) (hQ2 : Q2 = c * cornX x (k + 1) + d * cornY y (k + 1) + f)
    (h : turnedB a b c d = true) (he : e % 2 = 0) (hf : f % 2 = 0) (k1 : 0 ≤ k) (k2 : k ≤ 3) (x1 : -1000000 ≤ x) (x2 : x ≤ 1000000) (y1 : -1000000 ≤ y) (y2 : y ≤ 1000000) (e1 : -1000000 ≤ e) (e2 : e ≤ 1000000) (f1 : -1000000 ≤ f) (f2 : f ≤ 1000000) :
    (2 * (P0 / 2) + 1 = P0 ∧ 2 * (Q0 / 2) + 1 = Q0 ∧ (-3100000 ≤ P0 ∧ P0 ≤ 3100000) ∧ (-3100000 ≤ Q0 ∧ Q0 ≤ 3100000)) ∧ (0 ≤ ofK (P1 + P2 - 2 * P0) (Q1 + Q2 - 2 * Q0) ∧ ofK (P1 + P2 - 2 * P0) (Q1 + Q2 - 2 * Q0) ≤ 3) ∧
      ∀ n : Int, 0 ≤ n → n ≤ 3 → (CornAt (P0 / 2) (Q0 / 2) n P1 Q1 P2 Q2 ↔ n = ofK (P1 + P2 - 2 * P0) (Q1 + Q2 - 2 * Q0)) := by
  have hk : k = 0 ∨ k = 1 ∨ k = 2 ∨ k = 3 := by omega
  rcases turned_ways h with ⟨rfl, rfl, rfl, rfl⟩ | ⟨rfl, rfl, rfl, rfl⟩ | ⟨rfl, rfl, rfl, rfl⟩ | ⟨rfl, rfl, rfl, rfl⟩ | ⟨rfl, rfl, rfl, rfl⟩ | ⟨rfl, rfl, rfl, rfl⟩ | ⟨rfl, rfl, rfl, rfl⟩ | ⟨rfl, rfl, rfl, rfl⟩
  · rcases hk with rfl | rfl | rfl | rfl
    · rw [Int.zero_add] at hP2 hQ2
      simp only [cx0, cy0] at hP1 hQ1
      simp only [cx1, cy1] at hP2 hQ2
      obtain ⟨hK, hn⟩ := at_law (X := P0 / 2) (Y := Q0 / 2) (P0 := P0) (Q0 := Q0) (P1 := P1) (Q1 := Q1) (P2 := P2) (Q2 := Q2) (K := 0) (dx := 0) (dy := -2) (by omega) (by omega) (by omega) (by omega) (by omega)
      rw [show P1 + P2 - 2 * P0 = 0 by omega, show Q1 + Q2 - 2 * Q0 = -2 by omega, hK]
      exact ⟨⟨by omega, by omega, by omega, by omega⟩, by omega, hn⟩
    · rw [show (1 : Int) + 1 = 2 from rfl] at hP2 hQ2
      simp only [cx1, cy1] at hP1 hQ1
      simp only [cx2, cy2] at hP2 hQ2
      obtain ⟨hK, hn⟩ := at_law (X := P0 / 2) (Y := Q0 / 2) (P0 := P0) (Q0 := Q0) (P1 := P1) (Q1 := Q1) (P2 := P2) (Q2 := Q2) (K := 1) (dx := 2) (dy := 0) (by omega) (by omega) (by omega) (by omega) (by omega)
      rw [show P1 + P2 - 2 * P0 = 2 by omega, show Q1 + Q2 - 2 * Q0 = 0 by omega, hK]
      exact ⟨⟨by omega, by omega, by omega, by omega⟩, by omega, hn⟩
    · rw [show (2 : Int) + 1 = 3 from rfl] at hP2 hQ2
      simp only [cx2, cy2] at hP1 hQ1
      simp only [cx3, cy3] at hP2 hQ2
      obtain ⟨hK, hn⟩ := at_law (X := P0 / 2) (Y := Q0 / 2) (P0 := P0) (Q0 := Q0) (P1 := P1) (Q1 := Q1) (P2 := P2) (Q2 := Q2) (K := 2) (dx := 0) (dy := 2) (by omega) (by omega) (by omega) (by omega) (by omega)
      rw [show P1 + P2 - 2 * P0 = 0 by omega, show Q1 + Q2 - 2 * Q0 = 2 by omega, hK]
      exact ⟨⟨by omega, by omega, by omega, by omega⟩, by omega, hn⟩
    · rw [show (3 : Int) + 1 = 4 from rfl] at hP2 hQ2
      simp only [cx3, cy3] at hP1 hQ1
      simp only [cx4, cy4] at hP2 hQ2
      obtain ⟨hK, hn⟩ := at_law (X := P0 / 2) (Y := Q0 / 2) (P0 := P0) (Q0 := Q0) (P1 := P1) (Q1 := Q1) (P2 := P2) (Q2 := Q2) (K := 3) (dx := -2) (dy := 0) (by omega) (by omega) (by omega) (by omega) (by omega)
      rw [show P1 + P2 - 2 * P0 = -2 by omega, show Q1 + Q2 - 2 * Q0 = 0 by omega, hK]
      exact ⟨⟨by omega, by omega, by omega, by omega⟩, by omega, hn⟩
  · rcases hk with rfl | rfl | rfl | rfl
    · rw [Int.zero_add] at hP2 hQ2
      simp only [cx0, cy0] at hP1 hQ1
      simp only [cx1, cy1] at hP2 hQ2
      obtain ⟨hK, hn⟩ := at_law (X := P0 / 2) (Y := Q0 / 2) (P0 := P0) (Q0 := Q0) (P1 := P1) (Q1 := Q1) (P2 := P2) (Q2 := Q2) (K := 0) (dx := 0) (dy := -2) (by omega) (by omega) (by omega) (by omega) (by omega)
      rw [show P1 + P2 - 2 * P0 = 0 by omega, show Q1 + Q2 - 2 * Q0 = -2 by omega, hK]
      exact ⟨⟨by omega, by omega, by omega, by omega⟩, by omega, hn⟩
    · rw [show (1 : Int) + 1 = 2 from rfl] at hP2 hQ2
      simp only [cx1, cy1] at hP1 hQ1
      simp only [cx2, cy2] at hP2 hQ2
      obtain ⟨hK, hn⟩ := at_law (X := P0 / 2) (Y := Q0 / 2) (P0 := P0) (Q0 := Q0) (P1 := P1) (Q1 := Q1) (P2 := P2) (Q2 := Q2) (K := 3) (dx := -2) (dy := 0) (by omega) (by omega) (by omega) (by omega) (by omega)
      rw [show P1 + P2 - 2 * P0 = -2 by omega, show Q1 + Q2 - 2 * Q0 = 0 by omega, hK]
      exact ⟨⟨by omega, by omega, by omega, by omega⟩, by omega, hn⟩
    · rw [show (2 : Int) + 1 = 3 from rfl] at hP2 hQ2
      simp only [cx2, cy2] at hP1 hQ1
      simp only [cx3, cy3] at hP2 hQ2
      obtain ⟨hK, hn⟩ := at_law (X := P0 / 2) (Y := Q0 / 2) (P0 := P0) (Q0 := Q0) (P1 := P1) (Q1 := Q1) (P2 := P2) (Q2 := Q2) (K := 2) (dx := 0) (dy := 2) (by omega) (by omega) (by omega) (by omega) (by omega)
      rw [show P1 + P2 - 2 * P0 = 0 by omega, show Q1 + Q2 - 2 * Q0 = 2 by omega, hK]
      exact ⟨⟨by omega, by omega, by omega, by omega⟩, by omega, hn⟩
    · rw [show (3 : Int) + 1 = 4 from rfl] at hP2 hQ2
      simp only [cx3, cy3] at hP1 hQ1
      simp only [cx4, cy4] at hP2 hQ2
      obtain ⟨hK, hn⟩ := at_law (X := P0 / 2) (Y := Q0 / 2) (P0 := P0) (Q0 := Q0) (P1 := P1) (Q1 := Q1) (P2 := P2) (Q2 := Q2) (K := 1) (dx := 2) (dy := 0) (by omega) (by omega) (by omega) (by omega) (by omega)
      rw [show P1 + P2 - 2 * P0 = 2 by omega, show Q1 + Q2 - 2 * Q0 = 0 by omega, hK]
      exact ⟨⟨by omega, by omega, by omega, by omega⟩, by omega, hn⟩
  · rcases hk with rfl | rfl | rfl | rfl
    · rw [Int.zero_add] at hP2 hQ2
      simp only [cx0, cy0] at hP1 hQ1
      simp only [cx1, cy1] at hP2 hQ2
      obtain ⟨hK, hn⟩ := at_law (X := P0 / 2) (Y := Q0 / 2) (P0 := P0) (Q0 := Q0) (P1 := P1) (Q1 := Q1) (P2 := P2) (Q2 := Q2) (K := 2) (dx := 0) (dy := 2) (by omega) (by omega) (by omega) (by omega) (by omega)
      rw [show P1 + P2 - 2 * P0 = 0 by omega, show Q1 + Q2 - 2 * Q0 = 2 by omega, hK]
      exact ⟨⟨by omega, by omega, by omega, by omega⟩, by omega, hn⟩
    · rw [show (1 : Int) + 1 = 2 from rfl] at hP2 hQ2
      simp only [cx1, cy1] at hP1 hQ1
      simp only [cx2, cy2] at hP2 hQ2
      obtain ⟨hK, hn⟩ := at_law (X := P0 / 2) (Y := Q0 / 2) (P0 := P0) (Q0 := Q0) (P1 := P1) (Q1 := Q1) (P2 := P2) (Q2 := Q2) (K := 1) (dx := 2) (dy := 0) (by omega) (by omega) (by omega) (by omega) (by omega)
      rw [show P1 + P2 - 2 * P0 = 2 by omega, show Q1 + Q2 - 2 * Q0 = 0 by omega, hK]
      exact ⟨⟨by omega, by omega, by omega, by omega⟩, by omega, hn⟩
    · rw [show (2 : Int) + 1 = 3 from rfl] at hP2 hQ2
      simp only [cx2, cy2] at hP1 hQ1
      simp only [cx3, cy3] at hP2 hQ2
      obtain ⟨hK, hn⟩ := at_law (X := P0 / 2) (Y := Q0 / 2) (P0 := P0) (Q0 := Q0) (P1 := P1) (Q1 := Q1) (P2 := P2) (Q2 := Q2) (K := 0) (dx := 0) (dy := -2) (by omega) (by omega) (by omega) (by omega) (by omega)
      rw [show P1 + P2 - 2 * P0 = 0 by omega, show Q1 + Q2 - 2 * Q0 = -2 by omega, hK]
      exact ⟨⟨by omega, by omega, by omega, by omega⟩, by omega, hn⟩
    · rw [show (3 : Int) + 1 = 4 from rfl] at hP2 hQ2
      simp only [cx3, cy3] at hP1 hQ1
      simp only [cx4, cy4] at hP2 hQ2
      obtain ⟨hK, hn⟩ := at_law (X := P0 / 2) (Y := Q0 / 2) (P0 := P0) (Q0 := Q0) (P1 := P1) (Q1 := Q1) (P2 := P2) (Q2 := Q2) (K := 3) (dx := -2) (dy := 0) (by omega) (by omega) (by omega) (by omega) (by omega)
      rw [show P1 + P2 - 2 * P0 = -2 by omega, show Q1 + Q2 - 2 * Q0 = 0 by omega, hK]
      exact ⟨⟨by omega, by omega, by omega, by omega⟩, by omega, hn⟩
  · rcases hk with rfl | rfl | rfl | rfl
    · rw [Int.zero_add] at hP2 hQ2
      simp only [cx0, cy0] at hP1 hQ1
      simp only [cx1, cy1] at hP2 hQ2
      obtain ⟨hK, hn⟩ := at_law (X := P0 / 2) (Y := Q0 / 2) (P0 := P0) (Q0 := Q0) (P1 := P1) (Q1 := Q1) (P2 := P2) (Q2 := Q2) (K := 2) (dx := 0) (dy := 2) (by omega) (by omega) (by omega) (by omega) (by omega)
      rw [show P1 + P2 - 2 * P0 = 0 by omega, show Q1 + Q2 - 2 * Q0 = 2 by omega, hK]
      exact ⟨⟨by omega, by omega, by omega, by omega⟩, by omega, hn⟩
    · rw [show (1 : Int) + 1 = 2 from rfl] at hP2 hQ2
      simp only [cx1, cy1] at hP1 hQ1
      simp only [cx2, cy2] at hP2 hQ2
      obtain ⟨hK, hn⟩ := at_law (X := P0 / 2) (Y := Q0 / 2) (P0 := P0) (Q0 := Q0) (P1 := P1) (Q1 := Q1) (P2 := P2) (Q2 := Q2) (K := 3) (dx := -2) (dy := 0) (by omega) (by omega) (by omega) (by omega) (by omega)
      rw [show P1 + P2 - 2 * P0 = -2 by omega, show Q1 + Q2 - 2 * Q0 = 0 by omega, hK]
      exact ⟨⟨by omega, by omega, by omega, by omega⟩, by omega, hn⟩
    · rw [show (2 : Int) + 1 = 3 from rfl] at hP2 hQ2
      simp only [cx2, cy2] at hP1 hQ1
      simp only [cx3, cy3] at hP2 hQ2
      obtain ⟨hK, hn⟩ := at_law (X := P0 / 2) (Y := Q0 / 2) (P0 := P0) (Q0 := Q0) (P1 := P1) (Q1 := Q1) (P2 := P2) (Q2 := Q2) (K := 0) (dx := 0) (dy := -2) (by omega) (by omega) (by omega) (by omega) (by omega)
      rw [show P1 + P2 - 2 * P0 = 0 by omega, show Q1 + Q2 - 2 * Q0 = -2 by omega, hK]
      exact ⟨⟨by omega, by omega, by omega, by omega⟩, by omega, hn⟩
    · rw [show (3 : Int) + 1 = 4 from rfl] at hP2 hQ2
      simp only [cx3, cy3] at hP1 hQ1
      simp only [cx4, cy4] at hP2 hQ2
      obtain ⟨hK, hn⟩ := at_law (X := P0 / 2) (Y := Q0 / 2) (P0 := P0) (Q0 := Q0) (P1 := P1) (Q1 := Q1) (P2 := P2) (Q2 := Q2) (K := 1) (dx := 2) (dy := 0) (by omega) (by omega) (by omega) (by omega) (by omega)
      rw [show P1 + P2 - 2 * P0 = 2 by omega, show Q1 + Q2 - 2 * Q0 = 0 by omega, hK]
      exact ⟨⟨by omega, by omega, by omega, by omega⟩, by omega, hn⟩
  · rcases hk with rfl | rfl | rfl | rfl
    · rw [Int.zero_add] at hP2 hQ2
      simp only [cx0, cy0] at hP1 hQ1
      simp only [cx1, cy1] at hP2 hQ2
      obtain ⟨hK, hn⟩ := at_law (X := P0 / 2) (Y := Q0 / 2) (P0 := P0) (Q0 := Q0) (P1 := P1) (Q1 := Q1) (P2 := P2) (Q2 := Q2) (K := 3) (dx := -2) (dy := 0) (by omega) (by omega) (by omega) (by omega) (by omega)
      rw [show P1 + P2 - 2 * P0 = -2 by omega, show Q1 + Q2 - 2 * Q0 = 0 by omega, hK]
      exact ⟨⟨by omega, by omega, by omega, by omega⟩, by omega, hn⟩
    · rw [show (1 : Int) + 1 = 2 from rfl] at hP2 hQ2
      simp only [cx1, cy1] at hP1 hQ1
      simp only [cx2, cy2] at hP2 hQ2
      obtain ⟨hK, hn⟩ := at_law (X := P0 / 2) (Y := Q0 / 2) (P0 := P0) (Q0 := Q0) (P1 := P1) (Q1 := Q1) (P2 := P2) (Q2 := Q2) (K := 2) (dx := 0) (dy := 2) (by omega) (by omega) (by omega) (by omega) (by omega)
      rw [show P1 + P2 - 2 * P0 = 0 by omega, show Q1 + Q2 - 2 * Q0 = 2 by omega, hK]
      exact ⟨⟨by omega, by omega, by omega, by omega⟩, by omega, hn⟩
    · rw [show (2 : Int) + 1 = 3 from rfl] at hP2 hQ2
      simp only [cx2, cy2] at hP1 hQ1
      simp only [cx3, cy3] at hP2 hQ2
      obtain ⟨hK, hn⟩ := at_law (X := P0 / 2) (Y := Q0 / 2) (P0 := P0) (Q0 := Q0) (P1 := P1) (Q1 := Q1) (P2 := P2) (Q2 := Q2) (K := 1) (dx := 2) (dy := 0) (by omega) (by omega) (by omega) (by omega) (by omega)
      rw [show P1 + P2 - 2 * P0 = 2 by omega, show Q1 + Q2 - 2 * Q0 = 0 by omega, hK]
      exact ⟨⟨by omega, by omega, by omega, by omega⟩, by omega, hn⟩
    · rw [show (3 : Int) + 1 = 4 from rfl] at hP2 hQ2
      simp only [cx3, cy3] at hP1 hQ1
      simp only [cx4, cy4] at hP2 hQ2
      obtain ⟨hK, hn⟩ := at_law (X := P0 / 2) (Y := Q0 / 2) (P0 := P0) (Q0 := Q0) (P1 := P1) (Q1 := Q1) (P2 := P2) (Q2 := Q2) (K := 0) (dx := 0) (dy := -2) (by omega) (by omega) (by omega) (by omega) (by omega)
      rw [show P1 + P2 - 2 * P0 = 0 by omega, show Q1 + Q2 - 2 * Q0 = -2 by omega, hK]
      exact ⟨⟨by omega, by omega, by omega, by omega⟩, by omega, hn⟩
  · rcases hk with rfl | rfl | rfl | rfl
    · rw [Int.zero_add] at hP2 hQ2
      simp only [cx0, cy0] at hP1 hQ1
      simp only [cx1, cy1] at hP2 hQ2
      obtain ⟨hK, hn⟩ := at_law (X := P0 / 2) (Y := Q0 / 2) (P0 := P0) (Q0 := Q0) (P1 := P1) (Q1 := Q1) (P2 := P2) (Q2 := Q2) (K := 1) (dx := 2) (dy := 0) (by omega) (by omega) (by omega) (by omega) (by omega)
      rw [show P1 + P2 - 2 * P0 = 2 by omega, show Q1 + Q2 - 2 * Q0 = 0 by omega, hK]
      exact ⟨⟨by omega, by omega, by omega, by omega⟩, by omega, hn⟩
    · rw [show (1 : Int) + 1 = 2 from rfl] at hP2 hQ2
      simp only [cx1, cy1] at hP1 hQ1
      simp only [cx2, cy2] at hP2 hQ2
      obtain ⟨hK, hn⟩ := at_law (X := P0 / 2) (Y := Q0 / 2) (P0 := P0) (Q0 := Q0) (P1 := P1) (Q1 := Q1) (P2 := P2) (Q2 := Q2) (K := 2) (dx := 0) (dy := 2) (by omega) (by omega) (by omega) (by omega) (by omega)
      rw [show P1 + P2 - 2 * P0 = 0 by omega, show Q1 + Q2 - 2 * Q0 = 2 by omega, hK]
      exact ⟨⟨by omega, by omega, by omega, by omega⟩, by omega, hn⟩
    · rw [show (2 : Int) + 1 = 3 from rfl] at hP2 hQ2
      simp only [cx2, cy2] at hP1 hQ1
      simp only [cx3, cy3] at hP2 hQ2
      obtain ⟨hK, hn⟩ := at_law (X := P0 / 2) (Y := Q0 / 2) (P0 := P0) (Q0 := Q0) (P1 := P1) (Q1 := Q1) (P2 := P2) (Q2 := Q2) (K := 3) (dx := -2) (dy := 0) (by omega) (by omega) (by omega) (by omega) (by omega)
      rw [show P1 + P2 - 2 * P0 = -2 by omega, show Q1 + Q2 - 2 * Q0 = 0 by omega, hK]
      exact ⟨⟨by omega, by omega, by omega, by omega⟩, by omega, hn⟩
    · rw [show (3 : Int) + 1 = 4 from rfl] at hP2 hQ2
      simp only [cx3, cy3] at hP1 hQ1
      simp only [cx4, cy4] at hP2 hQ2
      obtain ⟨hK, hn⟩ := at_law (X := P0 / 2) (Y := Q0 / 2) (P0 := P0) (Q0 := Q0) (P1 := P1) (Q1 := Q1) (P2 := P2) (Q2 := Q2) (K := 0) (dx := 0) (dy := -2) (by omega) (by omega) (by omega) (by omega) (by omega)
      rw [show P1 + P2 - 2 * P0 = 0 by omega, show Q1 + Q2 - 2 * Q0 = -2 by omega, hK]
      exact ⟨⟨by omega, by omega, by omega, by omega⟩, by omega, hn⟩
  · rcases hk with rfl | rfl | rfl | rfl
    · rw [Int.zero_add] at hP2 hQ2
      simp only [cx0, cy0] at hP1 hQ1
      simp only [cx1, cy1] at hP2 hQ2
      obtain ⟨hK, hn⟩ := at_law (X := P0 / 2) (Y := Q0 / 2) (P0 := P0) (Q0 := Q0) (P1 := P1) (Q1 := Q1) (P2 := P2) (Q2 := Q2) (K := 3) (dx := -2) (dy := 0) (by omega) (by omega) (by omega) (by omega) (by omega)
      rw [show P1 + P2 - 2 * P0 = -2 by omega, show Q1 + Q2 - 2 * Q0 = 0 by omega, hK]
      exact ⟨⟨by omega, by omega, by omega, by omega⟩, by omega, hn⟩
    · rw [show (1 : Int) + 1 = 2 from rfl] at hP2 hQ2
      simp only [cx1, cy1] at hP1 hQ1
      simp only [cx2, cy2] at hP2 hQ2
      obtain ⟨hK, hn⟩ := at_law (X := P0 / 2) (Y := Q0 / 2) (P0 := P0) (Q0 := Q0) (P1 := P1) (Q1 := Q1) (P2 := P2) (Q2 := Q2) (K := 0) (dx := 0) (dy := -2) (by omega) (by omega) (by omega) (by omega) (by omega)
      rw [show P1 + P2 - 2 * P0 = 0 by omega, show Q1 + Q2 - 2 * Q0 = -2 by omega, hK]
      exact ⟨⟨by omega, by omega, by omega, by omega⟩, by omega, hn⟩
    · rw [show (2 : Int) + 1 = 3 from rfl] at hP2 hQ2
      simp only [cx2, cy2] at hP1 hQ1
      simp only [cx3, cy3] at hP2 hQ2
      obtain ⟨hK, hn⟩ := at_law (X := P0 / 2) (Y := Q0 / 2) (P0 := P0) (Q0 := Q0) (P1 := P1) (Q1 := Q1) (P2 := P2) (Q2 := Q2) (K := 1) (dx := 2) (dy := 0) (by omega) (by omega) (by omega) (by omega) (by omega)
      rw [show P1 + P2 - 2 * P0 = 2 by omega, show Q1 + Q2 - 2 * Q0 = 0 by omega, hK]
      exact ⟨⟨by omega, by omega, by omega, by omega⟩, by omega, hn⟩
    · rw [show (3 : Int) + 1 = 4 from rfl] at hP2 hQ2
      simp only [cx3, cy3] at hP1 hQ1
      simp only [cx4, cy4] at hP2 hQ2
      obtain ⟨hK, hn⟩ := at_law (X := P0 / 2) (Y := Q0 / 2) (P0 := P0) (Q0 := Q0) (P1 := P1) (Q1 := Q1) (P2 := P2) (Q2 := Q2) (K := 2) (dx := 0) (dy := 2) (by omega) (by omega) (by omega) (by omega) (by omega)
      rw [show P1 + P2 - 2 * P0 = 0 by omega, show Q1 + Q2 - 2 * Q0 = 2 by omega, hK]
      exact ⟨⟨by omega, by omega, by omega, by omega⟩, by omega, hn⟩
  · rcases hk with rfl | rfl | rfl | rfl
    · rw [Int.zero_add] at hP2 hQ2
      simp only [cx0, cy0] at hP1 hQ1
      simp only [cx1, cy1] at hP2 hQ2
      obtain ⟨hK, hn⟩ := at_law (X := P0 / 2) (Y := Q0 / 2) (P0 := P0) (Q0 := Q0) (P1 := P1) (Q1 := Q1) (P2 := P2) (Q2 := Q2) (K := 1) (dx := 2) (dy := 0) (by omega) (by omega) (by omega) (by omega) (by omega)
      rw [show P1 + P2 - 2 * P0 = 2 by omega, show Q1 + Q2 - 2 * Q0 = 0 by omega, hK]
      exact ⟨⟨by omega, by omega, by omega, by omega⟩, by omega, hn⟩
    · rw [show (1 : Int) + 1 = 2 from rfl] at hP2 hQ2
      simp only [cx1, cy1] at hP1 hQ1
      simp only [cx2, cy2] at hP2 hQ2
      obtain ⟨hK, hn⟩ := at_law (X := P0 / 2) (Y := Q0 / 2) (P0 := P0) (Q0 := Q0) (P1 := P1) (Q1 := Q1) (P2 := P2) (Q2 := Q2) (K := 0) (dx := 0) (dy := -2) (by omega) (by omega) (by omega) (by omega) (by omega)
      rw [show P1 + P2 - 2 * P0 = 0 by omega, show Q1 + Q2 - 2 * Q0 = -2 by omega, hK]
      exact ⟨⟨by omega, by omega, by omega, by omega⟩, by omega, hn⟩
    · rw [show (2 : Int) + 1 = 3 from rfl] at hP2 hQ2
      simp only [cx2, cy2] at hP1 hQ1
      simp only [cx3, cy3] at hP2 hQ2
      obtain ⟨hK, hn⟩ := at_law (X := P0 / 2) (Y := Q0 / 2) (P0 := P0) (Q0 := Q0) (P1 := P1) (Q1 := Q1) (P2 := P2) (Q2 := Q2) (K := 3) (dx := -2) (dy := 0) (by omega) (by omega) (by omega) (by omega) (by omega)
      rw [show P1 + P2 - 2 * P0 = -2 by omega, show Q1 + Q2 - 2 * Q0 = 0 by omega, hK]
      exact ⟨⟨by omega, by omega, by omega, by omega⟩, by omega, hn⟩
    · rw [show (3 : Int) + 1 = 4 from rfl] at hP2 hQ2
      simp only [cx3, cy3] at hP1 hQ1
      simp only [cx4, cy4] at hP2 hQ2
      obtain ⟨hK, hn⟩ := at_law (X := P0 / 2) (Y := Q0 / 2) (P0 := P0) (Q0 := Q0) (P1 := P1) (Q1 := Q1) (P2 := P2) (Q2 := Q2) (K := 2) (dx := 0) (dy := 2) (by omega) (by omega) (by omega) (by omega) (by omega)
      rw [show P1 + P2 - 2 * P0 = 0 by omega, show Q1 + Q2 - 2 * Q0 = 2 by omega, hK]
      exact ⟨⟨by omega, by omega, by omega, by omega⟩, by omega, hn⟩
end Go.Proofs.YthfhkmgegkhljaaDoor
