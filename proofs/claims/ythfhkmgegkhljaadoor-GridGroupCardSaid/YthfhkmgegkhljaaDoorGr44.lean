/- The plain laws of GridTwice: what mirrors do to triangles, sides and neighbours. -/
import Derived.Test.YthfhkmgegkhljaaDoorGr35
import Derived.Test.YthfhkmgegkhljaaDoorGr40
import Derived.Test.YthfhkmgegkhljaaDoorGr24
namespace Go.Proofs.YthfhkmgegkhljaaDoor
set_option linter.unusedSimpArgs false
set_option linter.unusedVariables false
open Go.RowKit

def mirT (v c x y k : Int) : T3 :=
  if v = 0 then (c - x - 1, y, if k = 1 then 3 else if k = 3 then 1 else k)
  else if v = 1 then (x, c - y - 1, if k = 0 then 2 else if k = 2 then 0 else k)
  else if v = 2 then (c / 2 - y - 1, c / 2 - x - 1, if k = 0 then 1 else if k = 1 then 0 else if k = 2 then 3 else 2)
  else (y + c / 2, x - c / 2, 3 - k)
theorem four {k : Int} (k1 : 0 ≤ k) (k2 : k ≤ 3) : k = 0 ∨ k = 1 ∨ k = 2 ∨ k = 3 := by omega
theorem ofK_S {p q r s t u : Int} (hx : p + q - 2 * r = 0) (hy : s + t - 2 * u = -2) : ofK (p + q - 2 * r) (s + t - 2 * u) = 0 := by rw [hx, hy]; rfl
theorem ofK_E {p q r s t u : Int} (hx : p + q - 2 * r = 2) (hy : s + t - 2 * u = 0) : ofK (p + q - 2 * r) (s + t - 2 * u) = 1 := by rw [hx, hy]; rfl
theorem ofK_N {p q r s t u : Int} (hx : p + q - 2 * r = 0) (hy : s + t - 2 * u = 2) : ofK (p + q - 2 * r) (s + t - 2 * u) = 2 := by rw [hx, hy]; rfl
theorem ofK_W {p q r s t u : Int} (hx : p + q - 2 * r = -2) (hy : s + t - 2 * u = 0) : ofK (p + q - 2 * r) (s + t - 2 * u) = 3 := by rw [hx, hy]; rfl
set_option maxHeartbeats 6400000 in
theorem mir_move {v c x y k : Int} (v1 : 0 ≤ v) (v2 : v ≤ 3) (hc : c % 2 = 0) (k1 : 0 ≤ k) (k2 : k ≤ 3) : moveV (mirB v c) x y k = mirT v c x y k := by
  rcases four v1 v2 with rfl | rfl | rfl | rfl <;> rcases four k1 k2 with rfl | rfl | rfl | rfl <;>
    (simp only [moveV, mirB, moveT, mirT, ptB]
     simp only [reduceIte, Int.reduceEq, Int.reduceAdd, Int.zero_add, show (1 : Int) + 1 = 2 from rfl, show (2 : Int) + 1 = 3 from rfl, show (3 : Int) + 1 = 4 from rfl, show (3 : Int) - 0 = 3 from rfl, show (3 : Int) - 1 = 2 from rfl, show (3 : Int) - 2 = 1 from rfl, show (3 : Int) - 3 = 0 from rfl]
     simp only [cx0, cx1, cx2, cx3, cx4, cy0, cy1, cy2, cy3, cy4]
     refine Prod.ext ?_ (Prod.ext ?_ ?_)
     · simp only
       omega
     · simp only
       omega
     · simp only
       first
         | (refine ofK_S ?_ ?_ <;> omega)
         | (refine ofK_E ?_ ?_ <;> omega)
         | (refine ofK_N ?_ ?_ <;> omega)
         | (refine ofK_W ?_ ?_ <;> omega))
theorem mir_twice {v c x y k : Int} (v1 : 0 ≤ v) (v2 : v ≤ 3) (hc : c % 2 = 0) (k1 : 0 ≤ k) (k2 : k ≤ 3) : mirT v c (mirT v c x y k).1 (mirT v c x y k).2.1 (mirT v c x y k).2.2 = (x, y, k) := by
  rcases four v1 v2 with rfl | rfl | rfl | rfl <;> rcases four k1 k2 with rfl | rfl | rfl | rfl <;> simp [mirT] <;> omega
theorem mir_rng {v c x y k : Int} (v1 : 0 ≤ v) (v2 : v ≤ 3) (c1 : -2000 ≤ c) (c2 : c ≤ 2000) (k1 : 0 ≤ k) (k2 : k ≤ 3) (x1 : -1001 ≤ x) (x2 : x ≤ 1001) (y1 : -1001 ≤ y) (y2 : y ≤ 1001) :
    (-4000 ≤ (mirT v c x y k).1 ∧ (mirT v c x y k).1 ≤ 4000) ∧ (-4000 ≤ (mirT v c x y k).2.1 ∧ (mirT v c x y k).2.1 ≤ 4000) ∧ 0 ≤ (mirT v c x y k).2.2 ∧ (mirT v c x y k).2.2 ≤ 3 := by
  rcases four v1 v2 with rfl | rfl | rfl | rfl <;> rcases four k1 k2 with rfl | rfl | rfl | rfl <;> simp [mirT] <;> omega
theorem mir_may {v c : Int} (v1 : 0 ≤ v) (v2 : v ≤ 3) (c1 : -2000 ≤ c) (c2 : c ≤ 2000) (hc : c % 2 = 0) : mapMayB (mirB v c) = true := by
  rcases four v1 v2 with rfl | rfl | rfl | rfl <;> simp [mapMayB, mirB, turnedB, oneB, tailB, inN] <;> omega
theorem may_of {x y k : Int} (x1 : -1000000 ≤ x) (x2 : x ≤ 1000000) (y1 : -1000000 ≤ y) (y2 : y ≤ 1000000) (k1 : 0 ≤ k) (k2 : k ≤ 3) : triMayB x y k = true := by simp [triMayB, inN]; omega
theorem line_of {v c : Int} (v1 : 0 ≤ v) (v2 : v ≤ 3) (c1 : -1000000 ≤ c) (c2 : c ≤ 1000000) (hc : c % 2 = 0) : lineMayB v c = true := by simp [lineMayB, inN]; omega
set_option maxHeartbeats 6400000 in
theorem mir_side {v c x y k : Int} (v1 : 0 ≤ v) (v2 : v ≤ 3) (hc : c % 2 = 0) (k1 : 0 ≤ k) (k2 : k ≤ 3) :
    sideB v c x y k + sideB v c (mirT v c x y k).1 (mirT v c x y k).2.1 (mirT v c x y k).2.2 = 0 ∧ (sideB v c x y k = 1 ∨ sideB v c x y k = -1) := by
  have key : 3 * c < sumB v x y k ↔ ¬ 3 * c < sumB v (mirT v c x y k).1 (mirT v c x y k).2.1 (mirT v c x y k).2.2 := by
    unfold sumB
    rcases four v1 v2 with rfl | rfl | rfl | rfl <;> rcases four k1 k2 with rfl | rfl | rfl | rfl <;> simp [mirT, valB, cornX, cornY, stepX, stepY] <;> omega
  unfold sideB
  by_cases h : 3 * c < sumB v x y k
  · rw [if_pos h, if_neg (key.1 h)]
    exact ⟨rfl, .inl rfl⟩
  · rw [if_neg h, if_pos (Decidable.of_not_not (fun h' => h (key.2 h')))]
    exact ⟨rfl, .inr rfl⟩
set_option maxHeartbeats 6400000 in
theorem mir_next {v c x y k : Int} {j : Nat} (v1 : 0 ≤ v) (v2 : v ≤ 3) (k1 : 0 ≤ k) (k2 : k ≤ 3) (hj : j < 3) :
    nextT (mirT v c x y k).1 (mirT v c x y k).2.1 (mirT v c x y k).2.2 (2 - j) = mirT v c (nextT x y k j).1 (nextT x y k j).2.1 (nextT x y k j).2.2 := by
  have hj' : j = 0 ∨ j = 1 ∨ j = 2 := by omega
  rcases hj' with rfl | rfl | rfl <;> rcases four v1 v2 with rfl | rfl | rfl | rfl <;> rcases four k1 k2 with rfl | rfl | rfl | rfl <;> simp [mirT, nextT] <;> omega
theorem next_back {x y k : Int} {j : Nat} (k1 : 0 ≤ k) (k2 : k ≤ 3) (hj : j < 3) : nextT (nextT x y k j).1 (nextT x y k j).2.1 (nextT x y k j).2.2 (2 - j) = (x, y, k) := by
  have hj' : j = 0 ∨ j = 1 ∨ j = 2 := by omega
  rcases hj' with rfl | rfl | rfl <;> rcases four k1 k2 with rfl | rfl | rfl | rfl <;> simp [nextT] <;> omega
theorem next_ne {x y k : Int} {j : Nat} (k1 : 0 ≤ k) (k2 : k ≤ 3) (hj : j < 3) : eqT3 (nextT x y k j) (x, y, k) = false := by
  have hj' : j = 0 ∨ j = 1 ∨ j = 2 := by omega
  rcases hj' with rfl | rfl | rfl <;> rcases four k1 k2 with rfl | rfl | rfl | rfl <;> simp [nextT, eqT3, eqL]
theorem next_rng {x y k : Int} {j : Nat} (k1 : 0 ≤ k) (k2 : k ≤ 3) (hj : j < 3) : (x - 1 ≤ (nextT x y k j).1 ∧ (nextT x y k j).1 ≤ x + 1) ∧ (y - 1 ≤ (nextT x y k j).2.1 ∧ (nextT x y k j).2.1 ≤ y + 1) ∧ 0 ≤ (nextT x y k j).2.2 ∧ (nextT x y k j).2.2 ≤ 3 := by
  have hj' : j = 0 ∨ j = 1 ∨ j = 2 := by omega
  rcases hj' with rfl | rfl | rfl <;> rcases four k1 k2 with rfl | rfl | rfl | rfl <;> simp [nextT] <;> omega
theorem tab_back : (ks4.all fun k => [0, 1, 2].all fun j => decide (edgeT (nextT 0 0 k j).1 (nextT 0 0 k j).2.1 (nextT 0 0 k j).2.2 (2 - j) = edgeT 0 0 k j)) = true := by kernel_rfl
theorem edge_back {x y k : Int} {j : Nat} (k1 : 0 ≤ k) (k2 : k ≤ 3) (hj : j < 3) : edgeT (nextT x y k j).1 (nextT x y k j).2.1 (nextT x y k j).2.2 (2 - j) = edgeT x y k j := by
  have h := tab_back
  simp only [List.all_eq_true] at h
  have h1 := of_decide_eq_true (h k (mem_k k1 k2) j (mem_i hj))
  rw [next_shift x y k j]
  simp only
  rw [edgeT_add, h1, ← edgeT_shift]
end Go.Proofs.YthfhkmgegkhljaaDoor
