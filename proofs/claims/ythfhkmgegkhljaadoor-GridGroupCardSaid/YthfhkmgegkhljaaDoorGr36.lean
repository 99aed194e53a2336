/- The document's BackOf. Printed by gen_gr36.py. -/
import Derived.Test.YthfhkmgegkhljaaDoorGr35
import Derived.Test.YthfhkmgegkhljaaDoorGr31
namespace Go.Proofs.YthfhkmgegkhljaaDoor
set_option linter.unusedSimpArgs false
set_option linter.unusedVariables false
open Go.RowKit

def bI (i : Nat) : V6 := match i with
  | 0 => (1, 0, 0, 1, 0, 0)
  | 1 => ((-1), 0, 0, 1, 0, 0)
  | 2 => (1, 0, 0, (-1), 0, 0)
  | 3 => ((-1), 0, 0, (-1), 0, 0)
  | 4 => (0, 1, 1, 0, 0, 0)
  | 5 => (0, (-1), 1, 0, 0, 0)
  | 6 => (0, 1, (-1), 0, 0, 0)
  | _ => (0, (-1), (-1), 0, 0, 0)
def isId (i : Nat) (A : V6) : Bool := decide ((afterV A (bI i)).1 = 1) && (decide ((afterV A (bI i)).2.2.2.1 = 1) && (decide ((afterV A (bI i)).2.1 = 0) && decide ((afterV A (bI i)).2.2.1 = 0)))
def backI (i : Nat) (A : V6) : V6 := ((bI i).1, (bI i).2.1, (bI i).2.2.1, (bI i).2.2.2.1, -(afterV A (bI i)).2.2.2.2.1, -(afterV A (bI i)).2.2.2.2.2)
theorem may_turned {A : V6} (h : mapMayB A = true) : turnedB A.1 A.2.1 A.2.2.1 A.2.2.2.1 = true := by
  simp only [mapMayB, Bool.and_eq_true] at h
  exact h.1
theorem back_law {A : V6} (h : mapMayB A = true) {i : Nat} (hi : i < 8) (h1 : isId i A = true) : backI i A = backV A := by
  obtain ⟨a, b, c, d, e, f⟩ := A
  have h2 := turned_ways (may_turned h)
  simp only at h2
  have hi' : i = 0 ∨ i = 1 ∨ i = 2 ∨ i = 3 ∨ i = 4 ∨ i = 5 ∨ i = 6 ∨ i = 7 := by omega
  rcases h2 with ⟨rfl, rfl, rfl, rfl⟩ | ⟨rfl, rfl, rfl, rfl⟩ | ⟨rfl, rfl, rfl, rfl⟩ | ⟨rfl, rfl, rfl, rfl⟩ | ⟨rfl, rfl, rfl, rfl⟩ | ⟨rfl, rfl, rfl, rfl⟩ | ⟨rfl, rfl, rfl, rfl⟩ | ⟨rfl, rfl, rfl, rfl⟩ <;>
    rcases hi' with rfl | rfl | rfl | rfl | rfl | rfl | rfl | rfl <;>
    first
      | (simp [backI, backV, afterV, bI]; done)
      | (simp [isId, afterV, bI] at h1)
theorem back_ex {A : V6} (h : mapMayB A = true) : ∃ i, i < 8 ∧ isId i A = true := by
  obtain ⟨a, b, c, d, e, f⟩ := A
  have h2 := turned_ways (may_turned h)
  simp only at h2
  rcases h2 with ⟨rfl, rfl, rfl, rfl⟩ | ⟨rfl, rfl, rfl, rfl⟩ | ⟨rfl, rfl, rfl, rfl⟩ | ⟨rfl, rfl, rfl, rfl⟩ | ⟨rfl, rfl, rfl, rfl⟩ | ⟨rfl, rfl, rfl, rfl⟩ | ⟨rfl, rfl, rfl, rfl⟩ | ⟨rfl, rfl, rfl, rfl⟩
  · exact ⟨0, by omega, by simp [isId, afterV, bI]⟩
  · exact ⟨1, by omega, by simp [isId, afterV, bI]⟩
  · exact ⟨2, by omega, by simp [isId, afterV, bI]⟩
  · exact ⟨3, by omega, by simp [isId, afterV, bI]⟩
  · exact ⟨4, by omega, by simp [isId, afterV, bI]⟩
  · exact ⟨6, by omega, by simp [isId, afterV, bI]⟩
  · exact ⟨5, by omega, by simp [isId, afterV, bI]⟩
  · exact ⟨7, by omega, by simp [isId, afterV, bI]⟩
theorem afterOf_V (A B : V6) (w : World) (ha : Sm A.1 A.2.1 A.2.2.1 A.2.2.2.1 A.2.2.2.2.1 A.2.2.2.2.2) (hb : Sm B.1 B.2.1 B.2.2.1 B.2.2.2.1 B.2.2.2.2.1 B.2.2.2.2.2) :
    Calls Tryd.prog 25 #[aggM A, aggM B] w fun r w' => r = .returned (aggM (afterV A B)) ∧ Below w.heap.size w w' :=
  afterOf_any _ _ _ _ _ _ _ _ _ _ _ _ w ha hb
theorem bI_sm (i : Nat) : Sm (bI i).1 (bI i).2.1 (bI i).2.2.1 (bI i).2.2.2.1 (bI i).2.2.2.2.1 (bI i).2.2.2.2.2 := by
  unfold bI
  split <;> constructor <;> simp
theorem upto_next {A : V6} {n : Nat} (G : ∀ j, j < n → isId j A = false) (h : isId n A = false) : ∀ j, j < n + 1 → isId j A = false := by
  intro j hj
  rcases Nat.lt_succ_iff_lt_or_eq.1 hj with h1 | rfl
  · exact G j h1
  · exact h

end Go.Proofs.YthfhkmgegkhljaaDoor
