/- The plain law of GridTris: of all triangles near by just one other has a triangle's edge: the one that Next names. -/
import Derived.Test.YtoienokpchbglaaDoorGr23
namespace Go.Proofs.YtoienokpchbglaaDoor
open Go.RowKit

def shiftE (a b : Int) (e : E4) : E4 := (e.1 + 2 * a, e.2.1 + 2 * b, e.2.2.1 + 2 * a, e.2.2.2 + 2 * b)
theorem shiftE_add (a b c d : Int) (e : E4) : shiftE (a + c) (b + d) e = shiftE a b (shiftE c d e) := by
  simp only [shiftE, Prod.mk.injEq]
  omega
theorem ordE_shift (x y a b c d : Int) : ordE (a + 2 * x) (b + 2 * y) (c + 2 * x) (d + 2 * y) = shiftE x y (ordE a b c d) := by
  have h : lessB (c + 2 * x) (d + 2 * y) (a + 2 * x) (b + 2 * y) = lessB c d a b := by
    have h1 : (c + 2 * x < a + 2 * x) ↔ c < a := by omega
    have h2 : (c + 2 * x = a + 2 * x) ↔ c = a := by omega
    have h3 : (d + 2 * y < b + 2 * y) ↔ d < b := by omega
    simp only [lessB, h1, h2, h3]
  unfold ordE
  rw [h]
  split <;> rfl
theorem edgeT_shift (x y k : Int) (i : Nat) : edgeT x y k i = shiftE x y (edgeT 0 0 k i) := by
  have c1 : ∀ j, cornX x j = cornX 0 j + 2 * x := fun j => by unfold cornX; omega
  have c2 : ∀ j, cornY y j = cornY 0 j + 2 * y := fun j => by unfold cornY; omega
  have c3 : 2 * x + 1 = (2 * 0 + 1) + 2 * x := by omega
  have c4 : 2 * y + 1 = (2 * 0 + 1) + 2 * y := by omega
  unfold edgeT
  split
  · rw [c1, c2, c3, c4, ordE_shift]
  · rw [c1, c2, c1 (k + 1), c2 (k + 1), ordE_shift]
  · rw [c1, c2, c3, c4, ordE_shift]
theorem edgeT_add (x y d f j : Int) (i : Nat) : edgeT (x + d) (y + f) j i = shiftE x y (edgeT d f j i) := by
  rw [edgeT_shift (x + d), shiftE_add, ← edgeT_shift d]
theorem eqE4_shift (x y : Int) (a b : E4) : eqE4 (shiftE x y a) (shiftE x y b) = eqE4 a b := by
  rw [Bool.eq_iff_iff, eqE4_iff, eqE4_iff]
  obtain ⟨a1, a2, a3, a4⟩ := a
  obtain ⟨b1, b2, b3, b4⟩ := b
  simp only [shiftE, Prod.mk.injEq]
  omega
theorem hasE_shift (x y k d f j : Int) (i : Nat) : hasE (x + d) (y + f) j (edgeT x y k i) = hasE d f j (edgeT 0 0 k i) := by
  unfold hasE
  rw [edgeT_add, edgeT_add, edgeT_add, edgeT_shift x y k i, eqE4_shift, eqE4_shift, eqE4_shift]
theorem eqT3_shift (x y d f j k : Int) : eqT3 (x + d, y + f, j) (x, y, k) = eqT3 (0 + d, 0 + f, j) (0, 0, k) := by
  have h1 : (x + d = x) ↔ (0 + d = 0) := by omega
  have h2 : (y + f = y) ↔ (0 + f = 0) := by omega
  rw [Bool.eq_iff_iff]
  simp only [eqT3, eqL, Bool.and_true, Bool.and_eq_true, beq_iff_eq, h1, h2]
theorem hitB_shift (x y k d f j : Int) (i : Nat) : hitB x y k (edgeT x y k i) d f j = hitB 0 0 k (edgeT 0 0 k i) d f j := by
  unfold hitB
  rw [eqT3_shift, hasE_shift, Int.zero_add, Int.zero_add]
def ks4 : List Int := [0, 1, 2, 3]
def ds3 : List Int := [-1, 0, 1]
theorem tab_hit : (ks4.all fun k => [0, 1, 2].all fun i => ds3.all fun d => ds3.all fun f => ks4.all fun j => hitB 0 0 k (edgeT 0 0 k i) d f j == decide ((d, f, j) = nextT 0 0 k i)) = true := by kernel_rfl
theorem tab_idx : (ks4.all fun k => [0, 1, 2].all fun i => idxE (edgeT 0 0 k 0) (edgeT 0 0 k 1) (edgeT 0 0 k 2) (edgeT 0 0 k i) == (i : Int)) = true := by kernel_rfl
theorem tab_rng : (ks4.all fun k => [0, 1, 2].all fun i => ds3.contains (nextT 0 0 k i).1 && ds3.contains (nextT 0 0 k i).2.1 && ks4.contains (nextT 0 0 k i).2.2) = true := by kernel_rfl
theorem mem_k {k : Int} (h1 : 0 ≤ k) (h2 : k ≤ 3) : k ∈ ks4 := by simp [ks4]; omega
theorem mem_d {d : Int} (h1 : -1 ≤ d) (h2 : d ≤ 1) : d ∈ ds3 := by simp [ds3]; omega
theorem mem_i {i : Nat} (h : i < 3) : i ∈ [0, 1, 2] := by simp; omega
theorem hit_law {k d f j : Int} {i : Nat} (k1 : 0 ≤ k) (k2 : k ≤ 3) (hi : i < 3) (d1 : -1 ≤ d) (d2 : d ≤ 1) (f1 : -1 ≤ f) (f2 : f ≤ 1) (j1 : 0 ≤ j) (j2 : j ≤ 3) (x y : Int) :
    hitB x y k (edgeT x y k i) d f j = decide ((d, f, j) = nextT 0 0 k i) := by
  rw [hitB_shift]
  have h := tab_hit
  simp only [List.all_eq_true, beq_iff_eq] at h
  exact h k (mem_k k1 k2) i (mem_i hi) d (mem_d d1 d2) f (mem_d f1 f2) j (mem_k j1 j2)
theorem rng_law {k : Int} {i : Nat} (k1 : 0 ≤ k) (k2 : k ≤ 3) (hi : i < 3) : (-1 ≤ (nextT 0 0 k i).1 ∧ (nextT 0 0 k i).1 ≤ 1) ∧ (-1 ≤ (nextT 0 0 k i).2.1 ∧ (nextT 0 0 k i).2.1 ≤ 1) ∧ 0 ≤ (nextT 0 0 k i).2.2 ∧ (nextT 0 0 k i).2.2 ≤ 3 := by
  have h := tab_rng
  simp only [List.all_eq_true] at h
  have := h k (mem_k k1 k2) i (mem_i hi)
  simp [ds3, ks4] at this
  omega
theorem idx_law {k : Int} {i : Nat} (k1 : 0 ≤ k) (k2 : k ≤ 3) (hi : i < 3) (x y : Int) : idxE (edgeT x y k 0) (edgeT x y k 1) (edgeT x y k 2) (edgeT x y k i) = i := by
  have h := tab_idx
  simp only [List.all_eq_true, beq_iff_eq] at h
  rw [← h k (mem_k k1 k2) i (mem_i hi)]
  unfold idxE
  rw [edgeT_shift x y k 0, edgeT_shift x y k 1, edgeT_shift x y k 2, edgeT_shift x y k i, eqE4_shift, eqE4_shift, eqE4_shift]
theorem next_shift (x y k : Int) (i : Nat) : nextT x y k i = (x + (nextT 0 0 k i).1, y + (nextT 0 0 k i).2.1, (nextT 0 0 k i).2.2) := by
  unfold nextT
  split <;> simp
theorem eqE4_comm (a b : E4) : eqE4 a b = eqE4 b a := by
  rw [Bool.eq_iff_iff, eqE4_iff, eqE4_iff]
  exact eq_comm
theorem has_self (x y k : Int) {i : Nat} (hi : i < 3) : hasE x y k (edgeT x y k i) = true := by
  have h : ∀ a : E4, eqE4 a a = true := fun a => (eqE4_iff a a).2 rfl
  have hi' : i = 0 ∨ i = 1 ∨ i = 2 := by omega
  rcases hi' with rfl | rfl | rfl <;> simp [hasE, h]
theorem idx_no {x y k : Int} {m : E4} (h : hasE x y k m = false) : idxE (edgeT x y k 0) (edgeT x y k 1) (edgeT x y k 2) m = -1 := by
  simp only [hasE, Bool.or_eq_false_iff] at h
  simp [idxE, eqE4_comm m, h.1.1, h.1.2, h.2]
theorem has_one {x y k : Int} {m : E4} (h : hasE x y k m = true) : ∃ i : Nat, i < 3 ∧ m = edgeT x y k i := by
  simp only [hasE, Bool.or_eq_true, eqE4_iff] at h
  rcases h with (h | h) | h
  · exact ⟨0, by omega, h.symm⟩
  · exact ⟨1, by omega, h.symm⟩
  · exact ⟨2, by omega, h.symm⟩
/-- What the program's Across and the document's AcrossOf say of an edge of the triangle: the same. -/
theorem acrossOf_edge (x y k : Int) (i : Nat) (w : World) (hi : i < 3) (x1 : -1000000 ≤ x) (x2 : x ≤ 1000000) (y1 : -1000000 ≤ y) (y2 : y ≤ 1000000) (k1 : 0 ≤ k) (k2 : k ≤ 3) :
    Calls Tryd.prog 51 #[aggT x y k, aggE (edgeT x y k i)] w fun e w' => e = .returned (.tuple #[aggT3 (nextT x y k i), .bool true]) ∧ Below w.heap.size w w' := by
  obtain ⟨⟨d1, d2⟩, ⟨f1, f2⟩, j1, j2⟩ := rng_law k1 k2 hi
  rw [next_shift]
  exact acrossOf_at x y k (edgeT x y k i) _ _ _ w x1 x2 y1 y2 k1 k2 (has_self x y k hi) d1 d2 f1 f2 j1 j2 (by rw [hit_law k1 k2 hi d1 d2 f1 f2 j1 j2]; simp)
    (fun d f j a1 a2 b1 b2 c1 c2 h => by
      rw [hit_law k1 k2 hi a1 a2 b1 b2 c1 c2] at h
      have := of_decide_eq_true h
      rw [← this]
      exact ⟨rfl, rfl, rfl⟩)
end Go.Proofs.YtoienokpchbglaaDoor
