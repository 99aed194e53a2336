/- The plain laws of GridGroup: maps put together, undone, and what they do to triangles. -/
import Derived.Test.YthfhkmgegkhljaaDoorGr44
import Derived.Test.YthfhkmgegkhljaaDoorGr45
namespace Go.Proofs.YthfhkmgegkhljaaDoor
set_option linter.unusedSimpArgs false
set_option linter.unusedVariables false
open Go.RowKit

def dirX (k : Int) : Int := if k = 1 then 1 else if k = 3 then -1 else 0
def dirY (k : Int) : Int := if k = 0 then -1 else if k = 2 then 1 else 0
def kmap (a b c d k : Int) : Int := ofK (a * dirX k + b * dirY k) (c * dirX k + d * dirY k)
theorem turn8 {a b c d : Int} (h : turnedB a b c d = true) :
    (a = 1 ∧ b = 0 ∧ c = 0 ∧ d = 1) ∨ (a = 1 ∧ b = 0 ∧ c = 0 ∧ d = -1) ∨ (a = -1 ∧ b = 0 ∧ c = 0 ∧ d = 1) ∨ (a = -1 ∧ b = 0 ∧ c = 0 ∧ d = -1) ∨
    (a = 0 ∧ b = 1 ∧ c = 1 ∧ d = 0) ∨ (a = 0 ∧ b = 1 ∧ c = -1 ∧ d = 0) ∨ (a = 0 ∧ b = -1 ∧ c = 1 ∧ d = 0) ∨ (a = 0 ∧ b = -1 ∧ c = -1 ∧ d = 0) := by
  simp only [turnedB, oneB, Bool.or_eq_true, Bool.and_eq_true, beq_iff_eq] at h
  rcases h with ⟨⟨rfl | rfl, rfl⟩, rfl | rfl, rfl⟩ | ⟨⟨rfl | rfl, rfl⟩, rfl | rfl, rfl⟩ <;> decide
theorem k_rng {a b c d k : Int} : 0 ≤ kmap a b c d k ∧ kmap a b c d k ≤ 3 := by
  unfold kmap ofK
  (repeat' split) <;> omega
set_option maxHeartbeats 6400000 in
theorem mv_form {a b c d e f x y k : Int} (h : turnedB a b c d = true) (k1 : 0 ≤ k) (k2 : k ≤ 3) :
    moveV (a, b, c, d, e, f) x y k = ((a * (2 * x + 1) + b * (2 * y + 1) + e) / 2, (c * (2 * x + 1) + d * (2 * y + 1) + f) / 2, kmap a b c d k) := by
  refine Prod.ext rfl (Prod.ext rfl ?_)
  rcases turn8 h with ⟨rfl, rfl, rfl, rfl⟩ | ⟨rfl, rfl, rfl, rfl⟩ | ⟨rfl, rfl, rfl, rfl⟩ | ⟨rfl, rfl, rfl, rfl⟩ | ⟨rfl, rfl, rfl, rfl⟩ | ⟨rfl, rfl, rfl, rfl⟩ | ⟨rfl, rfl, rfl, rfl⟩ | ⟨rfl, rfl, rfl, rfl⟩ <;>
  rcases four k1 k2 with rfl | rfl | rfl | rfl <;>
    (simp only [moveV, moveT, ptB]
     simp only [Int.reduceAdd, Int.zero_add, show (1 : Int) + 1 = 2 from rfl, show (2 : Int) + 1 = 3 from rfl, show (3 : Int) + 1 = 4 from rfl]
     simp only [cx0, cx1, cx2, cx3, cx4, cy0, cy1, cy2, cy3, cy4]
     first
       | (refine (ofK_S ?_ ?_).trans (show (0 : Int) = kmap _ _ _ _ _ by decide) <;> omega)
       | (refine (ofK_E ?_ ?_).trans (show (1 : Int) = kmap _ _ _ _ _ by decide) <;> omega)
       | (refine (ofK_N ?_ ?_).trans (show (2 : Int) = kmap _ _ _ _ _ by decide) <;> omega)
       | (refine (ofK_W ?_ ?_).trans (show (3 : Int) = kmap _ _ _ _ _ by decide) <;> omega))
/-- A map that may be, whose numbers are small. -/
def GM (A : V6) (n : Int) : Prop := turnedB A.1 A.2.1 A.2.2.1 A.2.2.2.1 = true ∧ (-n ≤ A.2.2.2.2.1 ∧ A.2.2.2.2.1 ≤ n) ∧ (-n ≤ A.2.2.2.2.2 ∧ A.2.2.2.2.2 ≤ n) ∧ A.2.2.2.2.1 % 2 = 0 ∧ A.2.2.2.2.2 % 2 = 0
theorem GM.may {A : V6} {n : Int} (h : GM A n) (hn : n ≤ 1000000) : mapMayB A = true := by
  obtain ⟨h1, h2, h3, h4, h5⟩ := h
  simp [mapMayB, h1, tailB, inN]
  omega
theorem GM.mono {A : V6} {n m : Int} (h : GM A n) (hn : n ≤ m) : GM A m := by
  obtain ⟨h1, h2, h3, h4, h5⟩ := h
  exact ⟨h1, by omega, by omega, h4, h5⟩
theorem gm_mir {v c : Int} (v1 : 0 ≤ v) (v2 : v ≤ 3) (c1 : -2000 ≤ c) (c2 : c ≤ 2000) (hc : c % 2 = 0) : GM (mirB v c) 4000 := by
  rcases four v1 v2 with rfl | rfl | rfl | rfl <;> simp [GM, mirB, turnedB, oneB] <;> omega
set_option maxHeartbeats 6400000 in
theorem gm_after {A B : V6} {n m : Int} (ha : GM A n) (hb : GM B m) : GM (afterV A B) (n + m) := by
  obtain ⟨a, b, c, d, e, f⟩ := A
  obtain ⟨p, q, r, s, g, h⟩ := B
  obtain ⟨a1, a2, a3, a4, a5⟩ := ha
  obtain ⟨b1, b2, b3, b4, b5⟩ := hb
  simp only at a1 a2 a3 a4 a5 b1 b2 b3 b4 b5
  rcases turn8 a1 with ⟨rfl, rfl, rfl, rfl⟩ | ⟨rfl, rfl, rfl, rfl⟩ | ⟨rfl, rfl, rfl, rfl⟩ | ⟨rfl, rfl, rfl, rfl⟩ | ⟨rfl, rfl, rfl, rfl⟩ | ⟨rfl, rfl, rfl, rfl⟩ | ⟨rfl, rfl, rfl, rfl⟩ | ⟨rfl, rfl, rfl, rfl⟩ <;>
  rcases turn8 b1 with ⟨rfl, rfl, rfl, rfl⟩ | ⟨rfl, rfl, rfl, rfl⟩ | ⟨rfl, rfl, rfl, rfl⟩ | ⟨rfl, rfl, rfl, rfl⟩ | ⟨rfl, rfl, rfl, rfl⟩ | ⟨rfl, rfl, rfl, rfl⟩ | ⟨rfl, rfl, rfl, rfl⟩ | ⟨rfl, rfl, rfl, rfl⟩ <;>
  (refine ⟨rfl, ?_, ?_, ?_, ?_⟩ <;> simp only [afterV] <;> omega)
theorem gm_back {A : V6} {n : Int} (ha : GM A n) : GM (backV A) n := by
  obtain ⟨a, b, c, d, e, f⟩ := A
  obtain ⟨a1, a2, a3, a4, a5⟩ := ha
  simp only at a1 a2 a3 a4 a5
  rcases turn8 a1 with ⟨rfl, rfl, rfl, rfl⟩ | ⟨rfl, rfl, rfl, rfl⟩ | ⟨rfl, rfl, rfl, rfl⟩ | ⟨rfl, rfl, rfl, rfl⟩ | ⟨rfl, rfl, rfl, rfl⟩ | ⟨rfl, rfl, rfl, rfl⟩ | ⟨rfl, rfl, rfl, rfl⟩ | ⟨rfl, rfl, rfl, rfl⟩ <;>
  (refine ⟨rfl, ?_, ?_, ?_, ?_⟩ <;> simp only [backV] <;> omega)
def stillV : V6 := (1, 0, 0, 1, 0, 0)
theorem gm_still : GM stillV 0 := ⟨by decide, ⟨by decide, by decide⟩, ⟨by decide, by decide⟩, by decide, by decide⟩
theorem back_still {A : V6} {n : Int} (ha : GM A n) : afterV A (backV A) = stillV ∧ afterV (backV A) A = stillV := by
  obtain ⟨a, b, c, d, e, f⟩ := A
  obtain ⟨a1, a2, a3, a4, a5⟩ := ha
  simp only at a1 a2 a3 a4 a5
  rcases turn8 a1 with ⟨rfl, rfl, rfl, rfl⟩ | ⟨rfl, rfl, rfl, rfl⟩ | ⟨rfl, rfl, rfl, rfl⟩ | ⟨rfl, rfl, rfl, rfl⟩ | ⟨rfl, rfl, rfl, rfl⟩ | ⟨rfl, rfl, rfl, rfl⟩ | ⟨rfl, rfl, rfl, rfl⟩ | ⟨rfl, rfl, rfl, rfl⟩ <;>
  (refine ⟨?_, ?_⟩ <;> simp only [backV, afterV, stillV, Prod.mk.injEq] <;> omega)
theorem mv_rng {A : V6} {n m x y k : Int} (ha : GM A n) (k1 : 0 ≤ k) (k2 : k ≤ 3) (x1 : -m ≤ x) (x2 : x ≤ m) (y1 : -m ≤ y) (y2 : y ≤ m) :
    (-(n + m + 1) ≤ (moveV A x y k).1 ∧ (moveV A x y k).1 ≤ n + m + 1) ∧ (-(n + m + 1) ≤ (moveV A x y k).2.1 ∧ (moveV A x y k).2.1 ≤ n + m + 1) ∧ 0 ≤ (moveV A x y k).2.2 ∧ (moveV A x y k).2.2 ≤ 3 := by
  obtain ⟨a, b, c, d, e, f⟩ := A
  obtain ⟨a1, a2, a3, a4, a5⟩ := ha
  simp only at a1 a2 a3 a4 a5
  rw [mv_form a1 k1 k2]
  have hk := k_rng (a := a) (b := b) (c := c) (d := d) (k := k)
  rcases turn8 a1 with ⟨rfl, rfl, rfl, rfl⟩ | ⟨rfl, rfl, rfl, rfl⟩ | ⟨rfl, rfl, rfl, rfl⟩ | ⟨rfl, rfl, rfl, rfl⟩ | ⟨rfl, rfl, rfl, rfl⟩ | ⟨rfl, rfl, rfl, rfl⟩ | ⟨rfl, rfl, rfl, rfl⟩ | ⟨rfl, rfl, rfl, rfl⟩ <;>
  (refine ⟨?_, ?_, hk⟩ <;> simp only <;> omega)
theorem k_after {a b c d p q r s k : Int} (ha : turnedB a b c d = true) (hb : turnedB p q r s = true) (k1 : 0 ≤ k) (k2 : k ≤ 3) :
    kmap (p * a + q * c) (p * b + q * d) (r * a + s * c) (r * b + s * d) k = kmap p q r s (kmap a b c d k) := by
  rcases turn8 ha with ⟨rfl, rfl, rfl, rfl⟩ | ⟨rfl, rfl, rfl, rfl⟩ | ⟨rfl, rfl, rfl, rfl⟩ | ⟨rfl, rfl, rfl, rfl⟩ | ⟨rfl, rfl, rfl, rfl⟩ | ⟨rfl, rfl, rfl, rfl⟩ | ⟨rfl, rfl, rfl, rfl⟩ | ⟨rfl, rfl, rfl, rfl⟩ <;>
  rcases turn8 hb with ⟨rfl, rfl, rfl, rfl⟩ | ⟨rfl, rfl, rfl, rfl⟩ | ⟨rfl, rfl, rfl, rfl⟩ | ⟨rfl, rfl, rfl, rfl⟩ | ⟨rfl, rfl, rfl, rfl⟩ | ⟨rfl, rfl, rfl, rfl⟩ | ⟨rfl, rfl, rfl, rfl⟩ | ⟨rfl, rfl, rfl, rfl⟩ <;>
  rcases four k1 k2 with rfl | rfl | rfl | rfl <;> decide
set_option maxHeartbeats 6400000 in
theorem mv_after {A B : V6} {n m x y k : Int} (ha : GM A n) (hb : GM B m) (k1 : 0 ≤ k) (k2 : k ≤ 3) :
    moveV (afterV A B) x y k = moveV B (moveV A x y k).1 (moveV A x y k).2.1 (moveV A x y k).2.2 := by
  have hc := (gm_after ha hb).1
  obtain ⟨a, b, c, d, e, f⟩ := A
  obtain ⟨p, q, r, s, g, h⟩ := B
  obtain ⟨a1, a2, a3, a4, a5⟩ := ha
  obtain ⟨b1, b2, b3, b4, b5⟩ := hb
  have hk := k_rng (a := a) (b := b) (c := c) (d := d) (k := k)
  simp only at a1 a2 a3 a4 a5 b1 b2 b3 b4 b5
  simp only [afterV] at hc ⊢
  rw [mv_form hc k1 k2, mv_form a1 k1 k2]
  simp only
  rw [mv_form b1 hk.1 hk.2]
  refine Prod.ext ?_ (Prod.ext ?_ (k_after a1 b1 k1 k2))
  · rcases turn8 a1 with ⟨rfl, rfl, rfl, rfl⟩ | ⟨rfl, rfl, rfl, rfl⟩ | ⟨rfl, rfl, rfl, rfl⟩ | ⟨rfl, rfl, rfl, rfl⟩ | ⟨rfl, rfl, rfl, rfl⟩ | ⟨rfl, rfl, rfl, rfl⟩ | ⟨rfl, rfl, rfl, rfl⟩ | ⟨rfl, rfl, rfl, rfl⟩ <;>
    rcases turn8 b1 with ⟨rfl, rfl, rfl, rfl⟩ | ⟨rfl, rfl, rfl, rfl⟩ | ⟨rfl, rfl, rfl, rfl⟩ | ⟨rfl, rfl, rfl, rfl⟩ | ⟨rfl, rfl, rfl, rfl⟩ | ⟨rfl, rfl, rfl, rfl⟩ | ⟨rfl, rfl, rfl, rfl⟩ | ⟨rfl, rfl, rfl, rfl⟩ <;>
    simp only <;> omega
  · rcases turn8 a1 with ⟨rfl, rfl, rfl, rfl⟩ | ⟨rfl, rfl, rfl, rfl⟩ | ⟨rfl, rfl, rfl, rfl⟩ | ⟨rfl, rfl, rfl, rfl⟩ | ⟨rfl, rfl, rfl, rfl⟩ | ⟨rfl, rfl, rfl, rfl⟩ | ⟨rfl, rfl, rfl, rfl⟩ | ⟨rfl, rfl, rfl, rfl⟩ <;>
    rcases turn8 b1 with ⟨rfl, rfl, rfl, rfl⟩ | ⟨rfl, rfl, rfl, rfl⟩ | ⟨rfl, rfl, rfl, rfl⟩ | ⟨rfl, rfl, rfl, rfl⟩ | ⟨rfl, rfl, rfl, rfl⟩ | ⟨rfl, rfl, rfl, rfl⟩ | ⟨rfl, rfl, rfl, rfl⟩ | ⟨rfl, rfl, rfl, rfl⟩ <;>
    simp only <;> omega
theorem mv_still {x y k : Int} (k1 : 0 ≤ k) (k2 : k ≤ 3) : moveV stillV x y k = (x, y, k) := by
  rw [stillV, mv_form (by decide) k1 k2]
  refine Prod.ext ?_ (Prod.ext ?_ ?_)
  · simp only
    omega
  · simp only
    omega
  · show kmap 1 0 0 1 k = k
    rcases four k1 k2 with rfl | rfl | rfl | rfl <;> decide
theorem mv_back {A : V6} {n x y k : Int} (ha : GM A n) (k1 : 0 ≤ k) (k2 : k ≤ 3) : moveV (backV A) (moveV A x y k).1 (moveV A x y k).2.1 (moveV A x y k).2.2 = (x, y, k) := by
  rw [← mv_after ha (gm_back ha) k1 k2, (back_still ha).1, mv_still k1 k2]
end Go.Proofs.YthfhkmgegkhljaaDoor
