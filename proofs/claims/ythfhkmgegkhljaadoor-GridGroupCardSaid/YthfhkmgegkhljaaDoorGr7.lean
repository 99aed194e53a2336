/- The side of a line on which a triangle lies: the program's Side. Printed by gen_gr7.py. -/
import Derived.Test.YthfhkmgegkhljaaDoorGr2
import Derived.Test.YthfhkmgegkhljaaDoorGr3
namespace Go.Proofs.YthfhkmgegkhljaaDoor
open Go.RowKit

theorem stepX_bd (j : Int) : -1 ≤ stepX j ∧ stepX j ≤ 1 := by unfold stepX; split <;> (try split) <;> omega
theorem stepY_bd (j : Int) : -1 ≤ stepY j ∧ stepY j ≤ 1 := by unfold stepY; split <;> (try split) <;> omega
theorem cornX_bd {x : Int} (k : Int) (x1 : -1000000 ≤ x) (x2 : x ≤ 1000000) : -2000002 ≤ cornX x k ∧ cornX x k ≤ 2000002 := by have := stepX_bd (k % 4); unfold cornX; omega
theorem cornY_bd {x : Int} (k : Int) (x1 : -1000000 ≤ x) (x2 : x ≤ 1000000) : -2000002 ≤ cornY x k ∧ cornY x k ≤ 2000002 := by have := stepY_bd (k % 4); unfold cornY; omega
theorem idx0 (p0 p1 p2 p3 p4 p5 : Value) (w : World) : (Instr.index 28 (.agg #[p0, p1, p2, p3, p4, p5]) (.int .i64 0)).run Tryd.prog w = .ok (.agg #[p0, p1]) w := by first | rfl | kernel_rfl | simp [Instr.index, go_sem]
theorem idx1 (p0 p1 p2 p3 p4 p5 : Value) (w : World) : (Instr.index 28 (.agg #[p0, p1, p2, p3, p4, p5]) (.int .i64 1)).run Tryd.prog w = .ok (.agg #[p2, p3]) w := by first | rfl | kernel_rfl | simp [Instr.index, go_sem]
theorem idx2 (p0 p1 p2 p3 p4 p5 : Value) (w : World) : (Instr.index 28 (.agg #[p0, p1, p2, p3, p4, p5]) (.int .i64 2)).run Tryd.prog w = .ok (.agg #[p4, p5]) w := by first | rfl | kernel_rfl | simp [Instr.index, go_sem]
def sumB (v x y k : Int) : Int := valB v (2 * x + 1) (2 * y + 1) + valB v (cornX x k) (cornY y k) + valB v (cornX x (k + 1)) (cornY y (k + 1))
def sideB (v c x y k : Int) : Int := if 3 * c < sumB v x y k then 1 else -1
def boxes (w : World) (v c x y k : Int) : World := (w.alloc (.cells #[.int .i64 v, .int .i64 c] 47)).alloc (.cells #[.int .i64 x, .int .i64 y, .int .i64 k] 23)
theorem boxes_below (w : World) (v c x y k : Int) : Below w.heap.size w (boxes w v c x y k) := ((Below.refl _ _).alloc (Nat.le_refl _) _).alloc (by simp) _
theorem boxes_l (w : World) (v c x y k : Int) : (boxes w v c x y k).heap[w.heap.size]? = some (.cells #[.int .i64 v, .int .i64 c] 47 (0, 0)) := blk_alloc (heap_alloc_new w _) _

set_option maxRecDepth 100000 in
set_option maxHeartbeats 1600000 in
theorem side_any (v c x y k : Int) (w : World) (hs : Steps w) (c1 : -1000000 ≤ c) (c2 : c ≤ 1000000) (x1 : -1000000 ≤ x) (x2 : x ≤ 1000000) (y1 : -1000000 ≤ y) (y2 : y ≤ 1000000) (k1 : 0 ≤ k) (k2 : k ≤ 3) :
    Calls Tryd.prog 46 #[.agg #[.int .i64 v, .int .i64 c], .agg #[.int .i64 x, .int .i64 y, .int .i64 k]] w fun e w' => e = .returned (.int .i64 (sideB v c x y k)) ∧ Below w.heap.size w w' := by
  have hsb := hs.below (boxes_below w v c x y k)
  obtain ⟨X1, hX1⟩ : ∃ a, a = cornX x k := ⟨_, rfl⟩
  obtain ⟨Y1, hY1⟩ : ∃ a, a = cornY y k := ⟨_, rfl⟩
  obtain ⟨X2, hX2⟩ : ∃ a, a = cornX x (k + 1) := ⟨_, rfl⟩
  obtain ⟨Y2, hY2⟩ : ∃ a, a = cornY y (k + 1) := ⟨_, rfl⟩
  have bX1 := cornX_bd k x1 x2
  have bX2 := cornX_bd (k + 1) x1 x2
  have bY1 := cornY_bd k y1 y2
  have bY2 := cornY_bd (k + 1) y1 y2
  rw [← hX1] at bX1
  rw [← hX2] at bX2
  rw [← hY1] at bY1
  rw [← hY2] at bY2
  obtain ⟨V0, hV0⟩ : ∃ a, a = valB v (2 * x + 1) (2 * y + 1) := ⟨_, rfl⟩
  obtain ⟨V1, hV1⟩ : ∃ a, a = valB v X1 Y1 := ⟨_, rfl⟩
  obtain ⟨V2, hV2⟩ : ∃ a, a = valB v X2 Y2 := ⟨_, rfl⟩
  have b0 := valB_bd (v := v) (x := 2 * x + 1) (y := 2 * y + 1) (M := 4000000) (by omega) (by omega) (by omega) (by omega)
  have b1 := valB_bd (v := v) (x := X1) (y := Y1) (M := 4000000) (by omega) (by omega) (by omega) (by omega)
  have b2 := valB_bd (v := v) (x := X2) (y := Y2) (M := 4000000) (by omega) (by omega) (by omega) (by omega)
  rw [← hV0] at b0
  rw [← hV1] at b1
  rw [← hV2] at b2
  simp only [Int.reduceMul] at b0 b1 b2
  have i0 := idx0
  have i1 := idx1
  have i2 := idx2
  have HS : Hid (sumB v x y k = V0 + V1 + V2) := Lib.hid (by rw [hV0, hV1, hV2, hX1, hX2, hY1, hY2]; rfl)
  have HX1 := Lib.hid hX1
  have HX2 := Lib.hid hX2
  have HY1 := Lib.hid hY1
  have HY2 := Lib.hid hY2
  have HV0 := Lib.hid hV0
  have HV1 := Lib.hid hV1
  have HV2 := Lib.hid hV2
  clear hX1 hX2 hY1 hY2 hV0 hV1 hV2
  go_enter Tryd.func46, Tryd.ntmps46
  go_wp2_with fail
  refine (corners_any x y k _ hsb x1 x2 y1 y2 k1 k2).mono ?_
  rintro e w1 ⟨he, hb1⟩
  rw [← HX1.out, ← HX2.out, ← HY1.out, ← HY2.out] at he
  subst he
  have kl := blk_below (boxes_l w v c x y k) hb1 (blk_lt (boxes_l w v c x y k))
  have l0 := cell_of_blk kl 0
  have l1 := cell_of_blk kl 1
  simp only [List.getElem?_toArray, List.getElem?_cons_zero, List.getElem?_cons_succ] at l0 l1
  have hw1 : Below w.heap.size w w1 := stay_b (boxes_below w v c x y k) hb1
  clear kl hb1
  go_wp2
  go_loopw [5, 10] (fun t i wr => ∃ n : Nat, n ≤ 3 ∧ i = .int .i64 n ∧ t = .int .i64 (if n = 0 then 0 else if n = 1 then V0 else if n = 2 then V0 + V1 else V0 + V1 + V2) ∧ Below w1.heap.size w1 wr) (fun _ i _ => 3 - (intOf i).toNat)
  case atStart => exact ⟨0, by omega, rfl, rfl, Below.refl _ _⟩
  case round =>
    obtain ⟨n, hn, rfl, rfl, hbel⟩ := hrel
    have m0 := stay_c l0 hbel (Nat.le_refl _)
    have m1 := stay_c l1 hbel (Nat.le_refl _)
    have q : w.heap.size < wr.heap.size := World.block_lt_of_cell? _ _ m0
    have hn4 : n = 0 ∨ n = 1 ∨ n = 2 ∨ n = 3 := by omega
    rcases hn4 with rfl | rfl | rfl | rfl
    · simp only [Nat.reduceEqDiff, reduceIte]
      go_wp2_with fail
      refine (value_any v (2 * x + 1) (2 * y + 1) _ (by omega) (by omega) (by omega) (by omega)).mono ?_
      rintro e w2 ⟨he, hb2⟩
      rw [← HV0.out] at he
      subst he
      go_wp2
      go_roundw
      case rel => exact ⟨1, by omega, rfl, by simp, (hbel.alloc hbel.size _).trans (hb2.mono (by have := hbel.size; simp; omega))⟩
      case measure => simp [intOf]
    · simp only [Nat.reduceEqDiff, reduceIte]
      go_wp2_with fail
      refine (value_any v X1 Y1 _ (by omega) (by omega) (by omega) (by omega)).mono ?_
      rintro e w2 ⟨he, hb2⟩
      rw [← HV1.out] at he
      subst he
      go_wp2
      go_roundw
      case rel => exact ⟨2, by omega, rfl, by simp, (hbel.alloc hbel.size _).trans (hb2.mono (by have := hbel.size; simp; omega))⟩
      case measure => simp [intOf]
    · simp only [Nat.reduceEqDiff, reduceIte]
      go_wp2_with fail
      refine (value_any v X2 Y2 _ (by omega) (by omega) (by omega) (by omega)).mono ?_
      rintro e w2 ⟨he, hb2⟩
      rw [← HV2.out] at he
      subst he
      go_wp2
      go_roundw
      case rel => exact ⟨3, by omega, rfl, by simp, (hbel.alloc hbel.size _).trans (hb2.mono (by have := hbel.size; simp; omega))⟩
      case measure => simp [intOf]
    · simp only [Nat.reduceEqDiff, reduceIte]
      have hend : Below w.heap.size w wr := hw1.trans (hbel.mono hw1.size)
      by_cases hlt : 3 * c < V0 + V1 + V2
      · have HL : Hid (sideB v c x y k = 1) := Lib.hid (by unfold sideB; rw [HS.out, if_pos hlt])
        go_wp2
        go_ret
        exact ⟨by rw [HL.out]; rfl, hend⟩
      · have HL : Hid (sideB v c x y k = -1) := Lib.hid (by unfold sideB; rw [HS.out, if_neg hlt])
        go_wp2
        go_ret
        exact ⟨by rw [HL.out]; rfl, hend⟩
end Go.Proofs.YthfhkmgegkhljaaDoor
