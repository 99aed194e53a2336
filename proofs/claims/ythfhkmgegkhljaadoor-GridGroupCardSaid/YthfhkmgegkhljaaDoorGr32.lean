/- tile.Back. Printed by gen_gr32.py. -/
import Derived.Test.YthfhkmgegkhljaaDoorGr30
namespace Go.Proofs.YthfhkmgegkhljaaDoor
set_option linter.unusedSimpArgs false
set_option linter.unusedVariables false
open Go.RowKit

set_option maxRecDepth 100000 in
set_option maxHeartbeats 3200000 in
theorem back_any (a b c d e f : Int) (w : World) (ha : Sm a b c d e f) :
    Calls Tryd.prog 56 #[.agg #[.int .i64 a, .int .i64 b, .int .i64 c, .int .i64 d, .int .i64 e, .int .i64 f]] w fun e' w' => e' = .returned (.agg #[.int .i64 a, .int .i64 c, .int .i64 b, .int .i64 d, .int .i64 (-(a * e + c * f)), .int .i64 (-(b * e + d * f))]) ∧ Below w.heap.size w w' := by
  have o0 := prod_bd (M := 1000000) ha.a1 ha.a2 ha.e1 ha.e2
  have o1 := prod_bd (M := 1000000) ha.c1 ha.c2 ha.f1 ha.f2
  have o2 := prod_bd (M := 1000000) ha.b1 ha.b2 ha.e1 ha.e2
  have o3 := prod_bd (M := 1000000) ha.d1 ha.d2 ha.f1 ha.f2
  obtain ⟨_, _, _, _, _, _, _, _, e1, e2, f1, f2⟩ := ha
  obtain ⟨X, hX⟩ : ∃ X, X = a * e + c * f + 0 := ⟨_, rfl⟩
  obtain ⟨Y, hY⟩ : ∃ Y, Y = b * e + d * f + 0 := ⟨_, rfl⟩
  have x1 : -4000000 ≤ X ∧ X ≤ 4000000 := by omega
  have y1 : -4000000 ≤ Y ∧ Y ≤ 4000000 := by omega
  have HX := Lib.hid hX
  have HY := Lib.hid hY
  clear hX hY
  go_enter Tryd.func56, Tryd.ntmps56
  go_wp2_with fail
  refine (point_any a c b d 0 0 e f _ (by omega) (by omega) (by omega) (by omega) (by omega) (by omega)).mono ?_
  rintro e w1 ⟨he, hb1⟩
  rw [← HX.out, ← HY.out] at he
  subst he
  have k_m_1 : w1.heap[w.heap.size]? = some (.cells #[.int .i64 a, .int .i64 b, .int .i64 c, .int .i64 d, .int .i64 e, .int .i64 f] 51 (0, 0)) := blk_below (blk_alloc (blk_alloc (new_blk (.cells #[.int .i64 a, .int .i64 b, .int .i64 c, .int .i64 d, .int .i64 e, .int .i64 f] 51) (by first | rfl | (simp; done) | (simp; omega))) _) _) hb1 (by first | (simp; done) | (simp; omega))
  have k_r_1 : w1.heap[w.heap.size + 1]? = some (.cells #[.int .i64 0, .int .i64 0, .int .i64 0, .int .i64 0, .int .i64 0, .int .i64 0] 51 (0, 0)) := blk_below (blk_alloc (new_blk (.cells #[.int .i64 0, .int .i64 0, .int .i64 0, .int .i64 0, .int .i64 0, .int .i64 0] 51) (by first | rfl | (simp; done) | (simp; omega))) _) hb1 (by first | (simp; done) | (simp; omega))
  have k_b_1 : w1.heap[w.heap.size + 1 + 1]? = some (.cells #[.int .i64 a, .int .i64 c, .int .i64 b, .int .i64 d, .int .i64 0, .int .i64 0] 51 (0, 0)) := blk_below (new_blk (.cells #[.int .i64 a, .int .i64 c, .int .i64 b, .int .i64 d, .int .i64 0, .int .i64 0] 51) (by first | rfl | (simp; done) | (simp; omega))) hb1 (by first | (simp; done) | (simp; omega))
  have hw_1 : Below w.heap.size w w1 := stay_b (ba (ba (ba (Below.refl _ _) _) _) _) hb1
  clear hb1
  have c_m_0 := cell_of_blk k_m_1 0
  have c_m_1 := cell_of_blk k_m_1 1
  have c_m_2 := cell_of_blk k_m_1 2
  have c_m_3 := cell_of_blk k_m_1 3
  have c_m_4 := cell_of_blk k_m_1 4
  have c_m_5 := cell_of_blk k_m_1 5
  simp only [List.getElem?_toArray, List.getElem?_cons_zero, List.getElem?_cons_succ] at c_m_0 c_m_1 c_m_2 c_m_3 c_m_4 c_m_5
  have f_m := frozen_of_blk k_m_1
  have s_m := blk_lt k_m_1
  have c_r_0 := cell_of_blk k_r_1 0
  have c_r_1 := cell_of_blk k_r_1 1
  have c_r_2 := cell_of_blk k_r_1 2
  have c_r_3 := cell_of_blk k_r_1 3
  have c_r_4 := cell_of_blk k_r_1 4
  have c_r_5 := cell_of_blk k_r_1 5
  simp only [List.getElem?_toArray, List.getElem?_cons_zero, List.getElem?_cons_succ] at c_r_0 c_r_1 c_r_2 c_r_3 c_r_4 c_r_5
  have f_r := frozen_of_blk k_r_1
  have s_r := blk_lt k_r_1
  have c_b_0 := cell_of_blk k_b_1 0
  have c_b_1 := cell_of_blk k_b_1 1
  have c_b_2 := cell_of_blk k_b_1 2
  have c_b_3 := cell_of_blk k_b_1 3
  have c_b_4 := cell_of_blk k_b_1 4
  have c_b_5 := cell_of_blk k_b_1 5
  simp only [List.getElem?_toArray, List.getElem?_cons_zero, List.getElem?_cons_succ] at c_b_0 c_b_1 c_b_2 c_b_3 c_b_4 c_b_5
  have f_b := frozen_of_blk k_b_1
  have s_b := blk_lt k_b_1
  go_wp2_with fail
  go_region
  all_goals go_wp2
  refine bodyPost_ret (v := .agg #[.int .i64 a, .int .i64 c, .int .i64 b, .int .i64 d, .int .i64 (-X), .int .i64 (-Y)]) (by simp [results, Tryd.results56, go_sem, c_r_0, c_r_1, c_r_2, c_r_3, c_r_4, c_r_5, World.cell?_alloc_lt, World.size_setCell, s_r]) rfl ⟨?_, ?_⟩
  · rw [HX.out, HY.out, Int.add_zero, Int.add_zero]
  · exact (ba (set6_below ((hw_1.setCell (show w.heap.size ≤ w.heap.size + 1 + 1 by omega) _).setCell (show w.heap.size ≤ w.heap.size + 1 + 1 by omega) _) _ (by omega) _ _ _ _ _ _) _).drew
end Go.Proofs.YthfhkmgegkhljaaDoor
