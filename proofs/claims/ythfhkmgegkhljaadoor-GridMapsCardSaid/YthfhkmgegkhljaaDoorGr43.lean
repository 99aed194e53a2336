/- The walk of GridMaps, its further ways. Printed by gen_gr41.py. -/
import Derived.Test.YthfhkmgegkhljaaDoorGr42
namespace Go.Proofs.YthfhkmgegkhljaaDoor
set_option linter.unusedSimpArgs false
set_option linter.unusedVariables false
open Go.RowKit

set_option maxRecDepth 100000 in
set_option maxHeartbeats 6400000 in
theorem maps_ok_noT (A B : V6) (x y k : Int) (w : World) (hs : Steps w) (ha : mapMayB A = true) (hb : mapMayB B = true) (hv : mapMayB (afterV A B) = true) (ht : triMayB x y k = false) :
    Calls Tryd.prog 5 #[aggM A, aggM B, aggT x y k] w fun e w' => e = .returned (.bool true) ∧ Below w.heap.size w w' := by
  obtain ⟨D, hD⟩ : ∃ z : V6, z = backV A := ⟨_, rfl⟩
  have hb1 := fun w => gback_ok A w ha (back_may ha)
  have hb2 := fun w => backOf_any A w ha
  simp only [← hD] at hb1 hb2
  have HB1 := Lib.hid hb1
  have HB2 := Lib.hid hb2
  clear hb1 hb2 hD
  have ga := fun w => gafter_ok A B w ha hb hv
  have ao := fun w => afterOf_V A B w (may_sm ha) (may_sm hb)
  obtain ⟨V, hV⟩ : ∃ z : V6, z = afterV A B := ⟨_, rfl⟩
  simp only [← hV] at ga ao hv
  have GA := Lib.hid ga
  have AO := Lib.hid ao
  have HV := Lib.hid hv
  clear ga ao hv hV
  have gm := fun w => gmove_noT A x y k w ha ht
  have GM := Lib.hid gm
  clear gm
  have HA := Lib.hid ha
  have HB := Lib.hid hb
  have HT := Lib.hid ht
  clear ha hb ht
  have r1 : ∀ w : World, (binOp .neq 51 (.agg #[.int .i64 (V.1), .int .i64 (V.2.1), .int .i64 (V.2.2.1), .int .i64 (V.2.2.2.1), .int .i64 (V.2.2.2.2.1), .int .i64 (V.2.2.2.2.2)]) (.agg #[.int .i64 (V.1), .int .i64 (V.2.1), .int .i64 (V.2.2.1), .int .i64 (V.2.2.2.1), .int .i64 (V.2.2.2.2.1), .int .i64 (V.2.2.2.2.2)])).run Tryd.prog w = .ok (.bool false) w := fun w => by rw [neM]; simp [eqL]
  have r2 : ∀ w : World, (binOp .eql 23 (.agg #[.int .i64 0, .int .i64 0, .int .i64 0]) (.agg #[.int .i64 0, .int .i64 0, .int .i64 0])).run Tryd.prog w = .ok (.bool true) w := fun w => by rw [eqT]; simp [eqL]
  have r3 : ∀ w : World, (binOp .neq 51 (.agg #[.int .i64 (D.1), .int .i64 (D.2.1), .int .i64 (D.2.2.1), .int .i64 (D.2.2.2.1), .int .i64 (D.2.2.2.2.1), .int .i64 (D.2.2.2.2.2)]) (.agg #[.int .i64 (D.1), .int .i64 (D.2.1), .int .i64 (D.2.2.1), .int .i64 (D.2.2.2.1), .int .i64 (D.2.2.2.2.1), .int .i64 (D.2.2.2.2.2)])).run Tryd.prog w = .ok (.bool false) w := fun w => by rw [neM]; simp [eqL]
  go_enter Tryd.func5, Tryd.ntmps5
  go_wp2_with fail
  refine (GA.out _).mono ?_
  rintro e w1 ⟨rfl, hb1⟩
  have k_a_1 : w1.heap[w.heap.size]? = some (.cells #[.int .i64 (A.1), .int .i64 (A.2.1), .int .i64 (A.2.2.1), .int .i64 (A.2.2.2.1), .int .i64 (A.2.2.2.2.1), .int .i64 (A.2.2.2.2.2)] 51 (0, 0)) := blk_below (blk_alloc (blk_alloc (new_blk (.cells #[.int .i64 (A.1), .int .i64 (A.2.1), .int .i64 (A.2.2.1), .int .i64 (A.2.2.2.1), .int .i64 (A.2.2.2.2.1), .int .i64 (A.2.2.2.2.2)] 51) (by first | rfl | (simp; done) | (simp; omega))) _) _) hb1 (by first | (simp; done) | (simp; omega))
  have k_b_1 : w1.heap[w.heap.size + 1]? = some (.cells #[.int .i64 (B.1), .int .i64 (B.2.1), .int .i64 (B.2.2.1), .int .i64 (B.2.2.2.1), .int .i64 (B.2.2.2.2.1), .int .i64 (B.2.2.2.2.2)] 51 (0, 0)) := blk_below (blk_alloc (new_blk (.cells #[.int .i64 (B.1), .int .i64 (B.2.1), .int .i64 (B.2.2.1), .int .i64 (B.2.2.2.1), .int .i64 (B.2.2.2.2.1), .int .i64 (B.2.2.2.2.2)] 51) (by first | rfl | (simp; done) | (simp; omega))) _) hb1 (by first | (simp; done) | (simp; omega))
  have k_t_1 : w1.heap[w.heap.size + 1 + 1]? = some (.cells #[.int .i64 x, .int .i64 y, .int .i64 k] 23 (0, 0)) := blk_below (new_blk (.cells #[.int .i64 x, .int .i64 y, .int .i64 k] 23) (by first | rfl | (simp; done) | (simp; omega))) hb1 (by first | (simp; done) | (simp; omega))
  have hw_1 : Below w.heap.size w w1 := stay_b (ba (ba (ba (Below.refl _ _) _) _) _) hb1
  have hs_1 := (((hs.alloc _).alloc _).alloc _).below hb1
  clear hb1
  have c_a_0 := cell_of_blk k_a_1 0
  have c_a_1 := cell_of_blk k_a_1 1
  have c_a_2 := cell_of_blk k_a_1 2
  have c_a_3 := cell_of_blk k_a_1 3
  have c_a_4 := cell_of_blk k_a_1 4
  have c_a_5 := cell_of_blk k_a_1 5
  simp only [List.getElem?_toArray, List.getElem?_cons_zero, List.getElem?_cons_succ] at c_a_0 c_a_1 c_a_2 c_a_3 c_a_4 c_a_5
  have f_a := frozen_of_blk k_a_1
  have s_a := blk_lt k_a_1
  have c_b_0 := cell_of_blk k_b_1 0
  have c_b_1 := cell_of_blk k_b_1 1
  have c_b_2 := cell_of_blk k_b_1 2
  have c_b_3 := cell_of_blk k_b_1 3
  have c_b_4 := cell_of_blk k_b_1 4
  have c_b_5 := cell_of_blk k_b_1 5
  simp only [List.getElem?_toArray, List.getElem?_cons_zero, List.getElem?_cons_succ] at c_b_0 c_b_1 c_b_2 c_b_3 c_b_4 c_b_5
  have f_b := frozen_of_blk k_b_1
  have s_b := blk_lt k_b_1
  have c_t_0 := cell_of_blk k_t_1 0
  have c_t_1 := cell_of_blk k_t_1 1
  have c_t_2 := cell_of_blk k_t_1 2
  simp only [List.getElem?_toArray, List.getElem?_cons_zero, List.getElem?_cons_succ] at c_t_0 c_t_1 c_t_2
  have f_t := frozen_of_blk k_t_1
  have s_t := blk_lt k_t_1
  go_wp2_with fail
  refine (HB1.out _).mono ?_
  rintro e w2 ⟨rfl, hb2⟩
  have k_a_2 : w2.heap[w.heap.size]? = some (.cells #[.int .i64 (A.1), .int .i64 (A.2.1), .int .i64 (A.2.2.1), .int .i64 (A.2.2.2.1), .int .i64 (A.2.2.2.2.1), .int .i64 (A.2.2.2.2.2)] 51 (0, 0)) := blk_below (blk_alloc k_a_1 _) hb2 (blk_lt (blk_alloc k_a_1 _))
  have k_b_2 : w2.heap[w.heap.size + 1]? = some (.cells #[.int .i64 (B.1), .int .i64 (B.2.1), .int .i64 (B.2.2.1), .int .i64 (B.2.2.2.1), .int .i64 (B.2.2.2.2.1), .int .i64 (B.2.2.2.2.2)] 51 (0, 0)) := blk_below (blk_alloc k_b_1 _) hb2 (blk_lt (blk_alloc k_b_1 _))
  have k_t_2 : w2.heap[w.heap.size + 1 + 1]? = some (.cells #[.int .i64 x, .int .i64 y, .int .i64 k] 23 (0, 0)) := blk_below (blk_alloc k_t_1 _) hb2 (blk_lt (blk_alloc k_t_1 _))
  have k_c_2 : w2.heap[w1.heap.size]? = some (.cells #[.int .i64 (V.1), .int .i64 (V.2.1), .int .i64 (V.2.2.1), .int .i64 (V.2.2.2.1), .int .i64 (V.2.2.2.2.1), .int .i64 (V.2.2.2.2.2)] 51 (0, 0)) := blk_below (new_blk (.cells #[.int .i64 (V.1), .int .i64 (V.2.1), .int .i64 (V.2.2.1), .int .i64 (V.2.2.2.1), .int .i64 (V.2.2.2.2.1), .int .i64 (V.2.2.2.2.2)] 51) (by first | rfl | (simp; done) | (simp; omega))) hb2 (by first | (simp; done) | (simp; omega))
  have hw_2 : Below w.heap.size w w2 := stay_b (ba hw_1 _) hb2
  have hs_2 := (hs_1.alloc _).below hb2
  clear c_a_0 c_a_1 c_a_2 c_a_3 c_a_4 c_a_5 f_a s_a c_b_0 c_b_1 c_b_2 c_b_3 c_b_4 c_b_5 f_b s_b c_t_0 c_t_1 c_t_2 f_t s_t k_a_1 k_b_1 k_t_1 hb2 hw_1
  have c_a_0 := cell_of_blk k_a_2 0
  have c_a_1 := cell_of_blk k_a_2 1
  have c_a_2 := cell_of_blk k_a_2 2
  have c_a_3 := cell_of_blk k_a_2 3
  have c_a_4 := cell_of_blk k_a_2 4
  have c_a_5 := cell_of_blk k_a_2 5
  simp only [List.getElem?_toArray, List.getElem?_cons_zero, List.getElem?_cons_succ] at c_a_0 c_a_1 c_a_2 c_a_3 c_a_4 c_a_5
  have f_a := frozen_of_blk k_a_2
  have s_a := blk_lt k_a_2
  have c_b_0 := cell_of_blk k_b_2 0
  have c_b_1 := cell_of_blk k_b_2 1
  have c_b_2 := cell_of_blk k_b_2 2
  have c_b_3 := cell_of_blk k_b_2 3
  have c_b_4 := cell_of_blk k_b_2 4
  have c_b_5 := cell_of_blk k_b_2 5
  simp only [List.getElem?_toArray, List.getElem?_cons_zero, List.getElem?_cons_succ] at c_b_0 c_b_1 c_b_2 c_b_3 c_b_4 c_b_5
  have f_b := frozen_of_blk k_b_2
  have s_b := blk_lt k_b_2
  have c_t_0 := cell_of_blk k_t_2 0
  have c_t_1 := cell_of_blk k_t_2 1
  have c_t_2 := cell_of_blk k_t_2 2
  simp only [List.getElem?_toArray, List.getElem?_cons_zero, List.getElem?_cons_succ] at c_t_0 c_t_1 c_t_2
  have f_t := frozen_of_blk k_t_2
  have s_t := blk_lt k_t_2
  have c_c_0 := cell_of_blk k_c_2 0
  have c_c_1 := cell_of_blk k_c_2 1
  have c_c_2 := cell_of_blk k_c_2 2
  have c_c_3 := cell_of_blk k_c_2 3
  have c_c_4 := cell_of_blk k_c_2 4
  have c_c_5 := cell_of_blk k_c_2 5
  simp only [List.getElem?_toArray, List.getElem?_cons_zero, List.getElem?_cons_succ] at c_c_0 c_c_1 c_c_2 c_c_3 c_c_4 c_c_5
  have f_c := frozen_of_blk k_c_2
  have s_c := blk_lt k_c_2
  go_wp2_with fail
  refine (GM.out _).mono ?_
  rintro e w3 ⟨rfl, hb3⟩
  have k_a_3 : w3.heap[w.heap.size]? = some (.cells #[.int .i64 (A.1), .int .i64 (A.2.1), .int .i64 (A.2.2.1), .int .i64 (A.2.2.2.1), .int .i64 (A.2.2.2.2.1), .int .i64 (A.2.2.2.2.2)] 51 (0, 0)) := blk_below (blk_alloc k_a_2 _) hb3 (blk_lt (blk_alloc k_a_2 _))
  have k_b_3 : w3.heap[w.heap.size + 1]? = some (.cells #[.int .i64 (B.1), .int .i64 (B.2.1), .int .i64 (B.2.2.1), .int .i64 (B.2.2.2.1), .int .i64 (B.2.2.2.2.1), .int .i64 (B.2.2.2.2.2)] 51 (0, 0)) := blk_below (blk_alloc k_b_2 _) hb3 (blk_lt (blk_alloc k_b_2 _))
  have k_t_3 : w3.heap[w.heap.size + 1 + 1]? = some (.cells #[.int .i64 x, .int .i64 y, .int .i64 k] 23 (0, 0)) := blk_below (blk_alloc k_t_2 _) hb3 (blk_lt (blk_alloc k_t_2 _))
  have k_c_3 : w3.heap[w1.heap.size]? = some (.cells #[.int .i64 (V.1), .int .i64 (V.2.1), .int .i64 (V.2.2.1), .int .i64 (V.2.2.2.1), .int .i64 (V.2.2.2.2.1), .int .i64 (V.2.2.2.2.2)] 51 (0, 0)) := blk_below (blk_alloc k_c_2 _) hb3 (blk_lt (blk_alloc k_c_2 _))
  have k_d_3 : w3.heap[w2.heap.size]? = some (.cells #[.int .i64 (D.1), .int .i64 (D.2.1), .int .i64 (D.2.2.1), .int .i64 (D.2.2.2.1), .int .i64 (D.2.2.2.2.1), .int .i64 (D.2.2.2.2.2)] 51 (0, 0)) := blk_below (new_blk (.cells #[.int .i64 (D.1), .int .i64 (D.2.1), .int .i64 (D.2.2.1), .int .i64 (D.2.2.2.1), .int .i64 (D.2.2.2.2.1), .int .i64 (D.2.2.2.2.2)] 51) (by first | rfl | (simp; done) | (simp; omega))) hb3 (by first | (simp; done) | (simp; omega))
  have hw_3 : Below w.heap.size w w3 := stay_b (ba hw_2 _) hb3
  have hs_3 := (hs_2.alloc _).below hb3
  clear c_a_0 c_a_1 c_a_2 c_a_3 c_a_4 c_a_5 f_a s_a c_b_0 c_b_1 c_b_2 c_b_3 c_b_4 c_b_5 f_b s_b c_t_0 c_t_1 c_t_2 f_t s_t c_c_0 c_c_1 c_c_2 c_c_3 c_c_4 c_c_5 f_c s_c k_a_2 k_b_2 k_t_2 k_c_2 hb3 hw_2
  have c_a_0 := cell_of_blk k_a_3 0
  have c_a_1 := cell_of_blk k_a_3 1
  have c_a_2 := cell_of_blk k_a_3 2
  have c_a_3 := cell_of_blk k_a_3 3
  have c_a_4 := cell_of_blk k_a_3 4
  have c_a_5 := cell_of_blk k_a_3 5
  simp only [List.getElem?_toArray, List.getElem?_cons_zero, List.getElem?_cons_succ] at c_a_0 c_a_1 c_a_2 c_a_3 c_a_4 c_a_5
  have f_a := frozen_of_blk k_a_3
  have s_a := blk_lt k_a_3
  have c_b_0 := cell_of_blk k_b_3 0
  have c_b_1 := cell_of_blk k_b_3 1
  have c_b_2 := cell_of_blk k_b_3 2
  have c_b_3 := cell_of_blk k_b_3 3
  have c_b_4 := cell_of_blk k_b_3 4
  have c_b_5 := cell_of_blk k_b_3 5
  simp only [List.getElem?_toArray, List.getElem?_cons_zero, List.getElem?_cons_succ] at c_b_0 c_b_1 c_b_2 c_b_3 c_b_4 c_b_5
  have f_b := frozen_of_blk k_b_3
  have s_b := blk_lt k_b_3
  have c_t_0 := cell_of_blk k_t_3 0
  have c_t_1 := cell_of_blk k_t_3 1
  have c_t_2 := cell_of_blk k_t_3 2
  simp only [List.getElem?_toArray, List.getElem?_cons_zero, List.getElem?_cons_succ] at c_t_0 c_t_1 c_t_2
  have f_t := frozen_of_blk k_t_3
  have s_t := blk_lt k_t_3
  have c_c_0 := cell_of_blk k_c_3 0
  have c_c_1 := cell_of_blk k_c_3 1
  have c_c_2 := cell_of_blk k_c_3 2
  have c_c_3 := cell_of_blk k_c_3 3
  have c_c_4 := cell_of_blk k_c_3 4
  have c_c_5 := cell_of_blk k_c_3 5
  simp only [List.getElem?_toArray, List.getElem?_cons_zero, List.getElem?_cons_succ] at c_c_0 c_c_1 c_c_2 c_c_3 c_c_4 c_c_5
  have f_c := frozen_of_blk k_c_3
  have s_c := blk_lt k_c_3
  have c_d_0 := cell_of_blk k_d_3 0
  have c_d_1 := cell_of_blk k_d_3 1
  have c_d_2 := cell_of_blk k_d_3 2
  have c_d_3 := cell_of_blk k_d_3 3
  have c_d_4 := cell_of_blk k_d_3 4
  have c_d_5 := cell_of_blk k_d_3 5
  simp only [List.getElem?_toArray, List.getElem?_cons_zero, List.getElem?_cons_succ] at c_d_0 c_d_1 c_d_2 c_d_3 c_d_4 c_d_5
  have f_d := frozen_of_blk k_d_3
  have s_d := blk_lt k_d_3
  go_wp2_with fail
  refine (refMap_any A _).mono ?_
  rintro e w4 ⟨rfl, hb4⟩
  rw [HA.out]
  have k_a_4 : w4.heap[w.heap.size]? = some (.cells #[.int .i64 (A.1), .int .i64 (A.2.1), .int .i64 (A.2.2.1), .int .i64 (A.2.2.2.1), .int .i64 (A.2.2.2.2.1), .int .i64 (A.2.2.2.2.2)] 51 (0, 0)) := blk_below (blk_alloc k_a_3 _) hb4 (blk_lt (blk_alloc k_a_3 _))
  have k_b_4 : w4.heap[w.heap.size + 1]? = some (.cells #[.int .i64 (B.1), .int .i64 (B.2.1), .int .i64 (B.2.2.1), .int .i64 (B.2.2.2.1), .int .i64 (B.2.2.2.2.1), .int .i64 (B.2.2.2.2.2)] 51 (0, 0)) := blk_below (blk_alloc k_b_3 _) hb4 (blk_lt (blk_alloc k_b_3 _))
  have k_t_4 : w4.heap[w.heap.size + 1 + 1]? = some (.cells #[.int .i64 x, .int .i64 y, .int .i64 k] 23 (0, 0)) := blk_below (blk_alloc k_t_3 _) hb4 (blk_lt (blk_alloc k_t_3 _))
  have k_c_4 : w4.heap[w1.heap.size]? = some (.cells #[.int .i64 (V.1), .int .i64 (V.2.1), .int .i64 (V.2.2.1), .int .i64 (V.2.2.2.1), .int .i64 (V.2.2.2.2.1), .int .i64 (V.2.2.2.2.2)] 51 (0, 0)) := blk_below (blk_alloc k_c_3 _) hb4 (blk_lt (blk_alloc k_c_3 _))
  have k_d_4 : w4.heap[w2.heap.size]? = some (.cells #[.int .i64 (D.1), .int .i64 (D.2.1), .int .i64 (D.2.2.1), .int .i64 (D.2.2.2.1), .int .i64 (D.2.2.2.2.1), .int .i64 (D.2.2.2.2.2)] 51 (0, 0)) := blk_below (blk_alloc k_d_3 _) hb4 (blk_lt (blk_alloc k_d_3 _))
  have k_u_4 : w4.heap[w3.heap.size]? = some (.cells #[.int .i64 0, .int .i64 0, .int .i64 0] 23 (0, 0)) := blk_below (new_blk (.cells #[.int .i64 0, .int .i64 0, .int .i64 0] 23) (by first | rfl | (simp; done) | (simp; omega))) hb4 (by first | (simp; done) | (simp; omega))
  have hw_4 : Below w.heap.size w w4 := stay_b (ba hw_3 _) hb4
  have hs_4 := (hs_3.alloc _).below hb4
  clear c_a_0 c_a_1 c_a_2 c_a_3 c_a_4 c_a_5 f_a s_a c_b_0 c_b_1 c_b_2 c_b_3 c_b_4 c_b_5 f_b s_b c_t_0 c_t_1 c_t_2 f_t s_t c_c_0 c_c_1 c_c_2 c_c_3 c_c_4 c_c_5 f_c s_c c_d_0 c_d_1 c_d_2 c_d_3 c_d_4 c_d_5 f_d s_d k_a_3 k_b_3 k_t_3 k_c_3 k_d_3 hb4 hw_3
  have c_a_0 := cell_of_blk k_a_4 0
  have c_a_1 := cell_of_blk k_a_4 1
  have c_a_2 := cell_of_blk k_a_4 2
  have c_a_3 := cell_of_blk k_a_4 3
  have c_a_4 := cell_of_blk k_a_4 4
  have c_a_5 := cell_of_blk k_a_4 5
  simp only [List.getElem?_toArray, List.getElem?_cons_zero, List.getElem?_cons_succ] at c_a_0 c_a_1 c_a_2 c_a_3 c_a_4 c_a_5
  have f_a := frozen_of_blk k_a_4
  have s_a := blk_lt k_a_4
  have c_b_0 := cell_of_blk k_b_4 0
  have c_b_1 := cell_of_blk k_b_4 1
  have c_b_2 := cell_of_blk k_b_4 2
  have c_b_3 := cell_of_blk k_b_4 3
  have c_b_4 := cell_of_blk k_b_4 4
  have c_b_5 := cell_of_blk k_b_4 5
  simp only [List.getElem?_toArray, List.getElem?_cons_zero, List.getElem?_cons_succ] at c_b_0 c_b_1 c_b_2 c_b_3 c_b_4 c_b_5
  have f_b := frozen_of_blk k_b_4
  have s_b := blk_lt k_b_4
  have c_t_0 := cell_of_blk k_t_4 0
  have c_t_1 := cell_of_blk k_t_4 1
  have c_t_2 := cell_of_blk k_t_4 2
  simp only [List.getElem?_toArray, List.getElem?_cons_zero, List.getElem?_cons_succ] at c_t_0 c_t_1 c_t_2
  have f_t := frozen_of_blk k_t_4
  have s_t := blk_lt k_t_4
  have c_c_0 := cell_of_blk k_c_4 0
  have c_c_1 := cell_of_blk k_c_4 1
  have c_c_2 := cell_of_blk k_c_4 2
  have c_c_3 := cell_of_blk k_c_4 3
  have c_c_4 := cell_of_blk k_c_4 4
  have c_c_5 := cell_of_blk k_c_4 5
  simp only [List.getElem?_toArray, List.getElem?_cons_zero, List.getElem?_cons_succ] at c_c_0 c_c_1 c_c_2 c_c_3 c_c_4 c_c_5
  have f_c := frozen_of_blk k_c_4
  have s_c := blk_lt k_c_4
  have c_d_0 := cell_of_blk k_d_4 0
  have c_d_1 := cell_of_blk k_d_4 1
  have c_d_2 := cell_of_blk k_d_4 2
  have c_d_3 := cell_of_blk k_d_4 3
  have c_d_4 := cell_of_blk k_d_4 4
  have c_d_5 := cell_of_blk k_d_4 5
  simp only [List.getElem?_toArray, List.getElem?_cons_zero, List.getElem?_cons_succ] at c_d_0 c_d_1 c_d_2 c_d_3 c_d_4 c_d_5
  have f_d := frozen_of_blk k_d_4
  have s_d := blk_lt k_d_4
  have c_u_0 := cell_of_blk k_u_4 0
  have c_u_1 := cell_of_blk k_u_4 1
  have c_u_2 := cell_of_blk k_u_4 2
  simp only [List.getElem?_toArray, List.getElem?_cons_zero, List.getElem?_cons_succ] at c_u_0 c_u_1 c_u_2
  have f_u := frozen_of_blk k_u_4
  have s_u := blk_lt k_u_4
  go_wp2_with fail
  refine (refMap_any B _).mono ?_
  rintro e w5 ⟨rfl, hb5⟩
  rw [HB.out]
  have k_a_5 : w5.heap[w.heap.size]? = some (.cells #[.int .i64 (A.1), .int .i64 (A.2.1), .int .i64 (A.2.2.1), .int .i64 (A.2.2.2.1), .int .i64 (A.2.2.2.2.1), .int .i64 (A.2.2.2.2.2)] 51 (0, 0)) := blk_below k_a_4 hb5 (blk_lt k_a_4)
  have k_b_5 : w5.heap[w.heap.size + 1]? = some (.cells #[.int .i64 (B.1), .int .i64 (B.2.1), .int .i64 (B.2.2.1), .int .i64 (B.2.2.2.1), .int .i64 (B.2.2.2.2.1), .int .i64 (B.2.2.2.2.2)] 51 (0, 0)) := blk_below k_b_4 hb5 (blk_lt k_b_4)
  have k_t_5 : w5.heap[w.heap.size + 1 + 1]? = some (.cells #[.int .i64 x, .int .i64 y, .int .i64 k] 23 (0, 0)) := blk_below k_t_4 hb5 (blk_lt k_t_4)
  have k_c_5 : w5.heap[w1.heap.size]? = some (.cells #[.int .i64 (V.1), .int .i64 (V.2.1), .int .i64 (V.2.2.1), .int .i64 (V.2.2.2.1), .int .i64 (V.2.2.2.2.1), .int .i64 (V.2.2.2.2.2)] 51 (0, 0)) := blk_below k_c_4 hb5 (blk_lt k_c_4)
  have k_d_5 : w5.heap[w2.heap.size]? = some (.cells #[.int .i64 (D.1), .int .i64 (D.2.1), .int .i64 (D.2.2.1), .int .i64 (D.2.2.2.1), .int .i64 (D.2.2.2.2.1), .int .i64 (D.2.2.2.2.2)] 51 (0, 0)) := blk_below k_d_4 hb5 (blk_lt k_d_4)
  have k_u_5 : w5.heap[w3.heap.size]? = some (.cells #[.int .i64 0, .int .i64 0, .int .i64 0] 23 (0, 0)) := blk_below k_u_4 hb5 (blk_lt k_u_4)
  have hw_5 : Below w.heap.size w w5 := stay_b hw_4 hb5
  have hs_5 := hs_4.below hb5
  clear c_a_0 c_a_1 c_a_2 c_a_3 c_a_4 c_a_5 f_a s_a c_b_0 c_b_1 c_b_2 c_b_3 c_b_4 c_b_5 f_b s_b c_t_0 c_t_1 c_t_2 f_t s_t c_c_0 c_c_1 c_c_2 c_c_3 c_c_4 c_c_5 f_c s_c c_d_0 c_d_1 c_d_2 c_d_3 c_d_4 c_d_5 f_d s_d c_u_0 c_u_1 c_u_2 f_u s_u k_a_4 k_b_4 k_t_4 k_c_4 k_d_4 k_u_4 hb5 hw_4
  have c_a_0 := cell_of_blk k_a_5 0
  have c_a_1 := cell_of_blk k_a_5 1
  have c_a_2 := cell_of_blk k_a_5 2
  have c_a_3 := cell_of_blk k_a_5 3
  have c_a_4 := cell_of_blk k_a_5 4
  have c_a_5 := cell_of_blk k_a_5 5
  simp only [List.getElem?_toArray, List.getElem?_cons_zero, List.getElem?_cons_succ] at c_a_0 c_a_1 c_a_2 c_a_3 c_a_4 c_a_5
  have f_a := frozen_of_blk k_a_5
  have s_a := blk_lt k_a_5
  have c_b_0 := cell_of_blk k_b_5 0
  have c_b_1 := cell_of_blk k_b_5 1
  have c_b_2 := cell_of_blk k_b_5 2
  have c_b_3 := cell_of_blk k_b_5 3
  have c_b_4 := cell_of_blk k_b_5 4
  have c_b_5 := cell_of_blk k_b_5 5
  simp only [List.getElem?_toArray, List.getElem?_cons_zero, List.getElem?_cons_succ] at c_b_0 c_b_1 c_b_2 c_b_3 c_b_4 c_b_5
  have f_b := frozen_of_blk k_b_5
  have s_b := blk_lt k_b_5
  have c_t_0 := cell_of_blk k_t_5 0
  have c_t_1 := cell_of_blk k_t_5 1
  have c_t_2 := cell_of_blk k_t_5 2
  simp only [List.getElem?_toArray, List.getElem?_cons_zero, List.getElem?_cons_succ] at c_t_0 c_t_1 c_t_2
  have f_t := frozen_of_blk k_t_5
  have s_t := blk_lt k_t_5
  have c_c_0 := cell_of_blk k_c_5 0
  have c_c_1 := cell_of_blk k_c_5 1
  have c_c_2 := cell_of_blk k_c_5 2
  have c_c_3 := cell_of_blk k_c_5 3
  have c_c_4 := cell_of_blk k_c_5 4
  have c_c_5 := cell_of_blk k_c_5 5
  simp only [List.getElem?_toArray, List.getElem?_cons_zero, List.getElem?_cons_succ] at c_c_0 c_c_1 c_c_2 c_c_3 c_c_4 c_c_5
  have f_c := frozen_of_blk k_c_5
  have s_c := blk_lt k_c_5
  have c_d_0 := cell_of_blk k_d_5 0
  have c_d_1 := cell_of_blk k_d_5 1
  have c_d_2 := cell_of_blk k_d_5 2
  have c_d_3 := cell_of_blk k_d_5 3
  have c_d_4 := cell_of_blk k_d_5 4
  have c_d_5 := cell_of_blk k_d_5 5
  simp only [List.getElem?_toArray, List.getElem?_cons_zero, List.getElem?_cons_succ] at c_d_0 c_d_1 c_d_2 c_d_3 c_d_4 c_d_5
  have f_d := frozen_of_blk k_d_5
  have s_d := blk_lt k_d_5
  have c_u_0 := cell_of_blk k_u_5 0
  have c_u_1 := cell_of_blk k_u_5 1
  have c_u_2 := cell_of_blk k_u_5 2
  simp only [List.getElem?_toArray, List.getElem?_cons_zero, List.getElem?_cons_succ] at c_u_0 c_u_1 c_u_2
  have f_u := frozen_of_blk k_u_5
  have s_u := blk_lt k_u_5
  go_wp2_with fail
  refine (AO.out _).mono ?_
  rintro e w6 ⟨rfl, hb6⟩
  have k_a_6 : w6.heap[w.heap.size]? = some (.cells #[.int .i64 (A.1), .int .i64 (A.2.1), .int .i64 (A.2.2.1), .int .i64 (A.2.2.2.1), .int .i64 (A.2.2.2.2.1), .int .i64 (A.2.2.2.2.2)] 51 (0, 0)) := blk_below k_a_5 hb6 (blk_lt k_a_5)
  have k_b_6 : w6.heap[w.heap.size + 1]? = some (.cells #[.int .i64 (B.1), .int .i64 (B.2.1), .int .i64 (B.2.2.1), .int .i64 (B.2.2.2.1), .int .i64 (B.2.2.2.2.1), .int .i64 (B.2.2.2.2.2)] 51 (0, 0)) := blk_below k_b_5 hb6 (blk_lt k_b_5)
  have k_t_6 : w6.heap[w.heap.size + 1 + 1]? = some (.cells #[.int .i64 x, .int .i64 y, .int .i64 k] 23 (0, 0)) := blk_below k_t_5 hb6 (blk_lt k_t_5)
  have k_c_6 : w6.heap[w1.heap.size]? = some (.cells #[.int .i64 (V.1), .int .i64 (V.2.1), .int .i64 (V.2.2.1), .int .i64 (V.2.2.2.1), .int .i64 (V.2.2.2.2.1), .int .i64 (V.2.2.2.2.2)] 51 (0, 0)) := blk_below k_c_5 hb6 (blk_lt k_c_5)
  have k_d_6 : w6.heap[w2.heap.size]? = some (.cells #[.int .i64 (D.1), .int .i64 (D.2.1), .int .i64 (D.2.2.1), .int .i64 (D.2.2.2.1), .int .i64 (D.2.2.2.2.1), .int .i64 (D.2.2.2.2.2)] 51 (0, 0)) := blk_below k_d_5 hb6 (blk_lt k_d_5)
  have k_u_6 : w6.heap[w3.heap.size]? = some (.cells #[.int .i64 0, .int .i64 0, .int .i64 0] 23 (0, 0)) := blk_below k_u_5 hb6 (blk_lt k_u_5)
  have hw_6 : Below w.heap.size w w6 := stay_b hw_5 hb6
  have hs_6 := hs_5.below hb6
  clear c_a_0 c_a_1 c_a_2 c_a_3 c_a_4 c_a_5 f_a s_a c_b_0 c_b_1 c_b_2 c_b_3 c_b_4 c_b_5 f_b s_b c_t_0 c_t_1 c_t_2 f_t s_t c_c_0 c_c_1 c_c_2 c_c_3 c_c_4 c_c_5 f_c s_c c_d_0 c_d_1 c_d_2 c_d_3 c_d_4 c_d_5 f_d s_d c_u_0 c_u_1 c_u_2 f_u s_u k_a_5 k_b_5 k_t_5 k_c_5 k_d_5 k_u_5 hb6 hw_5
  have c_a_0 := cell_of_blk k_a_6 0
  have c_a_1 := cell_of_blk k_a_6 1
  have c_a_2 := cell_of_blk k_a_6 2
  have c_a_3 := cell_of_blk k_a_6 3
  have c_a_4 := cell_of_blk k_a_6 4
  have c_a_5 := cell_of_blk k_a_6 5
  simp only [List.getElem?_toArray, List.getElem?_cons_zero, List.getElem?_cons_succ] at c_a_0 c_a_1 c_a_2 c_a_3 c_a_4 c_a_5
  have f_a := frozen_of_blk k_a_6
  have s_a := blk_lt k_a_6
  have c_b_0 := cell_of_blk k_b_6 0
  have c_b_1 := cell_of_blk k_b_6 1
  have c_b_2 := cell_of_blk k_b_6 2
  have c_b_3 := cell_of_blk k_b_6 3
  have c_b_4 := cell_of_blk k_b_6 4
  have c_b_5 := cell_of_blk k_b_6 5
  simp only [List.getElem?_toArray, List.getElem?_cons_zero, List.getElem?_cons_succ] at c_b_0 c_b_1 c_b_2 c_b_3 c_b_4 c_b_5
  have f_b := frozen_of_blk k_b_6
  have s_b := blk_lt k_b_6
  have c_t_0 := cell_of_blk k_t_6 0
  have c_t_1 := cell_of_blk k_t_6 1
  have c_t_2 := cell_of_blk k_t_6 2
  simp only [List.getElem?_toArray, List.getElem?_cons_zero, List.getElem?_cons_succ] at c_t_0 c_t_1 c_t_2
  have f_t := frozen_of_blk k_t_6
  have s_t := blk_lt k_t_6
  have c_c_0 := cell_of_blk k_c_6 0
  have c_c_1 := cell_of_blk k_c_6 1
  have c_c_2 := cell_of_blk k_c_6 2
  have c_c_3 := cell_of_blk k_c_6 3
  have c_c_4 := cell_of_blk k_c_6 4
  have c_c_5 := cell_of_blk k_c_6 5
  simp only [List.getElem?_toArray, List.getElem?_cons_zero, List.getElem?_cons_succ] at c_c_0 c_c_1 c_c_2 c_c_3 c_c_4 c_c_5
  have f_c := frozen_of_blk k_c_6
  have s_c := blk_lt k_c_6
  have c_d_0 := cell_of_blk k_d_6 0
  have c_d_1 := cell_of_blk k_d_6 1
  have c_d_2 := cell_of_blk k_d_6 2
  have c_d_3 := cell_of_blk k_d_6 3
  have c_d_4 := cell_of_blk k_d_6 4
  have c_d_5 := cell_of_blk k_d_6 5
  simp only [List.getElem?_toArray, List.getElem?_cons_zero, List.getElem?_cons_succ] at c_d_0 c_d_1 c_d_2 c_d_3 c_d_4 c_d_5
  have f_d := frozen_of_blk k_d_6
  have s_d := blk_lt k_d_6
  have c_u_0 := cell_of_blk k_u_6 0
  have c_u_1 := cell_of_blk k_u_6 1
  have c_u_2 := cell_of_blk k_u_6 2
  simp only [List.getElem?_toArray, List.getElem?_cons_zero, List.getElem?_cons_succ] at c_u_0 c_u_1 c_u_2
  have f_u := frozen_of_blk k_u_6
  have s_u := blk_lt k_u_6
  go_wp2_with fail
  refine (refMap_any V _).mono ?_
  rintro e w7 ⟨rfl, hb7⟩
  rw [HV.out]
  have k_a_7 : w7.heap[w.heap.size]? = some (.cells #[.int .i64 (A.1), .int .i64 (A.2.1), .int .i64 (A.2.2.1), .int .i64 (A.2.2.2.1), .int .i64 (A.2.2.2.2.1), .int .i64 (A.2.2.2.2.2)] 51 (0, 0)) := blk_below (blk_alloc k_a_6 _) hb7 (blk_lt (blk_alloc k_a_6 _))
  have k_b_7 : w7.heap[w.heap.size + 1]? = some (.cells #[.int .i64 (B.1), .int .i64 (B.2.1), .int .i64 (B.2.2.1), .int .i64 (B.2.2.2.1), .int .i64 (B.2.2.2.2.1), .int .i64 (B.2.2.2.2.2)] 51 (0, 0)) := blk_below (blk_alloc k_b_6 _) hb7 (blk_lt (blk_alloc k_b_6 _))
  have k_t_7 : w7.heap[w.heap.size + 1 + 1]? = some (.cells #[.int .i64 x, .int .i64 y, .int .i64 k] 23 (0, 0)) := blk_below (blk_alloc k_t_6 _) hb7 (blk_lt (blk_alloc k_t_6 _))
  have k_c_7 : w7.heap[w1.heap.size]? = some (.cells #[.int .i64 (V.1), .int .i64 (V.2.1), .int .i64 (V.2.2.1), .int .i64 (V.2.2.2.1), .int .i64 (V.2.2.2.2.1), .int .i64 (V.2.2.2.2.2)] 51 (0, 0)) := blk_below (blk_alloc k_c_6 _) hb7 (blk_lt (blk_alloc k_c_6 _))
  have k_d_7 : w7.heap[w2.heap.size]? = some (.cells #[.int .i64 (D.1), .int .i64 (D.2.1), .int .i64 (D.2.2.1), .int .i64 (D.2.2.2.1), .int .i64 (D.2.2.2.2.1), .int .i64 (D.2.2.2.2.2)] 51 (0, 0)) := blk_below (blk_alloc k_d_6 _) hb7 (blk_lt (blk_alloc k_d_6 _))
  have k_u_7 : w7.heap[w3.heap.size]? = some (.cells #[.int .i64 0, .int .i64 0, .int .i64 0] 23 (0, 0)) := blk_below (blk_alloc k_u_6 _) hb7 (blk_lt (blk_alloc k_u_6 _))
  have k_v_7 : w7.heap[w6.heap.size]? = some (.cells #[.int .i64 (V.1), .int .i64 (V.2.1), .int .i64 (V.2.2.1), .int .i64 (V.2.2.2.1), .int .i64 (V.2.2.2.2.1), .int .i64 (V.2.2.2.2.2)] 51 (0, 0)) := blk_below (new_blk (.cells #[.int .i64 (V.1), .int .i64 (V.2.1), .int .i64 (V.2.2.1), .int .i64 (V.2.2.2.1), .int .i64 (V.2.2.2.2.1), .int .i64 (V.2.2.2.2.2)] 51) (by first | rfl | (simp; done) | (simp; omega))) hb7 (by first | (simp; done) | (simp; omega))
  have hw_7 : Below w.heap.size w w7 := stay_b (ba hw_6 _) hb7
  have hs_7 := (hs_6.alloc _).below hb7
  clear c_a_0 c_a_1 c_a_2 c_a_3 c_a_4 c_a_5 f_a s_a c_b_0 c_b_1 c_b_2 c_b_3 c_b_4 c_b_5 f_b s_b c_t_0 c_t_1 c_t_2 f_t s_t c_c_0 c_c_1 c_c_2 c_c_3 c_c_4 c_c_5 f_c s_c c_d_0 c_d_1 c_d_2 c_d_3 c_d_4 c_d_5 f_d s_d c_u_0 c_u_1 c_u_2 f_u s_u k_a_6 k_b_6 k_t_6 k_c_6 k_d_6 k_u_6 hb7 hw_6
  have c_a_0 := cell_of_blk k_a_7 0
  have c_a_1 := cell_of_blk k_a_7 1
  have c_a_2 := cell_of_blk k_a_7 2
  have c_a_3 := cell_of_blk k_a_7 3
  have c_a_4 := cell_of_blk k_a_7 4
  have c_a_5 := cell_of_blk k_a_7 5
  simp only [List.getElem?_toArray, List.getElem?_cons_zero, List.getElem?_cons_succ] at c_a_0 c_a_1 c_a_2 c_a_3 c_a_4 c_a_5
  have f_a := frozen_of_blk k_a_7
  have s_a := blk_lt k_a_7
  have c_b_0 := cell_of_blk k_b_7 0
  have c_b_1 := cell_of_blk k_b_7 1
  have c_b_2 := cell_of_blk k_b_7 2
  have c_b_3 := cell_of_blk k_b_7 3
  have c_b_4 := cell_of_blk k_b_7 4
  have c_b_5 := cell_of_blk k_b_7 5
  simp only [List.getElem?_toArray, List.getElem?_cons_zero, List.getElem?_cons_succ] at c_b_0 c_b_1 c_b_2 c_b_3 c_b_4 c_b_5
  have f_b := frozen_of_blk k_b_7
  have s_b := blk_lt k_b_7
  have c_t_0 := cell_of_blk k_t_7 0
  have c_t_1 := cell_of_blk k_t_7 1
  have c_t_2 := cell_of_blk k_t_7 2
  simp only [List.getElem?_toArray, List.getElem?_cons_zero, List.getElem?_cons_succ] at c_t_0 c_t_1 c_t_2
  have f_t := frozen_of_blk k_t_7
  have s_t := blk_lt k_t_7
  have c_c_0 := cell_of_blk k_c_7 0
  have c_c_1 := cell_of_blk k_c_7 1
  have c_c_2 := cell_of_blk k_c_7 2
  have c_c_3 := cell_of_blk k_c_7 3
  have c_c_4 := cell_of_blk k_c_7 4
  have c_c_5 := cell_of_blk k_c_7 5
  simp only [List.getElem?_toArray, List.getElem?_cons_zero, List.getElem?_cons_succ] at c_c_0 c_c_1 c_c_2 c_c_3 c_c_4 c_c_5
  have f_c := frozen_of_blk k_c_7
  have s_c := blk_lt k_c_7
  have c_d_0 := cell_of_blk k_d_7 0
  have c_d_1 := cell_of_blk k_d_7 1
  have c_d_2 := cell_of_blk k_d_7 2
  have c_d_3 := cell_of_blk k_d_7 3
  have c_d_4 := cell_of_blk k_d_7 4
  have c_d_5 := cell_of_blk k_d_7 5
  simp only [List.getElem?_toArray, List.getElem?_cons_zero, List.getElem?_cons_succ] at c_d_0 c_d_1 c_d_2 c_d_3 c_d_4 c_d_5
  have f_d := frozen_of_blk k_d_7
  have s_d := blk_lt k_d_7
  have c_u_0 := cell_of_blk k_u_7 0
  have c_u_1 := cell_of_blk k_u_7 1
  have c_u_2 := cell_of_blk k_u_7 2
  simp only [List.getElem?_toArray, List.getElem?_cons_zero, List.getElem?_cons_succ] at c_u_0 c_u_1 c_u_2
  have f_u := frozen_of_blk k_u_7
  have s_u := blk_lt k_u_7
  have c_v_0 := cell_of_blk k_v_7 0
  have c_v_1 := cell_of_blk k_v_7 1
  have c_v_2 := cell_of_blk k_v_7 2
  have c_v_3 := cell_of_blk k_v_7 3
  have c_v_4 := cell_of_blk k_v_7 4
  have c_v_5 := cell_of_blk k_v_7 5
  simp only [List.getElem?_toArray, List.getElem?_cons_zero, List.getElem?_cons_succ] at c_v_0 c_v_1 c_v_2 c_v_3 c_v_4 c_v_5
  have f_v := frozen_of_blk k_v_7
  have s_v := blk_lt k_v_7
  go_wp2_with fail
  have k_a_8 : (w7.drew).heap[w.heap.size]? = some (.cells #[.int .i64 (A.1), .int .i64 (A.2.1), .int .i64 (A.2.2.1), .int .i64 (A.2.2.2.1), .int .i64 (A.2.2.2.2.1), .int .i64 (A.2.2.2.2.2)] 51 (0, 0)) := k_a_7
  have k_b_8 : (w7.drew).heap[w.heap.size + 1]? = some (.cells #[.int .i64 (B.1), .int .i64 (B.2.1), .int .i64 (B.2.2.1), .int .i64 (B.2.2.2.1), .int .i64 (B.2.2.2.2.1), .int .i64 (B.2.2.2.2.2)] 51 (0, 0)) := k_b_7
  have k_t_8 : (w7.drew).heap[w.heap.size + 1 + 1]? = some (.cells #[.int .i64 x, .int .i64 y, .int .i64 k] 23 (0, 0)) := k_t_7
  have k_c_8 : (w7.drew).heap[w1.heap.size]? = some (.cells #[.int .i64 (V.1), .int .i64 (V.2.1), .int .i64 (V.2.2.1), .int .i64 (V.2.2.2.1), .int .i64 (V.2.2.2.2.1), .int .i64 (V.2.2.2.2.2)] 51 (0, 0)) := k_c_7
  have k_d_8 : (w7.drew).heap[w2.heap.size]? = some (.cells #[.int .i64 (D.1), .int .i64 (D.2.1), .int .i64 (D.2.2.1), .int .i64 (D.2.2.2.1), .int .i64 (D.2.2.2.2.1), .int .i64 (D.2.2.2.2.2)] 51 (0, 0)) := k_d_7
  have k_u_8 : (w7.drew).heap[w3.heap.size]? = some (.cells #[.int .i64 0, .int .i64 0, .int .i64 0] 23 (0, 0)) := k_u_7
  have k_v_8 : (w7.drew).heap[w6.heap.size]? = some (.cells #[.int .i64 (V.1), .int .i64 (V.2.1), .int .i64 (V.2.2.1), .int .i64 (V.2.2.2.1), .int .i64 (V.2.2.2.2.1), .int .i64 (V.2.2.2.2.2)] 51 (0, 0)) := k_v_7
  have hw_8 : Below w.heap.size w (w7.drew) := (hw_7).drew
  have hs_8 : Steps (w7.drew) := (hs_7.below (Below.refl _ _).drew)
  clear c_a_0 c_a_1 c_a_2 c_a_3 c_a_4 c_a_5 f_a s_a c_b_0 c_b_1 c_b_2 c_b_3 c_b_4 c_b_5 f_b s_b c_t_0 c_t_1 c_t_2 f_t s_t c_c_0 c_c_1 c_c_2 c_c_3 c_c_4 c_c_5 f_c s_c c_d_0 c_d_1 c_d_2 c_d_3 c_d_4 c_d_5 f_d s_d c_u_0 c_u_1 c_u_2 f_u s_u c_v_0 c_v_1 c_v_2 c_v_3 c_v_4 c_v_5 f_v s_v k_a_7 k_b_7 k_t_7 k_c_7 k_d_7 k_u_7 k_v_7 hw_7
  have c_a_0 := cell_of_blk k_a_8 0
  have c_a_1 := cell_of_blk k_a_8 1
  have c_a_2 := cell_of_blk k_a_8 2
  have c_a_3 := cell_of_blk k_a_8 3
  have c_a_4 := cell_of_blk k_a_8 4
  have c_a_5 := cell_of_blk k_a_8 5
  simp only [List.getElem?_toArray, List.getElem?_cons_zero, List.getElem?_cons_succ] at c_a_0 c_a_1 c_a_2 c_a_3 c_a_4 c_a_5
  have f_a := frozen_of_blk k_a_8
  have s_a := blk_lt k_a_8
  have c_d_0 := cell_of_blk k_d_8 0
  have c_d_1 := cell_of_blk k_d_8 1
  have c_d_2 := cell_of_blk k_d_8 2
  have c_d_3 := cell_of_blk k_d_8 3
  have c_d_4 := cell_of_blk k_d_8 4
  have c_d_5 := cell_of_blk k_d_8 5
  simp only [List.getElem?_toArray, List.getElem?_cons_zero, List.getElem?_cons_succ] at c_d_0 c_d_1 c_d_2 c_d_3 c_d_4 c_d_5
  have f_d := frozen_of_blk k_d_8
  have s_d := blk_lt k_d_8
  have hS0 := And.intro c_a_0 (And.intro c_a_1 (And.intro c_a_2 (And.intro c_a_3 (And.intro c_a_4 (And.intro c_a_5 (And.intro c_d_0 (And.intro c_d_1 (And.intro c_d_2 (And.intro c_d_3 (And.intro c_d_4 (And.intro c_d_5 hw_8)))))))))))
  clear c_a_0 c_a_1 c_a_2 c_a_3 c_a_4 c_a_5 c_d_0 c_d_1 c_d_2 c_d_3 c_d_4 c_d_5 f_a s_a f_d s_d
  go_region_held3 (fun w' => w'.cell? ⟨w.heap.size, 0, none⟩ = some (.int .i64 A.1) ∧ w'.cell? ⟨w.heap.size, 1, none⟩ = some (.int .i64 A.2.1) ∧ w'.cell? ⟨w.heap.size, 2, none⟩ = some (.int .i64 A.2.2.1) ∧ w'.cell? ⟨w.heap.size, 3, none⟩ = some (.int .i64 A.2.2.2.1) ∧ w'.cell? ⟨w.heap.size, 4, none⟩ = some (.int .i64 A.2.2.2.2.1) ∧ w'.cell? ⟨w.heap.size, 5, none⟩ = some (.int .i64 A.2.2.2.2.2) ∧ w'.cell? ⟨w2.heap.size, 0, none⟩ = some (.int .i64 D.1) ∧ w'.cell? ⟨w2.heap.size, 1, none⟩ = some (.int .i64 D.2.1) ∧ w'.cell? ⟨w2.heap.size, 2, none⟩ = some (.int .i64 D.2.2.1) ∧ w'.cell? ⟨w2.heap.size, 3, none⟩ = some (.int .i64 D.2.2.2.1) ∧ w'.cell? ⟨w2.heap.size, 4, none⟩ = some (.int .i64 D.2.2.2.2.1) ∧ w'.cell? ⟨w2.heap.size, 5, none⟩ = some (.int .i64 D.2.2.2.2.2) ∧ Below w.heap.size w w')
    (first
      | with_reducible exact hS0
      | (go_split_ands; with_reducible exact ⟨stay_c ‹_› hbc (Nat.le_refl _), stay_c ‹_› hbc (Nat.le_refl _), stay_c ‹_› hbc (Nat.le_refl _), stay_c ‹_› hbc (Nat.le_refl _), stay_c ‹_› hbc (Nat.le_refl _), stay_c ‹_› hbc (Nat.le_refl _), stay_c ‹_› hbc (Nat.le_refl _), stay_c ‹_› hbc (Nat.le_refl _), stay_c ‹_› hbc (Nat.le_refl _), stay_c ‹_› hbc (Nat.le_refl _), stay_c ‹_› hbc (Nat.le_refl _), stay_c ‹_› hbc (Nat.le_refl _), stay_b ‹_› hbc⟩))
    (((with_reducible refine (HB2.out _).mono ?_); rintro e wz ⟨he, hbc⟩; subst he; have ja := blk_below k_a_8 hbc (blk_lt k_a_8); have jt := blk_below k_t_8 hbc (blk_lt k_t_8); have ju := blk_below k_u_8 hbc (blk_lt k_u_8)))
  rename_i hH
  obtain ⟨_, _, _, _, _, _, _, _, _, _, _, _, hw_30⟩ := hH
  clear hS0 k_a_8 k_b_8 k_t_8 k_c_8 k_d_8 k_u_8 k_v_8 hs_8 hw_8
  have k_a_30 := ja
  clear ja
  have k_t_30 := jt
  clear jt
  have k_u_30 := ju
  clear ju
  have c_a_0 := cell_of_blk k_a_30 0
  have c_a_1 := cell_of_blk k_a_30 1
  have c_a_2 := cell_of_blk k_a_30 2
  have c_a_3 := cell_of_blk k_a_30 3
  have c_a_4 := cell_of_blk k_a_30 4
  have c_a_5 := cell_of_blk k_a_30 5
  simp only [List.getElem?_toArray, List.getElem?_cons_zero, List.getElem?_cons_succ] at c_a_0 c_a_1 c_a_2 c_a_3 c_a_4 c_a_5
  have f_a := frozen_of_blk k_a_30
  have s_a := blk_lt k_a_30
  have c_t_0 := cell_of_blk k_t_30 0
  have c_t_1 := cell_of_blk k_t_30 1
  have c_t_2 := cell_of_blk k_t_30 2
  simp only [List.getElem?_toArray, List.getElem?_cons_zero, List.getElem?_cons_succ] at c_t_0 c_t_1 c_t_2
  have f_t := frozen_of_blk k_t_30
  have s_t := blk_lt k_t_30
  have c_u_0 := cell_of_blk k_u_30 0
  have c_u_1 := cell_of_blk k_u_30 1
  have c_u_2 := cell_of_blk k_u_30 2
  simp only [List.getElem?_toArray, List.getElem?_cons_zero, List.getElem?_cons_succ] at c_u_0 c_u_1 c_u_2
  have f_u := frozen_of_blk k_u_30
  have s_u := blk_lt k_u_30
  go_wp2_with fail
  refine (refTri_any x y k _).mono ?_
  rintro e w31 ⟨rfl, hb31⟩
  rw [HT.out]
  have k_a_31 : w31.heap[w.heap.size]? = some (.cells #[.int .i64 (A.1), .int .i64 (A.2.1), .int .i64 (A.2.2.1), .int .i64 (A.2.2.2.1), .int .i64 (A.2.2.2.2.1), .int .i64 (A.2.2.2.2.2)] 51 (0, 0)) := blk_below k_a_30 hb31 (blk_lt k_a_30)
  have k_t_31 : w31.heap[w.heap.size + 1 + 1]? = some (.cells #[.int .i64 x, .int .i64 y, .int .i64 k] 23 (0, 0)) := blk_below k_t_30 hb31 (blk_lt k_t_30)
  have k_u_31 : w31.heap[w3.heap.size]? = some (.cells #[.int .i64 0, .int .i64 0, .int .i64 0] 23 (0, 0)) := blk_below k_u_30 hb31 (blk_lt k_u_30)
  have hw_31 : Below w.heap.size w w31 := stay_b hw_30 hb31
  clear c_a_0 c_a_1 c_a_2 c_a_3 c_a_4 c_a_5 f_a s_a c_t_0 c_t_1 c_t_2 f_t s_t c_u_0 c_u_1 c_u_2 f_u s_u k_a_30 k_t_30 k_u_30 hb31 hw_30
  have c_a_0 := cell_of_blk k_a_31 0
  have c_a_1 := cell_of_blk k_a_31 1
  have c_a_2 := cell_of_blk k_a_31 2
  have c_a_3 := cell_of_blk k_a_31 3
  have c_a_4 := cell_of_blk k_a_31 4
  have c_a_5 := cell_of_blk k_a_31 5
  simp only [List.getElem?_toArray, List.getElem?_cons_zero, List.getElem?_cons_succ] at c_a_0 c_a_1 c_a_2 c_a_3 c_a_4 c_a_5
  have f_a := frozen_of_blk k_a_31
  have s_a := blk_lt k_a_31
  have c_t_0 := cell_of_blk k_t_31 0
  have c_t_1 := cell_of_blk k_t_31 1
  have c_t_2 := cell_of_blk k_t_31 2
  simp only [List.getElem?_toArray, List.getElem?_cons_zero, List.getElem?_cons_succ] at c_t_0 c_t_1 c_t_2
  have f_t := frozen_of_blk k_t_31
  have s_t := blk_lt k_t_31
  have c_u_0 := cell_of_blk k_u_31 0
  have c_u_1 := cell_of_blk k_u_31 1
  have c_u_2 := cell_of_blk k_u_31 2
  simp only [List.getElem?_toArray, List.getElem?_cons_zero, List.getElem?_cons_succ] at c_u_0 c_u_1 c_u_2
  have f_u := frozen_of_blk k_u_31
  have s_u := blk_lt k_u_31
  go_wp2
  go_ret
  exact ⟨rfl, hw_31⟩
set_option maxRecDepth 100000 in
set_option maxHeartbeats 6400000 in
theorem maps_ok_big (A B : V6) (x y k : Int) (w : World) (hs : Steps w) (ha : mapMayB A = true) (hb : mapMayB B = true) (hv : mapMayB (afterV A B) = true) (ht : triMayB x y k = true) (hm : triMayB (moveV A x y k).1 (moveV A x y k).2.1 (moveV A x y k).2.2 = false) :
    Calls Tryd.prog 5 #[aggM A, aggM B, aggT x y k] w fun e w' => e = .returned (.bool true) ∧ Below w.heap.size w w' := by
  obtain ⟨D, hD⟩ : ∃ z : V6, z = backV A := ⟨_, rfl⟩
  have hb1 := fun w => gback_ok A w ha (back_may ha)
  have hb2 := fun w => backOf_any A w ha
  simp only [← hD] at hb1 hb2
  have HB1 := Lib.hid hb1
  have HB2 := Lib.hid hb2
  clear hb1 hb2 hD
  have ga := fun w => gafter_ok A B w ha hb hv
  have ao := fun w => afterOf_V A B w (may_sm ha) (may_sm hb)
  obtain ⟨V, hV⟩ : ∃ z : V6, z = afterV A B := ⟨_, rfl⟩
  simp only [← hV] at ga ao hv
  have GA := Lib.hid ga
  have AO := Lib.hid ao
  have HV := Lib.hid hv
  clear ga ao hv hV
  have gm := fun w hs => gmove_big A x y k w hs ha ht hm
  have mo := fun w => moveOf_V A x y k w ha ht
  obtain ⟨T, hT⟩ : ∃ z : T3, z = moveV A x y k := ⟨_, rfl⟩
  simp only [← hT] at gm mo hm
  have GM := Lib.hid gm
  have MO := Lib.hid mo
  have HM := Lib.hid hm
  clear gm mo hm hT
  have HA := Lib.hid ha
  have HB := Lib.hid hb
  have HT := Lib.hid ht
  clear ha hb ht
  have r1 : ∀ w : World, (binOp .neq 51 (.agg #[.int .i64 (V.1), .int .i64 (V.2.1), .int .i64 (V.2.2.1), .int .i64 (V.2.2.2.1), .int .i64 (V.2.2.2.2.1), .int .i64 (V.2.2.2.2.2)]) (.agg #[.int .i64 (V.1), .int .i64 (V.2.1), .int .i64 (V.2.2.1), .int .i64 (V.2.2.2.1), .int .i64 (V.2.2.2.2.1), .int .i64 (V.2.2.2.2.2)])).run Tryd.prog w = .ok (.bool false) w := fun w => by rw [neM]; simp [eqL]
  have r2 : ∀ w : World, (binOp .eql 23 (.agg #[.int .i64 0, .int .i64 0, .int .i64 0]) (.agg #[.int .i64 0, .int .i64 0, .int .i64 0])).run Tryd.prog w = .ok (.bool true) w := fun w => by rw [eqT]; simp [eqL]
  have r3 : ∀ w : World, (binOp .neq 51 (.agg #[.int .i64 (D.1), .int .i64 (D.2.1), .int .i64 (D.2.2.1), .int .i64 (D.2.2.2.1), .int .i64 (D.2.2.2.2.1), .int .i64 (D.2.2.2.2.2)]) (.agg #[.int .i64 (D.1), .int .i64 (D.2.1), .int .i64 (D.2.2.1), .int .i64 (D.2.2.2.1), .int .i64 (D.2.2.2.2.1), .int .i64 (D.2.2.2.2.2)])).run Tryd.prog w = .ok (.bool false) w := fun w => by rw [neM]; simp [eqL]
  go_enter Tryd.func5, Tryd.ntmps5
  go_wp2_with fail
  refine (GA.out _).mono ?_
  rintro e w1 ⟨rfl, hb1⟩
  have k_a_1 : w1.heap[w.heap.size]? = some (.cells #[.int .i64 (A.1), .int .i64 (A.2.1), .int .i64 (A.2.2.1), .int .i64 (A.2.2.2.1), .int .i64 (A.2.2.2.2.1), .int .i64 (A.2.2.2.2.2)] 51 (0, 0)) := blk_below (blk_alloc (blk_alloc (new_blk (.cells #[.int .i64 (A.1), .int .i64 (A.2.1), .int .i64 (A.2.2.1), .int .i64 (A.2.2.2.1), .int .i64 (A.2.2.2.2.1), .int .i64 (A.2.2.2.2.2)] 51) (by first | rfl | (simp; done) | (simp; omega))) _) _) hb1 (by first | (simp; done) | (simp; omega))
  have k_b_1 : w1.heap[w.heap.size + 1]? = some (.cells #[.int .i64 (B.1), .int .i64 (B.2.1), .int .i64 (B.2.2.1), .int .i64 (B.2.2.2.1), .int .i64 (B.2.2.2.2.1), .int .i64 (B.2.2.2.2.2)] 51 (0, 0)) := blk_below (blk_alloc (new_blk (.cells #[.int .i64 (B.1), .int .i64 (B.2.1), .int .i64 (B.2.2.1), .int .i64 (B.2.2.2.1), .int .i64 (B.2.2.2.2.1), .int .i64 (B.2.2.2.2.2)] 51) (by first | rfl | (simp; done) | (simp; omega))) _) hb1 (by first | (simp; done) | (simp; omega))
  have k_t_1 : w1.heap[w.heap.size + 1 + 1]? = some (.cells #[.int .i64 x, .int .i64 y, .int .i64 k] 23 (0, 0)) := blk_below (new_blk (.cells #[.int .i64 x, .int .i64 y, .int .i64 k] 23) (by first | rfl | (simp; done) | (simp; omega))) hb1 (by first | (simp; done) | (simp; omega))
  have hw_1 : Below w.heap.size w w1 := stay_b (ba (ba (ba (Below.refl _ _) _) _) _) hb1
  have hs_1 := (((hs.alloc _).alloc _).alloc _).below hb1
  clear hb1
  have c_a_0 := cell_of_blk k_a_1 0
  have c_a_1 := cell_of_blk k_a_1 1
  have c_a_2 := cell_of_blk k_a_1 2
  have c_a_3 := cell_of_blk k_a_1 3
  have c_a_4 := cell_of_blk k_a_1 4
  have c_a_5 := cell_of_blk k_a_1 5
  simp only [List.getElem?_toArray, List.getElem?_cons_zero, List.getElem?_cons_succ] at c_a_0 c_a_1 c_a_2 c_a_3 c_a_4 c_a_5
  have f_a := frozen_of_blk k_a_1
  have s_a := blk_lt k_a_1
  have c_b_0 := cell_of_blk k_b_1 0
  have c_b_1 := cell_of_blk k_b_1 1
  have c_b_2 := cell_of_blk k_b_1 2
  have c_b_3 := cell_of_blk k_b_1 3
  have c_b_4 := cell_of_blk k_b_1 4
  have c_b_5 := cell_of_blk k_b_1 5
  simp only [List.getElem?_toArray, List.getElem?_cons_zero, List.getElem?_cons_succ] at c_b_0 c_b_1 c_b_2 c_b_3 c_b_4 c_b_5
  have f_b := frozen_of_blk k_b_1
  have s_b := blk_lt k_b_1
  have c_t_0 := cell_of_blk k_t_1 0
  have c_t_1 := cell_of_blk k_t_1 1
  have c_t_2 := cell_of_blk k_t_1 2
  simp only [List.getElem?_toArray, List.getElem?_cons_zero, List.getElem?_cons_succ] at c_t_0 c_t_1 c_t_2
  have f_t := frozen_of_blk k_t_1
  have s_t := blk_lt k_t_1
  go_wp2_with fail
  refine (HB1.out _).mono ?_
  rintro e w2 ⟨rfl, hb2⟩
  have k_a_2 : w2.heap[w.heap.size]? = some (.cells #[.int .i64 (A.1), .int .i64 (A.2.1), .int .i64 (A.2.2.1), .int .i64 (A.2.2.2.1), .int .i64 (A.2.2.2.2.1), .int .i64 (A.2.2.2.2.2)] 51 (0, 0)) := blk_below (blk_alloc k_a_1 _) hb2 (blk_lt (blk_alloc k_a_1 _))
  have k_b_2 : w2.heap[w.heap.size + 1]? = some (.cells #[.int .i64 (B.1), .int .i64 (B.2.1), .int .i64 (B.2.2.1), .int .i64 (B.2.2.2.1), .int .i64 (B.2.2.2.2.1), .int .i64 (B.2.2.2.2.2)] 51 (0, 0)) := blk_below (blk_alloc k_b_1 _) hb2 (blk_lt (blk_alloc k_b_1 _))
  have k_t_2 : w2.heap[w.heap.size + 1 + 1]? = some (.cells #[.int .i64 x, .int .i64 y, .int .i64 k] 23 (0, 0)) := blk_below (blk_alloc k_t_1 _) hb2 (blk_lt (blk_alloc k_t_1 _))
  have k_c_2 : w2.heap[w1.heap.size]? = some (.cells #[.int .i64 (V.1), .int .i64 (V.2.1), .int .i64 (V.2.2.1), .int .i64 (V.2.2.2.1), .int .i64 (V.2.2.2.2.1), .int .i64 (V.2.2.2.2.2)] 51 (0, 0)) := blk_below (new_blk (.cells #[.int .i64 (V.1), .int .i64 (V.2.1), .int .i64 (V.2.2.1), .int .i64 (V.2.2.2.1), .int .i64 (V.2.2.2.2.1), .int .i64 (V.2.2.2.2.2)] 51) (by first | rfl | (simp; done) | (simp; omega))) hb2 (by first | (simp; done) | (simp; omega))
  have hw_2 : Below w.heap.size w w2 := stay_b (ba hw_1 _) hb2
  have hs_2 := (hs_1.alloc _).below hb2
  clear c_a_0 c_a_1 c_a_2 c_a_3 c_a_4 c_a_5 f_a s_a c_b_0 c_b_1 c_b_2 c_b_3 c_b_4 c_b_5 f_b s_b c_t_0 c_t_1 c_t_2 f_t s_t k_a_1 k_b_1 k_t_1 hb2 hw_1
  have c_a_0 := cell_of_blk k_a_2 0
  have c_a_1 := cell_of_blk k_a_2 1
  have c_a_2 := cell_of_blk k_a_2 2
  have c_a_3 := cell_of_blk k_a_2 3
  have c_a_4 := cell_of_blk k_a_2 4
  have c_a_5 := cell_of_blk k_a_2 5
  simp only [List.getElem?_toArray, List.getElem?_cons_zero, List.getElem?_cons_succ] at c_a_0 c_a_1 c_a_2 c_a_3 c_a_4 c_a_5
  have f_a := frozen_of_blk k_a_2
  have s_a := blk_lt k_a_2
  have c_b_0 := cell_of_blk k_b_2 0
  have c_b_1 := cell_of_blk k_b_2 1
  have c_b_2 := cell_of_blk k_b_2 2
  have c_b_3 := cell_of_blk k_b_2 3
  have c_b_4 := cell_of_blk k_b_2 4
  have c_b_5 := cell_of_blk k_b_2 5
  simp only [List.getElem?_toArray, List.getElem?_cons_zero, List.getElem?_cons_succ] at c_b_0 c_b_1 c_b_2 c_b_3 c_b_4 c_b_5
  have f_b := frozen_of_blk k_b_2
  have s_b := blk_lt k_b_2
  have c_t_0 := cell_of_blk k_t_2 0
  have c_t_1 := cell_of_blk k_t_2 1
  have c_t_2 := cell_of_blk k_t_2 2
  simp only [List.getElem?_toArray, List.getElem?_cons_zero, List.getElem?_cons_succ] at c_t_0 c_t_1 c_t_2
  have f_t := frozen_of_blk k_t_2
  have s_t := blk_lt k_t_2
  have c_c_0 := cell_of_blk k_c_2 0
  have c_c_1 := cell_of_blk k_c_2 1
  have c_c_2 := cell_of_blk k_c_2 2
  have c_c_3 := cell_of_blk k_c_2 3
  have c_c_4 := cell_of_blk k_c_2 4
  have c_c_5 := cell_of_blk k_c_2 5
  simp only [List.getElem?_toArray, List.getElem?_cons_zero, List.getElem?_cons_succ] at c_c_0 c_c_1 c_c_2 c_c_3 c_c_4 c_c_5
  have f_c := frozen_of_blk k_c_2
  have s_c := blk_lt k_c_2
  go_wp2_with fail
  refine (GM.out _ (hs_2.alloc _)).mono ?_
  rintro e w3 ⟨rfl, hb3⟩
  have k_a_3 : w3.heap[w.heap.size]? = some (.cells #[.int .i64 (A.1), .int .i64 (A.2.1), .int .i64 (A.2.2.1), .int .i64 (A.2.2.2.1), .int .i64 (A.2.2.2.2.1), .int .i64 (A.2.2.2.2.2)] 51 (0, 0)) := blk_below (blk_alloc k_a_2 _) hb3 (blk_lt (blk_alloc k_a_2 _))
  have k_b_3 : w3.heap[w.heap.size + 1]? = some (.cells #[.int .i64 (B.1), .int .i64 (B.2.1), .int .i64 (B.2.2.1), .int .i64 (B.2.2.2.1), .int .i64 (B.2.2.2.2.1), .int .i64 (B.2.2.2.2.2)] 51 (0, 0)) := blk_below (blk_alloc k_b_2 _) hb3 (blk_lt (blk_alloc k_b_2 _))
  have k_t_3 : w3.heap[w.heap.size + 1 + 1]? = some (.cells #[.int .i64 x, .int .i64 y, .int .i64 k] 23 (0, 0)) := blk_below (blk_alloc k_t_2 _) hb3 (blk_lt (blk_alloc k_t_2 _))
  have k_c_3 : w3.heap[w1.heap.size]? = some (.cells #[.int .i64 (V.1), .int .i64 (V.2.1), .int .i64 (V.2.2.1), .int .i64 (V.2.2.2.1), .int .i64 (V.2.2.2.2.1), .int .i64 (V.2.2.2.2.2)] 51 (0, 0)) := blk_below (blk_alloc k_c_2 _) hb3 (blk_lt (blk_alloc k_c_2 _))
  have k_d_3 : w3.heap[w2.heap.size]? = some (.cells #[.int .i64 (D.1), .int .i64 (D.2.1), .int .i64 (D.2.2.1), .int .i64 (D.2.2.2.1), .int .i64 (D.2.2.2.2.1), .int .i64 (D.2.2.2.2.2)] 51 (0, 0)) := blk_below (new_blk (.cells #[.int .i64 (D.1), .int .i64 (D.2.1), .int .i64 (D.2.2.1), .int .i64 (D.2.2.2.1), .int .i64 (D.2.2.2.2.1), .int .i64 (D.2.2.2.2.2)] 51) (by first | rfl | (simp; done) | (simp; omega))) hb3 (by first | (simp; done) | (simp; omega))
  have hw_3 : Below w.heap.size w w3 := stay_b (ba hw_2 _) hb3
  have hs_3 := (hs_2.alloc _).below hb3
  clear c_a_0 c_a_1 c_a_2 c_a_3 c_a_4 c_a_5 f_a s_a c_b_0 c_b_1 c_b_2 c_b_3 c_b_4 c_b_5 f_b s_b c_t_0 c_t_1 c_t_2 f_t s_t c_c_0 c_c_1 c_c_2 c_c_3 c_c_4 c_c_5 f_c s_c k_a_2 k_b_2 k_t_2 k_c_2 hb3 hw_2
  have c_a_0 := cell_of_blk k_a_3 0
  have c_a_1 := cell_of_blk k_a_3 1
  have c_a_2 := cell_of_blk k_a_3 2
  have c_a_3 := cell_of_blk k_a_3 3
  have c_a_4 := cell_of_blk k_a_3 4
  have c_a_5 := cell_of_blk k_a_3 5
  simp only [List.getElem?_toArray, List.getElem?_cons_zero, List.getElem?_cons_succ] at c_a_0 c_a_1 c_a_2 c_a_3 c_a_4 c_a_5
  have f_a := frozen_of_blk k_a_3
  have s_a := blk_lt k_a_3
  have c_b_0 := cell_of_blk k_b_3 0
  have c_b_1 := cell_of_blk k_b_3 1
  have c_b_2 := cell_of_blk k_b_3 2
  have c_b_3 := cell_of_blk k_b_3 3
  have c_b_4 := cell_of_blk k_b_3 4
  have c_b_5 := cell_of_blk k_b_3 5
  simp only [List.getElem?_toArray, List.getElem?_cons_zero, List.getElem?_cons_succ] at c_b_0 c_b_1 c_b_2 c_b_3 c_b_4 c_b_5
  have f_b := frozen_of_blk k_b_3
  have s_b := blk_lt k_b_3
  have c_t_0 := cell_of_blk k_t_3 0
  have c_t_1 := cell_of_blk k_t_3 1
  have c_t_2 := cell_of_blk k_t_3 2
  simp only [List.getElem?_toArray, List.getElem?_cons_zero, List.getElem?_cons_succ] at c_t_0 c_t_1 c_t_2
  have f_t := frozen_of_blk k_t_3
  have s_t := blk_lt k_t_3
  have c_c_0 := cell_of_blk k_c_3 0
  have c_c_1 := cell_of_blk k_c_3 1
  have c_c_2 := cell_of_blk k_c_3 2
  have c_c_3 := cell_of_blk k_c_3 3
  have c_c_4 := cell_of_blk k_c_3 4
  have c_c_5 := cell_of_blk k_c_3 5
  simp only [List.getElem?_toArray, List.getElem?_cons_zero, List.getElem?_cons_succ] at c_c_0 c_c_1 c_c_2 c_c_3 c_c_4 c_c_5
  have f_c := frozen_of_blk k_c_3
  have s_c := blk_lt k_c_3
  have c_d_0 := cell_of_blk k_d_3 0
  have c_d_1 := cell_of_blk k_d_3 1
  have c_d_2 := cell_of_blk k_d_3 2
  have c_d_3 := cell_of_blk k_d_3 3
  have c_d_4 := cell_of_blk k_d_3 4
  have c_d_5 := cell_of_blk k_d_3 5
  simp only [List.getElem?_toArray, List.getElem?_cons_zero, List.getElem?_cons_succ] at c_d_0 c_d_1 c_d_2 c_d_3 c_d_4 c_d_5
  have f_d := frozen_of_blk k_d_3
  have s_d := blk_lt k_d_3
  go_wp2_with fail
  refine (refMap_any A _).mono ?_
  rintro e w4 ⟨rfl, hb4⟩
  rw [HA.out]
  have k_a_4 : w4.heap[w.heap.size]? = some (.cells #[.int .i64 (A.1), .int .i64 (A.2.1), .int .i64 (A.2.2.1), .int .i64 (A.2.2.2.1), .int .i64 (A.2.2.2.2.1), .int .i64 (A.2.2.2.2.2)] 51 (0, 0)) := blk_below (blk_alloc k_a_3 _) hb4 (blk_lt (blk_alloc k_a_3 _))
  have k_b_4 : w4.heap[w.heap.size + 1]? = some (.cells #[.int .i64 (B.1), .int .i64 (B.2.1), .int .i64 (B.2.2.1), .int .i64 (B.2.2.2.1), .int .i64 (B.2.2.2.2.1), .int .i64 (B.2.2.2.2.2)] 51 (0, 0)) := blk_below (blk_alloc k_b_3 _) hb4 (blk_lt (blk_alloc k_b_3 _))
  have k_t_4 : w4.heap[w.heap.size + 1 + 1]? = some (.cells #[.int .i64 x, .int .i64 y, .int .i64 k] 23 (0, 0)) := blk_below (blk_alloc k_t_3 _) hb4 (blk_lt (blk_alloc k_t_3 _))
  have k_c_4 : w4.heap[w1.heap.size]? = some (.cells #[.int .i64 (V.1), .int .i64 (V.2.1), .int .i64 (V.2.2.1), .int .i64 (V.2.2.2.1), .int .i64 (V.2.2.2.2.1), .int .i64 (V.2.2.2.2.2)] 51 (0, 0)) := blk_below (blk_alloc k_c_3 _) hb4 (blk_lt (blk_alloc k_c_3 _))
  have k_d_4 : w4.heap[w2.heap.size]? = some (.cells #[.int .i64 (D.1), .int .i64 (D.2.1), .int .i64 (D.2.2.1), .int .i64 (D.2.2.2.1), .int .i64 (D.2.2.2.2.1), .int .i64 (D.2.2.2.2.2)] 51 (0, 0)) := blk_below (blk_alloc k_d_3 _) hb4 (blk_lt (blk_alloc k_d_3 _))
  have k_u_4 : w4.heap[w3.heap.size]? = some (.cells #[.int .i64 0, .int .i64 0, .int .i64 0] 23 (0, 0)) := blk_below (new_blk (.cells #[.int .i64 0, .int .i64 0, .int .i64 0] 23) (by first | rfl | (simp; done) | (simp; omega))) hb4 (by first | (simp; done) | (simp; omega))
  have hw_4 : Below w.heap.size w w4 := stay_b (ba hw_3 _) hb4
  have hs_4 := (hs_3.alloc _).below hb4
  clear c_a_0 c_a_1 c_a_2 c_a_3 c_a_4 c_a_5 f_a s_a c_b_0 c_b_1 c_b_2 c_b_3 c_b_4 c_b_5 f_b s_b c_t_0 c_t_1 c_t_2 f_t s_t c_c_0 c_c_1 c_c_2 c_c_3 c_c_4 c_c_5 f_c s_c c_d_0 c_d_1 c_d_2 c_d_3 c_d_4 c_d_5 f_d s_d k_a_3 k_b_3 k_t_3 k_c_3 k_d_3 hb4 hw_3
  have c_a_0 := cell_of_blk k_a_4 0
  have c_a_1 := cell_of_blk k_a_4 1
  have c_a_2 := cell_of_blk k_a_4 2
  have c_a_3 := cell_of_blk k_a_4 3
  have c_a_4 := cell_of_blk k_a_4 4
  have c_a_5 := cell_of_blk k_a_4 5
  simp only [List.getElem?_toArray, List.getElem?_cons_zero, List.getElem?_cons_succ] at c_a_0 c_a_1 c_a_2 c_a_3 c_a_4 c_a_5
  have f_a := frozen_of_blk k_a_4
  have s_a := blk_lt k_a_4
  have c_b_0 := cell_of_blk k_b_4 0
  have c_b_1 := cell_of_blk k_b_4 1
  have c_b_2 := cell_of_blk k_b_4 2
  have c_b_3 := cell_of_blk k_b_4 3
  have c_b_4 := cell_of_blk k_b_4 4
  have c_b_5 := cell_of_blk k_b_4 5
  simp only [List.getElem?_toArray, List.getElem?_cons_zero, List.getElem?_cons_succ] at c_b_0 c_b_1 c_b_2 c_b_3 c_b_4 c_b_5
  have f_b := frozen_of_blk k_b_4
  have s_b := blk_lt k_b_4
  have c_t_0 := cell_of_blk k_t_4 0
  have c_t_1 := cell_of_blk k_t_4 1
  have c_t_2 := cell_of_blk k_t_4 2
  simp only [List.getElem?_toArray, List.getElem?_cons_zero, List.getElem?_cons_succ] at c_t_0 c_t_1 c_t_2
  have f_t := frozen_of_blk k_t_4
  have s_t := blk_lt k_t_4
  have c_c_0 := cell_of_blk k_c_4 0
  have c_c_1 := cell_of_blk k_c_4 1
  have c_c_2 := cell_of_blk k_c_4 2
  have c_c_3 := cell_of_blk k_c_4 3
  have c_c_4 := cell_of_blk k_c_4 4
  have c_c_5 := cell_of_blk k_c_4 5
  simp only [List.getElem?_toArray, List.getElem?_cons_zero, List.getElem?_cons_succ] at c_c_0 c_c_1 c_c_2 c_c_3 c_c_4 c_c_5
  have f_c := frozen_of_blk k_c_4
  have s_c := blk_lt k_c_4
  have c_d_0 := cell_of_blk k_d_4 0
  have c_d_1 := cell_of_blk k_d_4 1
  have c_d_2 := cell_of_blk k_d_4 2
  have c_d_3 := cell_of_blk k_d_4 3
  have c_d_4 := cell_of_blk k_d_4 4
  have c_d_5 := cell_of_blk k_d_4 5
  simp only [List.getElem?_toArray, List.getElem?_cons_zero, List.getElem?_cons_succ] at c_d_0 c_d_1 c_d_2 c_d_3 c_d_4 c_d_5
  have f_d := frozen_of_blk k_d_4
  have s_d := blk_lt k_d_4
  have c_u_0 := cell_of_blk k_u_4 0
  have c_u_1 := cell_of_blk k_u_4 1
  have c_u_2 := cell_of_blk k_u_4 2
  simp only [List.getElem?_toArray, List.getElem?_cons_zero, List.getElem?_cons_succ] at c_u_0 c_u_1 c_u_2
  have f_u := frozen_of_blk k_u_4
  have s_u := blk_lt k_u_4
  go_wp2_with fail
  refine (refMap_any B _).mono ?_
  rintro e w5 ⟨rfl, hb5⟩
  rw [HB.out]
  have k_a_5 : w5.heap[w.heap.size]? = some (.cells #[.int .i64 (A.1), .int .i64 (A.2.1), .int .i64 (A.2.2.1), .int .i64 (A.2.2.2.1), .int .i64 (A.2.2.2.2.1), .int .i64 (A.2.2.2.2.2)] 51 (0, 0)) := blk_below k_a_4 hb5 (blk_lt k_a_4)
  have k_b_5 : w5.heap[w.heap.size + 1]? = some (.cells #[.int .i64 (B.1), .int .i64 (B.2.1), .int .i64 (B.2.2.1), .int .i64 (B.2.2.2.1), .int .i64 (B.2.2.2.2.1), .int .i64 (B.2.2.2.2.2)] 51 (0, 0)) := blk_below k_b_4 hb5 (blk_lt k_b_4)
  have k_t_5 : w5.heap[w.heap.size + 1 + 1]? = some (.cells #[.int .i64 x, .int .i64 y, .int .i64 k] 23 (0, 0)) := blk_below k_t_4 hb5 (blk_lt k_t_4)
  have k_c_5 : w5.heap[w1.heap.size]? = some (.cells #[.int .i64 (V.1), .int .i64 (V.2.1), .int .i64 (V.2.2.1), .int .i64 (V.2.2.2.1), .int .i64 (V.2.2.2.2.1), .int .i64 (V.2.2.2.2.2)] 51 (0, 0)) := blk_below k_c_4 hb5 (blk_lt k_c_4)
  have k_d_5 : w5.heap[w2.heap.size]? = some (.cells #[.int .i64 (D.1), .int .i64 (D.2.1), .int .i64 (D.2.2.1), .int .i64 (D.2.2.2.1), .int .i64 (D.2.2.2.2.1), .int .i64 (D.2.2.2.2.2)] 51 (0, 0)) := blk_below k_d_4 hb5 (blk_lt k_d_4)
  have k_u_5 : w5.heap[w3.heap.size]? = some (.cells #[.int .i64 0, .int .i64 0, .int .i64 0] 23 (0, 0)) := blk_below k_u_4 hb5 (blk_lt k_u_4)
  have hw_5 : Below w.heap.size w w5 := stay_b hw_4 hb5
  have hs_5 := hs_4.below hb5
  clear c_a_0 c_a_1 c_a_2 c_a_3 c_a_4 c_a_5 f_a s_a c_b_0 c_b_1 c_b_2 c_b_3 c_b_4 c_b_5 f_b s_b c_t_0 c_t_1 c_t_2 f_t s_t c_c_0 c_c_1 c_c_2 c_c_3 c_c_4 c_c_5 f_c s_c c_d_0 c_d_1 c_d_2 c_d_3 c_d_4 c_d_5 f_d s_d c_u_0 c_u_1 c_u_2 f_u s_u k_a_4 k_b_4 k_t_4 k_c_4 k_d_4 k_u_4 hb5 hw_4
  have c_a_0 := cell_of_blk k_a_5 0
  have c_a_1 := cell_of_blk k_a_5 1
  have c_a_2 := cell_of_blk k_a_5 2
  have c_a_3 := cell_of_blk k_a_5 3
  have c_a_4 := cell_of_blk k_a_5 4
  have c_a_5 := cell_of_blk k_a_5 5
  simp only [List.getElem?_toArray, List.getElem?_cons_zero, List.getElem?_cons_succ] at c_a_0 c_a_1 c_a_2 c_a_3 c_a_4 c_a_5
  have f_a := frozen_of_blk k_a_5
  have s_a := blk_lt k_a_5
  have c_b_0 := cell_of_blk k_b_5 0
  have c_b_1 := cell_of_blk k_b_5 1
  have c_b_2 := cell_of_blk k_b_5 2
  have c_b_3 := cell_of_blk k_b_5 3
  have c_b_4 := cell_of_blk k_b_5 4
  have c_b_5 := cell_of_blk k_b_5 5
  simp only [List.getElem?_toArray, List.getElem?_cons_zero, List.getElem?_cons_succ] at c_b_0 c_b_1 c_b_2 c_b_3 c_b_4 c_b_5
  have f_b := frozen_of_blk k_b_5
  have s_b := blk_lt k_b_5
  have c_t_0 := cell_of_blk k_t_5 0
  have c_t_1 := cell_of_blk k_t_5 1
  have c_t_2 := cell_of_blk k_t_5 2
  simp only [List.getElem?_toArray, List.getElem?_cons_zero, List.getElem?_cons_succ] at c_t_0 c_t_1 c_t_2
  have f_t := frozen_of_blk k_t_5
  have s_t := blk_lt k_t_5
  have c_c_0 := cell_of_blk k_c_5 0
  have c_c_1 := cell_of_blk k_c_5 1
  have c_c_2 := cell_of_blk k_c_5 2
  have c_c_3 := cell_of_blk k_c_5 3
  have c_c_4 := cell_of_blk k_c_5 4
  have c_c_5 := cell_of_blk k_c_5 5
  simp only [List.getElem?_toArray, List.getElem?_cons_zero, List.getElem?_cons_succ] at c_c_0 c_c_1 c_c_2 c_c_3 c_c_4 c_c_5
  have f_c := frozen_of_blk k_c_5
  have s_c := blk_lt k_c_5
  have c_d_0 := cell_of_blk k_d_5 0
  have c_d_1 := cell_of_blk k_d_5 1
  have c_d_2 := cell_of_blk k_d_5 2
  have c_d_3 := cell_of_blk k_d_5 3
  have c_d_4 := cell_of_blk k_d_5 4
  have c_d_5 := cell_of_blk k_d_5 5
  simp only [List.getElem?_toArray, List.getElem?_cons_zero, List.getElem?_cons_succ] at c_d_0 c_d_1 c_d_2 c_d_3 c_d_4 c_d_5
  have f_d := frozen_of_blk k_d_5
  have s_d := blk_lt k_d_5
  have c_u_0 := cell_of_blk k_u_5 0
  have c_u_1 := cell_of_blk k_u_5 1
  have c_u_2 := cell_of_blk k_u_5 2
  simp only [List.getElem?_toArray, List.getElem?_cons_zero, List.getElem?_cons_succ] at c_u_0 c_u_1 c_u_2
  have f_u := frozen_of_blk k_u_5
  have s_u := blk_lt k_u_5
  go_wp2_with fail
  refine (AO.out _).mono ?_
  rintro e w6 ⟨rfl, hb6⟩
  have k_a_6 : w6.heap[w.heap.size]? = some (.cells #[.int .i64 (A.1), .int .i64 (A.2.1), .int .i64 (A.2.2.1), .int .i64 (A.2.2.2.1), .int .i64 (A.2.2.2.2.1), .int .i64 (A.2.2.2.2.2)] 51 (0, 0)) := blk_below k_a_5 hb6 (blk_lt k_a_5)
  have k_b_6 : w6.heap[w.heap.size + 1]? = some (.cells #[.int .i64 (B.1), .int .i64 (B.2.1), .int .i64 (B.2.2.1), .int .i64 (B.2.2.2.1), .int .i64 (B.2.2.2.2.1), .int .i64 (B.2.2.2.2.2)] 51 (0, 0)) := blk_below k_b_5 hb6 (blk_lt k_b_5)
  have k_t_6 : w6.heap[w.heap.size + 1 + 1]? = some (.cells #[.int .i64 x, .int .i64 y, .int .i64 k] 23 (0, 0)) := blk_below k_t_5 hb6 (blk_lt k_t_5)
  have k_c_6 : w6.heap[w1.heap.size]? = some (.cells #[.int .i64 (V.1), .int .i64 (V.2.1), .int .i64 (V.2.2.1), .int .i64 (V.2.2.2.1), .int .i64 (V.2.2.2.2.1), .int .i64 (V.2.2.2.2.2)] 51 (0, 0)) := blk_below k_c_5 hb6 (blk_lt k_c_5)
  have k_d_6 : w6.heap[w2.heap.size]? = some (.cells #[.int .i64 (D.1), .int .i64 (D.2.1), .int .i64 (D.2.2.1), .int .i64 (D.2.2.2.1), .int .i64 (D.2.2.2.2.1), .int .i64 (D.2.2.2.2.2)] 51 (0, 0)) := blk_below k_d_5 hb6 (blk_lt k_d_5)
  have k_u_6 : w6.heap[w3.heap.size]? = some (.cells #[.int .i64 0, .int .i64 0, .int .i64 0] 23 (0, 0)) := blk_below k_u_5 hb6 (blk_lt k_u_5)
  have hw_6 : Below w.heap.size w w6 := stay_b hw_5 hb6
  have hs_6 := hs_5.below hb6
  clear c_a_0 c_a_1 c_a_2 c_a_3 c_a_4 c_a_5 f_a s_a c_b_0 c_b_1 c_b_2 c_b_3 c_b_4 c_b_5 f_b s_b c_t_0 c_t_1 c_t_2 f_t s_t c_c_0 c_c_1 c_c_2 c_c_3 c_c_4 c_c_5 f_c s_c c_d_0 c_d_1 c_d_2 c_d_3 c_d_4 c_d_5 f_d s_d c_u_0 c_u_1 c_u_2 f_u s_u k_a_5 k_b_5 k_t_5 k_c_5 k_d_5 k_u_5 hb6 hw_5
  have c_a_0 := cell_of_blk k_a_6 0
  have c_a_1 := cell_of_blk k_a_6 1
  have c_a_2 := cell_of_blk k_a_6 2
  have c_a_3 := cell_of_blk k_a_6 3
  have c_a_4 := cell_of_blk k_a_6 4
  have c_a_5 := cell_of_blk k_a_6 5
  simp only [List.getElem?_toArray, List.getElem?_cons_zero, List.getElem?_cons_succ] at c_a_0 c_a_1 c_a_2 c_a_3 c_a_4 c_a_5
  have f_a := frozen_of_blk k_a_6
  have s_a := blk_lt k_a_6
  have c_b_0 := cell_of_blk k_b_6 0
  have c_b_1 := cell_of_blk k_b_6 1
  have c_b_2 := cell_of_blk k_b_6 2
  have c_b_3 := cell_of_blk k_b_6 3
  have c_b_4 := cell_of_blk k_b_6 4
  have c_b_5 := cell_of_blk k_b_6 5
  simp only [List.getElem?_toArray, List.getElem?_cons_zero, List.getElem?_cons_succ] at c_b_0 c_b_1 c_b_2 c_b_3 c_b_4 c_b_5
  have f_b := frozen_of_blk k_b_6
  have s_b := blk_lt k_b_6
  have c_t_0 := cell_of_blk k_t_6 0
  have c_t_1 := cell_of_blk k_t_6 1
  have c_t_2 := cell_of_blk k_t_6 2
  simp only [List.getElem?_toArray, List.getElem?_cons_zero, List.getElem?_cons_succ] at c_t_0 c_t_1 c_t_2
  have f_t := frozen_of_blk k_t_6
  have s_t := blk_lt k_t_6
  have c_c_0 := cell_of_blk k_c_6 0
  have c_c_1 := cell_of_blk k_c_6 1
  have c_c_2 := cell_of_blk k_c_6 2
  have c_c_3 := cell_of_blk k_c_6 3
  have c_c_4 := cell_of_blk k_c_6 4
  have c_c_5 := cell_of_blk k_c_6 5
  simp only [List.getElem?_toArray, List.getElem?_cons_zero, List.getElem?_cons_succ] at c_c_0 c_c_1 c_c_2 c_c_3 c_c_4 c_c_5
  have f_c := frozen_of_blk k_c_6
  have s_c := blk_lt k_c_6
  have c_d_0 := cell_of_blk k_d_6 0
  have c_d_1 := cell_of_blk k_d_6 1
  have c_d_2 := cell_of_blk k_d_6 2
  have c_d_3 := cell_of_blk k_d_6 3
  have c_d_4 := cell_of_blk k_d_6 4
  have c_d_5 := cell_of_blk k_d_6 5
  simp only [List.getElem?_toArray, List.getElem?_cons_zero, List.getElem?_cons_succ] at c_d_0 c_d_1 c_d_2 c_d_3 c_d_4 c_d_5
  have f_d := frozen_of_blk k_d_6
  have s_d := blk_lt k_d_6
  have c_u_0 := cell_of_blk k_u_6 0
  have c_u_1 := cell_of_blk k_u_6 1
  have c_u_2 := cell_of_blk k_u_6 2
  simp only [List.getElem?_toArray, List.getElem?_cons_zero, List.getElem?_cons_succ] at c_u_0 c_u_1 c_u_2
  have f_u := frozen_of_blk k_u_6
  have s_u := blk_lt k_u_6
  go_wp2_with fail
  refine (refMap_any V _).mono ?_
  rintro e w7 ⟨rfl, hb7⟩
  rw [HV.out]
  have k_a_7 : w7.heap[w.heap.size]? = some (.cells #[.int .i64 (A.1), .int .i64 (A.2.1), .int .i64 (A.2.2.1), .int .i64 (A.2.2.2.1), .int .i64 (A.2.2.2.2.1), .int .i64 (A.2.2.2.2.2)] 51 (0, 0)) := blk_below (blk_alloc k_a_6 _) hb7 (blk_lt (blk_alloc k_a_6 _))
  have k_b_7 : w7.heap[w.heap.size + 1]? = some (.cells #[.int .i64 (B.1), .int .i64 (B.2.1), .int .i64 (B.2.2.1), .int .i64 (B.2.2.2.1), .int .i64 (B.2.2.2.2.1), .int .i64 (B.2.2.2.2.2)] 51 (0, 0)) := blk_below (blk_alloc k_b_6 _) hb7 (blk_lt (blk_alloc k_b_6 _))
  have k_t_7 : w7.heap[w.heap.size + 1 + 1]? = some (.cells #[.int .i64 x, .int .i64 y, .int .i64 k] 23 (0, 0)) := blk_below (blk_alloc k_t_6 _) hb7 (blk_lt (blk_alloc k_t_6 _))
  have k_c_7 : w7.heap[w1.heap.size]? = some (.cells #[.int .i64 (V.1), .int .i64 (V.2.1), .int .i64 (V.2.2.1), .int .i64 (V.2.2.2.1), .int .i64 (V.2.2.2.2.1), .int .i64 (V.2.2.2.2.2)] 51 (0, 0)) := blk_below (blk_alloc k_c_6 _) hb7 (blk_lt (blk_alloc k_c_6 _))
  have k_d_7 : w7.heap[w2.heap.size]? = some (.cells #[.int .i64 (D.1), .int .i64 (D.2.1), .int .i64 (D.2.2.1), .int .i64 (D.2.2.2.1), .int .i64 (D.2.2.2.2.1), .int .i64 (D.2.2.2.2.2)] 51 (0, 0)) := blk_below (blk_alloc k_d_6 _) hb7 (blk_lt (blk_alloc k_d_6 _))
  have k_u_7 : w7.heap[w3.heap.size]? = some (.cells #[.int .i64 0, .int .i64 0, .int .i64 0] 23 (0, 0)) := blk_below (blk_alloc k_u_6 _) hb7 (blk_lt (blk_alloc k_u_6 _))
  have k_v_7 : w7.heap[w6.heap.size]? = some (.cells #[.int .i64 (V.1), .int .i64 (V.2.1), .int .i64 (V.2.2.1), .int .i64 (V.2.2.2.1), .int .i64 (V.2.2.2.2.1), .int .i64 (V.2.2.2.2.2)] 51 (0, 0)) := blk_below (new_blk (.cells #[.int .i64 (V.1), .int .i64 (V.2.1), .int .i64 (V.2.2.1), .int .i64 (V.2.2.2.1), .int .i64 (V.2.2.2.2.1), .int .i64 (V.2.2.2.2.2)] 51) (by first | rfl | (simp; done) | (simp; omega))) hb7 (by first | (simp; done) | (simp; omega))
  have hw_7 : Below w.heap.size w w7 := stay_b (ba hw_6 _) hb7
  have hs_7 := (hs_6.alloc _).below hb7
  clear c_a_0 c_a_1 c_a_2 c_a_3 c_a_4 c_a_5 f_a s_a c_b_0 c_b_1 c_b_2 c_b_3 c_b_4 c_b_5 f_b s_b c_t_0 c_t_1 c_t_2 f_t s_t c_c_0 c_c_1 c_c_2 c_c_3 c_c_4 c_c_5 f_c s_c c_d_0 c_d_1 c_d_2 c_d_3 c_d_4 c_d_5 f_d s_d c_u_0 c_u_1 c_u_2 f_u s_u k_a_6 k_b_6 k_t_6 k_c_6 k_d_6 k_u_6 hb7 hw_6
  have c_a_0 := cell_of_blk k_a_7 0
  have c_a_1 := cell_of_blk k_a_7 1
  have c_a_2 := cell_of_blk k_a_7 2
  have c_a_3 := cell_of_blk k_a_7 3
  have c_a_4 := cell_of_blk k_a_7 4
  have c_a_5 := cell_of_blk k_a_7 5
  simp only [List.getElem?_toArray, List.getElem?_cons_zero, List.getElem?_cons_succ] at c_a_0 c_a_1 c_a_2 c_a_3 c_a_4 c_a_5
  have f_a := frozen_of_blk k_a_7
  have s_a := blk_lt k_a_7
  have c_b_0 := cell_of_blk k_b_7 0
  have c_b_1 := cell_of_blk k_b_7 1
  have c_b_2 := cell_of_blk k_b_7 2
  have c_b_3 := cell_of_blk k_b_7 3
  have c_b_4 := cell_of_blk k_b_7 4
  have c_b_5 := cell_of_blk k_b_7 5
  simp only [List.getElem?_toArray, List.getElem?_cons_zero, List.getElem?_cons_succ] at c_b_0 c_b_1 c_b_2 c_b_3 c_b_4 c_b_5
  have f_b := frozen_of_blk k_b_7
  have s_b := blk_lt k_b_7
  have c_t_0 := cell_of_blk k_t_7 0
  have c_t_1 := cell_of_blk k_t_7 1
  have c_t_2 := cell_of_blk k_t_7 2
  simp only [List.getElem?_toArray, List.getElem?_cons_zero, List.getElem?_cons_succ] at c_t_0 c_t_1 c_t_2
  have f_t := frozen_of_blk k_t_7
  have s_t := blk_lt k_t_7
  have c_c_0 := cell_of_blk k_c_7 0
  have c_c_1 := cell_of_blk k_c_7 1
  have c_c_2 := cell_of_blk k_c_7 2
  have c_c_3 := cell_of_blk k_c_7 3
  have c_c_4 := cell_of_blk k_c_7 4
  have c_c_5 := cell_of_blk k_c_7 5
  simp only [List.getElem?_toArray, List.getElem?_cons_zero, List.getElem?_cons_succ] at c_c_0 c_c_1 c_c_2 c_c_3 c_c_4 c_c_5
  have f_c := frozen_of_blk k_c_7
  have s_c := blk_lt k_c_7
  have c_d_0 := cell_of_blk k_d_7 0
  have c_d_1 := cell_of_blk k_d_7 1
  have c_d_2 := cell_of_blk k_d_7 2
  have c_d_3 := cell_of_blk k_d_7 3
  have c_d_4 := cell_of_blk k_d_7 4
  have c_d_5 := cell_of_blk k_d_7 5
  simp only [List.getElem?_toArray, List.getElem?_cons_zero, List.getElem?_cons_succ] at c_d_0 c_d_1 c_d_2 c_d_3 c_d_4 c_d_5
  have f_d := frozen_of_blk k_d_7
  have s_d := blk_lt k_d_7
  have c_u_0 := cell_of_blk k_u_7 0
  have c_u_1 := cell_of_blk k_u_7 1
  have c_u_2 := cell_of_blk k_u_7 2
  simp only [List.getElem?_toArray, List.getElem?_cons_zero, List.getElem?_cons_succ] at c_u_0 c_u_1 c_u_2
  have f_u := frozen_of_blk k_u_7
  have s_u := blk_lt k_u_7
  have c_v_0 := cell_of_blk k_v_7 0
  have c_v_1 := cell_of_blk k_v_7 1
  have c_v_2 := cell_of_blk k_v_7 2
  have c_v_3 := cell_of_blk k_v_7 3
  have c_v_4 := cell_of_blk k_v_7 4
  have c_v_5 := cell_of_blk k_v_7 5
  simp only [List.getElem?_toArray, List.getElem?_cons_zero, List.getElem?_cons_succ] at c_v_0 c_v_1 c_v_2 c_v_3 c_v_4 c_v_5
  have f_v := frozen_of_blk k_v_7
  have s_v := blk_lt k_v_7
  go_wp2_with fail
  have k_a_8 : (w7.drew).heap[w.heap.size]? = some (.cells #[.int .i64 (A.1), .int .i64 (A.2.1), .int .i64 (A.2.2.1), .int .i64 (A.2.2.2.1), .int .i64 (A.2.2.2.2.1), .int .i64 (A.2.2.2.2.2)] 51 (0, 0)) := k_a_7
  have k_b_8 : (w7.drew).heap[w.heap.size + 1]? = some (.cells #[.int .i64 (B.1), .int .i64 (B.2.1), .int .i64 (B.2.2.1), .int .i64 (B.2.2.2.1), .int .i64 (B.2.2.2.2.1), .int .i64 (B.2.2.2.2.2)] 51 (0, 0)) := k_b_7
  have k_t_8 : (w7.drew).heap[w.heap.size + 1 + 1]? = some (.cells #[.int .i64 x, .int .i64 y, .int .i64 k] 23 (0, 0)) := k_t_7
  have k_c_8 : (w7.drew).heap[w1.heap.size]? = some (.cells #[.int .i64 (V.1), .int .i64 (V.2.1), .int .i64 (V.2.2.1), .int .i64 (V.2.2.2.1), .int .i64 (V.2.2.2.2.1), .int .i64 (V.2.2.2.2.2)] 51 (0, 0)) := k_c_7
  have k_d_8 : (w7.drew).heap[w2.heap.size]? = some (.cells #[.int .i64 (D.1), .int .i64 (D.2.1), .int .i64 (D.2.2.1), .int .i64 (D.2.2.2.1), .int .i64 (D.2.2.2.2.1), .int .i64 (D.2.2.2.2.2)] 51 (0, 0)) := k_d_7
  have k_u_8 : (w7.drew).heap[w3.heap.size]? = some (.cells #[.int .i64 0, .int .i64 0, .int .i64 0] 23 (0, 0)) := k_u_7
  have k_v_8 : (w7.drew).heap[w6.heap.size]? = some (.cells #[.int .i64 (V.1), .int .i64 (V.2.1), .int .i64 (V.2.2.1), .int .i64 (V.2.2.2.1), .int .i64 (V.2.2.2.2.1), .int .i64 (V.2.2.2.2.2)] 51 (0, 0)) := k_v_7
  have hw_8 : Below w.heap.size w (w7.drew) := (hw_7).drew
  have hs_8 : Steps (w7.drew) := (hs_7.below (Below.refl _ _).drew)
  clear c_a_0 c_a_1 c_a_2 c_a_3 c_a_4 c_a_5 f_a s_a c_b_0 c_b_1 c_b_2 c_b_3 c_b_4 c_b_5 f_b s_b c_t_0 c_t_1 c_t_2 f_t s_t c_c_0 c_c_1 c_c_2 c_c_3 c_c_4 c_c_5 f_c s_c c_d_0 c_d_1 c_d_2 c_d_3 c_d_4 c_d_5 f_d s_d c_u_0 c_u_1 c_u_2 f_u s_u c_v_0 c_v_1 c_v_2 c_v_3 c_v_4 c_v_5 f_v s_v k_a_7 k_b_7 k_t_7 k_c_7 k_d_7 k_u_7 k_v_7 hw_7
  have c_a_0 := cell_of_blk k_a_8 0
  have c_a_1 := cell_of_blk k_a_8 1
  have c_a_2 := cell_of_blk k_a_8 2
  have c_a_3 := cell_of_blk k_a_8 3
  have c_a_4 := cell_of_blk k_a_8 4
  have c_a_5 := cell_of_blk k_a_8 5
  simp only [List.getElem?_toArray, List.getElem?_cons_zero, List.getElem?_cons_succ] at c_a_0 c_a_1 c_a_2 c_a_3 c_a_4 c_a_5
  have f_a := frozen_of_blk k_a_8
  have s_a := blk_lt k_a_8
  have c_d_0 := cell_of_blk k_d_8 0
  have c_d_1 := cell_of_blk k_d_8 1
  have c_d_2 := cell_of_blk k_d_8 2
  have c_d_3 := cell_of_blk k_d_8 3
  have c_d_4 := cell_of_blk k_d_8 4
  have c_d_5 := cell_of_blk k_d_8 5
  simp only [List.getElem?_toArray, List.getElem?_cons_zero, List.getElem?_cons_succ] at c_d_0 c_d_1 c_d_2 c_d_3 c_d_4 c_d_5
  have f_d := frozen_of_blk k_d_8
  have s_d := blk_lt k_d_8
  have hS0 := And.intro c_a_0 (And.intro c_a_1 (And.intro c_a_2 (And.intro c_a_3 (And.intro c_a_4 (And.intro c_a_5 (And.intro c_d_0 (And.intro c_d_1 (And.intro c_d_2 (And.intro c_d_3 (And.intro c_d_4 (And.intro c_d_5 hw_8)))))))))))
  clear c_a_0 c_a_1 c_a_2 c_a_3 c_a_4 c_a_5 c_d_0 c_d_1 c_d_2 c_d_3 c_d_4 c_d_5 f_a s_a f_d s_d
  go_region_held3 (fun w' => w'.cell? ⟨w.heap.size, 0, none⟩ = some (.int .i64 A.1) ∧ w'.cell? ⟨w.heap.size, 1, none⟩ = some (.int .i64 A.2.1) ∧ w'.cell? ⟨w.heap.size, 2, none⟩ = some (.int .i64 A.2.2.1) ∧ w'.cell? ⟨w.heap.size, 3, none⟩ = some (.int .i64 A.2.2.2.1) ∧ w'.cell? ⟨w.heap.size, 4, none⟩ = some (.int .i64 A.2.2.2.2.1) ∧ w'.cell? ⟨w.heap.size, 5, none⟩ = some (.int .i64 A.2.2.2.2.2) ∧ w'.cell? ⟨w2.heap.size, 0, none⟩ = some (.int .i64 D.1) ∧ w'.cell? ⟨w2.heap.size, 1, none⟩ = some (.int .i64 D.2.1) ∧ w'.cell? ⟨w2.heap.size, 2, none⟩ = some (.int .i64 D.2.2.1) ∧ w'.cell? ⟨w2.heap.size, 3, none⟩ = some (.int .i64 D.2.2.2.1) ∧ w'.cell? ⟨w2.heap.size, 4, none⟩ = some (.int .i64 D.2.2.2.2.1) ∧ w'.cell? ⟨w2.heap.size, 5, none⟩ = some (.int .i64 D.2.2.2.2.2) ∧ Below w.heap.size w w')
    (first
      | with_reducible exact hS0
      | (go_split_ands; with_reducible exact ⟨stay_c ‹_› hbc (Nat.le_refl _), stay_c ‹_› hbc (Nat.le_refl _), stay_c ‹_› hbc (Nat.le_refl _), stay_c ‹_› hbc (Nat.le_refl _), stay_c ‹_› hbc (Nat.le_refl _), stay_c ‹_› hbc (Nat.le_refl _), stay_c ‹_› hbc (Nat.le_refl _), stay_c ‹_› hbc (Nat.le_refl _), stay_c ‹_› hbc (Nat.le_refl _), stay_c ‹_› hbc (Nat.le_refl _), stay_c ‹_› hbc (Nat.le_refl _), stay_c ‹_› hbc (Nat.le_refl _), stay_b ‹_› hbc⟩))
    (((with_reducible refine (HB2.out _).mono ?_); rintro e wz ⟨he, hbc⟩; subst he; have ja := blk_below k_a_8 hbc (blk_lt k_a_8); have jt := blk_below k_t_8 hbc (blk_lt k_t_8); have ju := blk_below k_u_8 hbc (blk_lt k_u_8)))
  rename_i hH
  obtain ⟨_, _, _, _, _, _, _, _, _, _, _, _, hw_30⟩ := hH
  clear hS0 k_a_8 k_b_8 k_t_8 k_c_8 k_d_8 k_u_8 k_v_8 hs_8 hw_8
  have k_a_30 := ja
  clear ja
  have k_t_30 := jt
  clear jt
  have k_u_30 := ju
  clear ju
  have c_a_0 := cell_of_blk k_a_30 0
  have c_a_1 := cell_of_blk k_a_30 1
  have c_a_2 := cell_of_blk k_a_30 2
  have c_a_3 := cell_of_blk k_a_30 3
  have c_a_4 := cell_of_blk k_a_30 4
  have c_a_5 := cell_of_blk k_a_30 5
  simp only [List.getElem?_toArray, List.getElem?_cons_zero, List.getElem?_cons_succ] at c_a_0 c_a_1 c_a_2 c_a_3 c_a_4 c_a_5
  have f_a := frozen_of_blk k_a_30
  have s_a := blk_lt k_a_30
  have c_t_0 := cell_of_blk k_t_30 0
  have c_t_1 := cell_of_blk k_t_30 1
  have c_t_2 := cell_of_blk k_t_30 2
  simp only [List.getElem?_toArray, List.getElem?_cons_zero, List.getElem?_cons_succ] at c_t_0 c_t_1 c_t_2
  have f_t := frozen_of_blk k_t_30
  have s_t := blk_lt k_t_30
  have c_u_0 := cell_of_blk k_u_30 0
  have c_u_1 := cell_of_blk k_u_30 1
  have c_u_2 := cell_of_blk k_u_30 2
  simp only [List.getElem?_toArray, List.getElem?_cons_zero, List.getElem?_cons_succ] at c_u_0 c_u_1 c_u_2
  have f_u := frozen_of_blk k_u_30
  have s_u := blk_lt k_u_30
  go_wp2_with fail
  refine (refTri_any x y k _).mono ?_
  rintro e w31 ⟨rfl, hb31⟩
  rw [HT.out]
  have k_a_31 : w31.heap[w.heap.size]? = some (.cells #[.int .i64 (A.1), .int .i64 (A.2.1), .int .i64 (A.2.2.1), .int .i64 (A.2.2.2.1), .int .i64 (A.2.2.2.2.1), .int .i64 (A.2.2.2.2.2)] 51 (0, 0)) := blk_below k_a_30 hb31 (blk_lt k_a_30)
  have k_t_31 : w31.heap[w.heap.size + 1 + 1]? = some (.cells #[.int .i64 x, .int .i64 y, .int .i64 k] 23 (0, 0)) := blk_below k_t_30 hb31 (blk_lt k_t_30)
  have k_u_31 : w31.heap[w3.heap.size]? = some (.cells #[.int .i64 0, .int .i64 0, .int .i64 0] 23 (0, 0)) := blk_below k_u_30 hb31 (blk_lt k_u_30)
  have hw_31 : Below w.heap.size w w31 := stay_b hw_30 hb31
  clear c_a_0 c_a_1 c_a_2 c_a_3 c_a_4 c_a_5 f_a s_a c_t_0 c_t_1 c_t_2 f_t s_t c_u_0 c_u_1 c_u_2 f_u s_u k_a_30 k_t_30 k_u_30 hb31 hw_30
  have c_a_0 := cell_of_blk k_a_31 0
  have c_a_1 := cell_of_blk k_a_31 1
  have c_a_2 := cell_of_blk k_a_31 2
  have c_a_3 := cell_of_blk k_a_31 3
  have c_a_4 := cell_of_blk k_a_31 4
  have c_a_5 := cell_of_blk k_a_31 5
  simp only [List.getElem?_toArray, List.getElem?_cons_zero, List.getElem?_cons_succ] at c_a_0 c_a_1 c_a_2 c_a_3 c_a_4 c_a_5
  have f_a := frozen_of_blk k_a_31
  have s_a := blk_lt k_a_31
  have c_t_0 := cell_of_blk k_t_31 0
  have c_t_1 := cell_of_blk k_t_31 1
  have c_t_2 := cell_of_blk k_t_31 2
  simp only [List.getElem?_toArray, List.getElem?_cons_zero, List.getElem?_cons_succ] at c_t_0 c_t_1 c_t_2
  have f_t := frozen_of_blk k_t_31
  have s_t := blk_lt k_t_31
  have c_u_0 := cell_of_blk k_u_31 0
  have c_u_1 := cell_of_blk k_u_31 1
  have c_u_2 := cell_of_blk k_u_31 2
  simp only [List.getElem?_toArray, List.getElem?_cons_zero, List.getElem?_cons_succ] at c_u_0 c_u_1 c_u_2
  have f_u := frozen_of_blk k_u_31
  have s_u := blk_lt k_u_31
  go_wp2_with fail
  refine (MO.out _).mono ?_
  rintro e w32 ⟨rfl, hb32⟩
  have k_a_32 : w32.heap[w.heap.size]? = some (.cells #[.int .i64 (A.1), .int .i64 (A.2.1), .int .i64 (A.2.2.1), .int .i64 (A.2.2.2.1), .int .i64 (A.2.2.2.2.1), .int .i64 (A.2.2.2.2.2)] 51 (0, 0)) := blk_below k_a_31 hb32 (blk_lt k_a_31)
  have k_t_32 : w32.heap[w.heap.size + 1 + 1]? = some (.cells #[.int .i64 x, .int .i64 y, .int .i64 k] 23 (0, 0)) := blk_below k_t_31 hb32 (blk_lt k_t_31)
  have k_u_32 : w32.heap[w3.heap.size]? = some (.cells #[.int .i64 0, .int .i64 0, .int .i64 0] 23 (0, 0)) := blk_below k_u_31 hb32 (blk_lt k_u_31)
  have hw_32 : Below w.heap.size w w32 := stay_b hw_31 hb32
  clear c_a_0 c_a_1 c_a_2 c_a_3 c_a_4 c_a_5 f_a s_a c_t_0 c_t_1 c_t_2 f_t s_t c_u_0 c_u_1 c_u_2 f_u s_u k_a_31 k_t_31 k_u_31 hb32 hw_31
  have c_a_0 := cell_of_blk k_a_32 0
  have c_a_1 := cell_of_blk k_a_32 1
  have c_a_2 := cell_of_blk k_a_32 2
  have c_a_3 := cell_of_blk k_a_32 3
  have c_a_4 := cell_of_blk k_a_32 4
  have c_a_5 := cell_of_blk k_a_32 5
  simp only [List.getElem?_toArray, List.getElem?_cons_zero, List.getElem?_cons_succ] at c_a_0 c_a_1 c_a_2 c_a_3 c_a_4 c_a_5
  have f_a := frozen_of_blk k_a_32
  have s_a := blk_lt k_a_32
  have c_t_0 := cell_of_blk k_t_32 0
  have c_t_1 := cell_of_blk k_t_32 1
  have c_t_2 := cell_of_blk k_t_32 2
  simp only [List.getElem?_toArray, List.getElem?_cons_zero, List.getElem?_cons_succ] at c_t_0 c_t_1 c_t_2
  have f_t := frozen_of_blk k_t_32
  have s_t := blk_lt k_t_32
  have c_u_0 := cell_of_blk k_u_32 0
  have c_u_1 := cell_of_blk k_u_32 1
  have c_u_2 := cell_of_blk k_u_32 2
  simp only [List.getElem?_toArray, List.getElem?_cons_zero, List.getElem?_cons_succ] at c_u_0 c_u_1 c_u_2
  have f_u := frozen_of_blk k_u_32
  have s_u := blk_lt k_u_32
  go_wp2_with fail
  refine (refTri_any T.1 T.2.1 T.2.2 _).mono ?_
  rintro e w33 ⟨rfl, hb33⟩
  rw [HM.out]
  have k_a_33 : w33.heap[w.heap.size]? = some (.cells #[.int .i64 (A.1), .int .i64 (A.2.1), .int .i64 (A.2.2.1), .int .i64 (A.2.2.2.1), .int .i64 (A.2.2.2.2.1), .int .i64 (A.2.2.2.2.2)] 51 (0, 0)) := blk_below (blk_alloc k_a_32 _) hb33 (blk_lt (blk_alloc k_a_32 _))
  have k_t_33 : w33.heap[w.heap.size + 1 + 1]? = some (.cells #[.int .i64 x, .int .i64 y, .int .i64 k] 23 (0, 0)) := blk_below (blk_alloc k_t_32 _) hb33 (blk_lt (blk_alloc k_t_32 _))
  have k_u_33 : w33.heap[w3.heap.size]? = some (.cells #[.int .i64 0, .int .i64 0, .int .i64 0] 23 (0, 0)) := blk_below (blk_alloc k_u_32 _) hb33 (blk_lt (blk_alloc k_u_32 _))
  have k_q_33 : w33.heap[w32.heap.size]? = some (.cells #[.int .i64 (T.1), .int .i64 (T.2.1), .int .i64 (T.2.2)] 23 (0, 0)) := blk_below (new_blk (.cells #[.int .i64 (T.1), .int .i64 (T.2.1), .int .i64 (T.2.2)] 23) (by first | rfl | (simp; done) | (simp; omega))) hb33 (by first | (simp; done) | (simp; omega))
  have hw_33 : Below w.heap.size w w33 := stay_b (ba hw_32 _) hb33
  clear c_a_0 c_a_1 c_a_2 c_a_3 c_a_4 c_a_5 f_a s_a c_t_0 c_t_1 c_t_2 f_t s_t c_u_0 c_u_1 c_u_2 f_u s_u k_a_32 k_t_32 k_u_32 hb33 hw_32
  have c_a_0 := cell_of_blk k_a_33 0
  have c_a_1 := cell_of_blk k_a_33 1
  have c_a_2 := cell_of_blk k_a_33 2
  have c_a_3 := cell_of_blk k_a_33 3
  have c_a_4 := cell_of_blk k_a_33 4
  have c_a_5 := cell_of_blk k_a_33 5
  simp only [List.getElem?_toArray, List.getElem?_cons_zero, List.getElem?_cons_succ] at c_a_0 c_a_1 c_a_2 c_a_3 c_a_4 c_a_5
  have f_a := frozen_of_blk k_a_33
  have s_a := blk_lt k_a_33
  have c_t_0 := cell_of_blk k_t_33 0
  have c_t_1 := cell_of_blk k_t_33 1
  have c_t_2 := cell_of_blk k_t_33 2
  simp only [List.getElem?_toArray, List.getElem?_cons_zero, List.getElem?_cons_succ] at c_t_0 c_t_1 c_t_2
  have f_t := frozen_of_blk k_t_33
  have s_t := blk_lt k_t_33
  have c_u_0 := cell_of_blk k_u_33 0
  have c_u_1 := cell_of_blk k_u_33 1
  have c_u_2 := cell_of_blk k_u_33 2
  simp only [List.getElem?_toArray, List.getElem?_cons_zero, List.getElem?_cons_succ] at c_u_0 c_u_1 c_u_2
  have f_u := frozen_of_blk k_u_33
  have s_u := blk_lt k_u_33
  have c_q_0 := cell_of_blk k_q_33 0
  have c_q_1 := cell_of_blk k_q_33 1
  have c_q_2 := cell_of_blk k_q_33 2
  simp only [List.getElem?_toArray, List.getElem?_cons_zero, List.getElem?_cons_succ] at c_q_0 c_q_1 c_q_2
  have f_q := frozen_of_blk k_q_33
  have s_q := blk_lt k_q_33
  go_wp2
  go_ret
  exact ⟨rfl, hw_33⟩
set_option maxRecDepth 100000 in
set_option maxHeartbeats 6400000 in
theorem maps_ok_ok (A B : V6) (x y k : Int) (w : World) (hs : Steps w) (ha : mapMayB A = true) (hb : mapMayB B = true) (hv : mapMayB (afterV A B) = true) (ht : triMayB x y k = true) (hm : triMayB (moveV A x y k).1 (moveV A x y k).2.1 (moveV A x y k).2.2 = true) :
    Calls Tryd.prog 5 #[aggM A, aggM B, aggT x y k] w fun e w' => e = .returned (.bool true) ∧ Below w.heap.size w w' := by
  obtain ⟨D, hD⟩ : ∃ z : V6, z = backV A := ⟨_, rfl⟩
  have hb1 := fun w => gback_ok A w ha (back_may ha)
  have hb2 := fun w => backOf_any A w ha
  simp only [← hD] at hb1 hb2
  have HB1 := Lib.hid hb1
  have HB2 := Lib.hid hb2
  clear hb1 hb2 hD
  have ga := fun w => gafter_ok A B w ha hb hv
  have ao := fun w => afterOf_V A B w (may_sm ha) (may_sm hb)
  obtain ⟨V, hV⟩ : ∃ z : V6, z = afterV A B := ⟨_, rfl⟩
  simp only [← hV] at ga ao hv
  have GA := Lib.hid ga
  have AO := Lib.hid ao
  have HV := Lib.hid hv
  clear ga ao hv hV
  have gm := fun w hs => gmove_ok A x y k w hs ha ht hm
  have mo := fun w => moveOf_V A x y k w ha ht
  obtain ⟨T, hT⟩ : ∃ z : T3, z = moveV A x y k := ⟨_, rfl⟩
  simp only [← hT] at gm mo hm
  have GM := Lib.hid gm
  have MO := Lib.hid mo
  have HM := Lib.hid hm
  clear gm mo hm hT
  have HA := Lib.hid ha
  have HB := Lib.hid hb
  have HT := Lib.hid ht
  clear ha hb ht
  have r1 : ∀ w : World, (binOp .neq 51 (.agg #[.int .i64 (V.1), .int .i64 (V.2.1), .int .i64 (V.2.2.1), .int .i64 (V.2.2.2.1), .int .i64 (V.2.2.2.2.1), .int .i64 (V.2.2.2.2.2)]) (.agg #[.int .i64 (V.1), .int .i64 (V.2.1), .int .i64 (V.2.2.1), .int .i64 (V.2.2.2.1), .int .i64 (V.2.2.2.2.1), .int .i64 (V.2.2.2.2.2)])).run Tryd.prog w = .ok (.bool false) w := fun w => by rw [neM]; simp [eqL]
  have r2 : ∀ w : World, (binOp .eql 23 (.agg #[.int .i64 (T.1), .int .i64 (T.2.1), .int .i64 (T.2.2)]) (.agg #[.int .i64 (T.1), .int .i64 (T.2.1), .int .i64 (T.2.2)])).run Tryd.prog w = .ok (.bool true) w := fun w => by rw [eqT]; simp [eqL]
  have r3 : ∀ w : World, (binOp .neq 51 (.agg #[.int .i64 (D.1), .int .i64 (D.2.1), .int .i64 (D.2.2.1), .int .i64 (D.2.2.2.1), .int .i64 (D.2.2.2.2.1), .int .i64 (D.2.2.2.2.2)]) (.agg #[.int .i64 (D.1), .int .i64 (D.2.1), .int .i64 (D.2.2.1), .int .i64 (D.2.2.2.1), .int .i64 (D.2.2.2.2.1), .int .i64 (D.2.2.2.2.2)])).run Tryd.prog w = .ok (.bool false) w := fun w => by rw [neM]; simp [eqL]
  go_enter Tryd.func5, Tryd.ntmps5
  go_wp2_with fail
  refine (GA.out _).mono ?_
  rintro e w1 ⟨rfl, hb1⟩
  have k_a_1 : w1.heap[w.heap.size]? = some (.cells #[.int .i64 (A.1), .int .i64 (A.2.1), .int .i64 (A.2.2.1), .int .i64 (A.2.2.2.1), .int .i64 (A.2.2.2.2.1), .int .i64 (A.2.2.2.2.2)] 51 (0, 0)) := blk_below (blk_alloc (blk_alloc (new_blk (.cells #[.int .i64 (A.1), .int .i64 (A.2.1), .int .i64 (A.2.2.1), .int .i64 (A.2.2.2.1), .int .i64 (A.2.2.2.2.1), .int .i64 (A.2.2.2.2.2)] 51) (by first | rfl | (simp; done) | (simp; omega))) _) _) hb1 (by first | (simp; done) | (simp; omega))
  have k_b_1 : w1.heap[w.heap.size + 1]? = some (.cells #[.int .i64 (B.1), .int .i64 (B.2.1), .int .i64 (B.2.2.1), .int .i64 (B.2.2.2.1), .int .i64 (B.2.2.2.2.1), .int .i64 (B.2.2.2.2.2)] 51 (0, 0)) := blk_below (blk_alloc (new_blk (.cells #[.int .i64 (B.1), .int .i64 (B.2.1), .int .i64 (B.2.2.1), .int .i64 (B.2.2.2.1), .int .i64 (B.2.2.2.2.1), .int .i64 (B.2.2.2.2.2)] 51) (by first | rfl | (simp; done) | (simp; omega))) _) hb1 (by first | (simp; done) | (simp; omega))
  have k_t_1 : w1.heap[w.heap.size + 1 + 1]? = some (.cells #[.int .i64 x, .int .i64 y, .int .i64 k] 23 (0, 0)) := blk_below (new_blk (.cells #[.int .i64 x, .int .i64 y, .int .i64 k] 23) (by first | rfl | (simp; done) | (simp; omega))) hb1 (by first | (simp; done) | (simp; omega))
  have hw_1 : Below w.heap.size w w1 := stay_b (ba (ba (ba (Below.refl _ _) _) _) _) hb1
  have hs_1 := (((hs.alloc _).alloc _).alloc _).below hb1
  clear hb1
  have c_a_0 := cell_of_blk k_a_1 0
  have c_a_1 := cell_of_blk k_a_1 1
  have c_a_2 := cell_of_blk k_a_1 2
  have c_a_3 := cell_of_blk k_a_1 3
  have c_a_4 := cell_of_blk k_a_1 4
  have c_a_5 := cell_of_blk k_a_1 5
  simp only [List.getElem?_toArray, List.getElem?_cons_zero, List.getElem?_cons_succ] at c_a_0 c_a_1 c_a_2 c_a_3 c_a_4 c_a_5
  have f_a := frozen_of_blk k_a_1
  have s_a := blk_lt k_a_1
  have c_b_0 := cell_of_blk k_b_1 0
  have c_b_1 := cell_of_blk k_b_1 1
  have c_b_2 := cell_of_blk k_b_1 2
  have c_b_3 := cell_of_blk k_b_1 3
  have c_b_4 := cell_of_blk k_b_1 4
  have c_b_5 := cell_of_blk k_b_1 5
  simp only [List.getElem?_toArray, List.getElem?_cons_zero, List.getElem?_cons_succ] at c_b_0 c_b_1 c_b_2 c_b_3 c_b_4 c_b_5
  have f_b := frozen_of_blk k_b_1
  have s_b := blk_lt k_b_1
  have c_t_0 := cell_of_blk k_t_1 0
  have c_t_1 := cell_of_blk k_t_1 1
  have c_t_2 := cell_of_blk k_t_1 2
  simp only [List.getElem?_toArray, List.getElem?_cons_zero, List.getElem?_cons_succ] at c_t_0 c_t_1 c_t_2
  have f_t := frozen_of_blk k_t_1
  have s_t := blk_lt k_t_1
  go_wp2_with fail
  refine (HB1.out _).mono ?_
  rintro e w2 ⟨rfl, hb2⟩
  have k_a_2 : w2.heap[w.heap.size]? = some (.cells #[.int .i64 (A.1), .int .i64 (A.2.1), .int .i64 (A.2.2.1), .int .i64 (A.2.2.2.1), .int .i64 (A.2.2.2.2.1), .int .i64 (A.2.2.2.2.2)] 51 (0, 0)) := blk_below (blk_alloc k_a_1 _) hb2 (blk_lt (blk_alloc k_a_1 _))
  have k_b_2 : w2.heap[w.heap.size + 1]? = some (.cells #[.int .i64 (B.1), .int .i64 (B.2.1), .int .i64 (B.2.2.1), .int .i64 (B.2.2.2.1), .int .i64 (B.2.2.2.2.1), .int .i64 (B.2.2.2.2.2)] 51 (0, 0)) := blk_below (blk_alloc k_b_1 _) hb2 (blk_lt (blk_alloc k_b_1 _))
  have k_t_2 : w2.heap[w.heap.size + 1 + 1]? = some (.cells #[.int .i64 x, .int .i64 y, .int .i64 k] 23 (0, 0)) := blk_below (blk_alloc k_t_1 _) hb2 (blk_lt (blk_alloc k_t_1 _))
  have k_c_2 : w2.heap[w1.heap.size]? = some (.cells #[.int .i64 (V.1), .int .i64 (V.2.1), .int .i64 (V.2.2.1), .int .i64 (V.2.2.2.1), .int .i64 (V.2.2.2.2.1), .int .i64 (V.2.2.2.2.2)] 51 (0, 0)) := blk_below (new_blk (.cells #[.int .i64 (V.1), .int .i64 (V.2.1), .int .i64 (V.2.2.1), .int .i64 (V.2.2.2.1), .int .i64 (V.2.2.2.2.1), .int .i64 (V.2.2.2.2.2)] 51) (by first | rfl | (simp; done) | (simp; omega))) hb2 (by first | (simp; done) | (simp; omega))
  have hw_2 : Below w.heap.size w w2 := stay_b (ba hw_1 _) hb2
  have hs_2 := (hs_1.alloc _).below hb2
  clear c_a_0 c_a_1 c_a_2 c_a_3 c_a_4 c_a_5 f_a s_a c_b_0 c_b_1 c_b_2 c_b_3 c_b_4 c_b_5 f_b s_b c_t_0 c_t_1 c_t_2 f_t s_t k_a_1 k_b_1 k_t_1 hb2 hw_1
  have c_a_0 := cell_of_blk k_a_2 0
  have c_a_1 := cell_of_blk k_a_2 1
  have c_a_2 := cell_of_blk k_a_2 2
  have c_a_3 := cell_of_blk k_a_2 3
  have c_a_4 := cell_of_blk k_a_2 4
  have c_a_5 := cell_of_blk k_a_2 5
  simp only [List.getElem?_toArray, List.getElem?_cons_zero, List.getElem?_cons_succ] at c_a_0 c_a_1 c_a_2 c_a_3 c_a_4 c_a_5
  have f_a := frozen_of_blk k_a_2
  have s_a := blk_lt k_a_2
  have c_b_0 := cell_of_blk k_b_2 0
  have c_b_1 := cell_of_blk k_b_2 1
  have c_b_2 := cell_of_blk k_b_2 2
  have c_b_3 := cell_of_blk k_b_2 3
  have c_b_4 := cell_of_blk k_b_2 4
  have c_b_5 := cell_of_blk k_b_2 5
  simp only [List.getElem?_toArray, List.getElem?_cons_zero, List.getElem?_cons_succ] at c_b_0 c_b_1 c_b_2 c_b_3 c_b_4 c_b_5
  have f_b := frozen_of_blk k_b_2
  have s_b := blk_lt k_b_2
  have c_t_0 := cell_of_blk k_t_2 0
  have c_t_1 := cell_of_blk k_t_2 1
  have c_t_2 := cell_of_blk k_t_2 2
  simp only [List.getElem?_toArray, List.getElem?_cons_zero, List.getElem?_cons_succ] at c_t_0 c_t_1 c_t_2
  have f_t := frozen_of_blk k_t_2
  have s_t := blk_lt k_t_2
  have c_c_0 := cell_of_blk k_c_2 0
  have c_c_1 := cell_of_blk k_c_2 1
  have c_c_2 := cell_of_blk k_c_2 2
  have c_c_3 := cell_of_blk k_c_2 3
  have c_c_4 := cell_of_blk k_c_2 4
  have c_c_5 := cell_of_blk k_c_2 5
  simp only [List.getElem?_toArray, List.getElem?_cons_zero, List.getElem?_cons_succ] at c_c_0 c_c_1 c_c_2 c_c_3 c_c_4 c_c_5
  have f_c := frozen_of_blk k_c_2
  have s_c := blk_lt k_c_2
  go_wp2_with fail
  refine (GM.out _ (hs_2.alloc _)).mono ?_
  rintro e w3 ⟨rfl, hb3⟩
  have k_a_3 : w3.heap[w.heap.size]? = some (.cells #[.int .i64 (A.1), .int .i64 (A.2.1), .int .i64 (A.2.2.1), .int .i64 (A.2.2.2.1), .int .i64 (A.2.2.2.2.1), .int .i64 (A.2.2.2.2.2)] 51 (0, 0)) := blk_below (blk_alloc k_a_2 _) hb3 (blk_lt (blk_alloc k_a_2 _))
  have k_b_3 : w3.heap[w.heap.size + 1]? = some (.cells #[.int .i64 (B.1), .int .i64 (B.2.1), .int .i64 (B.2.2.1), .int .i64 (B.2.2.2.1), .int .i64 (B.2.2.2.2.1), .int .i64 (B.2.2.2.2.2)] 51 (0, 0)) := blk_below (blk_alloc k_b_2 _) hb3 (blk_lt (blk_alloc k_b_2 _))
  have k_t_3 : w3.heap[w.heap.size + 1 + 1]? = some (.cells #[.int .i64 x, .int .i64 y, .int .i64 k] 23 (0, 0)) := blk_below (blk_alloc k_t_2 _) hb3 (blk_lt (blk_alloc k_t_2 _))
  have k_c_3 : w3.heap[w1.heap.size]? = some (.cells #[.int .i64 (V.1), .int .i64 (V.2.1), .int .i64 (V.2.2.1), .int .i64 (V.2.2.2.1), .int .i64 (V.2.2.2.2.1), .int .i64 (V.2.2.2.2.2)] 51 (0, 0)) := blk_below (blk_alloc k_c_2 _) hb3 (blk_lt (blk_alloc k_c_2 _))
  have k_d_3 : w3.heap[w2.heap.size]? = some (.cells #[.int .i64 (D.1), .int .i64 (D.2.1), .int .i64 (D.2.2.1), .int .i64 (D.2.2.2.1), .int .i64 (D.2.2.2.2.1), .int .i64 (D.2.2.2.2.2)] 51 (0, 0)) := blk_below (new_blk (.cells #[.int .i64 (D.1), .int .i64 (D.2.1), .int .i64 (D.2.2.1), .int .i64 (D.2.2.2.1), .int .i64 (D.2.2.2.2.1), .int .i64 (D.2.2.2.2.2)] 51) (by first | rfl | (simp; done) | (simp; omega))) hb3 (by first | (simp; done) | (simp; omega))
  have hw_3 : Below w.heap.size w w3 := stay_b (ba hw_2 _) hb3
  have hs_3 := (hs_2.alloc _).below hb3
  clear c_a_0 c_a_1 c_a_2 c_a_3 c_a_4 c_a_5 f_a s_a c_b_0 c_b_1 c_b_2 c_b_3 c_b_4 c_b_5 f_b s_b c_t_0 c_t_1 c_t_2 f_t s_t c_c_0 c_c_1 c_c_2 c_c_3 c_c_4 c_c_5 f_c s_c k_a_2 k_b_2 k_t_2 k_c_2 hb3 hw_2
  have c_a_0 := cell_of_blk k_a_3 0
  have c_a_1 := cell_of_blk k_a_3 1
  have c_a_2 := cell_of_blk k_a_3 2
  have c_a_3 := cell_of_blk k_a_3 3
  have c_a_4 := cell_of_blk k_a_3 4
  have c_a_5 := cell_of_blk k_a_3 5
  simp only [List.getElem?_toArray, List.getElem?_cons_zero, List.getElem?_cons_succ] at c_a_0 c_a_1 c_a_2 c_a_3 c_a_4 c_a_5
  have f_a := frozen_of_blk k_a_3
  have s_a := blk_lt k_a_3
  have c_b_0 := cell_of_blk k_b_3 0
  have c_b_1 := cell_of_blk k_b_3 1
  have c_b_2 := cell_of_blk k_b_3 2
  have c_b_3 := cell_of_blk k_b_3 3
  have c_b_4 := cell_of_blk k_b_3 4
  have c_b_5 := cell_of_blk k_b_3 5
  simp only [List.getElem?_toArray, List.getElem?_cons_zero, List.getElem?_cons_succ] at c_b_0 c_b_1 c_b_2 c_b_3 c_b_4 c_b_5
  have f_b := frozen_of_blk k_b_3
  have s_b := blk_lt k_b_3
  have c_t_0 := cell_of_blk k_t_3 0
  have c_t_1 := cell_of_blk k_t_3 1
  have c_t_2 := cell_of_blk k_t_3 2
  simp only [List.getElem?_toArray, List.getElem?_cons_zero, List.getElem?_cons_succ] at c_t_0 c_t_1 c_t_2
  have f_t := frozen_of_blk k_t_3
  have s_t := blk_lt k_t_3
  have c_c_0 := cell_of_blk k_c_3 0
  have c_c_1 := cell_of_blk k_c_3 1
  have c_c_2 := cell_of_blk k_c_3 2
  have c_c_3 := cell_of_blk k_c_3 3
  have c_c_4 := cell_of_blk k_c_3 4
  have c_c_5 := cell_of_blk k_c_3 5
  simp only [List.getElem?_toArray, List.getElem?_cons_zero, List.getElem?_cons_succ] at c_c_0 c_c_1 c_c_2 c_c_3 c_c_4 c_c_5
  have f_c := frozen_of_blk k_c_3
  have s_c := blk_lt k_c_3
  have c_d_0 := cell_of_blk k_d_3 0
  have c_d_1 := cell_of_blk k_d_3 1
  have c_d_2 := cell_of_blk k_d_3 2
  have c_d_3 := cell_of_blk k_d_3 3
  have c_d_4 := cell_of_blk k_d_3 4
  have c_d_5 := cell_of_blk k_d_3 5
  simp only [List.getElem?_toArray, List.getElem?_cons_zero, List.getElem?_cons_succ] at c_d_0 c_d_1 c_d_2 c_d_3 c_d_4 c_d_5
  have f_d := frozen_of_blk k_d_3
  have s_d := blk_lt k_d_3
  go_wp2_with fail
  refine (refMap_any A _).mono ?_
  rintro e w4 ⟨rfl, hb4⟩
  rw [HA.out]
  have k_a_4 : w4.heap[w.heap.size]? = some (.cells #[.int .i64 (A.1), .int .i64 (A.2.1), .int .i64 (A.2.2.1), .int .i64 (A.2.2.2.1), .int .i64 (A.2.2.2.2.1), .int .i64 (A.2.2.2.2.2)] 51 (0, 0)) := blk_below (blk_alloc k_a_3 _) hb4 (blk_lt (blk_alloc k_a_3 _))
  have k_b_4 : w4.heap[w.heap.size + 1]? = some (.cells #[.int .i64 (B.1), .int .i64 (B.2.1), .int .i64 (B.2.2.1), .int .i64 (B.2.2.2.1), .int .i64 (B.2.2.2.2.1), .int .i64 (B.2.2.2.2.2)] 51 (0, 0)) := blk_below (blk_alloc k_b_3 _) hb4 (blk_lt (blk_alloc k_b_3 _))
  have k_t_4 : w4.heap[w.heap.size + 1 + 1]? = some (.cells #[.int .i64 x, .int .i64 y, .int .i64 k] 23 (0, 0)) := blk_below (blk_alloc k_t_3 _) hb4 (blk_lt (blk_alloc k_t_3 _))
  have k_c_4 : w4.heap[w1.heap.size]? = some (.cells #[.int .i64 (V.1), .int .i64 (V.2.1), .int .i64 (V.2.2.1), .int .i64 (V.2.2.2.1), .int .i64 (V.2.2.2.2.1), .int .i64 (V.2.2.2.2.2)] 51 (0, 0)) := blk_below (blk_alloc k_c_3 _) hb4 (blk_lt (blk_alloc k_c_3 _))
  have k_d_4 : w4.heap[w2.heap.size]? = some (.cells #[.int .i64 (D.1), .int .i64 (D.2.1), .int .i64 (D.2.2.1), .int .i64 (D.2.2.2.1), .int .i64 (D.2.2.2.2.1), .int .i64 (D.2.2.2.2.2)] 51 (0, 0)) := blk_below (blk_alloc k_d_3 _) hb4 (blk_lt (blk_alloc k_d_3 _))
  have k_u_4 : w4.heap[w3.heap.size]? = some (.cells #[.int .i64 (T.1), .int .i64 (T.2.1), .int .i64 (T.2.2)] 23 (0, 0)) := blk_below (new_blk (.cells #[.int .i64 (T.1), .int .i64 (T.2.1), .int .i64 (T.2.2)] 23) (by first | rfl | (simp; done) | (simp; omega))) hb4 (by first | (simp; done) | (simp; omega))
  have hw_4 : Below w.heap.size w w4 := stay_b (ba hw_3 _) hb4
  have hs_4 := (hs_3.alloc _).below hb4
  clear c_a_0 c_a_1 c_a_2 c_a_3 c_a_4 c_a_5 f_a s_a c_b_0 c_b_1 c_b_2 c_b_3 c_b_4 c_b_5 f_b s_b c_t_0 c_t_1 c_t_2 f_t s_t c_c_0 c_c_1 c_c_2 c_c_3 c_c_4 c_c_5 f_c s_c c_d_0 c_d_1 c_d_2 c_d_3 c_d_4 c_d_5 f_d s_d k_a_3 k_b_3 k_t_3 k_c_3 k_d_3 hb4 hw_3
  have c_a_0 := cell_of_blk k_a_4 0
  have c_a_1 := cell_of_blk k_a_4 1
  have c_a_2 := cell_of_blk k_a_4 2
  have c_a_3 := cell_of_blk k_a_4 3
  have c_a_4 := cell_of_blk k_a_4 4
  have c_a_5 := cell_of_blk k_a_4 5
  simp only [List.getElem?_toArray, List.getElem?_cons_zero, List.getElem?_cons_succ] at c_a_0 c_a_1 c_a_2 c_a_3 c_a_4 c_a_5
  have f_a := frozen_of_blk k_a_4
  have s_a := blk_lt k_a_4
  have c_b_0 := cell_of_blk k_b_4 0
  have c_b_1 := cell_of_blk k_b_4 1
  have c_b_2 := cell_of_blk k_b_4 2
  have c_b_3 := cell_of_blk k_b_4 3
  have c_b_4 := cell_of_blk k_b_4 4
  have c_b_5 := cell_of_blk k_b_4 5
  simp only [List.getElem?_toArray, List.getElem?_cons_zero, List.getElem?_cons_succ] at c_b_0 c_b_1 c_b_2 c_b_3 c_b_4 c_b_5
  have f_b := frozen_of_blk k_b_4
  have s_b := blk_lt k_b_4
  have c_t_0 := cell_of_blk k_t_4 0
  have c_t_1 := cell_of_blk k_t_4 1
  have c_t_2 := cell_of_blk k_t_4 2
  simp only [List.getElem?_toArray, List.getElem?_cons_zero, List.getElem?_cons_succ] at c_t_0 c_t_1 c_t_2
  have f_t := frozen_of_blk k_t_4
  have s_t := blk_lt k_t_4
  have c_c_0 := cell_of_blk k_c_4 0
  have c_c_1 := cell_of_blk k_c_4 1
  have c_c_2 := cell_of_blk k_c_4 2
  have c_c_3 := cell_of_blk k_c_4 3
  have c_c_4 := cell_of_blk k_c_4 4
  have c_c_5 := cell_of_blk k_c_4 5
  simp only [List.getElem?_toArray, List.getElem?_cons_zero, List.getElem?_cons_succ] at c_c_0 c_c_1 c_c_2 c_c_3 c_c_4 c_c_5
  have f_c := frozen_of_blk k_c_4
  have s_c := blk_lt k_c_4
  have c_d_0 := cell_of_blk k_d_4 0
  have c_d_1 := cell_of_blk k_d_4 1
  have c_d_2 := cell_of_blk k_d_4 2
  have c_d_3 := cell_of_blk k_d_4 3
  have c_d_4 := cell_of_blk k_d_4 4
  have c_d_5 := cell_of_blk k_d_4 5
  simp only [List.getElem?_toArray, List.getElem?_cons_zero, List.getElem?_cons_succ] at c_d_0 c_d_1 c_d_2 c_d_3 c_d_4 c_d_5
  have f_d := frozen_of_blk k_d_4
  have s_d := blk_lt k_d_4
  have c_u_0 := cell_of_blk k_u_4 0
  have c_u_1 := cell_of_blk k_u_4 1
  have c_u_2 := cell_of_blk k_u_4 2
  simp only [List.getElem?_toArray, List.getElem?_cons_zero, List.getElem?_cons_succ] at c_u_0 c_u_1 c_u_2
  have f_u := frozen_of_blk k_u_4
  have s_u := blk_lt k_u_4
  go_wp2_with fail
  refine (refMap_any B _).mono ?_
  rintro e w5 ⟨rfl, hb5⟩
  rw [HB.out]
  have k_a_5 : w5.heap[w.heap.size]? = some (.cells #[.int .i64 (A.1), .int .i64 (A.2.1), .int .i64 (A.2.2.1), .int .i64 (A.2.2.2.1), .int .i64 (A.2.2.2.2.1), .int .i64 (A.2.2.2.2.2)] 51 (0, 0)) := blk_below k_a_4 hb5 (blk_lt k_a_4)
  have k_b_5 : w5.heap[w.heap.size + 1]? = some (.cells #[.int .i64 (B.1), .int .i64 (B.2.1), .int .i64 (B.2.2.1), .int .i64 (B.2.2.2.1), .int .i64 (B.2.2.2.2.1), .int .i64 (B.2.2.2.2.2)] 51 (0, 0)) := blk_below k_b_4 hb5 (blk_lt k_b_4)
  have k_t_5 : w5.heap[w.heap.size + 1 + 1]? = some (.cells #[.int .i64 x, .int .i64 y, .int .i64 k] 23 (0, 0)) := blk_below k_t_4 hb5 (blk_lt k_t_4)
  have k_c_5 : w5.heap[w1.heap.size]? = some (.cells #[.int .i64 (V.1), .int .i64 (V.2.1), .int .i64 (V.2.2.1), .int .i64 (V.2.2.2.1), .int .i64 (V.2.2.2.2.1), .int .i64 (V.2.2.2.2.2)] 51 (0, 0)) := blk_below k_c_4 hb5 (blk_lt k_c_4)
  have k_d_5 : w5.heap[w2.heap.size]? = some (.cells #[.int .i64 (D.1), .int .i64 (D.2.1), .int .i64 (D.2.2.1), .int .i64 (D.2.2.2.1), .int .i64 (D.2.2.2.2.1), .int .i64 (D.2.2.2.2.2)] 51 (0, 0)) := blk_below k_d_4 hb5 (blk_lt k_d_4)
  have k_u_5 : w5.heap[w3.heap.size]? = some (.cells #[.int .i64 (T.1), .int .i64 (T.2.1), .int .i64 (T.2.2)] 23 (0, 0)) := blk_below k_u_4 hb5 (blk_lt k_u_4)
  have hw_5 : Below w.heap.size w w5 := stay_b hw_4 hb5
  have hs_5 := hs_4.below hb5
  clear c_a_0 c_a_1 c_a_2 c_a_3 c_a_4 c_a_5 f_a s_a c_b_0 c_b_1 c_b_2 c_b_3 c_b_4 c_b_5 f_b s_b c_t_0 c_t_1 c_t_2 f_t s_t c_c_0 c_c_1 c_c_2 c_c_3 c_c_4 c_c_5 f_c s_c c_d_0 c_d_1 c_d_2 c_d_3 c_d_4 c_d_5 f_d s_d c_u_0 c_u_1 c_u_2 f_u s_u k_a_4 k_b_4 k_t_4 k_c_4 k_d_4 k_u_4 hb5 hw_4
  have c_a_0 := cell_of_blk k_a_5 0
  have c_a_1 := cell_of_blk k_a_5 1
  have c_a_2 := cell_of_blk k_a_5 2
  have c_a_3 := cell_of_blk k_a_5 3
  have c_a_4 := cell_of_blk k_a_5 4
  have c_a_5 := cell_of_blk k_a_5 5
  simp only [List.getElem?_toArray, List.getElem?_cons_zero, List.getElem?_cons_succ] at c_a_0 c_a_1 c_a_2 c_a_3 c_a_4 c_a_5
  have f_a := frozen_of_blk k_a_5
  have s_a := blk_lt k_a_5
  have c_b_0 := cell_of_blk k_b_5 0
  have c_b_1 := cell_of_blk k_b_5 1
  have c_b_2 := cell_of_blk k_b_5 2
  have c_b_3 := cell_of_blk k_b_5 3
  have c_b_4 := cell_of_blk k_b_5 4
  have c_b_5 := cell_of_blk k_b_5 5
  simp only [List.getElem?_toArray, List.getElem?_cons_zero, List.getElem?_cons_succ] at c_b_0 c_b_1 c_b_2 c_b_3 c_b_4 c_b_5
  have f_b := frozen_of_blk k_b_5
  have s_b := blk_lt k_b_5
  have c_t_0 := cell_of_blk k_t_5 0
  have c_t_1 := cell_of_blk k_t_5 1
  have c_t_2 := cell_of_blk k_t_5 2
  simp only [List.getElem?_toArray, List.getElem?_cons_zero, List.getElem?_cons_succ] at c_t_0 c_t_1 c_t_2
  have f_t := frozen_of_blk k_t_5
  have s_t := blk_lt k_t_5
  have c_c_0 := cell_of_blk k_c_5 0
  have c_c_1 := cell_of_blk k_c_5 1
  have c_c_2 := cell_of_blk k_c_5 2
  have c_c_3 := cell_of_blk k_c_5 3
  have c_c_4 := cell_of_blk k_c_5 4
  have c_c_5 := cell_of_blk k_c_5 5
  simp only [List.getElem?_toArray, List.getElem?_cons_zero, List.getElem?_cons_succ] at c_c_0 c_c_1 c_c_2 c_c_3 c_c_4 c_c_5
  have f_c := frozen_of_blk k_c_5
  have s_c := blk_lt k_c_5
  have c_d_0 := cell_of_blk k_d_5 0
  have c_d_1 := cell_of_blk k_d_5 1
  have c_d_2 := cell_of_blk k_d_5 2
  have c_d_3 := cell_of_blk k_d_5 3
  have c_d_4 := cell_of_blk k_d_5 4
  have c_d_5 := cell_of_blk k_d_5 5
  simp only [List.getElem?_toArray, List.getElem?_cons_zero, List.getElem?_cons_succ] at c_d_0 c_d_1 c_d_2 c_d_3 c_d_4 c_d_5
  have f_d := frozen_of_blk k_d_5
  have s_d := blk_lt k_d_5
  have c_u_0 := cell_of_blk k_u_5 0
  have c_u_1 := cell_of_blk k_u_5 1
  have c_u_2 := cell_of_blk k_u_5 2
  simp only [List.getElem?_toArray, List.getElem?_cons_zero, List.getElem?_cons_succ] at c_u_0 c_u_1 c_u_2
  have f_u := frozen_of_blk k_u_5
  have s_u := blk_lt k_u_5
  go_wp2_with fail
  refine (AO.out _).mono ?_
  rintro e w6 ⟨rfl, hb6⟩
  have k_a_6 : w6.heap[w.heap.size]? = some (.cells #[.int .i64 (A.1), .int .i64 (A.2.1), .int .i64 (A.2.2.1), .int .i64 (A.2.2.2.1), .int .i64 (A.2.2.2.2.1), .int .i64 (A.2.2.2.2.2)] 51 (0, 0)) := blk_below k_a_5 hb6 (blk_lt k_a_5)
  have k_b_6 : w6.heap[w.heap.size + 1]? = some (.cells #[.int .i64 (B.1), .int .i64 (B.2.1), .int .i64 (B.2.2.1), .int .i64 (B.2.2.2.1), .int .i64 (B.2.2.2.2.1), .int .i64 (B.2.2.2.2.2)] 51 (0, 0)) := blk_below k_b_5 hb6 (blk_lt k_b_5)
  have k_t_6 : w6.heap[w.heap.size + 1 + 1]? = some (.cells #[.int .i64 x, .int .i64 y, .int .i64 k] 23 (0, 0)) := blk_below k_t_5 hb6 (blk_lt k_t_5)
  have k_c_6 : w6.heap[w1.heap.size]? = some (.cells #[.int .i64 (V.1), .int .i64 (V.2.1), .int .i64 (V.2.2.1), .int .i64 (V.2.2.2.1), .int .i64 (V.2.2.2.2.1), .int .i64 (V.2.2.2.2.2)] 51 (0, 0)) := blk_below k_c_5 hb6 (blk_lt k_c_5)
  have k_d_6 : w6.heap[w2.heap.size]? = some (.cells #[.int .i64 (D.1), .int .i64 (D.2.1), .int .i64 (D.2.2.1), .int .i64 (D.2.2.2.1), .int .i64 (D.2.2.2.2.1), .int .i64 (D.2.2.2.2.2)] 51 (0, 0)) := blk_below k_d_5 hb6 (blk_lt k_d_5)
  have k_u_6 : w6.heap[w3.heap.size]? = some (.cells #[.int .i64 (T.1), .int .i64 (T.2.1), .int .i64 (T.2.2)] 23 (0, 0)) := blk_below k_u_5 hb6 (blk_lt k_u_5)
  have hw_6 : Below w.heap.size w w6 := stay_b hw_5 hb6
  have hs_6 := hs_5.below hb6
  clear c_a_0 c_a_1 c_a_2 c_a_3 c_a_4 c_a_5 f_a s_a c_b_0 c_b_1 c_b_2 c_b_3 c_b_4 c_b_5 f_b s_b c_t_0 c_t_1 c_t_2 f_t s_t c_c_0 c_c_1 c_c_2 c_c_3 c_c_4 c_c_5 f_c s_c c_d_0 c_d_1 c_d_2 c_d_3 c_d_4 c_d_5 f_d s_d c_u_0 c_u_1 c_u_2 f_u s_u k_a_5 k_b_5 k_t_5 k_c_5 k_d_5 k_u_5 hb6 hw_5
  have c_a_0 := cell_of_blk k_a_6 0
  have c_a_1 := cell_of_blk k_a_6 1
  have c_a_2 := cell_of_blk k_a_6 2
  have c_a_3 := cell_of_blk k_a_6 3
  have c_a_4 := cell_of_blk k_a_6 4
  have c_a_5 := cell_of_blk k_a_6 5
  simp only [List.getElem?_toArray, List.getElem?_cons_zero, List.getElem?_cons_succ] at c_a_0 c_a_1 c_a_2 c_a_3 c_a_4 c_a_5
  have f_a := frozen_of_blk k_a_6
  have s_a := blk_lt k_a_6
  have c_b_0 := cell_of_blk k_b_6 0
  have c_b_1 := cell_of_blk k_b_6 1
  have c_b_2 := cell_of_blk k_b_6 2
  have c_b_3 := cell_of_blk k_b_6 3
  have c_b_4 := cell_of_blk k_b_6 4
  have c_b_5 := cell_of_blk k_b_6 5
  simp only [List.getElem?_toArray, List.getElem?_cons_zero, List.getElem?_cons_succ] at c_b_0 c_b_1 c_b_2 c_b_3 c_b_4 c_b_5
  have f_b := frozen_of_blk k_b_6
  have s_b := blk_lt k_b_6
  have c_t_0 := cell_of_blk k_t_6 0
  have c_t_1 := cell_of_blk k_t_6 1
  have c_t_2 := cell_of_blk k_t_6 2
  simp only [List.getElem?_toArray, List.getElem?_cons_zero, List.getElem?_cons_succ] at c_t_0 c_t_1 c_t_2
  have f_t := frozen_of_blk k_t_6
  have s_t := blk_lt k_t_6
  have c_c_0 := cell_of_blk k_c_6 0
  have c_c_1 := cell_of_blk k_c_6 1
  have c_c_2 := cell_of_blk k_c_6 2
  have c_c_3 := cell_of_blk k_c_6 3
  have c_c_4 := cell_of_blk k_c_6 4
  have c_c_5 := cell_of_blk k_c_6 5
  simp only [List.getElem?_toArray, List.getElem?_cons_zero, List.getElem?_cons_succ] at c_c_0 c_c_1 c_c_2 c_c_3 c_c_4 c_c_5
  have f_c := frozen_of_blk k_c_6
  have s_c := blk_lt k_c_6
  have c_d_0 := cell_of_blk k_d_6 0
  have c_d_1 := cell_of_blk k_d_6 1
  have c_d_2 := cell_of_blk k_d_6 2
  have c_d_3 := cell_of_blk k_d_6 3
  have c_d_4 := cell_of_blk k_d_6 4
  have c_d_5 := cell_of_blk k_d_6 5
  simp only [List.getElem?_toArray, List.getElem?_cons_zero, List.getElem?_cons_succ] at c_d_0 c_d_1 c_d_2 c_d_3 c_d_4 c_d_5
  have f_d := frozen_of_blk k_d_6
  have s_d := blk_lt k_d_6
  have c_u_0 := cell_of_blk k_u_6 0
  have c_u_1 := cell_of_blk k_u_6 1
  have c_u_2 := cell_of_blk k_u_6 2
  simp only [List.getElem?_toArray, List.getElem?_cons_zero, List.getElem?_cons_succ] at c_u_0 c_u_1 c_u_2
  have f_u := frozen_of_blk k_u_6
  have s_u := blk_lt k_u_6
  go_wp2_with fail
  refine (refMap_any V _).mono ?_
  rintro e w7 ⟨rfl, hb7⟩
  rw [HV.out]
  have k_a_7 : w7.heap[w.heap.size]? = some (.cells #[.int .i64 (A.1), .int .i64 (A.2.1), .int .i64 (A.2.2.1), .int .i64 (A.2.2.2.1), .int .i64 (A.2.2.2.2.1), .int .i64 (A.2.2.2.2.2)] 51 (0, 0)) := blk_below (blk_alloc k_a_6 _) hb7 (blk_lt (blk_alloc k_a_6 _))
  have k_b_7 : w7.heap[w.heap.size + 1]? = some (.cells #[.int .i64 (B.1), .int .i64 (B.2.1), .int .i64 (B.2.2.1), .int .i64 (B.2.2.2.1), .int .i64 (B.2.2.2.2.1), .int .i64 (B.2.2.2.2.2)] 51 (0, 0)) := blk_below (blk_alloc k_b_6 _) hb7 (blk_lt (blk_alloc k_b_6 _))
  have k_t_7 : w7.heap[w.heap.size + 1 + 1]? = some (.cells #[.int .i64 x, .int .i64 y, .int .i64 k] 23 (0, 0)) := blk_below (blk_alloc k_t_6 _) hb7 (blk_lt (blk_alloc k_t_6 _))
  have k_c_7 : w7.heap[w1.heap.size]? = some (.cells #[.int .i64 (V.1), .int .i64 (V.2.1), .int .i64 (V.2.2.1), .int .i64 (V.2.2.2.1), .int .i64 (V.2.2.2.2.1), .int .i64 (V.2.2.2.2.2)] 51 (0, 0)) := blk_below (blk_alloc k_c_6 _) hb7 (blk_lt (blk_alloc k_c_6 _))
  have k_d_7 : w7.heap[w2.heap.size]? = some (.cells #[.int .i64 (D.1), .int .i64 (D.2.1), .int .i64 (D.2.2.1), .int .i64 (D.2.2.2.1), .int .i64 (D.2.2.2.2.1), .int .i64 (D.2.2.2.2.2)] 51 (0, 0)) := blk_below (blk_alloc k_d_6 _) hb7 (blk_lt (blk_alloc k_d_6 _))
  have k_u_7 : w7.heap[w3.heap.size]? = some (.cells #[.int .i64 (T.1), .int .i64 (T.2.1), .int .i64 (T.2.2)] 23 (0, 0)) := blk_below (blk_alloc k_u_6 _) hb7 (blk_lt (blk_alloc k_u_6 _))
  have k_v_7 : w7.heap[w6.heap.size]? = some (.cells #[.int .i64 (V.1), .int .i64 (V.2.1), .int .i64 (V.2.2.1), .int .i64 (V.2.2.2.1), .int .i64 (V.2.2.2.2.1), .int .i64 (V.2.2.2.2.2)] 51 (0, 0)) := blk_below (new_blk (.cells #[.int .i64 (V.1), .int .i64 (V.2.1), .int .i64 (V.2.2.1), .int .i64 (V.2.2.2.1), .int .i64 (V.2.2.2.2.1), .int .i64 (V.2.2.2.2.2)] 51) (by first | rfl | (simp; done) | (simp; omega))) hb7 (by first | (simp; done) | (simp; omega))
  have hw_7 : Below w.heap.size w w7 := stay_b (ba hw_6 _) hb7
  have hs_7 := (hs_6.alloc _).below hb7
  clear c_a_0 c_a_1 c_a_2 c_a_3 c_a_4 c_a_5 f_a s_a c_b_0 c_b_1 c_b_2 c_b_3 c_b_4 c_b_5 f_b s_b c_t_0 c_t_1 c_t_2 f_t s_t c_c_0 c_c_1 c_c_2 c_c_3 c_c_4 c_c_5 f_c s_c c_d_0 c_d_1 c_d_2 c_d_3 c_d_4 c_d_5 f_d s_d c_u_0 c_u_1 c_u_2 f_u s_u k_a_6 k_b_6 k_t_6 k_c_6 k_d_6 k_u_6 hb7 hw_6
  have c_a_0 := cell_of_blk k_a_7 0
  have c_a_1 := cell_of_blk k_a_7 1
  have c_a_2 := cell_of_blk k_a_7 2
  have c_a_3 := cell_of_blk k_a_7 3
  have c_a_4 := cell_of_blk k_a_7 4
  have c_a_5 := cell_of_blk k_a_7 5
  simp only [List.getElem?_toArray, List.getElem?_cons_zero, List.getElem?_cons_succ] at c_a_0 c_a_1 c_a_2 c_a_3 c_a_4 c_a_5
  have f_a := frozen_of_blk k_a_7
  have s_a := blk_lt k_a_7
  have c_b_0 := cell_of_blk k_b_7 0
  have c_b_1 := cell_of_blk k_b_7 1
  have c_b_2 := cell_of_blk k_b_7 2
  have c_b_3 := cell_of_blk k_b_7 3
  have c_b_4 := cell_of_blk k_b_7 4
  have c_b_5 := cell_of_blk k_b_7 5
  simp only [List.getElem?_toArray, List.getElem?_cons_zero, List.getElem?_cons_succ] at c_b_0 c_b_1 c_b_2 c_b_3 c_b_4 c_b_5
  have f_b := frozen_of_blk k_b_7
  have s_b := blk_lt k_b_7
  have c_t_0 := cell_of_blk k_t_7 0
  have c_t_1 := cell_of_blk k_t_7 1
  have c_t_2 := cell_of_blk k_t_7 2
  simp only [List.getElem?_toArray, List.getElem?_cons_zero, List.getElem?_cons_succ] at c_t_0 c_t_1 c_t_2
  have f_t := frozen_of_blk k_t_7
  have s_t := blk_lt k_t_7
  have c_c_0 := cell_of_blk k_c_7 0
  have c_c_1 := cell_of_blk k_c_7 1
  have c_c_2 := cell_of_blk k_c_7 2
  have c_c_3 := cell_of_blk k_c_7 3
  have c_c_4 := cell_of_blk k_c_7 4
  have c_c_5 := cell_of_blk k_c_7 5
  simp only [List.getElem?_toArray, List.getElem?_cons_zero, List.getElem?_cons_succ] at c_c_0 c_c_1 c_c_2 c_c_3 c_c_4 c_c_5
  have f_c := frozen_of_blk k_c_7
  have s_c := blk_lt k_c_7
  have c_d_0 := cell_of_blk k_d_7 0
  have c_d_1 := cell_of_blk k_d_7 1
  have c_d_2 := cell_of_blk k_d_7 2
  have c_d_3 := cell_of_blk k_d_7 3
  have c_d_4 := cell_of_blk k_d_7 4
  have c_d_5 := cell_of_blk k_d_7 5
  simp only [List.getElem?_toArray, List.getElem?_cons_zero, List.getElem?_cons_succ] at c_d_0 c_d_1 c_d_2 c_d_3 c_d_4 c_d_5
  have f_d := frozen_of_blk k_d_7
  have s_d := blk_lt k_d_7
  have c_u_0 := cell_of_blk k_u_7 0
  have c_u_1 := cell_of_blk k_u_7 1
  have c_u_2 := cell_of_blk k_u_7 2
  simp only [List.getElem?_toArray, List.getElem?_cons_zero, List.getElem?_cons_succ] at c_u_0 c_u_1 c_u_2
  have f_u := frozen_of_blk k_u_7
  have s_u := blk_lt k_u_7
  have c_v_0 := cell_of_blk k_v_7 0
  have c_v_1 := cell_of_blk k_v_7 1
  have c_v_2 := cell_of_blk k_v_7 2
  have c_v_3 := cell_of_blk k_v_7 3
  have c_v_4 := cell_of_blk k_v_7 4
  have c_v_5 := cell_of_blk k_v_7 5
  simp only [List.getElem?_toArray, List.getElem?_cons_zero, List.getElem?_cons_succ] at c_v_0 c_v_1 c_v_2 c_v_3 c_v_4 c_v_5
  have f_v := frozen_of_blk k_v_7
  have s_v := blk_lt k_v_7
  go_wp2_with fail
  have k_a_8 : (w7.drew).heap[w.heap.size]? = some (.cells #[.int .i64 (A.1), .int .i64 (A.2.1), .int .i64 (A.2.2.1), .int .i64 (A.2.2.2.1), .int .i64 (A.2.2.2.2.1), .int .i64 (A.2.2.2.2.2)] 51 (0, 0)) := k_a_7
  have k_b_8 : (w7.drew).heap[w.heap.size + 1]? = some (.cells #[.int .i64 (B.1), .int .i64 (B.2.1), .int .i64 (B.2.2.1), .int .i64 (B.2.2.2.1), .int .i64 (B.2.2.2.2.1), .int .i64 (B.2.2.2.2.2)] 51 (0, 0)) := k_b_7
  have k_t_8 : (w7.drew).heap[w.heap.size + 1 + 1]? = some (.cells #[.int .i64 x, .int .i64 y, .int .i64 k] 23 (0, 0)) := k_t_7
  have k_c_8 : (w7.drew).heap[w1.heap.size]? = some (.cells #[.int .i64 (V.1), .int .i64 (V.2.1), .int .i64 (V.2.2.1), .int .i64 (V.2.2.2.1), .int .i64 (V.2.2.2.2.1), .int .i64 (V.2.2.2.2.2)] 51 (0, 0)) := k_c_7
  have k_d_8 : (w7.drew).heap[w2.heap.size]? = some (.cells #[.int .i64 (D.1), .int .i64 (D.2.1), .int .i64 (D.2.2.1), .int .i64 (D.2.2.2.1), .int .i64 (D.2.2.2.2.1), .int .i64 (D.2.2.2.2.2)] 51 (0, 0)) := k_d_7
  have k_u_8 : (w7.drew).heap[w3.heap.size]? = some (.cells #[.int .i64 (T.1), .int .i64 (T.2.1), .int .i64 (T.2.2)] 23 (0, 0)) := k_u_7
  have k_v_8 : (w7.drew).heap[w6.heap.size]? = some (.cells #[.int .i64 (V.1), .int .i64 (V.2.1), .int .i64 (V.2.2.1), .int .i64 (V.2.2.2.1), .int .i64 (V.2.2.2.2.1), .int .i64 (V.2.2.2.2.2)] 51 (0, 0)) := k_v_7
  have hw_8 : Below w.heap.size w (w7.drew) := (hw_7).drew
  have hs_8 : Steps (w7.drew) := (hs_7.below (Below.refl _ _).drew)
  clear c_a_0 c_a_1 c_a_2 c_a_3 c_a_4 c_a_5 f_a s_a c_b_0 c_b_1 c_b_2 c_b_3 c_b_4 c_b_5 f_b s_b c_t_0 c_t_1 c_t_2 f_t s_t c_c_0 c_c_1 c_c_2 c_c_3 c_c_4 c_c_5 f_c s_c c_d_0 c_d_1 c_d_2 c_d_3 c_d_4 c_d_5 f_d s_d c_u_0 c_u_1 c_u_2 f_u s_u c_v_0 c_v_1 c_v_2 c_v_3 c_v_4 c_v_5 f_v s_v k_a_7 k_b_7 k_t_7 k_c_7 k_d_7 k_u_7 k_v_7 hw_7
  have c_a_0 := cell_of_blk k_a_8 0
  have c_a_1 := cell_of_blk k_a_8 1
  have c_a_2 := cell_of_blk k_a_8 2
  have c_a_3 := cell_of_blk k_a_8 3
  have c_a_4 := cell_of_blk k_a_8 4
  have c_a_5 := cell_of_blk k_a_8 5
  simp only [List.getElem?_toArray, List.getElem?_cons_zero, List.getElem?_cons_succ] at c_a_0 c_a_1 c_a_2 c_a_3 c_a_4 c_a_5
  have f_a := frozen_of_blk k_a_8
  have s_a := blk_lt k_a_8
  have c_d_0 := cell_of_blk k_d_8 0
  have c_d_1 := cell_of_blk k_d_8 1
  have c_d_2 := cell_of_blk k_d_8 2
  have c_d_3 := cell_of_blk k_d_8 3
  have c_d_4 := cell_of_blk k_d_8 4
  have c_d_5 := cell_of_blk k_d_8 5
  simp only [List.getElem?_toArray, List.getElem?_cons_zero, List.getElem?_cons_succ] at c_d_0 c_d_1 c_d_2 c_d_3 c_d_4 c_d_5
  have f_d := frozen_of_blk k_d_8
  have s_d := blk_lt k_d_8
  have hS0 := And.intro c_a_0 (And.intro c_a_1 (And.intro c_a_2 (And.intro c_a_3 (And.intro c_a_4 (And.intro c_a_5 (And.intro c_d_0 (And.intro c_d_1 (And.intro c_d_2 (And.intro c_d_3 (And.intro c_d_4 (And.intro c_d_5 hw_8)))))))))))
  clear c_a_0 c_a_1 c_a_2 c_a_3 c_a_4 c_a_5 c_d_0 c_d_1 c_d_2 c_d_3 c_d_4 c_d_5 f_a s_a f_d s_d
  go_region_held3 (fun w' => w'.cell? ⟨w.heap.size, 0, none⟩ = some (.int .i64 A.1) ∧ w'.cell? ⟨w.heap.size, 1, none⟩ = some (.int .i64 A.2.1) ∧ w'.cell? ⟨w.heap.size, 2, none⟩ = some (.int .i64 A.2.2.1) ∧ w'.cell? ⟨w.heap.size, 3, none⟩ = some (.int .i64 A.2.2.2.1) ∧ w'.cell? ⟨w.heap.size, 4, none⟩ = some (.int .i64 A.2.2.2.2.1) ∧ w'.cell? ⟨w.heap.size, 5, none⟩ = some (.int .i64 A.2.2.2.2.2) ∧ w'.cell? ⟨w2.heap.size, 0, none⟩ = some (.int .i64 D.1) ∧ w'.cell? ⟨w2.heap.size, 1, none⟩ = some (.int .i64 D.2.1) ∧ w'.cell? ⟨w2.heap.size, 2, none⟩ = some (.int .i64 D.2.2.1) ∧ w'.cell? ⟨w2.heap.size, 3, none⟩ = some (.int .i64 D.2.2.2.1) ∧ w'.cell? ⟨w2.heap.size, 4, none⟩ = some (.int .i64 D.2.2.2.2.1) ∧ w'.cell? ⟨w2.heap.size, 5, none⟩ = some (.int .i64 D.2.2.2.2.2) ∧ Below w.heap.size w w')
    (first
      | with_reducible exact hS0
      | (go_split_ands; with_reducible exact ⟨stay_c ‹_› hbc (Nat.le_refl _), stay_c ‹_› hbc (Nat.le_refl _), stay_c ‹_› hbc (Nat.le_refl _), stay_c ‹_› hbc (Nat.le_refl _), stay_c ‹_› hbc (Nat.le_refl _), stay_c ‹_› hbc (Nat.le_refl _), stay_c ‹_› hbc (Nat.le_refl _), stay_c ‹_› hbc (Nat.le_refl _), stay_c ‹_› hbc (Nat.le_refl _), stay_c ‹_› hbc (Nat.le_refl _), stay_c ‹_› hbc (Nat.le_refl _), stay_c ‹_› hbc (Nat.le_refl _), stay_b ‹_› hbc⟩))
    (((with_reducible refine (HB2.out _).mono ?_); rintro e wz ⟨he, hbc⟩; subst he; have ja := blk_below k_a_8 hbc (blk_lt k_a_8); have jt := blk_below k_t_8 hbc (blk_lt k_t_8); have ju := blk_below k_u_8 hbc (blk_lt k_u_8)))
  rename_i hH
  obtain ⟨_, _, _, _, _, _, _, _, _, _, _, _, hw_30⟩ := hH
  clear hS0 k_a_8 k_b_8 k_t_8 k_c_8 k_d_8 k_u_8 k_v_8 hs_8 hw_8
  have k_a_30 := ja
  clear ja
  have k_t_30 := jt
  clear jt
  have k_u_30 := ju
  clear ju
  have c_a_0 := cell_of_blk k_a_30 0
  have c_a_1 := cell_of_blk k_a_30 1
  have c_a_2 := cell_of_blk k_a_30 2
  have c_a_3 := cell_of_blk k_a_30 3
  have c_a_4 := cell_of_blk k_a_30 4
  have c_a_5 := cell_of_blk k_a_30 5
  simp only [List.getElem?_toArray, List.getElem?_cons_zero, List.getElem?_cons_succ] at c_a_0 c_a_1 c_a_2 c_a_3 c_a_4 c_a_5
  have f_a := frozen_of_blk k_a_30
  have s_a := blk_lt k_a_30
  have c_t_0 := cell_of_blk k_t_30 0
  have c_t_1 := cell_of_blk k_t_30 1
  have c_t_2 := cell_of_blk k_t_30 2
  simp only [List.getElem?_toArray, List.getElem?_cons_zero, List.getElem?_cons_succ] at c_t_0 c_t_1 c_t_2
  have f_t := frozen_of_blk k_t_30
  have s_t := blk_lt k_t_30
  have c_u_0 := cell_of_blk k_u_30 0
  have c_u_1 := cell_of_blk k_u_30 1
  have c_u_2 := cell_of_blk k_u_30 2
  simp only [List.getElem?_toArray, List.getElem?_cons_zero, List.getElem?_cons_succ] at c_u_0 c_u_1 c_u_2
  have f_u := frozen_of_blk k_u_30
  have s_u := blk_lt k_u_30
  go_wp2_with fail
  refine (refTri_any x y k _).mono ?_
  rintro e w31 ⟨rfl, hb31⟩
  rw [HT.out]
  have k_a_31 : w31.heap[w.heap.size]? = some (.cells #[.int .i64 (A.1), .int .i64 (A.2.1), .int .i64 (A.2.2.1), .int .i64 (A.2.2.2.1), .int .i64 (A.2.2.2.2.1), .int .i64 (A.2.2.2.2.2)] 51 (0, 0)) := blk_below k_a_30 hb31 (blk_lt k_a_30)
  have k_t_31 : w31.heap[w.heap.size + 1 + 1]? = some (.cells #[.int .i64 x, .int .i64 y, .int .i64 k] 23 (0, 0)) := blk_below k_t_30 hb31 (blk_lt k_t_30)
  have k_u_31 : w31.heap[w3.heap.size]? = some (.cells #[.int .i64 (T.1), .int .i64 (T.2.1), .int .i64 (T.2.2)] 23 (0, 0)) := blk_below k_u_30 hb31 (blk_lt k_u_30)
  have hw_31 : Below w.heap.size w w31 := stay_b hw_30 hb31
  clear c_a_0 c_a_1 c_a_2 c_a_3 c_a_4 c_a_5 f_a s_a c_t_0 c_t_1 c_t_2 f_t s_t c_u_0 c_u_1 c_u_2 f_u s_u k_a_30 k_t_30 k_u_30 hb31 hw_30
  have c_a_0 := cell_of_blk k_a_31 0
  have c_a_1 := cell_of_blk k_a_31 1
  have c_a_2 := cell_of_blk k_a_31 2
  have c_a_3 := cell_of_blk k_a_31 3
  have c_a_4 := cell_of_blk k_a_31 4
  have c_a_5 := cell_of_blk k_a_31 5
  simp only [List.getElem?_toArray, List.getElem?_cons_zero, List.getElem?_cons_succ] at c_a_0 c_a_1 c_a_2 c_a_3 c_a_4 c_a_5
  have f_a := frozen_of_blk k_a_31
  have s_a := blk_lt k_a_31
  have c_t_0 := cell_of_blk k_t_31 0
  have c_t_1 := cell_of_blk k_t_31 1
  have c_t_2 := cell_of_blk k_t_31 2
  simp only [List.getElem?_toArray, List.getElem?_cons_zero, List.getElem?_cons_succ] at c_t_0 c_t_1 c_t_2
  have f_t := frozen_of_blk k_t_31
  have s_t := blk_lt k_t_31
  have c_u_0 := cell_of_blk k_u_31 0
  have c_u_1 := cell_of_blk k_u_31 1
  have c_u_2 := cell_of_blk k_u_31 2
  simp only [List.getElem?_toArray, List.getElem?_cons_zero, List.getElem?_cons_succ] at c_u_0 c_u_1 c_u_2
  have f_u := frozen_of_blk k_u_31
  have s_u := blk_lt k_u_31
  go_wp2_with fail
  refine (MO.out _).mono ?_
  rintro e w32 ⟨rfl, hb32⟩
  have k_a_32 : w32.heap[w.heap.size]? = some (.cells #[.int .i64 (A.1), .int .i64 (A.2.1), .int .i64 (A.2.2.1), .int .i64 (A.2.2.2.1), .int .i64 (A.2.2.2.2.1), .int .i64 (A.2.2.2.2.2)] 51 (0, 0)) := blk_below k_a_31 hb32 (blk_lt k_a_31)
  have k_t_32 : w32.heap[w.heap.size + 1 + 1]? = some (.cells #[.int .i64 x, .int .i64 y, .int .i64 k] 23 (0, 0)) := blk_below k_t_31 hb32 (blk_lt k_t_31)
  have k_u_32 : w32.heap[w3.heap.size]? = some (.cells #[.int .i64 (T.1), .int .i64 (T.2.1), .int .i64 (T.2.2)] 23 (0, 0)) := blk_below k_u_31 hb32 (blk_lt k_u_31)
  have hw_32 : Below w.heap.size w w32 := stay_b hw_31 hb32
  clear c_a_0 c_a_1 c_a_2 c_a_3 c_a_4 c_a_5 f_a s_a c_t_0 c_t_1 c_t_2 f_t s_t c_u_0 c_u_1 c_u_2 f_u s_u k_a_31 k_t_31 k_u_31 hb32 hw_31
  have c_a_0 := cell_of_blk k_a_32 0
  have c_a_1 := cell_of_blk k_a_32 1
  have c_a_2 := cell_of_blk k_a_32 2
  have c_a_3 := cell_of_blk k_a_32 3
  have c_a_4 := cell_of_blk k_a_32 4
  have c_a_5 := cell_of_blk k_a_32 5
  simp only [List.getElem?_toArray, List.getElem?_cons_zero, List.getElem?_cons_succ] at c_a_0 c_a_1 c_a_2 c_a_3 c_a_4 c_a_5
  have f_a := frozen_of_blk k_a_32
  have s_a := blk_lt k_a_32
  have c_t_0 := cell_of_blk k_t_32 0
  have c_t_1 := cell_of_blk k_t_32 1
  have c_t_2 := cell_of_blk k_t_32 2
  simp only [List.getElem?_toArray, List.getElem?_cons_zero, List.getElem?_cons_succ] at c_t_0 c_t_1 c_t_2
  have f_t := frozen_of_blk k_t_32
  have s_t := blk_lt k_t_32
  have c_u_0 := cell_of_blk k_u_32 0
  have c_u_1 := cell_of_blk k_u_32 1
  have c_u_2 := cell_of_blk k_u_32 2
  simp only [List.getElem?_toArray, List.getElem?_cons_zero, List.getElem?_cons_succ] at c_u_0 c_u_1 c_u_2
  have f_u := frozen_of_blk k_u_32
  have s_u := blk_lt k_u_32
  go_wp2_with fail
  refine (refTri_any T.1 T.2.1 T.2.2 _).mono ?_
  rintro e w33 ⟨rfl, hb33⟩
  rw [HM.out]
  have k_a_33 : w33.heap[w.heap.size]? = some (.cells #[.int .i64 (A.1), .int .i64 (A.2.1), .int .i64 (A.2.2.1), .int .i64 (A.2.2.2.1), .int .i64 (A.2.2.2.2.1), .int .i64 (A.2.2.2.2.2)] 51 (0, 0)) := blk_below (blk_alloc k_a_32 _) hb33 (blk_lt (blk_alloc k_a_32 _))
  have k_t_33 : w33.heap[w.heap.size + 1 + 1]? = some (.cells #[.int .i64 x, .int .i64 y, .int .i64 k] 23 (0, 0)) := blk_below (blk_alloc k_t_32 _) hb33 (blk_lt (blk_alloc k_t_32 _))
  have k_u_33 : w33.heap[w3.heap.size]? = some (.cells #[.int .i64 (T.1), .int .i64 (T.2.1), .int .i64 (T.2.2)] 23 (0, 0)) := blk_below (blk_alloc k_u_32 _) hb33 (blk_lt (blk_alloc k_u_32 _))
  have k_q_33 : w33.heap[w32.heap.size]? = some (.cells #[.int .i64 (T.1), .int .i64 (T.2.1), .int .i64 (T.2.2)] 23 (0, 0)) := blk_below (new_blk (.cells #[.int .i64 (T.1), .int .i64 (T.2.1), .int .i64 (T.2.2)] 23) (by first | rfl | (simp; done) | (simp; omega))) hb33 (by first | (simp; done) | (simp; omega))
  have hw_33 : Below w.heap.size w w33 := stay_b (ba hw_32 _) hb33
  clear c_a_0 c_a_1 c_a_2 c_a_3 c_a_4 c_a_5 f_a s_a c_t_0 c_t_1 c_t_2 f_t s_t c_u_0 c_u_1 c_u_2 f_u s_u k_a_32 k_t_32 k_u_32 hb33 hw_32
  have c_a_0 := cell_of_blk k_a_33 0
  have c_a_1 := cell_of_blk k_a_33 1
  have c_a_2 := cell_of_blk k_a_33 2
  have c_a_3 := cell_of_blk k_a_33 3
  have c_a_4 := cell_of_blk k_a_33 4
  have c_a_5 := cell_of_blk k_a_33 5
  simp only [List.getElem?_toArray, List.getElem?_cons_zero, List.getElem?_cons_succ] at c_a_0 c_a_1 c_a_2 c_a_3 c_a_4 c_a_5
  have f_a := frozen_of_blk k_a_33
  have s_a := blk_lt k_a_33
  have c_t_0 := cell_of_blk k_t_33 0
  have c_t_1 := cell_of_blk k_t_33 1
  have c_t_2 := cell_of_blk k_t_33 2
  simp only [List.getElem?_toArray, List.getElem?_cons_zero, List.getElem?_cons_succ] at c_t_0 c_t_1 c_t_2
  have f_t := frozen_of_blk k_t_33
  have s_t := blk_lt k_t_33
  have c_u_0 := cell_of_blk k_u_33 0
  have c_u_1 := cell_of_blk k_u_33 1
  have c_u_2 := cell_of_blk k_u_33 2
  simp only [List.getElem?_toArray, List.getElem?_cons_zero, List.getElem?_cons_succ] at c_u_0 c_u_1 c_u_2
  have f_u := frozen_of_blk k_u_33
  have s_u := blk_lt k_u_33
  have c_q_0 := cell_of_blk k_q_33 0
  have c_q_1 := cell_of_blk k_q_33 1
  have c_q_2 := cell_of_blk k_q_33 2
  simp only [List.getElem?_toArray, List.getElem?_cons_zero, List.getElem?_cons_succ] at c_q_0 c_q_1 c_q_2
  have f_q := frozen_of_blk k_q_33
  have s_q := blk_lt k_q_33
  go_wp2
  go_ret
  exact ⟨rfl, hw_33⟩
theorem maps_walk (A B : V6) (x y k : Int) (w : World) (hs : Steps w) :
    Calls Tryd.prog 5 #[aggM A, aggM B, aggT x y k] w fun e w' => e = .returned (.bool true) ∧ Below w.heap.size w w' := by
  cases ha : mapMayB A
  · exact maps_noA A B x y k w ha
  cases hb : mapMayB B
  · cases ht : triMayB x y k
    · exact maps_noB_noT A B x y k w hs ha hb ht
    cases hm : triMayB (moveV A x y k).1 (moveV A x y k).2.1 (moveV A x y k).2.2
    · exact maps_noB_big A B x y k w hs ha hb ht hm
    · exact maps_noB_ok A B x y k w hs ha hb ht hm
  cases hv : mapMayB (afterV A B)
  · cases ht : triMayB x y k
    · exact maps_big_noT A B x y k w hs ha hb hv ht
    cases hm : triMayB (moveV A x y k).1 (moveV A x y k).2.1 (moveV A x y k).2.2
    · exact maps_big_big A B x y k w hs ha hb hv ht hm
    · exact maps_big_ok A B x y k w hs ha hb hv ht hm
  · cases ht : triMayB x y k
    · exact maps_ok_noT A B x y k w hs ha hb hv ht
    cases hm : triMayB (moveV A x y k).1 (moveV A x y k).2.1 (moveV A x y k).2.2
    · exact maps_ok_big A B x y k w hs ha hb hv ht hm
    · exact maps_ok_ok A B x y k w hs ha hb hv ht hm
end Go.Proofs.YthfhkmgegkhljaaDoor
