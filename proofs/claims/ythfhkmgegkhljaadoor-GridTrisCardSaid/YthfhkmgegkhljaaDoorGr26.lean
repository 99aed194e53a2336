/- The walk of GridTris where the triangle may be. Printed by gen_gr26.py. -/
import Derived.Test.YthfhkmgegkhljaaDoorGr25
namespace Go.Proofs.YthfhkmgegkhljaaDoor
open Go.RowKit

theorem Steps.set3 {w : World} (h : Steps w) {g : Nat} (hg : g ≠ 0) (x y z : Value) : Steps (((w.setCell ⟨g, 0, none⟩ x).setCell ⟨g, 1, none⟩ y).setCell ⟨g, 2, none⟩ z) :=
  ⟨far3 h.a0 hg _ _ _, far3 h.a1 hg _ _ _, far3 h.b0 hg _ _ _, far3 h.b1 hg _ _ _, far3 h.c0 hg _ _ _, far3 h.c1 hg _ _ _, far3 h.d0 hg _ _ _, far3 h.d1 hg _ _ _⟩

set_option maxRecDepth 100000 in
set_option maxHeartbeats 6400000 in
theorem tris_none (x y k : Int) (m : E4) (w : World) (hs : Steps w) (ht : triMayB x y k = true) (hq : hasE x y k m = false) :
    Calls Tryd.prog 3 #[aggT x y k, aggE m] w fun e w' => e = .returned (.bool true) ∧ Below w.heap.size w w' := by
  obtain ⟨⟨x1, x2⟩, ⟨y1, y2⟩, k1, k2⟩ := triMayB_bd ht
  have HT := Lib.hid ht
  clear ht
  obtain ⟨X1, hX1⟩ : ∃ a : Int, a = cornX x k := ⟨_, rfl⟩
  have HX1 := Lib.hid hX1
  clear hX1
  obtain ⟨Y1, hY1⟩ : ∃ a : Int, a = cornY y k := ⟨_, rfl⟩
  have HY1 := Lib.hid hY1
  clear hY1
  obtain ⟨X2, hX2⟩ : ∃ a : Int, a = cornX x (k + 1) := ⟨_, rfl⟩
  have HX2 := Lib.hid hX2
  clear hX2
  obtain ⟨Y2, hY2⟩ : ∃ a : Int, a = cornY y (k + 1) := ⟨_, rfl⟩
  have HY2 := Lib.hid hY2
  clear hY2
  obtain ⟨E0, hE0⟩ : ∃ a : E4, a = edgeT x y k 0 := ⟨_, rfl⟩
  have HE0 := Lib.hid hE0
  clear hE0
  obtain ⟨E1, hE1⟩ : ∃ a : E4, a = edgeT x y k 1 := ⟨_, rfl⟩
  have HE1 := Lib.hid hE1
  clear hE1
  obtain ⟨E2, hE2⟩ : ∃ a : E4, a = edgeT x y k 2 := ⟨_, rfl⟩
  have HE2 := Lib.hid hE2
  clear hE2
  obtain ⟨V0, hV0⟩ : ∃ a : T3, a = nextT x y k 0 := ⟨_, rfl⟩
  have HV0 := Lib.hid hV0
  clear hV0
  obtain ⟨V1, hV1⟩ : ∃ a : T3, a = nextT x y k 1 := ⟨_, rfl⟩
  have HV1 := Lib.hid hV1
  clear hV1
  obtain ⟨V2, hV2⟩ : ∃ a : T3, a = nextT x y k 2 := ⟨_, rfl⟩
  have HV2 := Lib.hid hV2
  clear hV2
  have HI := Lib.hid (idx_no hq)
  have HQ := Lib.hid hq
  clear hq
  go_enter Tryd.func3, Tryd.ntmps3
  go_wp2_with fail
  refine (gcorn_ok x y k _ ((hs.alloc _).alloc _) HT.out).mono ?_
  rintro e w1 ⟨he, hb1⟩
  rw [← HX1.out, ← HY1.out, ← HX2.out, ← HY2.out] at he
  subst he
  have k_t_1 : w1.heap[w.heap.size]? = some (.cells #[.int .i64 x, .int .i64 y, .int .i64 k] 23 (0, 0)) := blk_below (blk_alloc (new_blk (.cells #[.int .i64 x, .int .i64 y, .int .i64 k] 23) (by first | rfl | (simp; done) | (simp; omega))) _) hb1 (by first | (simp; done) | (simp; omega))
  have k_o_1 : w1.heap[w.heap.size + 1]? = some (.cells #[.int .i64 (m.1), .int .i64 (m.2.1), .int .i64 (m.2.2.1), .int .i64 (m.2.2.2)] 27 (0, 0)) := blk_below (new_blk (.cells #[.int .i64 (m.1), .int .i64 (m.2.1), .int .i64 (m.2.2.1), .int .i64 (m.2.2.2)] 27) (by first | rfl | (simp; done) | (simp; omega))) hb1 (by first | (simp; done) | (simp; omega))
  have hw_1 : Below w.heap.size w w1 := stay_b (ba (ba (Below.refl _ _) _) _) hb1
  have hs_1 := ((hs.alloc _).alloc _).below hb1
  clear hb1
  have c_t_0 := cell_of_blk k_t_1 0
  have c_t_1 := cell_of_blk k_t_1 1
  have c_t_2 := cell_of_blk k_t_1 2
  simp only [List.getElem?_toArray, List.getElem?_cons_zero, List.getElem?_cons_succ] at c_t_0 c_t_1 c_t_2
  have f_t := frozen_of_blk k_t_1
  have s_t := blk_lt k_t_1
  have c_o_0 := cell_of_blk k_o_1 0
  have c_o_1 := cell_of_blk k_o_1 1
  have c_o_2 := cell_of_blk k_o_1 2
  have c_o_3 := cell_of_blk k_o_1 3
  simp only [List.getElem?_toArray, List.getElem?_cons_zero, List.getElem?_cons_succ] at c_o_0 c_o_1 c_o_2 c_o_3
  have f_o := frozen_of_blk k_o_1
  have s_o := blk_lt k_o_1
  go_wp2_with fail
  refine (gedges_ok x y k _ (hs_1.alloc _) HT.out).mono ?_
  rintro e w2 ⟨he, hb2⟩
  rw [← HE0.out, ← HE1.out, ← HE2.out] at he
  subst he
  have k_t_2 : w2.heap[w.heap.size]? = some (.cells #[.int .i64 x, .int .i64 y, .int .i64 k] 23 (0, 0)) := blk_below (blk_alloc k_t_1 _) hb2 (blk_lt (blk_alloc k_t_1 _))
  have k_o_2 : w2.heap[w.heap.size + 1]? = some (.cells #[.int .i64 (m.1), .int .i64 (m.2.1), .int .i64 (m.2.2.1), .int .i64 (m.2.2.2)] 27 (0, 0)) := blk_below (blk_alloc k_o_1 _) hb2 (blk_lt (blk_alloc k_o_1 _))
  have k_c_2 : w2.heap[w1.heap.size]? = some (.cells #[.int .i64 (2 * x + 1), .int .i64 (2 * y + 1), .int .i64 X1, .int .i64 Y1, .int .i64 X2, .int .i64 Y2] 28 (0, 0)) := blk_below (new_blk (.cells #[.int .i64 (2 * x + 1), .int .i64 (2 * y + 1), .int .i64 X1, .int .i64 Y1, .int .i64 X2, .int .i64 Y2] 28) (by first | rfl | (simp; done) | (simp; omega))) hb2 (by first | (simp; done) | (simp; omega))
  have hw_2 : Below w.heap.size w w2 := stay_b (ba hw_1 _) hb2
  have hs_2 := (hs_1.alloc _).below hb2
  clear c_t_0 c_t_1 c_t_2 f_t s_t c_o_0 c_o_1 c_o_2 c_o_3 f_o s_o k_t_1 k_o_1 hb2 hw_1
  have c_t_0 := cell_of_blk k_t_2 0
  have c_t_1 := cell_of_blk k_t_2 1
  have c_t_2 := cell_of_blk k_t_2 2
  simp only [List.getElem?_toArray, List.getElem?_cons_zero, List.getElem?_cons_succ] at c_t_0 c_t_1 c_t_2
  have f_t := frozen_of_blk k_t_2
  have s_t := blk_lt k_t_2
  have c_o_0 := cell_of_blk k_o_2 0
  have c_o_1 := cell_of_blk k_o_2 1
  have c_o_2 := cell_of_blk k_o_2 2
  have c_o_3 := cell_of_blk k_o_2 3
  simp only [List.getElem?_toArray, List.getElem?_cons_zero, List.getElem?_cons_succ] at c_o_0 c_o_1 c_o_2 c_o_3
  have f_o := frozen_of_blk k_o_2
  have s_o := blk_lt k_o_2
  have c_c_0 := cell_of_blk k_c_2 0
  have c_c_1 := cell_of_blk k_c_2 1
  have c_c_2 := cell_of_blk k_c_2 2
  have c_c_3 := cell_of_blk k_c_2 3
  have c_c_4 := cell_of_blk k_c_2 4
  have c_c_5 := cell_of_blk k_c_2 5
  simp only [List.getElem?_toArray, List.getElem?_cons_zero, List.getElem?_cons_succ] at c_c_0 c_c_1 c_c_2 c_c_3 c_c_4 c_c_5
  have f_c := frozen_of_blk k_c_2
  have s_c := blk_lt k_c_2
  go_wp2_with fail
  refine (across_none x y k m _ (hs_2.alloc _) HT.out HI.out).mono ?_
  rintro e w3 ⟨rfl, hb3⟩
  have k_t_3 : w3.heap[w.heap.size]? = some (.cells #[.int .i64 x, .int .i64 y, .int .i64 k] 23 (0, 0)) := blk_below (blk_alloc k_t_2 _) hb3 (blk_lt (blk_alloc k_t_2 _))
  have k_o_3 : w3.heap[w.heap.size + 1]? = some (.cells #[.int .i64 (m.1), .int .i64 (m.2.1), .int .i64 (m.2.2.1), .int .i64 (m.2.2.2)] 27 (0, 0)) := blk_below (blk_alloc k_o_2 _) hb3 (blk_lt (blk_alloc k_o_2 _))
  have k_c_3 : w3.heap[w1.heap.size]? = some (.cells #[.int .i64 (2 * x + 1), .int .i64 (2 * y + 1), .int .i64 X1, .int .i64 Y1, .int .i64 X2, .int .i64 Y2] 28 (0, 0)) := blk_below (blk_alloc k_c_2 _) hb3 (blk_lt (blk_alloc k_c_2 _))
  have k_l_3 : w3.heap[w2.heap.size]? = some (.cells #[.int .i64 (E0.1), .int .i64 (E0.2.1), .int .i64 (E0.2.2.1), .int .i64 (E0.2.2.2), .int .i64 (E1.1), .int .i64 (E1.2.1), .int .i64 (E1.2.2.1), .int .i64 (E1.2.2.2), .int .i64 (E2.1), .int .i64 (E2.2.1), .int .i64 (E2.2.2.1), .int .i64 (E2.2.2.2)] 32 (0, 0)) := blk_below (new_blk (.cells #[.int .i64 (E0.1), .int .i64 (E0.2.1), .int .i64 (E0.2.2.1), .int .i64 (E0.2.2.2), .int .i64 (E1.1), .int .i64 (E1.2.1), .int .i64 (E1.2.2.1), .int .i64 (E1.2.2.2), .int .i64 (E2.1), .int .i64 (E2.2.1), .int .i64 (E2.2.2.1), .int .i64 (E2.2.2.2)] 32) (by first | rfl | (simp; done) | (simp; omega))) hb3 (by first | (simp; done) | (simp; omega))
  have hw_3 : Below w.heap.size w w3 := stay_b (ba hw_2 _) hb3
  have hs_3 := (hs_2.alloc _).below hb3
  clear c_t_0 c_t_1 c_t_2 f_t s_t c_o_0 c_o_1 c_o_2 c_o_3 f_o s_o c_c_0 c_c_1 c_c_2 c_c_3 c_c_4 c_c_5 f_c s_c k_t_2 k_o_2 k_c_2 hb3 hw_2
  have c_t_0 := cell_of_blk k_t_3 0
  have c_t_1 := cell_of_blk k_t_3 1
  have c_t_2 := cell_of_blk k_t_3 2
  simp only [List.getElem?_toArray, List.getElem?_cons_zero, List.getElem?_cons_succ] at c_t_0 c_t_1 c_t_2
  have f_t := frozen_of_blk k_t_3
  have s_t := blk_lt k_t_3
  have c_o_0 := cell_of_blk k_o_3 0
  have c_o_1 := cell_of_blk k_o_3 1
  have c_o_2 := cell_of_blk k_o_3 2
  have c_o_3 := cell_of_blk k_o_3 3
  simp only [List.getElem?_toArray, List.getElem?_cons_zero, List.getElem?_cons_succ] at c_o_0 c_o_1 c_o_2 c_o_3
  have f_o := frozen_of_blk k_o_3
  have s_o := blk_lt k_o_3
  have c_c_0 := cell_of_blk k_c_3 0
  have c_c_1 := cell_of_blk k_c_3 1
  have c_c_2 := cell_of_blk k_c_3 2
  have c_c_3 := cell_of_blk k_c_3 3
  have c_c_4 := cell_of_blk k_c_3 4
  have c_c_5 := cell_of_blk k_c_3 5
  simp only [List.getElem?_toArray, List.getElem?_cons_zero, List.getElem?_cons_succ] at c_c_0 c_c_1 c_c_2 c_c_3 c_c_4 c_c_5
  have f_c := frozen_of_blk k_c_3
  have s_c := blk_lt k_c_3
  have c_l_0 := cell_of_blk k_l_3 0
  have c_l_1 := cell_of_blk k_l_3 1
  have c_l_2 := cell_of_blk k_l_3 2
  have c_l_3 := cell_of_blk k_l_3 3
  have c_l_4 := cell_of_blk k_l_3 4
  have c_l_5 := cell_of_blk k_l_3 5
  have c_l_6 := cell_of_blk k_l_3 6
  have c_l_7 := cell_of_blk k_l_3 7
  have c_l_8 := cell_of_blk k_l_3 8
  have c_l_9 := cell_of_blk k_l_3 9
  have c_l_10 := cell_of_blk k_l_3 10
  have c_l_11 := cell_of_blk k_l_3 11
  simp only [List.getElem?_toArray, List.getElem?_cons_zero, List.getElem?_cons_succ] at c_l_0 c_l_1 c_l_2 c_l_3 c_l_4 c_l_5 c_l_6 c_l_7 c_l_8 c_l_9 c_l_10 c_l_11
  have f_l := frozen_of_blk k_l_3
  have s_l := blk_lt k_l_3
  have hsz3 : w.heap.size < w3.heap.size := s_t
  go_wp2_with fail
  refine (refTri_any x y k _).mono ?_
  rintro e w4 ⟨rfl, hb4⟩
  rw [HT.out]
  have k_t_4 : w4.heap[w.heap.size]? = some (.cells #[.int .i64 x, .int .i64 y, .int .i64 k] 23 (0, 0)) := blk_below (blk_alloc k_t_3 _) hb4 (blk_lt (blk_alloc k_t_3 _))
  have k_o_4 : w4.heap[w.heap.size + 1]? = some (.cells #[.int .i64 (m.1), .int .i64 (m.2.1), .int .i64 (m.2.2.1), .int .i64 (m.2.2.2)] 27 (0, 0)) := blk_below (blk_alloc k_o_3 _) hb4 (blk_lt (blk_alloc k_o_3 _))
  have k_c_4 : w4.heap[w1.heap.size]? = some (.cells #[.int .i64 (2 * x + 1), .int .i64 (2 * y + 1), .int .i64 X1, .int .i64 Y1, .int .i64 X2, .int .i64 Y2] 28 (0, 0)) := blk_below (blk_alloc k_c_3 _) hb4 (blk_lt (blk_alloc k_c_3 _))
  have k_l_4 : w4.heap[w2.heap.size]? = some (.cells #[.int .i64 (E0.1), .int .i64 (E0.2.1), .int .i64 (E0.2.2.1), .int .i64 (E0.2.2.2), .int .i64 (E1.1), .int .i64 (E1.2.1), .int .i64 (E1.2.2.1), .int .i64 (E1.2.2.2), .int .i64 (E2.1), .int .i64 (E2.2.1), .int .i64 (E2.2.2.1), .int .i64 (E2.2.2.2)] 32 (0, 0)) := blk_below (blk_alloc k_l_3 _) hb4 (blk_lt (blk_alloc k_l_3 _))
  have k_x_4 : w4.heap[w3.heap.size]? = some (.cells #[.int .i64 0, .int .i64 0, .int .i64 0] 23 (0, 0)) := blk_below (new_blk (.cells #[.int .i64 0, .int .i64 0, .int .i64 0] 23) (by first | rfl | (simp; done) | (simp; omega))) hb4 (by first | (simp; done) | (simp; omega))
  have hw_4 : Below w.heap.size w w4 := stay_b (ba hw_3 _) hb4
  have hs_4 := (hs_3.alloc _).below hb4
  clear c_t_0 c_t_1 c_t_2 f_t s_t c_o_0 c_o_1 c_o_2 c_o_3 f_o s_o c_c_0 c_c_1 c_c_2 c_c_3 c_c_4 c_c_5 f_c s_c c_l_0 c_l_1 c_l_2 c_l_3 c_l_4 c_l_5 c_l_6 c_l_7 c_l_8 c_l_9 c_l_10 c_l_11 f_l s_l k_t_3 k_o_3 k_c_3 k_l_3 hb4 hw_3
  have c_t_0 := cell_of_blk k_t_4 0
  have c_t_1 := cell_of_blk k_t_4 1
  have c_t_2 := cell_of_blk k_t_4 2
  simp only [List.getElem?_toArray, List.getElem?_cons_zero, List.getElem?_cons_succ] at c_t_0 c_t_1 c_t_2
  have f_t := frozen_of_blk k_t_4
  have s_t := blk_lt k_t_4
  have c_o_0 := cell_of_blk k_o_4 0
  have c_o_1 := cell_of_blk k_o_4 1
  have c_o_2 := cell_of_blk k_o_4 2
  have c_o_3 := cell_of_blk k_o_4 3
  simp only [List.getElem?_toArray, List.getElem?_cons_zero, List.getElem?_cons_succ] at c_o_0 c_o_1 c_o_2 c_o_3
  have f_o := frozen_of_blk k_o_4
  have s_o := blk_lt k_o_4
  have c_c_0 := cell_of_blk k_c_4 0
  have c_c_1 := cell_of_blk k_c_4 1
  have c_c_2 := cell_of_blk k_c_4 2
  have c_c_3 := cell_of_blk k_c_4 3
  have c_c_4 := cell_of_blk k_c_4 4
  have c_c_5 := cell_of_blk k_c_4 5
  simp only [List.getElem?_toArray, List.getElem?_cons_zero, List.getElem?_cons_succ] at c_c_0 c_c_1 c_c_2 c_c_3 c_c_4 c_c_5
  have f_c := frozen_of_blk k_c_4
  have s_c := blk_lt k_c_4
  have c_l_0 := cell_of_blk k_l_4 0
  have c_l_1 := cell_of_blk k_l_4 1
  have c_l_2 := cell_of_blk k_l_4 2
  have c_l_3 := cell_of_blk k_l_4 3
  have c_l_4 := cell_of_blk k_l_4 4
  have c_l_5 := cell_of_blk k_l_4 5
  have c_l_6 := cell_of_blk k_l_4 6
  have c_l_7 := cell_of_blk k_l_4 7
  have c_l_8 := cell_of_blk k_l_4 8
  have c_l_9 := cell_of_blk k_l_4 9
  have c_l_10 := cell_of_blk k_l_4 10
  have c_l_11 := cell_of_blk k_l_4 11
  simp only [List.getElem?_toArray, List.getElem?_cons_zero, List.getElem?_cons_succ] at c_l_0 c_l_1 c_l_2 c_l_3 c_l_4 c_l_5 c_l_6 c_l_7 c_l_8 c_l_9 c_l_10 c_l_11
  have f_l := frozen_of_blk k_l_4
  have s_l := blk_lt k_l_4
  have c_x_0 := cell_of_blk k_x_4 0
  have c_x_1 := cell_of_blk k_x_4 1
  have c_x_2 := cell_of_blk k_x_4 2
  simp only [List.getElem?_toArray, List.getElem?_cons_zero, List.getElem?_cons_succ] at c_x_0 c_x_1 c_x_2
  have f_x := frozen_of_blk k_x_4
  have s_x := blk_lt k_x_4
  go_wp2_with fail
  refine (edgesOf_any x y k _ (by omega) (by omega) (by omega) (by omega) k1 k2).mono ?_
  rintro e w5 ⟨⟨gs, he, hgs⟩, hb5⟩
  subst he
  rw [← HE0.out, ← HE1.out, ← HE2.out] at hgs
  have k_t_5 : w5.heap[w.heap.size]? = some (.cells #[.int .i64 x, .int .i64 y, .int .i64 k] 23 (0, 0)) := blk_below k_t_4 hb5 (blk_lt k_t_4)
  have k_o_5 : w5.heap[w.heap.size + 1]? = some (.cells #[.int .i64 (m.1), .int .i64 (m.2.1), .int .i64 (m.2.2.1), .int .i64 (m.2.2.2)] 27 (0, 0)) := blk_below k_o_4 hb5 (blk_lt k_o_4)
  have k_c_5 : w5.heap[w1.heap.size]? = some (.cells #[.int .i64 (2 * x + 1), .int .i64 (2 * y + 1), .int .i64 X1, .int .i64 Y1, .int .i64 X2, .int .i64 Y2] 28 (0, 0)) := blk_below k_c_4 hb5 (blk_lt k_c_4)
  have k_l_5 : w5.heap[w2.heap.size]? = some (.cells #[.int .i64 (E0.1), .int .i64 (E0.2.1), .int .i64 (E0.2.2.1), .int .i64 (E0.2.2.2), .int .i64 (E1.1), .int .i64 (E1.2.1), .int .i64 (E1.2.2.1), .int .i64 (E1.2.2.2), .int .i64 (E2.1), .int .i64 (E2.2.1), .int .i64 (E2.2.2.1), .int .i64 (E2.2.2.2)] 32 (0, 0)) := blk_below k_l_4 hb5 (blk_lt k_l_4)
  have k_x_5 : w5.heap[w3.heap.size]? = some (.cells #[.int .i64 0, .int .i64 0, .int .i64 0] 23 (0, 0)) := blk_below k_x_4 hb5 (blk_lt k_x_4)
  have hw_5 : Below w.heap.size w w5 := stay_b hw_4 hb5
  have hs_5 := hs_4.below hb5
  clear c_t_0 c_t_1 c_t_2 f_t s_t c_o_0 c_o_1 c_o_2 c_o_3 f_o s_o c_c_0 c_c_1 c_c_2 c_c_3 c_c_4 c_c_5 f_c s_c c_l_0 c_l_1 c_l_2 c_l_3 c_l_4 c_l_5 c_l_6 c_l_7 c_l_8 c_l_9 c_l_10 c_l_11 f_l s_l c_x_0 c_x_1 c_x_2 f_x s_x k_t_4 k_o_4 k_c_4 k_l_4 k_x_4 hb5 hw_4
  have c_t_0 := cell_of_blk k_t_5 0
  have c_t_1 := cell_of_blk k_t_5 1
  have c_t_2 := cell_of_blk k_t_5 2
  simp only [List.getElem?_toArray, List.getElem?_cons_zero, List.getElem?_cons_succ] at c_t_0 c_t_1 c_t_2
  have f_t := frozen_of_blk k_t_5
  have s_t := blk_lt k_t_5
  have c_o_0 := cell_of_blk k_o_5 0
  have c_o_1 := cell_of_blk k_o_5 1
  have c_o_2 := cell_of_blk k_o_5 2
  have c_o_3 := cell_of_blk k_o_5 3
  simp only [List.getElem?_toArray, List.getElem?_cons_zero, List.getElem?_cons_succ] at c_o_0 c_o_1 c_o_2 c_o_3
  have f_o := frozen_of_blk k_o_5
  have s_o := blk_lt k_o_5
  have c_c_0 := cell_of_blk k_c_5 0
  have c_c_1 := cell_of_blk k_c_5 1
  have c_c_2 := cell_of_blk k_c_5 2
  have c_c_3 := cell_of_blk k_c_5 3
  have c_c_4 := cell_of_blk k_c_5 4
  have c_c_5 := cell_of_blk k_c_5 5
  simp only [List.getElem?_toArray, List.getElem?_cons_zero, List.getElem?_cons_succ] at c_c_0 c_c_1 c_c_2 c_c_3 c_c_4 c_c_5
  have f_c := frozen_of_blk k_c_5
  have s_c := blk_lt k_c_5
  have c_l_0 := cell_of_blk k_l_5 0
  have c_l_1 := cell_of_blk k_l_5 1
  have c_l_2 := cell_of_blk k_l_5 2
  have c_l_3 := cell_of_blk k_l_5 3
  have c_l_4 := cell_of_blk k_l_5 4
  have c_l_5 := cell_of_blk k_l_5 5
  have c_l_6 := cell_of_blk k_l_5 6
  have c_l_7 := cell_of_blk k_l_5 7
  have c_l_8 := cell_of_blk k_l_5 8
  have c_l_9 := cell_of_blk k_l_5 9
  have c_l_10 := cell_of_blk k_l_5 10
  have c_l_11 := cell_of_blk k_l_5 11
  simp only [List.getElem?_toArray, List.getElem?_cons_zero, List.getElem?_cons_succ] at c_l_0 c_l_1 c_l_2 c_l_3 c_l_4 c_l_5 c_l_6 c_l_7 c_l_8 c_l_9 c_l_10 c_l_11
  have f_l := frozen_of_blk k_l_5
  have s_l := blk_lt k_l_5
  have c_x_0 := cell_of_blk k_x_5 0
  have c_x_1 := cell_of_blk k_x_5 1
  have c_x_2 := cell_of_blk k_x_5 2
  simp only [List.getElem?_toArray, List.getElem?_cons_zero, List.getElem?_cons_succ] at c_x_0 c_x_1 c_x_2
  have f_x := frozen_of_blk k_x_5
  have s_x := blk_lt k_x_5
  have k_s_5 := hgs
  clear hgs
  go_wp2_with fail
  have k_t_6 : (w5.drew).heap[w.heap.size]? = some (.cells #[.int .i64 x, .int .i64 y, .int .i64 k] 23 (0, 0)) := k_t_5
  have k_o_6 : (w5.drew).heap[w.heap.size + 1]? = some (.cells #[.int .i64 (m.1), .int .i64 (m.2.1), .int .i64 (m.2.2.1), .int .i64 (m.2.2.2)] 27 (0, 0)) := k_o_5
  have k_c_6 : (w5.drew).heap[w1.heap.size]? = some (.cells #[.int .i64 (2 * x + 1), .int .i64 (2 * y + 1), .int .i64 X1, .int .i64 Y1, .int .i64 X2, .int .i64 Y2] 28 (0, 0)) := k_c_5
  have k_l_6 : (w5.drew).heap[w2.heap.size]? = some (.cells #[.int .i64 (E0.1), .int .i64 (E0.2.1), .int .i64 (E0.2.2.1), .int .i64 (E0.2.2.2), .int .i64 (E1.1), .int .i64 (E1.2.1), .int .i64 (E1.2.2.1), .int .i64 (E1.2.2.2), .int .i64 (E2.1), .int .i64 (E2.2.1), .int .i64 (E2.2.2.1), .int .i64 (E2.2.2.2)] 32 (0, 0)) := k_l_5
  have k_x_6 : (w5.drew).heap[w3.heap.size]? = some (.cells #[.int .i64 0, .int .i64 0, .int .i64 0] 23 (0, 0)) := k_x_5
  have k_s_6 : (w5.drew).heap[gs]? = some (.cells #[.int .i64 (E0.1), .int .i64 (E0.2.1), .int .i64 (E0.2.2.1), .int .i64 (E0.2.2.2), .int .i64 (E1.1), .int .i64 (E1.2.1), .int .i64 (E1.2.2.1), .int .i64 (E1.2.2.2), .int .i64 (E2.1), .int .i64 (E2.2.1), .int .i64 (E2.2.2.1), .int .i64 (E2.2.2.2)] 27 (0, 0)) := k_s_5
  have hw_6 : Below w.heap.size w (w5.drew) := (hw_5).drew
  have hs_6 : Steps (w5.drew) := (hs_5.below (Below.refl _ _).drew)
  clear c_t_0 c_t_1 c_t_2 f_t s_t c_o_0 c_o_1 c_o_2 c_o_3 f_o s_o c_c_0 c_c_1 c_c_2 c_c_3 c_c_4 c_c_5 f_c s_c c_l_0 c_l_1 c_l_2 c_l_3 c_l_4 c_l_5 c_l_6 c_l_7 c_l_8 c_l_9 c_l_10 c_l_11 f_l s_l c_x_0 c_x_1 c_x_2 f_x s_x k_t_5 k_o_5 k_c_5 k_l_5 k_x_5 k_s_5 hw_5
  have c_t_0 := cell_of_blk k_t_6 0
  have c_t_1 := cell_of_blk k_t_6 1
  have c_t_2 := cell_of_blk k_t_6 2
  simp only [List.getElem?_toArray, List.getElem?_cons_zero, List.getElem?_cons_succ] at c_t_0 c_t_1 c_t_2
  have f_t := frozen_of_blk k_t_6
  have s_t := blk_lt k_t_6
  have c_c_0 := cell_of_blk k_c_6 0
  have c_c_1 := cell_of_blk k_c_6 1
  have c_c_2 := cell_of_blk k_c_6 2
  have c_c_3 := cell_of_blk k_c_6 3
  have c_c_4 := cell_of_blk k_c_6 4
  have c_c_5 := cell_of_blk k_c_6 5
  simp only [List.getElem?_toArray, List.getElem?_cons_zero, List.getElem?_cons_succ] at c_c_0 c_c_1 c_c_2 c_c_3 c_c_4 c_c_5
  have f_c := frozen_of_blk k_c_6
  have s_c := blk_lt k_c_6
  have c_l_0 := cell_of_blk k_l_6 0
  have c_l_1 := cell_of_blk k_l_6 1
  have c_l_2 := cell_of_blk k_l_6 2
  have c_l_3 := cell_of_blk k_l_6 3
  have c_l_4 := cell_of_blk k_l_6 4
  have c_l_5 := cell_of_blk k_l_6 5
  have c_l_6 := cell_of_blk k_l_6 6
  have c_l_7 := cell_of_blk k_l_6 7
  have c_l_8 := cell_of_blk k_l_6 8
  have c_l_9 := cell_of_blk k_l_6 9
  have c_l_10 := cell_of_blk k_l_6 10
  have c_l_11 := cell_of_blk k_l_6 11
  simp only [List.getElem?_toArray, List.getElem?_cons_zero, List.getElem?_cons_succ] at c_l_0 c_l_1 c_l_2 c_l_3 c_l_4 c_l_5 c_l_6 c_l_7 c_l_8 c_l_9 c_l_10 c_l_11
  have f_l := frozen_of_blk k_l_6
  have s_l := blk_lt k_l_6
  have c_s_0 := cell_of_blk k_s_6 0
  have c_s_1 := cell_of_blk k_s_6 1
  have c_s_2 := cell_of_blk k_s_6 2
  have c_s_3 := cell_of_blk k_s_6 3
  have c_s_4 := cell_of_blk k_s_6 4
  have c_s_5 := cell_of_blk k_s_6 5
  have c_s_6 := cell_of_blk k_s_6 6
  have c_s_7 := cell_of_blk k_s_6 7
  have c_s_8 := cell_of_blk k_s_6 8
  have c_s_9 := cell_of_blk k_s_6 9
  have c_s_10 := cell_of_blk k_s_6 10
  have c_s_11 := cell_of_blk k_s_6 11
  simp only [List.getElem?_toArray, List.getElem?_cons_zero, List.getElem?_cons_succ] at c_s_0 c_s_1 c_s_2 c_s_3 c_s_4 c_s_5 c_s_6 c_s_7 c_s_8 c_s_9 c_s_10 c_s_11
  have f_s := frozen_of_blk k_s_6
  have s_s := blk_lt k_s_6
  have hS0 := And.intro c_t_0 (And.intro c_t_1 (And.intro c_t_2 (And.intro c_c_0 (And.intro c_c_1 (And.intro c_c_2 (And.intro c_c_3 (And.intro c_c_4 (And.intro c_c_5 (And.intro c_l_0 (And.intro c_l_1 (And.intro c_l_2 (And.intro c_l_3 (And.intro c_l_4 (And.intro c_l_5 (And.intro c_l_6 (And.intro c_l_7 (And.intro c_l_8 (And.intro c_l_9 (And.intro c_l_10 (And.intro c_l_11 (And.intro c_s_0 (And.intro c_s_1 (And.intro c_s_2 (And.intro c_s_3 (And.intro c_s_4 (And.intro c_s_5 (And.intro c_s_6 (And.intro c_s_7 (And.intro c_s_8 (And.intro c_s_9 (And.intro c_s_10 (And.intro c_s_11 (And.intro hw_6 hs_6)))))))))))))))))))))))))))))))))
  clear c_t_0 c_t_1 c_t_2 c_c_0 c_c_1 c_c_2 c_c_3 c_c_4 c_c_5 c_l_0 c_l_1 c_l_2 c_l_3 c_l_4 c_l_5 c_l_6 c_l_7 c_l_8 c_l_9 c_l_10 c_l_11 c_s_0 c_s_1 c_s_2 c_s_3 c_s_4 c_s_5 c_s_6 c_s_7 c_s_8 c_s_9 c_s_10 c_s_11 f_t s_t f_c s_c f_l s_l f_s s_s
  have r0 : ∀ w : World, (binOp .neq 27 (aggE E0) (aggE E0)).run Tryd.prog w = .ok (.bool false) w := fun w => by rw [neE]; simp [eqL]
  have r1 : ∀ w : World, (binOp .neq 27 (aggE E1) (aggE E1)).run Tryd.prog w = .ok (.bool false) w := fun w => by rw [neE]; simp [eqL]
  have r2 : ∀ w : World, (binOp .neq 27 (aggE E2) (aggE E2)).run Tryd.prog w = .ok (.bool false) w := fun w => by rw [neE]; simp [eqL]
  go_region_held3 (fun w' => w'.cell? ⟨w.heap.size, 0, none⟩ = some (.int .i64 (x)) ∧ w'.cell? ⟨w.heap.size, 1, none⟩ = some (.int .i64 (y)) ∧ w'.cell? ⟨w.heap.size, 2, none⟩ = some (.int .i64 (k)) ∧ w'.cell? ⟨w1.heap.size, 0, none⟩ = some (.int .i64 (2 * x + 1)) ∧ w'.cell? ⟨w1.heap.size, 1, none⟩ = some (.int .i64 (2 * y + 1)) ∧ w'.cell? ⟨w1.heap.size, 2, none⟩ = some (.int .i64 (X1)) ∧ w'.cell? ⟨w1.heap.size, 3, none⟩ = some (.int .i64 (Y1)) ∧ w'.cell? ⟨w1.heap.size, 4, none⟩ = some (.int .i64 (X2)) ∧ w'.cell? ⟨w1.heap.size, 5, none⟩ = some (.int .i64 (Y2)) ∧ w'.cell? ⟨w2.heap.size, 0, none⟩ = some (.int .i64 (E0.1)) ∧ w'.cell? ⟨w2.heap.size, 1, none⟩ = some (.int .i64 (E0.2.1)) ∧ w'.cell? ⟨w2.heap.size, 2, none⟩ = some (.int .i64 (E0.2.2.1)) ∧ w'.cell? ⟨w2.heap.size, 3, none⟩ = some (.int .i64 (E0.2.2.2)) ∧ w'.cell? ⟨w2.heap.size, 4, none⟩ = some (.int .i64 (E1.1)) ∧ w'.cell? ⟨w2.heap.size, 5, none⟩ = some (.int .i64 (E1.2.1)) ∧ w'.cell? ⟨w2.heap.size, 6, none⟩ = some (.int .i64 (E1.2.2.1)) ∧ w'.cell? ⟨w2.heap.size, 7, none⟩ = some (.int .i64 (E1.2.2.2)) ∧ w'.cell? ⟨w2.heap.size, 8, none⟩ = some (.int .i64 (E2.1)) ∧ w'.cell? ⟨w2.heap.size, 9, none⟩ = some (.int .i64 (E2.2.1)) ∧ w'.cell? ⟨w2.heap.size, 10, none⟩ = some (.int .i64 (E2.2.2.1)) ∧ w'.cell? ⟨w2.heap.size, 11, none⟩ = some (.int .i64 (E2.2.2.2)) ∧ w'.cell? ⟨gs, 0, none⟩ = some (.int .i64 (E0.1)) ∧ w'.cell? ⟨gs, 1, none⟩ = some (.int .i64 (E0.2.1)) ∧ w'.cell? ⟨gs, 2, none⟩ = some (.int .i64 (E0.2.2.1)) ∧ w'.cell? ⟨gs, 3, none⟩ = some (.int .i64 (E0.2.2.2)) ∧ w'.cell? ⟨gs, 4, none⟩ = some (.int .i64 (E1.1)) ∧ w'.cell? ⟨gs, 5, none⟩ = some (.int .i64 (E1.2.1)) ∧ w'.cell? ⟨gs, 6, none⟩ = some (.int .i64 (E1.2.2.1)) ∧ w'.cell? ⟨gs, 7, none⟩ = some (.int .i64 (E1.2.2.2)) ∧ w'.cell? ⟨gs, 8, none⟩ = some (.int .i64 (E2.1)) ∧ w'.cell? ⟨gs, 9, none⟩ = some (.int .i64 (E2.2.1)) ∧ w'.cell? ⟨gs, 10, none⟩ = some (.int .i64 (E2.2.2.1)) ∧ w'.cell? ⟨gs, 11, none⟩ = some (.int .i64 (E2.2.2.2)) ∧ Below w.heap.size w w' ∧ Steps w')
    (first
      | with_reducible exact hS0
      | (go_split_ands; go_split_ands; with_reducible exact ⟨stay_c ‹_› hbc (Nat.le_refl _), stay_c ‹_› hbc (Nat.le_refl _), stay_c ‹_› hbc (Nat.le_refl _), stay_c ‹_› hbc (Nat.le_refl _), stay_c ‹_› hbc (Nat.le_refl _), stay_c ‹_› hbc (Nat.le_refl _), stay_c ‹_› hbc (Nat.le_refl _), stay_c ‹_› hbc (Nat.le_refl _), stay_c ‹_› hbc (Nat.le_refl _), stay_c ‹_› hbc (Nat.le_refl _), stay_c ‹_› hbc (Nat.le_refl _), stay_c ‹_› hbc (Nat.le_refl _), stay_c ‹_› hbc (Nat.le_refl _), stay_c ‹_› hbc (Nat.le_refl _), stay_c ‹_› hbc (Nat.le_refl _), stay_c ‹_› hbc (Nat.le_refl _), stay_c ‹_› hbc (Nat.le_refl _), stay_c ‹_› hbc (Nat.le_refl _), stay_c ‹_› hbc (Nat.le_refl _), stay_c ‹_› hbc (Nat.le_refl _), stay_c ‹_› hbc (Nat.le_refl _), stay_c ‹_› hbc (Nat.le_refl _), stay_c ‹_› hbc (Nat.le_refl _), stay_c ‹_› hbc (Nat.le_refl _), stay_c ‹_› hbc (Nat.le_refl _), stay_c ‹_› hbc (Nat.le_refl _), stay_c ‹_› hbc (Nat.le_refl _), stay_c ‹_› hbc (Nat.le_refl _), stay_c ‹_› hbc (Nat.le_refl _), stay_c ‹_› hbc (Nat.le_refl _), stay_c ‹_› hbc (Nat.le_refl _), stay_c ‹_› hbc (Nat.le_refl _), stay_c ‹_› hbc (Nat.le_refl _), stay_b ‹_› hbc, Steps.below ‹_› hbc⟩))
    (first
      | ((with_reducible refine (cornersOf_any x y k _ x1 x2 y1 y2 k1 k2).mono ?_); rintro e wc ⟨⟨gc, he, hgc⟩, hbc⟩; subst he; rw [← HX1.out, ← HY1.out, ← HX2.out, ← HY2.out] at hgc; have kt := blk_below k_t_6 hbc (blk_lt k_t_6); have ko := blk_below k_o_6 hbc (blk_lt k_o_6); have kx := blk_below k_x_6 hbc (blk_lt k_x_6); have ks := blk_below k_s_6 hbc (blk_lt k_s_6))
      | ((with_reducible refine (same_any (2 * x + 1) (2 * y + 1) X1 Y1 X2 Y2 gc _ hgc).mono ?_); rintro e wz ⟨he, hbc⟩; subst he; have kt := blk_below kt hbc (blk_lt kt); have ko := blk_below ko hbc (blk_lt ko); have kx := blk_below kx hbc (blk_lt kx); have ks := blk_below ks hbc (blk_lt ks)))
  rename_i hH
  obtain ⟨_, _, _, _, _, _, _, _, _, _, _, _, _, _, _, _, _, _, _, _, _, _, _, _, _, _, _, _, _, _, _, _, _, hw_20, hs_20⟩ := hH
  clear hS0 k_t_6 k_o_6 k_c_6 k_l_6 k_x_6 k_s_6
  have k_t_20 := kt
  clear kt
  have k_o_20 := ko
  clear ko
  have k_x_20 := kx
  clear kx
  have k_s_20 := ks
  clear ks
  clear r0 r1 r2
  have c_t_0 := cell_of_blk k_t_20 0
  have c_t_1 := cell_of_blk k_t_20 1
  have c_t_2 := cell_of_blk k_t_20 2
  simp only [List.getElem?_toArray, List.getElem?_cons_zero, List.getElem?_cons_succ] at c_t_0 c_t_1 c_t_2
  have f_t := frozen_of_blk k_t_20
  have s_t := blk_lt k_t_20
  have c_o_0 := cell_of_blk k_o_20 0
  have c_o_1 := cell_of_blk k_o_20 1
  have c_o_2 := cell_of_blk k_o_20 2
  have c_o_3 := cell_of_blk k_o_20 3
  simp only [List.getElem?_toArray, List.getElem?_cons_zero, List.getElem?_cons_succ] at c_o_0 c_o_1 c_o_2 c_o_3
  have f_o := frozen_of_blk k_o_20
  have s_o := blk_lt k_o_20
  have c_x_0 := cell_of_blk k_x_20 0
  have c_x_1 := cell_of_blk k_x_20 1
  have c_x_2 := cell_of_blk k_x_20 2
  simp only [List.getElem?_toArray, List.getElem?_cons_zero, List.getElem?_cons_succ] at c_x_0 c_x_1 c_x_2
  have f_x := frozen_of_blk k_x_20
  have s_x := blk_lt k_x_20
  have c_s_0 := cell_of_blk k_s_20 0
  have c_s_1 := cell_of_blk k_s_20 1
  have c_s_2 := cell_of_blk k_s_20 2
  have c_s_3 := cell_of_blk k_s_20 3
  have c_s_4 := cell_of_blk k_s_20 4
  have c_s_5 := cell_of_blk k_s_20 5
  have c_s_6 := cell_of_blk k_s_20 6
  have c_s_7 := cell_of_blk k_s_20 7
  have c_s_8 := cell_of_blk k_s_20 8
  have c_s_9 := cell_of_blk k_s_20 9
  have c_s_10 := cell_of_blk k_s_20 10
  have c_s_11 := cell_of_blk k_s_20 11
  simp only [List.getElem?_toArray, List.getElem?_cons_zero, List.getElem?_cons_succ] at c_s_0 c_s_1 c_s_2 c_s_3 c_s_4 c_s_5 c_s_6 c_s_7 c_s_8 c_s_9 c_s_10 c_s_11
  have f_s := frozen_of_blk k_s_20
  have s_s := blk_lt k_s_20
  have r1 : ∀ w : World, (binOp .eql 23 (.agg #[.int .i64 0, .int .i64 0, .int .i64 0]) (.agg #[.int .i64 0, .int .i64 0, .int .i64 0])).run Tryd.prog w = .ok (.bool true) w := fun w => by rw [eqT]; rfl
  go_wp2_with fail
  refine (acrossOf_no x y k m _ x1 x2 y1 y2 k1 k2 HQ.out).mono ?_
  rintro e w21 ⟨rfl, hb21⟩
  have k_t_21 : w21.heap[w.heap.size]? = some (.cells #[.int .i64 x, .int .i64 y, .int .i64 k] 23 (0, 0)) := blk_below k_t_20 hb21 (blk_lt k_t_20)
  have k_o_21 : w21.heap[w.heap.size + 1]? = some (.cells #[.int .i64 (m.1), .int .i64 (m.2.1), .int .i64 (m.2.2.1), .int .i64 (m.2.2.2)] 27 (0, 0)) := blk_below k_o_20 hb21 (blk_lt k_o_20)
  have k_x_21 : w21.heap[w3.heap.size]? = some (.cells #[.int .i64 0, .int .i64 0, .int .i64 0] 23 (0, 0)) := blk_below k_x_20 hb21 (blk_lt k_x_20)
  have k_s_21 : w21.heap[gs]? = some (.cells #[.int .i64 (E0.1), .int .i64 (E0.2.1), .int .i64 (E0.2.2.1), .int .i64 (E0.2.2.2), .int .i64 (E1.1), .int .i64 (E1.2.1), .int .i64 (E1.2.2.1), .int .i64 (E1.2.2.2), .int .i64 (E2.1), .int .i64 (E2.2.1), .int .i64 (E2.2.2.1), .int .i64 (E2.2.2.2)] 27 (0, 0)) := blk_below k_s_20 hb21 (blk_lt k_s_20)
  have hw_21 : Below w.heap.size w w21 := stay_b hw_20 hb21
  have hs_21 := hs_20.below hb21
  clear c_t_0 c_t_1 c_t_2 f_t s_t c_o_0 c_o_1 c_o_2 c_o_3 f_o s_o c_x_0 c_x_1 c_x_2 f_x s_x c_s_0 c_s_1 c_s_2 c_s_3 c_s_4 c_s_5 c_s_6 c_s_7 c_s_8 c_s_9 c_s_10 c_s_11 f_s s_s k_t_20 k_o_20 k_x_20 k_s_20 hb21 hw_20
  have c_t_0 := cell_of_blk k_t_21 0
  have c_t_1 := cell_of_blk k_t_21 1
  have c_t_2 := cell_of_blk k_t_21 2
  simp only [List.getElem?_toArray, List.getElem?_cons_zero, List.getElem?_cons_succ] at c_t_0 c_t_1 c_t_2
  have f_t := frozen_of_blk k_t_21
  have s_t := blk_lt k_t_21
  have c_o_0 := cell_of_blk k_o_21 0
  have c_o_1 := cell_of_blk k_o_21 1
  have c_o_2 := cell_of_blk k_o_21 2
  have c_o_3 := cell_of_blk k_o_21 3
  simp only [List.getElem?_toArray, List.getElem?_cons_zero, List.getElem?_cons_succ] at c_o_0 c_o_1 c_o_2 c_o_3
  have f_o := frozen_of_blk k_o_21
  have s_o := blk_lt k_o_21
  have c_x_0 := cell_of_blk k_x_21 0
  have c_x_1 := cell_of_blk k_x_21 1
  have c_x_2 := cell_of_blk k_x_21 2
  simp only [List.getElem?_toArray, List.getElem?_cons_zero, List.getElem?_cons_succ] at c_x_0 c_x_1 c_x_2
  have f_x := frozen_of_blk k_x_21
  have s_x := blk_lt k_x_21
  have c_s_0 := cell_of_blk k_s_21 0
  have c_s_1 := cell_of_blk k_s_21 1
  have c_s_2 := cell_of_blk k_s_21 2
  have c_s_3 := cell_of_blk k_s_21 3
  have c_s_4 := cell_of_blk k_s_21 4
  have c_s_5 := cell_of_blk k_s_21 5
  have c_s_6 := cell_of_blk k_s_21 6
  have c_s_7 := cell_of_blk k_s_21 7
  have c_s_8 := cell_of_blk k_s_21 8
  have c_s_9 := cell_of_blk k_s_21 9
  have c_s_10 := cell_of_blk k_s_21 10
  have c_s_11 := cell_of_blk k_s_21 11
  simp only [List.getElem?_toArray, List.getElem?_cons_zero, List.getElem?_cons_succ] at c_s_0 c_s_1 c_s_2 c_s_3 c_s_4 c_s_5 c_s_6 c_s_7 c_s_8 c_s_9 c_s_10 c_s_11
  have f_s := frozen_of_blk k_s_21
  have s_s := blk_lt k_s_21
  go_wp2
  go_ret
  exact ⟨rfl, ba hw_21 _⟩
set_option maxRecDepth 100000 in
set_option maxHeartbeats 6400000 in
theorem tris_at (x y k : Int) (m : E4) (w : World) (hs : Steps w) (ht : triMayB x y k = true) (i : Nat) (hi : i < 3) (hm : m = edgeT x y k i) :
    Calls Tryd.prog 3 #[aggT x y k, aggE m] w fun e w' => e = .returned (.bool true) ∧ Below w.heap.size w w' := by
  obtain ⟨⟨x1, x2⟩, ⟨y1, y2⟩, k1, k2⟩ := triMayB_bd ht
  have HT := Lib.hid ht
  clear ht
  obtain ⟨X1, hX1⟩ : ∃ a : Int, a = cornX x k := ⟨_, rfl⟩
  have HX1 := Lib.hid hX1
  clear hX1
  obtain ⟨Y1, hY1⟩ : ∃ a : Int, a = cornY y k := ⟨_, rfl⟩
  have HY1 := Lib.hid hY1
  clear hY1
  obtain ⟨X2, hX2⟩ : ∃ a : Int, a = cornX x (k + 1) := ⟨_, rfl⟩
  have HX2 := Lib.hid hX2
  clear hX2
  obtain ⟨Y2, hY2⟩ : ∃ a : Int, a = cornY y (k + 1) := ⟨_, rfl⟩
  have HY2 := Lib.hid hY2
  clear hY2
  obtain ⟨E0, hE0⟩ : ∃ a : E4, a = edgeT x y k 0 := ⟨_, rfl⟩
  have HE0 := Lib.hid hE0
  clear hE0
  obtain ⟨E1, hE1⟩ : ∃ a : E4, a = edgeT x y k 1 := ⟨_, rfl⟩
  have HE1 := Lib.hid hE1
  clear hE1
  obtain ⟨E2, hE2⟩ : ∃ a : E4, a = edgeT x y k 2 := ⟨_, rfl⟩
  have HE2 := Lib.hid hE2
  clear hE2
  obtain ⟨V0, hV0⟩ : ∃ a : T3, a = nextT x y k 0 := ⟨_, rfl⟩
  have HV0 := Lib.hid hV0
  clear hV0
  obtain ⟨V1, hV1⟩ : ∃ a : T3, a = nextT x y k 1 := ⟨_, rfl⟩
  have HV1 := Lib.hid hV1
  clear hV1
  obtain ⟨V2, hV2⟩ : ∃ a : T3, a = nextT x y k 2 := ⟨_, rfl⟩
  have HV2 := Lib.hid hV2
  clear hV2
  obtain ⟨U, hU⟩ : ∃ a : T3, a = nextT x y k i := ⟨_, rfl⟩
  have hA := fun w hs => across_edge x y k i w hi hs HT.out
  have hB := fun w => acrossOf_edge x y k i w hi x1 x2 y1 y2 k1 k2
  rw [← hm] at hA hB
  simp only [← hU] at hA hB
  have HA := Lib.hid hA
  have HB := Lib.hid hB
  clear hA hB hm hU
  have hA := fun w hs => across_edge x y k 0 w (by omega) hs HT.out
  have hB := fun w => acrossOf_edge x y k 0 w (by omega) x1 x2 y1 y2 k1 k2
  simp only [← HE0.out, ← HV0.out] at hA hB
  have HA0 := Lib.hid hA
  have HB0 := Lib.hid hB
  clear hA hB
  have hA := fun w hs => across_edge x y k 1 w (by omega) hs HT.out
  have hB := fun w => acrossOf_edge x y k 1 w (by omega) x1 x2 y1 y2 k1 k2
  simp only [← HE1.out, ← HV1.out] at hA hB
  have HA1 := Lib.hid hA
  have HB1 := Lib.hid hB
  clear hA hB
  have hA := fun w hs => across_edge x y k 2 w (by omega) hs HT.out
  have hB := fun w => acrossOf_edge x y k 2 w (by omega) x1 x2 y1 y2 k1 k2
  simp only [← HE2.out, ← HV2.out] at hA hB
  have HA2 := Lib.hid hA
  have HB2 := Lib.hid hB
  clear hA hB
  go_enter Tryd.func3, Tryd.ntmps3
  go_wp2_with fail
  refine (gcorn_ok x y k _ ((hs.alloc _).alloc _) HT.out).mono ?_
  rintro e w1 ⟨he, hb1⟩
  rw [← HX1.out, ← HY1.out, ← HX2.out, ← HY2.out] at he
  subst he
  have k_t_1 : w1.heap[w.heap.size]? = some (.cells #[.int .i64 x, .int .i64 y, .int .i64 k] 23 (0, 0)) := blk_below (blk_alloc (new_blk (.cells #[.int .i64 x, .int .i64 y, .int .i64 k] 23) (by first | rfl | (simp; done) | (simp; omega))) _) hb1 (by first | (simp; done) | (simp; omega))
  have k_o_1 : w1.heap[w.heap.size + 1]? = some (.cells #[.int .i64 (m.1), .int .i64 (m.2.1), .int .i64 (m.2.2.1), .int .i64 (m.2.2.2)] 27 (0, 0)) := blk_below (new_blk (.cells #[.int .i64 (m.1), .int .i64 (m.2.1), .int .i64 (m.2.2.1), .int .i64 (m.2.2.2)] 27) (by first | rfl | (simp; done) | (simp; omega))) hb1 (by first | (simp; done) | (simp; omega))
  have hw_1 : Below w.heap.size w w1 := stay_b (ba (ba (Below.refl _ _) _) _) hb1
  have hs_1 := ((hs.alloc _).alloc _).below hb1
  clear hb1
  have c_t_0 := cell_of_blk k_t_1 0
  have c_t_1 := cell_of_blk k_t_1 1
  have c_t_2 := cell_of_blk k_t_1 2
  simp only [List.getElem?_toArray, List.getElem?_cons_zero, List.getElem?_cons_succ] at c_t_0 c_t_1 c_t_2
  have f_t := frozen_of_blk k_t_1
  have s_t := blk_lt k_t_1
  have c_o_0 := cell_of_blk k_o_1 0
  have c_o_1 := cell_of_blk k_o_1 1
  have c_o_2 := cell_of_blk k_o_1 2
  have c_o_3 := cell_of_blk k_o_1 3
  simp only [List.getElem?_toArray, List.getElem?_cons_zero, List.getElem?_cons_succ] at c_o_0 c_o_1 c_o_2 c_o_3
  have f_o := frozen_of_blk k_o_1
  have s_o := blk_lt k_o_1
  go_wp2_with fail
  refine (gedges_ok x y k _ (hs_1.alloc _) HT.out).mono ?_
  rintro e w2 ⟨he, hb2⟩
  rw [← HE0.out, ← HE1.out, ← HE2.out] at he
  subst he
  have k_t_2 : w2.heap[w.heap.size]? = some (.cells #[.int .i64 x, .int .i64 y, .int .i64 k] 23 (0, 0)) := blk_below (blk_alloc k_t_1 _) hb2 (blk_lt (blk_alloc k_t_1 _))
  have k_o_2 : w2.heap[w.heap.size + 1]? = some (.cells #[.int .i64 (m.1), .int .i64 (m.2.1), .int .i64 (m.2.2.1), .int .i64 (m.2.2.2)] 27 (0, 0)) := blk_below (blk_alloc k_o_1 _) hb2 (blk_lt (blk_alloc k_o_1 _))
  have k_c_2 : w2.heap[w1.heap.size]? = some (.cells #[.int .i64 (2 * x + 1), .int .i64 (2 * y + 1), .int .i64 X1, .int .i64 Y1, .int .i64 X2, .int .i64 Y2] 28 (0, 0)) := blk_below (new_blk (.cells #[.int .i64 (2 * x + 1), .int .i64 (2 * y + 1), .int .i64 X1, .int .i64 Y1, .int .i64 X2, .int .i64 Y2] 28) (by first | rfl | (simp; done) | (simp; omega))) hb2 (by first | (simp; done) | (simp; omega))
  have hw_2 : Below w.heap.size w w2 := stay_b (ba hw_1 _) hb2
  have hs_2 := (hs_1.alloc _).below hb2
  clear c_t_0 c_t_1 c_t_2 f_t s_t c_o_0 c_o_1 c_o_2 c_o_3 f_o s_o k_t_1 k_o_1 hb2 hw_1
  have c_t_0 := cell_of_blk k_t_2 0
  have c_t_1 := cell_of_blk k_t_2 1
  have c_t_2 := cell_of_blk k_t_2 2
  simp only [List.getElem?_toArray, List.getElem?_cons_zero, List.getElem?_cons_succ] at c_t_0 c_t_1 c_t_2
  have f_t := frozen_of_blk k_t_2
  have s_t := blk_lt k_t_2
  have c_o_0 := cell_of_blk k_o_2 0
  have c_o_1 := cell_of_blk k_o_2 1
  have c_o_2 := cell_of_blk k_o_2 2
  have c_o_3 := cell_of_blk k_o_2 3
  simp only [List.getElem?_toArray, List.getElem?_cons_zero, List.getElem?_cons_succ] at c_o_0 c_o_1 c_o_2 c_o_3
  have f_o := frozen_of_blk k_o_2
  have s_o := blk_lt k_o_2
  have c_c_0 := cell_of_blk k_c_2 0
  have c_c_1 := cell_of_blk k_c_2 1
  have c_c_2 := cell_of_blk k_c_2 2
  have c_c_3 := cell_of_blk k_c_2 3
  have c_c_4 := cell_of_blk k_c_2 4
  have c_c_5 := cell_of_blk k_c_2 5
  simp only [List.getElem?_toArray, List.getElem?_cons_zero, List.getElem?_cons_succ] at c_c_0 c_c_1 c_c_2 c_c_3 c_c_4 c_c_5
  have f_c := frozen_of_blk k_c_2
  have s_c := blk_lt k_c_2
  go_wp2_with fail
  refine (HA.out _ (hs_2.alloc _)).mono ?_
  rintro e w3 ⟨rfl, hb3⟩
  have k_t_3 : w3.heap[w.heap.size]? = some (.cells #[.int .i64 x, .int .i64 y, .int .i64 k] 23 (0, 0)) := blk_below (blk_alloc k_t_2 _) hb3 (blk_lt (blk_alloc k_t_2 _))
  have k_o_3 : w3.heap[w.heap.size + 1]? = some (.cells #[.int .i64 (m.1), .int .i64 (m.2.1), .int .i64 (m.2.2.1), .int .i64 (m.2.2.2)] 27 (0, 0)) := blk_below (blk_alloc k_o_2 _) hb3 (blk_lt (blk_alloc k_o_2 _))
  have k_c_3 : w3.heap[w1.heap.size]? = some (.cells #[.int .i64 (2 * x + 1), .int .i64 (2 * y + 1), .int .i64 X1, .int .i64 Y1, .int .i64 X2, .int .i64 Y2] 28 (0, 0)) := blk_below (blk_alloc k_c_2 _) hb3 (blk_lt (blk_alloc k_c_2 _))
  have k_l_3 : w3.heap[w2.heap.size]? = some (.cells #[.int .i64 (E0.1), .int .i64 (E0.2.1), .int .i64 (E0.2.2.1), .int .i64 (E0.2.2.2), .int .i64 (E1.1), .int .i64 (E1.2.1), .int .i64 (E1.2.2.1), .int .i64 (E1.2.2.2), .int .i64 (E2.1), .int .i64 (E2.2.1), .int .i64 (E2.2.2.1), .int .i64 (E2.2.2.2)] 32 (0, 0)) := blk_below (new_blk (.cells #[.int .i64 (E0.1), .int .i64 (E0.2.1), .int .i64 (E0.2.2.1), .int .i64 (E0.2.2.2), .int .i64 (E1.1), .int .i64 (E1.2.1), .int .i64 (E1.2.2.1), .int .i64 (E1.2.2.2), .int .i64 (E2.1), .int .i64 (E2.2.1), .int .i64 (E2.2.2.1), .int .i64 (E2.2.2.2)] 32) (by first | rfl | (simp; done) | (simp; omega))) hb3 (by first | (simp; done) | (simp; omega))
  have hw_3 : Below w.heap.size w w3 := stay_b (ba hw_2 _) hb3
  have hs_3 := (hs_2.alloc _).below hb3
  clear c_t_0 c_t_1 c_t_2 f_t s_t c_o_0 c_o_1 c_o_2 c_o_3 f_o s_o c_c_0 c_c_1 c_c_2 c_c_3 c_c_4 c_c_5 f_c s_c k_t_2 k_o_2 k_c_2 hb3 hw_2
  have c_t_0 := cell_of_blk k_t_3 0
  have c_t_1 := cell_of_blk k_t_3 1
  have c_t_2 := cell_of_blk k_t_3 2
  simp only [List.getElem?_toArray, List.getElem?_cons_zero, List.getElem?_cons_succ] at c_t_0 c_t_1 c_t_2
  have f_t := frozen_of_blk k_t_3
  have s_t := blk_lt k_t_3
  have c_o_0 := cell_of_blk k_o_3 0
  have c_o_1 := cell_of_blk k_o_3 1
  have c_o_2 := cell_of_blk k_o_3 2
  have c_o_3 := cell_of_blk k_o_3 3
  simp only [List.getElem?_toArray, List.getElem?_cons_zero, List.getElem?_cons_succ] at c_o_0 c_o_1 c_o_2 c_o_3
  have f_o := frozen_of_blk k_o_3
  have s_o := blk_lt k_o_3
  have c_c_0 := cell_of_blk k_c_3 0
  have c_c_1 := cell_of_blk k_c_3 1
  have c_c_2 := cell_of_blk k_c_3 2
  have c_c_3 := cell_of_blk k_c_3 3
  have c_c_4 := cell_of_blk k_c_3 4
  have c_c_5 := cell_of_blk k_c_3 5
  simp only [List.getElem?_toArray, List.getElem?_cons_zero, List.getElem?_cons_succ] at c_c_0 c_c_1 c_c_2 c_c_3 c_c_4 c_c_5
  have f_c := frozen_of_blk k_c_3
  have s_c := blk_lt k_c_3
  have c_l_0 := cell_of_blk k_l_3 0
  have c_l_1 := cell_of_blk k_l_3 1
  have c_l_2 := cell_of_blk k_l_3 2
  have c_l_3 := cell_of_blk k_l_3 3
  have c_l_4 := cell_of_blk k_l_3 4
  have c_l_5 := cell_of_blk k_l_3 5
  have c_l_6 := cell_of_blk k_l_3 6
  have c_l_7 := cell_of_blk k_l_3 7
  have c_l_8 := cell_of_blk k_l_3 8
  have c_l_9 := cell_of_blk k_l_3 9
  have c_l_10 := cell_of_blk k_l_3 10
  have c_l_11 := cell_of_blk k_l_3 11
  simp only [List.getElem?_toArray, List.getElem?_cons_zero, List.getElem?_cons_succ] at c_l_0 c_l_1 c_l_2 c_l_3 c_l_4 c_l_5 c_l_6 c_l_7 c_l_8 c_l_9 c_l_10 c_l_11
  have f_l := frozen_of_blk k_l_3
  have s_l := blk_lt k_l_3
  have hsz3 : w.heap.size < w3.heap.size := s_t
  go_wp2_with fail
  refine (refTri_any x y k _).mono ?_
  rintro e w4 ⟨rfl, hb4⟩
  rw [HT.out]
  have k_t_4 : w4.heap[w.heap.size]? = some (.cells #[.int .i64 x, .int .i64 y, .int .i64 k] 23 (0, 0)) := blk_below (blk_alloc k_t_3 _) hb4 (blk_lt (blk_alloc k_t_3 _))
  have k_o_4 : w4.heap[w.heap.size + 1]? = some (.cells #[.int .i64 (m.1), .int .i64 (m.2.1), .int .i64 (m.2.2.1), .int .i64 (m.2.2.2)] 27 (0, 0)) := blk_below (blk_alloc k_o_3 _) hb4 (blk_lt (blk_alloc k_o_3 _))
  have k_c_4 : w4.heap[w1.heap.size]? = some (.cells #[.int .i64 (2 * x + 1), .int .i64 (2 * y + 1), .int .i64 X1, .int .i64 Y1, .int .i64 X2, .int .i64 Y2] 28 (0, 0)) := blk_below (blk_alloc k_c_3 _) hb4 (blk_lt (blk_alloc k_c_3 _))
  have k_l_4 : w4.heap[w2.heap.size]? = some (.cells #[.int .i64 (E0.1), .int .i64 (E0.2.1), .int .i64 (E0.2.2.1), .int .i64 (E0.2.2.2), .int .i64 (E1.1), .int .i64 (E1.2.1), .int .i64 (E1.2.2.1), .int .i64 (E1.2.2.2), .int .i64 (E2.1), .int .i64 (E2.2.1), .int .i64 (E2.2.2.1), .int .i64 (E2.2.2.2)] 32 (0, 0)) := blk_below (blk_alloc k_l_3 _) hb4 (blk_lt (blk_alloc k_l_3 _))
  have k_x_4 : w4.heap[w3.heap.size]? = some (.cells #[.int .i64 (U.1), .int .i64 (U.2.1), .int .i64 (U.2.2)] 23 (0, 0)) := blk_below (new_blk (.cells #[.int .i64 (U.1), .int .i64 (U.2.1), .int .i64 (U.2.2)] 23) (by first | rfl | (simp; done) | (simp; omega))) hb4 (by first | (simp; done) | (simp; omega))
  have hw_4 : Below w.heap.size w w4 := stay_b (ba hw_3 _) hb4
  have hs_4 := (hs_3.alloc _).below hb4
  clear c_t_0 c_t_1 c_t_2 f_t s_t c_o_0 c_o_1 c_o_2 c_o_3 f_o s_o c_c_0 c_c_1 c_c_2 c_c_3 c_c_4 c_c_5 f_c s_c c_l_0 c_l_1 c_l_2 c_l_3 c_l_4 c_l_5 c_l_6 c_l_7 c_l_8 c_l_9 c_l_10 c_l_11 f_l s_l k_t_3 k_o_3 k_c_3 k_l_3 hb4 hw_3
  have c_t_0 := cell_of_blk k_t_4 0
  have c_t_1 := cell_of_blk k_t_4 1
  have c_t_2 := cell_of_blk k_t_4 2
  simp only [List.getElem?_toArray, List.getElem?_cons_zero, List.getElem?_cons_succ] at c_t_0 c_t_1 c_t_2
  have f_t := frozen_of_blk k_t_4
  have s_t := blk_lt k_t_4
  have c_o_0 := cell_of_blk k_o_4 0
  have c_o_1 := cell_of_blk k_o_4 1
  have c_o_2 := cell_of_blk k_o_4 2
  have c_o_3 := cell_of_blk k_o_4 3
  simp only [List.getElem?_toArray, List.getElem?_cons_zero, List.getElem?_cons_succ] at c_o_0 c_o_1 c_o_2 c_o_3
  have f_o := frozen_of_blk k_o_4
  have s_o := blk_lt k_o_4
  have c_c_0 := cell_of_blk k_c_4 0
  have c_c_1 := cell_of_blk k_c_4 1
  have c_c_2 := cell_of_blk k_c_4 2
  have c_c_3 := cell_of_blk k_c_4 3
  have c_c_4 := cell_of_blk k_c_4 4
  have c_c_5 := cell_of_blk k_c_4 5
  simp only [List.getElem?_toArray, List.getElem?_cons_zero, List.getElem?_cons_succ] at c_c_0 c_c_1 c_c_2 c_c_3 c_c_4 c_c_5
  have f_c := frozen_of_blk k_c_4
  have s_c := blk_lt k_c_4
  have c_l_0 := cell_of_blk k_l_4 0
  have c_l_1 := cell_of_blk k_l_4 1
  have c_l_2 := cell_of_blk k_l_4 2
  have c_l_3 := cell_of_blk k_l_4 3
  have c_l_4 := cell_of_blk k_l_4 4
  have c_l_5 := cell_of_blk k_l_4 5
  have c_l_6 := cell_of_blk k_l_4 6
  have c_l_7 := cell_of_blk k_l_4 7
  have c_l_8 := cell_of_blk k_l_4 8
  have c_l_9 := cell_of_blk k_l_4 9
  have c_l_10 := cell_of_blk k_l_4 10
  have c_l_11 := cell_of_blk k_l_4 11
  simp only [List.getElem?_toArray, List.getElem?_cons_zero, List.getElem?_cons_succ] at c_l_0 c_l_1 c_l_2 c_l_3 c_l_4 c_l_5 c_l_6 c_l_7 c_l_8 c_l_9 c_l_10 c_l_11
  have f_l := frozen_of_blk k_l_4
  have s_l := blk_lt k_l_4
  have c_x_0 := cell_of_blk k_x_4 0
  have c_x_1 := cell_of_blk k_x_4 1
  have c_x_2 := cell_of_blk k_x_4 2
  simp only [List.getElem?_toArray, List.getElem?_cons_zero, List.getElem?_cons_succ] at c_x_0 c_x_1 c_x_2
  have f_x := frozen_of_blk k_x_4
  have s_x := blk_lt k_x_4
  go_wp2_with fail
  refine (edgesOf_any x y k _ (by omega) (by omega) (by omega) (by omega) k1 k2).mono ?_
  rintro e w5 ⟨⟨gs, he, hgs⟩, hb5⟩
  subst he
  rw [← HE0.out, ← HE1.out, ← HE2.out] at hgs
  have k_t_5 : w5.heap[w.heap.size]? = some (.cells #[.int .i64 x, .int .i64 y, .int .i64 k] 23 (0, 0)) := blk_below k_t_4 hb5 (blk_lt k_t_4)
  have k_o_5 : w5.heap[w.heap.size + 1]? = some (.cells #[.int .i64 (m.1), .int .i64 (m.2.1), .int .i64 (m.2.2.1), .int .i64 (m.2.2.2)] 27 (0, 0)) := blk_below k_o_4 hb5 (blk_lt k_o_4)
  have k_c_5 : w5.heap[w1.heap.size]? = some (.cells #[.int .i64 (2 * x + 1), .int .i64 (2 * y + 1), .int .i64 X1, .int .i64 Y1, .int .i64 X2, .int .i64 Y2] 28 (0, 0)) := blk_below k_c_4 hb5 (blk_lt k_c_4)
  have k_l_5 : w5.heap[w2.heap.size]? = some (.cells #[.int .i64 (E0.1), .int .i64 (E0.2.1), .int .i64 (E0.2.2.1), .int .i64 (E0.2.2.2), .int .i64 (E1.1), .int .i64 (E1.2.1), .int .i64 (E1.2.2.1), .int .i64 (E1.2.2.2), .int .i64 (E2.1), .int .i64 (E2.2.1), .int .i64 (E2.2.2.1), .int .i64 (E2.2.2.2)] 32 (0, 0)) := blk_below k_l_4 hb5 (blk_lt k_l_4)
  have k_x_5 : w5.heap[w3.heap.size]? = some (.cells #[.int .i64 (U.1), .int .i64 (U.2.1), .int .i64 (U.2.2)] 23 (0, 0)) := blk_below k_x_4 hb5 (blk_lt k_x_4)
  have hw_5 : Below w.heap.size w w5 := stay_b hw_4 hb5
  have hs_5 := hs_4.below hb5
  clear c_t_0 c_t_1 c_t_2 f_t s_t c_o_0 c_o_1 c_o_2 c_o_3 f_o s_o c_c_0 c_c_1 c_c_2 c_c_3 c_c_4 c_c_5 f_c s_c c_l_0 c_l_1 c_l_2 c_l_3 c_l_4 c_l_5 c_l_6 c_l_7 c_l_8 c_l_9 c_l_10 c_l_11 f_l s_l c_x_0 c_x_1 c_x_2 f_x s_x k_t_4 k_o_4 k_c_4 k_l_4 k_x_4 hb5 hw_4
  have c_t_0 := cell_of_blk k_t_5 0
  have c_t_1 := cell_of_blk k_t_5 1
  have c_t_2 := cell_of_blk k_t_5 2
  simp only [List.getElem?_toArray, List.getElem?_cons_zero, List.getElem?_cons_succ] at c_t_0 c_t_1 c_t_2
  have f_t := frozen_of_blk k_t_5
  have s_t := blk_lt k_t_5
  have c_o_0 := cell_of_blk k_o_5 0
  have c_o_1 := cell_of_blk k_o_5 1
  have c_o_2 := cell_of_blk k_o_5 2
  have c_o_3 := cell_of_blk k_o_5 3
  simp only [List.getElem?_toArray, List.getElem?_cons_zero, List.getElem?_cons_succ] at c_o_0 c_o_1 c_o_2 c_o_3
  have f_o := frozen_of_blk k_o_5
  have s_o := blk_lt k_o_5
  have c_c_0 := cell_of_blk k_c_5 0
  have c_c_1 := cell_of_blk k_c_5 1
  have c_c_2 := cell_of_blk k_c_5 2
  have c_c_3 := cell_of_blk k_c_5 3
  have c_c_4 := cell_of_blk k_c_5 4
  have c_c_5 := cell_of_blk k_c_5 5
  simp only [List.getElem?_toArray, List.getElem?_cons_zero, List.getElem?_cons_succ] at c_c_0 c_c_1 c_c_2 c_c_3 c_c_4 c_c_5
  have f_c := frozen_of_blk k_c_5
  have s_c := blk_lt k_c_5
  have c_l_0 := cell_of_blk k_l_5 0
  have c_l_1 := cell_of_blk k_l_5 1
  have c_l_2 := cell_of_blk k_l_5 2
  have c_l_3 := cell_of_blk k_l_5 3
  have c_l_4 := cell_of_blk k_l_5 4
  have c_l_5 := cell_of_blk k_l_5 5
  have c_l_6 := cell_of_blk k_l_5 6
  have c_l_7 := cell_of_blk k_l_5 7
  have c_l_8 := cell_of_blk k_l_5 8
  have c_l_9 := cell_of_blk k_l_5 9
  have c_l_10 := cell_of_blk k_l_5 10
  have c_l_11 := cell_of_blk k_l_5 11
  simp only [List.getElem?_toArray, List.getElem?_cons_zero, List.getElem?_cons_succ] at c_l_0 c_l_1 c_l_2 c_l_3 c_l_4 c_l_5 c_l_6 c_l_7 c_l_8 c_l_9 c_l_10 c_l_11
  have f_l := frozen_of_blk k_l_5
  have s_l := blk_lt k_l_5
  have c_x_0 := cell_of_blk k_x_5 0
  have c_x_1 := cell_of_blk k_x_5 1
  have c_x_2 := cell_of_blk k_x_5 2
  simp only [List.getElem?_toArray, List.getElem?_cons_zero, List.getElem?_cons_succ] at c_x_0 c_x_1 c_x_2
  have f_x := frozen_of_blk k_x_5
  have s_x := blk_lt k_x_5
  have k_s_5 := hgs
  clear hgs
  go_wp2_with fail
  have k_t_6 : (w5.drew).heap[w.heap.size]? = some (.cells #[.int .i64 x, .int .i64 y, .int .i64 k] 23 (0, 0)) := k_t_5
  have k_o_6 : (w5.drew).heap[w.heap.size + 1]? = some (.cells #[.int .i64 (m.1), .int .i64 (m.2.1), .int .i64 (m.2.2.1), .int .i64 (m.2.2.2)] 27 (0, 0)) := k_o_5
  have k_c_6 : (w5.drew).heap[w1.heap.size]? = some (.cells #[.int .i64 (2 * x + 1), .int .i64 (2 * y + 1), .int .i64 X1, .int .i64 Y1, .int .i64 X2, .int .i64 Y2] 28 (0, 0)) := k_c_5
  have k_l_6 : (w5.drew).heap[w2.heap.size]? = some (.cells #[.int .i64 (E0.1), .int .i64 (E0.2.1), .int .i64 (E0.2.2.1), .int .i64 (E0.2.2.2), .int .i64 (E1.1), .int .i64 (E1.2.1), .int .i64 (E1.2.2.1), .int .i64 (E1.2.2.2), .int .i64 (E2.1), .int .i64 (E2.2.1), .int .i64 (E2.2.2.1), .int .i64 (E2.2.2.2)] 32 (0, 0)) := k_l_5
  have k_x_6 : (w5.drew).heap[w3.heap.size]? = some (.cells #[.int .i64 (U.1), .int .i64 (U.2.1), .int .i64 (U.2.2)] 23 (0, 0)) := k_x_5
  have k_s_6 : (w5.drew).heap[gs]? = some (.cells #[.int .i64 (E0.1), .int .i64 (E0.2.1), .int .i64 (E0.2.2.1), .int .i64 (E0.2.2.2), .int .i64 (E1.1), .int .i64 (E1.2.1), .int .i64 (E1.2.2.1), .int .i64 (E1.2.2.2), .int .i64 (E2.1), .int .i64 (E2.2.1), .int .i64 (E2.2.2.1), .int .i64 (E2.2.2.2)] 27 (0, 0)) := k_s_5
  have hw_6 : Below w.heap.size w (w5.drew) := (hw_5).drew
  have hs_6 : Steps (w5.drew) := (hs_5.below (Below.refl _ _).drew)
  clear c_t_0 c_t_1 c_t_2 f_t s_t c_o_0 c_o_1 c_o_2 c_o_3 f_o s_o c_c_0 c_c_1 c_c_2 c_c_3 c_c_4 c_c_5 f_c s_c c_l_0 c_l_1 c_l_2 c_l_3 c_l_4 c_l_5 c_l_6 c_l_7 c_l_8 c_l_9 c_l_10 c_l_11 f_l s_l c_x_0 c_x_1 c_x_2 f_x s_x k_t_5 k_o_5 k_c_5 k_l_5 k_x_5 k_s_5 hw_5
  have c_t_0 := cell_of_blk k_t_6 0
  have c_t_1 := cell_of_blk k_t_6 1
  have c_t_2 := cell_of_blk k_t_6 2
  simp only [List.getElem?_toArray, List.getElem?_cons_zero, List.getElem?_cons_succ] at c_t_0 c_t_1 c_t_2
  have f_t := frozen_of_blk k_t_6
  have s_t := blk_lt k_t_6
  have c_c_0 := cell_of_blk k_c_6 0
  have c_c_1 := cell_of_blk k_c_6 1
  have c_c_2 := cell_of_blk k_c_6 2
  have c_c_3 := cell_of_blk k_c_6 3
  have c_c_4 := cell_of_blk k_c_6 4
  have c_c_5 := cell_of_blk k_c_6 5
  simp only [List.getElem?_toArray, List.getElem?_cons_zero, List.getElem?_cons_succ] at c_c_0 c_c_1 c_c_2 c_c_3 c_c_4 c_c_5
  have f_c := frozen_of_blk k_c_6
  have s_c := blk_lt k_c_6
  have c_l_0 := cell_of_blk k_l_6 0
  have c_l_1 := cell_of_blk k_l_6 1
  have c_l_2 := cell_of_blk k_l_6 2
  have c_l_3 := cell_of_blk k_l_6 3
  have c_l_4 := cell_of_blk k_l_6 4
  have c_l_5 := cell_of_blk k_l_6 5
  have c_l_6 := cell_of_blk k_l_6 6
  have c_l_7 := cell_of_blk k_l_6 7
  have c_l_8 := cell_of_blk k_l_6 8
  have c_l_9 := cell_of_blk k_l_6 9
  have c_l_10 := cell_of_blk k_l_6 10
  have c_l_11 := cell_of_blk k_l_6 11
  simp only [List.getElem?_toArray, List.getElem?_cons_zero, List.getElem?_cons_succ] at c_l_0 c_l_1 c_l_2 c_l_3 c_l_4 c_l_5 c_l_6 c_l_7 c_l_8 c_l_9 c_l_10 c_l_11
  have f_l := frozen_of_blk k_l_6
  have s_l := blk_lt k_l_6
  have c_s_0 := cell_of_blk k_s_6 0
  have c_s_1 := cell_of_blk k_s_6 1
  have c_s_2 := cell_of_blk k_s_6 2
  have c_s_3 := cell_of_blk k_s_6 3
  have c_s_4 := cell_of_blk k_s_6 4
  have c_s_5 := cell_of_blk k_s_6 5
  have c_s_6 := cell_of_blk k_s_6 6
  have c_s_7 := cell_of_blk k_s_6 7
  have c_s_8 := cell_of_blk k_s_6 8
  have c_s_9 := cell_of_blk k_s_6 9
  have c_s_10 := cell_of_blk k_s_6 10
  have c_s_11 := cell_of_blk k_s_6 11
  simp only [List.getElem?_toArray, List.getElem?_cons_zero, List.getElem?_cons_succ] at c_s_0 c_s_1 c_s_2 c_s_3 c_s_4 c_s_5 c_s_6 c_s_7 c_s_8 c_s_9 c_s_10 c_s_11
  have f_s := frozen_of_blk k_s_6
  have s_s := blk_lt k_s_6
  have hS0 := And.intro c_t_0 (And.intro c_t_1 (And.intro c_t_2 (And.intro c_c_0 (And.intro c_c_1 (And.intro c_c_2 (And.intro c_c_3 (And.intro c_c_4 (And.intro c_c_5 (And.intro c_l_0 (And.intro c_l_1 (And.intro c_l_2 (And.intro c_l_3 (And.intro c_l_4 (And.intro c_l_5 (And.intro c_l_6 (And.intro c_l_7 (And.intro c_l_8 (And.intro c_l_9 (And.intro c_l_10 (And.intro c_l_11 (And.intro c_s_0 (And.intro c_s_1 (And.intro c_s_2 (And.intro c_s_3 (And.intro c_s_4 (And.intro c_s_5 (And.intro c_s_6 (And.intro c_s_7 (And.intro c_s_8 (And.intro c_s_9 (And.intro c_s_10 (And.intro c_s_11 (And.intro hw_6 hs_6)))))))))))))))))))))))))))))))))
  clear c_t_0 c_t_1 c_t_2 c_c_0 c_c_1 c_c_2 c_c_3 c_c_4 c_c_5 c_l_0 c_l_1 c_l_2 c_l_3 c_l_4 c_l_5 c_l_6 c_l_7 c_l_8 c_l_9 c_l_10 c_l_11 c_s_0 c_s_1 c_s_2 c_s_3 c_s_4 c_s_5 c_s_6 c_s_7 c_s_8 c_s_9 c_s_10 c_s_11 f_t s_t f_c s_c f_l s_l f_s s_s
  have r0 : ∀ w : World, (binOp .neq 27 (aggE E0) (aggE E0)).run Tryd.prog w = .ok (.bool false) w := fun w => by rw [neE]; simp [eqL]
  have r1 : ∀ w : World, (binOp .neq 27 (aggE E1) (aggE E1)).run Tryd.prog w = .ok (.bool false) w := fun w => by rw [neE]; simp [eqL]
  have r2 : ∀ w : World, (binOp .neq 27 (aggE E2) (aggE E2)).run Tryd.prog w = .ok (.bool false) w := fun w => by rw [neE]; simp [eqL]
  go_region_held3 (fun w' => w'.cell? ⟨w.heap.size, 0, none⟩ = some (.int .i64 (x)) ∧ w'.cell? ⟨w.heap.size, 1, none⟩ = some (.int .i64 (y)) ∧ w'.cell? ⟨w.heap.size, 2, none⟩ = some (.int .i64 (k)) ∧ w'.cell? ⟨w1.heap.size, 0, none⟩ = some (.int .i64 (2 * x + 1)) ∧ w'.cell? ⟨w1.heap.size, 1, none⟩ = some (.int .i64 (2 * y + 1)) ∧ w'.cell? ⟨w1.heap.size, 2, none⟩ = some (.int .i64 (X1)) ∧ w'.cell? ⟨w1.heap.size, 3, none⟩ = some (.int .i64 (Y1)) ∧ w'.cell? ⟨w1.heap.size, 4, none⟩ = some (.int .i64 (X2)) ∧ w'.cell? ⟨w1.heap.size, 5, none⟩ = some (.int .i64 (Y2)) ∧ w'.cell? ⟨w2.heap.size, 0, none⟩ = some (.int .i64 (E0.1)) ∧ w'.cell? ⟨w2.heap.size, 1, none⟩ = some (.int .i64 (E0.2.1)) ∧ w'.cell? ⟨w2.heap.size, 2, none⟩ = some (.int .i64 (E0.2.2.1)) ∧ w'.cell? ⟨w2.heap.size, 3, none⟩ = some (.int .i64 (E0.2.2.2)) ∧ w'.cell? ⟨w2.heap.size, 4, none⟩ = some (.int .i64 (E1.1)) ∧ w'.cell? ⟨w2.heap.size, 5, none⟩ = some (.int .i64 (E1.2.1)) ∧ w'.cell? ⟨w2.heap.size, 6, none⟩ = some (.int .i64 (E1.2.2.1)) ∧ w'.cell? ⟨w2.heap.size, 7, none⟩ = some (.int .i64 (E1.2.2.2)) ∧ w'.cell? ⟨w2.heap.size, 8, none⟩ = some (.int .i64 (E2.1)) ∧ w'.cell? ⟨w2.heap.size, 9, none⟩ = some (.int .i64 (E2.2.1)) ∧ w'.cell? ⟨w2.heap.size, 10, none⟩ = some (.int .i64 (E2.2.2.1)) ∧ w'.cell? ⟨w2.heap.size, 11, none⟩ = some (.int .i64 (E2.2.2.2)) ∧ w'.cell? ⟨gs, 0, none⟩ = some (.int .i64 (E0.1)) ∧ w'.cell? ⟨gs, 1, none⟩ = some (.int .i64 (E0.2.1)) ∧ w'.cell? ⟨gs, 2, none⟩ = some (.int .i64 (E0.2.2.1)) ∧ w'.cell? ⟨gs, 3, none⟩ = some (.int .i64 (E0.2.2.2)) ∧ w'.cell? ⟨gs, 4, none⟩ = some (.int .i64 (E1.1)) ∧ w'.cell? ⟨gs, 5, none⟩ = some (.int .i64 (E1.2.1)) ∧ w'.cell? ⟨gs, 6, none⟩ = some (.int .i64 (E1.2.2.1)) ∧ w'.cell? ⟨gs, 7, none⟩ = some (.int .i64 (E1.2.2.2)) ∧ w'.cell? ⟨gs, 8, none⟩ = some (.int .i64 (E2.1)) ∧ w'.cell? ⟨gs, 9, none⟩ = some (.int .i64 (E2.2.1)) ∧ w'.cell? ⟨gs, 10, none⟩ = some (.int .i64 (E2.2.2.1)) ∧ w'.cell? ⟨gs, 11, none⟩ = some (.int .i64 (E2.2.2.2)) ∧ Below w.heap.size w w' ∧ Steps w')
    (first
      | with_reducible exact hS0
      | (go_split_ands; go_split_ands; with_reducible exact ⟨stay_c ‹_› hbc (Nat.le_refl _), stay_c ‹_› hbc (Nat.le_refl _), stay_c ‹_› hbc (Nat.le_refl _), stay_c ‹_› hbc (Nat.le_refl _), stay_c ‹_› hbc (Nat.le_refl _), stay_c ‹_› hbc (Nat.le_refl _), stay_c ‹_› hbc (Nat.le_refl _), stay_c ‹_› hbc (Nat.le_refl _), stay_c ‹_› hbc (Nat.le_refl _), stay_c ‹_› hbc (Nat.le_refl _), stay_c ‹_› hbc (Nat.le_refl _), stay_c ‹_› hbc (Nat.le_refl _), stay_c ‹_› hbc (Nat.le_refl _), stay_c ‹_› hbc (Nat.le_refl _), stay_c ‹_› hbc (Nat.le_refl _), stay_c ‹_› hbc (Nat.le_refl _), stay_c ‹_› hbc (Nat.le_refl _), stay_c ‹_› hbc (Nat.le_refl _), stay_c ‹_› hbc (Nat.le_refl _), stay_c ‹_› hbc (Nat.le_refl _), stay_c ‹_› hbc (Nat.le_refl _), stay_c ‹_› hbc (Nat.le_refl _), stay_c ‹_› hbc (Nat.le_refl _), stay_c ‹_› hbc (Nat.le_refl _), stay_c ‹_› hbc (Nat.le_refl _), stay_c ‹_› hbc (Nat.le_refl _), stay_c ‹_› hbc (Nat.le_refl _), stay_c ‹_› hbc (Nat.le_refl _), stay_c ‹_› hbc (Nat.le_refl _), stay_c ‹_› hbc (Nat.le_refl _), stay_c ‹_› hbc (Nat.le_refl _), stay_c ‹_› hbc (Nat.le_refl _), stay_c ‹_› hbc (Nat.le_refl _), stay_b ‹_› hbc, Steps.below ‹_› hbc⟩))
    (first
      | ((with_reducible refine (cornersOf_any x y k _ x1 x2 y1 y2 k1 k2).mono ?_); rintro e wc ⟨⟨gc, he, hgc⟩, hbc⟩; subst he; rw [← HX1.out, ← HY1.out, ← HX2.out, ← HY2.out] at hgc; have kt := blk_below k_t_6 hbc (blk_lt k_t_6); have ko := blk_below k_o_6 hbc (blk_lt k_o_6); have kx := blk_below k_x_6 hbc (blk_lt k_x_6); have ks := blk_below k_s_6 hbc (blk_lt k_s_6))
      | ((with_reducible refine (same_any (2 * x + 1) (2 * y + 1) X1 Y1 X2 Y2 gc _ hgc).mono ?_); rintro e wz ⟨he, hbc⟩; subst he; have kt := blk_below kt hbc (blk_lt kt); have ko := blk_below ko hbc (blk_lt ko); have kx := blk_below kx hbc (blk_lt kx); have ks := blk_below ks hbc (blk_lt ks)))
  rename_i hH
  obtain ⟨_, _, _, _, _, _, _, _, _, _, _, _, _, _, _, _, _, _, _, _, _, _, _, _, _, _, _, _, _, _, _, _, _, hw_20, hs_20⟩ := hH
  clear hS0 k_t_6 k_o_6 k_c_6 k_l_6 k_x_6 k_s_6
  have k_t_20 := kt
  clear kt
  have k_o_20 := ko
  clear ko
  have k_x_20 := kx
  clear kx
  have k_s_20 := ks
  clear ks
  clear r0 r1 r2
  have c_t_0 := cell_of_blk k_t_20 0
  have c_t_1 := cell_of_blk k_t_20 1
  have c_t_2 := cell_of_blk k_t_20 2
  simp only [List.getElem?_toArray, List.getElem?_cons_zero, List.getElem?_cons_succ] at c_t_0 c_t_1 c_t_2
  have f_t := frozen_of_blk k_t_20
  have s_t := blk_lt k_t_20
  have c_o_0 := cell_of_blk k_o_20 0
  have c_o_1 := cell_of_blk k_o_20 1
  have c_o_2 := cell_of_blk k_o_20 2
  have c_o_3 := cell_of_blk k_o_20 3
  simp only [List.getElem?_toArray, List.getElem?_cons_zero, List.getElem?_cons_succ] at c_o_0 c_o_1 c_o_2 c_o_3
  have f_o := frozen_of_blk k_o_20
  have s_o := blk_lt k_o_20
  have c_x_0 := cell_of_blk k_x_20 0
  have c_x_1 := cell_of_blk k_x_20 1
  have c_x_2 := cell_of_blk k_x_20 2
  simp only [List.getElem?_toArray, List.getElem?_cons_zero, List.getElem?_cons_succ] at c_x_0 c_x_1 c_x_2
  have f_x := frozen_of_blk k_x_20
  have s_x := blk_lt k_x_20
  have c_s_0 := cell_of_blk k_s_20 0
  have c_s_1 := cell_of_blk k_s_20 1
  have c_s_2 := cell_of_blk k_s_20 2
  have c_s_3 := cell_of_blk k_s_20 3
  have c_s_4 := cell_of_blk k_s_20 4
  have c_s_5 := cell_of_blk k_s_20 5
  have c_s_6 := cell_of_blk k_s_20 6
  have c_s_7 := cell_of_blk k_s_20 7
  have c_s_8 := cell_of_blk k_s_20 8
  have c_s_9 := cell_of_blk k_s_20 9
  have c_s_10 := cell_of_blk k_s_20 10
  have c_s_11 := cell_of_blk k_s_20 11
  simp only [List.getElem?_toArray, List.getElem?_cons_zero, List.getElem?_cons_succ] at c_s_0 c_s_1 c_s_2 c_s_3 c_s_4 c_s_5 c_s_6 c_s_7 c_s_8 c_s_9 c_s_10 c_s_11
  have f_s := frozen_of_blk k_s_20
  have s_s := blk_lt k_s_20
  have r3 : ∀ w : World, (binOp .neq 23 (aggT3 U) (aggT3 U)).run Tryd.prog w = .ok (.bool false) w := fun w => by rw [neT]; simp [eqL]
  have q0 : ∀ w : World, (binOp .neq 23 (aggT3 V0) (aggT3 V0)).run Tryd.prog w = .ok (.bool false) w := fun w => by rw [neT]; simp [eqL]
  have q1 : ∀ w : World, (binOp .neq 23 (aggT3 V1) (aggT3 V1)).run Tryd.prog w = .ok (.bool false) w := fun w => by rw [neT]; simp [eqL]
  have q2 : ∀ w : World, (binOp .neq 23 (aggT3 V2) (aggT3 V2)).run Tryd.prog w = .ok (.bool false) w := fun w => by rw [neT]; simp [eqL]
  go_wp2_with fail
  refine (HB.out _).mono ?_
  rintro e w21 ⟨rfl, hb21⟩
  have k_t_21 : w21.heap[w.heap.size]? = some (.cells #[.int .i64 x, .int .i64 y, .int .i64 k] 23 (0, 0)) := blk_below k_t_20 hb21 (blk_lt k_t_20)
  have k_o_21 : w21.heap[w.heap.size + 1]? = some (.cells #[.int .i64 (m.1), .int .i64 (m.2.1), .int .i64 (m.2.2.1), .int .i64 (m.2.2.2)] 27 (0, 0)) := blk_below k_o_20 hb21 (blk_lt k_o_20)
  have k_x_21 : w21.heap[w3.heap.size]? = some (.cells #[.int .i64 (U.1), .int .i64 (U.2.1), .int .i64 (U.2.2)] 23 (0, 0)) := blk_below k_x_20 hb21 (blk_lt k_x_20)
  have k_s_21 : w21.heap[gs]? = some (.cells #[.int .i64 (E0.1), .int .i64 (E0.2.1), .int .i64 (E0.2.2.1), .int .i64 (E0.2.2.2), .int .i64 (E1.1), .int .i64 (E1.2.1), .int .i64 (E1.2.2.1), .int .i64 (E1.2.2.2), .int .i64 (E2.1), .int .i64 (E2.2.1), .int .i64 (E2.2.2.1), .int .i64 (E2.2.2.2)] 27 (0, 0)) := blk_below k_s_20 hb21 (blk_lt k_s_20)
  have hw_21 : Below w.heap.size w w21 := stay_b hw_20 hb21
  have hs_21 := hs_20.below hb21
  clear c_t_0 c_t_1 c_t_2 f_t s_t c_o_0 c_o_1 c_o_2 c_o_3 f_o s_o c_x_0 c_x_1 c_x_2 f_x s_x c_s_0 c_s_1 c_s_2 c_s_3 c_s_4 c_s_5 c_s_6 c_s_7 c_s_8 c_s_9 c_s_10 c_s_11 f_s s_s k_t_20 k_o_20 k_x_20 k_s_20 hb21 hw_20
  have c_t_0 := cell_of_blk k_t_21 0
  have c_t_1 := cell_of_blk k_t_21 1
  have c_t_2 := cell_of_blk k_t_21 2
  simp only [List.getElem?_toArray, List.getElem?_cons_zero, List.getElem?_cons_succ] at c_t_0 c_t_1 c_t_2
  have f_t := frozen_of_blk k_t_21
  have s_t := blk_lt k_t_21
  have c_o_0 := cell_of_blk k_o_21 0
  have c_o_1 := cell_of_blk k_o_21 1
  have c_o_2 := cell_of_blk k_o_21 2
  have c_o_3 := cell_of_blk k_o_21 3
  simp only [List.getElem?_toArray, List.getElem?_cons_zero, List.getElem?_cons_succ] at c_o_0 c_o_1 c_o_2 c_o_3
  have f_o := frozen_of_blk k_o_21
  have s_o := blk_lt k_o_21
  have c_x_0 := cell_of_blk k_x_21 0
  have c_x_1 := cell_of_blk k_x_21 1
  have c_x_2 := cell_of_blk k_x_21 2
  simp only [List.getElem?_toArray, List.getElem?_cons_zero, List.getElem?_cons_succ] at c_x_0 c_x_1 c_x_2
  have f_x := frozen_of_blk k_x_21
  have s_x := blk_lt k_x_21
  have c_s_0 := cell_of_blk k_s_21 0
  have c_s_1 := cell_of_blk k_s_21 1
  have c_s_2 := cell_of_blk k_s_21 2
  have c_s_3 := cell_of_blk k_s_21 3
  have c_s_4 := cell_of_blk k_s_21 4
  have c_s_5 := cell_of_blk k_s_21 5
  have c_s_6 := cell_of_blk k_s_21 6
  have c_s_7 := cell_of_blk k_s_21 7
  have c_s_8 := cell_of_blk k_s_21 8
  have c_s_9 := cell_of_blk k_s_21 9
  have c_s_10 := cell_of_blk k_s_21 10
  have c_s_11 := cell_of_blk k_s_21 11
  simp only [List.getElem?_toArray, List.getElem?_cons_zero, List.getElem?_cons_succ] at c_s_0 c_s_1 c_s_2 c_s_3 c_s_4 c_s_5 c_s_6 c_s_7 c_s_8 c_s_9 c_s_10 c_s_11
  have f_s := frozen_of_blk k_s_21
  have s_s := blk_lt k_s_21
  clear c_o_0 c_o_1 c_o_2 c_o_3 f_o s_o k_o_21
  have hgx : gs ≠ w3.heap.size := fun h => by
    have h1 := k_s_21
    rw [h, k_x_21] at h1
    simp at h1
  have n1 : w3.heap.size ≠ w.heap.size := by omega
  have n2 : w3.heap.size ≠ gs := Ne.symm hgx
  have n3 : w21.heap.size ≠ w.heap.size := by omega
  have n4 : w21.heap.size ≠ gs := by omega
  have n5 : w21.heap.size ≠ w3.heap.size := by omega
  have g1 : w.heap.size ≤ w3.heap.size := by omega
  have g2 : w.heap.size ≤ w21.heap.size := by omega
  go_wp2_with fail
  have k_t_22 : ((w21.alloc (.cells #[.int .i64 (U.1), .int .i64 (U.2.1), .int .i64 (U.2.2)] 23))).heap[w.heap.size]? = some (.cells #[.int .i64 x, .int .i64 y, .int .i64 k] 23 (0, 0)) := (blk_alloc k_t_21 _)
  have k_x_22 : ((w21.alloc (.cells #[.int .i64 (U.1), .int .i64 (U.2.1), .int .i64 (U.2.2)] 23))).heap[w3.heap.size]? = some (.cells #[.int .i64 (U.1), .int .i64 (U.2.1), .int .i64 (U.2.2)] 23 (0, 0)) := (blk_alloc k_x_21 _)
  have k_s_22 : ((w21.alloc (.cells #[.int .i64 (U.1), .int .i64 (U.2.1), .int .i64 (U.2.2)] 23))).heap[gs]? = some (.cells #[.int .i64 (E0.1), .int .i64 (E0.2.1), .int .i64 (E0.2.2.1), .int .i64 (E0.2.2.2), .int .i64 (E1.1), .int .i64 (E1.2.1), .int .i64 (E1.2.2.1), .int .i64 (E1.2.2.2), .int .i64 (E2.1), .int .i64 (E2.2.1), .int .i64 (E2.2.2.1), .int .i64 (E2.2.2.2)] 27 (0, 0)) := (blk_alloc k_s_21 _)
  have k_u_22 : ((w21.alloc (.cells #[.int .i64 (U.1), .int .i64 (U.2.1), .int .i64 (U.2.2)] 23))).heap[w21.heap.size]? = some (.cells #[.int .i64 (U.1), .int .i64 (U.2.1), .int .i64 (U.2.2)] 23 (0, 0)) := (new_blk (.cells #[.int .i64 (U.1), .int .i64 (U.2.1), .int .i64 (U.2.2)] 23) (by first | rfl | (simp; done) | (simp; omega)))
  have hw_22 : Below w.heap.size w ((w21.alloc (.cells #[.int .i64 (U.1), .int .i64 (U.2.1), .int .i64 (U.2.2)] 23))) := (ba hw_21 _)
  have hs_22 : Steps ((w21.alloc (.cells #[.int .i64 (U.1), .int .i64 (U.2.1), .int .i64 (U.2.2)] 23))) := (hs_21.alloc _)
  clear c_t_0 c_t_1 c_t_2 f_t s_t c_x_0 c_x_1 c_x_2 f_x s_x c_s_0 c_s_1 c_s_2 c_s_3 c_s_4 c_s_5 c_s_6 c_s_7 c_s_8 c_s_9 c_s_10 c_s_11 f_s s_s k_t_21 k_x_21 k_s_21 hw_21
  go_loopw [16] (fun i wr => ∃ n : Nat, n ≤ 3 ∧ i = .int .i64 n ∧ ∃ p q : T3, wr.heap[w.heap.size]? = some (.cells #[.int .i64 x, .int .i64 y, .int .i64 k] 23 (0, 0)) ∧ wr.heap[gs]? = some (.cells #[.int .i64 (E0.1), .int .i64 (E0.2.1), .int .i64 (E0.2.2.1), .int .i64 (E0.2.2.2), .int .i64 (E1.1), .int .i64 (E1.2.1), .int .i64 (E1.2.2.1), .int .i64 (E1.2.2.2), .int .i64 (E2.1), .int .i64 (E2.2.1), .int .i64 (E2.2.2.1), .int .i64 (E2.2.2.2)] 27 (0, 0)) ∧ wr.heap[w3.heap.size]? = some (.cells #[.int .i64 (p.1), .int .i64 (p.2.1), .int .i64 (p.2.2)] 23 (0, 0)) ∧ wr.heap[w21.heap.size]? = some (.cells #[.int .i64 (q.1), .int .i64 (q.2.1), .int .i64 (q.2.2)] 23 (0, 0)) ∧ Steps wr ∧ Below w.heap.size w wr) (fun i _ => 3 - (intOf i).toNat)
  case atStart => exact ⟨0, by omega, rfl, U, U, k_t_22, k_s_22, k_x_22, k_u_22, hs_22, hw_22⟩
  case round =>
    clear k_t_22 k_s_22 k_x_22 k_u_22 hs_22 hw_22 hs_1 hs_2 hs_3 hs_4 hs_5
    obtain ⟨n, hn, rfl, p, q, k_t_30, k_s_30, k_x_30, k_u_30, hs_30, hw_30⟩ := hrel
    have hn4 : n = 0 ∨ n = 1 ∨ n = 2 ∨ n = 3 := by omega
    rcases hn4 with rfl | rfl | rfl | rfl
    · go_wp2_with fail
      have k_t_31 : (wr.drew).heap[w.heap.size]? = some (.cells #[.int .i64 x, .int .i64 y, .int .i64 k] 23 (0, 0)) := k_t_30
      have k_s_31 : (wr.drew).heap[gs]? = some (.cells #[.int .i64 (E0.1), .int .i64 (E0.2.1), .int .i64 (E0.2.2.1), .int .i64 (E0.2.2.2), .int .i64 (E1.1), .int .i64 (E1.2.1), .int .i64 (E1.2.2.1), .int .i64 (E1.2.2.2), .int .i64 (E2.1), .int .i64 (E2.2.1), .int .i64 (E2.2.2.1), .int .i64 (E2.2.2.2)] 27 (0, 0)) := k_s_30
      have k_x_31 : (wr.drew).heap[w3.heap.size]? = some (.cells #[.int .i64 (p.1), .int .i64 (p.2.1), .int .i64 (p.2.2)] 23 (0, 0)) := k_x_30
      have k_u_31 : (wr.drew).heap[w21.heap.size]? = some (.cells #[.int .i64 (q.1), .int .i64 (q.2.1), .int .i64 (q.2.2)] 23 (0, 0)) := k_u_30
      have hw_31 : Below w.heap.size w (wr.drew) := (hw_30).drew
      have hs_31 : Steps (wr.drew) := (hs_30.below (Below.refl _ _).drew)
      clear k_t_30 k_s_30 k_x_30 k_u_30 hw_30
      have c_t_0 := cell_of_blk k_t_31 0
      have c_t_1 := cell_of_blk k_t_31 1
      have c_t_2 := cell_of_blk k_t_31 2
      simp only [List.getElem?_toArray, List.getElem?_cons_zero, List.getElem?_cons_succ] at c_t_0 c_t_1 c_t_2
      have f_t := frozen_of_blk k_t_31
      have s_t := blk_lt k_t_31
      have c_s_0 := cell_of_blk k_s_31 0
      have c_s_1 := cell_of_blk k_s_31 1
      have c_s_2 := cell_of_blk k_s_31 2
      have c_s_3 := cell_of_blk k_s_31 3
      have c_s_4 := cell_of_blk k_s_31 4
      have c_s_5 := cell_of_blk k_s_31 5
      have c_s_6 := cell_of_blk k_s_31 6
      have c_s_7 := cell_of_blk k_s_31 7
      have c_s_8 := cell_of_blk k_s_31 8
      have c_s_9 := cell_of_blk k_s_31 9
      have c_s_10 := cell_of_blk k_s_31 10
      have c_s_11 := cell_of_blk k_s_31 11
      simp only [List.getElem?_toArray, List.getElem?_cons_zero, List.getElem?_cons_succ] at c_s_0 c_s_1 c_s_2 c_s_3 c_s_4 c_s_5 c_s_6 c_s_7 c_s_8 c_s_9 c_s_10 c_s_11
      have f_s := frozen_of_blk k_s_31
      have s_s := blk_lt k_s_31
      have hS0 := And.intro c_t_0 (And.intro c_t_1 (And.intro c_t_2 (And.intro c_s_0 (And.intro c_s_1 (And.intro c_s_2 (And.intro c_s_3 (And.intro c_s_4 (And.intro c_s_5 (And.intro c_s_6 (And.intro c_s_7 (And.intro c_s_8 (And.intro c_s_9 (And.intro c_s_10 (And.intro c_s_11 hw_31))))))))))))))
      clear c_t_0 c_t_1 c_t_2 c_s_0 c_s_1 c_s_2 c_s_3 c_s_4 c_s_5 c_s_6 c_s_7 c_s_8 c_s_9 c_s_10 c_s_11 f_t s_t f_s s_s
      go_region_held3 (fun w' => w'.cell? ⟨w.heap.size, 0, none⟩ = some (.int .i64 (x)) ∧ w'.cell? ⟨w.heap.size, 1, none⟩ = some (.int .i64 (y)) ∧ w'.cell? ⟨w.heap.size, 2, none⟩ = some (.int .i64 (k)) ∧ w'.cell? ⟨gs, 0, none⟩ = some (.int .i64 (E0.1)) ∧ w'.cell? ⟨gs, 1, none⟩ = some (.int .i64 (E0.2.1)) ∧ w'.cell? ⟨gs, 2, none⟩ = some (.int .i64 (E0.2.2.1)) ∧ w'.cell? ⟨gs, 3, none⟩ = some (.int .i64 (E0.2.2.2)) ∧ w'.cell? ⟨gs, 4, none⟩ = some (.int .i64 (E1.1)) ∧ w'.cell? ⟨gs, 5, none⟩ = some (.int .i64 (E1.2.1)) ∧ w'.cell? ⟨gs, 6, none⟩ = some (.int .i64 (E1.2.2.1)) ∧ w'.cell? ⟨gs, 7, none⟩ = some (.int .i64 (E1.2.2.2)) ∧ w'.cell? ⟨gs, 8, none⟩ = some (.int .i64 (E2.1)) ∧ w'.cell? ⟨gs, 9, none⟩ = some (.int .i64 (E2.2.1)) ∧ w'.cell? ⟨gs, 10, none⟩ = some (.int .i64 (E2.2.2.1)) ∧ w'.cell? ⟨gs, 11, none⟩ = some (.int .i64 (E2.2.2.2)) ∧ Below w.heap.size w w')
        (first
          | with_reducible exact hS0
          | (go_split_ands; with_reducible exact ⟨far3 ‹_› n1 _ _ _, far3 ‹_› n1 _ _ _, far3 ‹_› n1 _ _ _, far3 ‹_› n2 _ _ _, far3 ‹_› n2 _ _ _, far3 ‹_› n2 _ _ _, far3 ‹_› n2 _ _ _, far3 ‹_› n2 _ _ _, far3 ‹_› n2 _ _ _, far3 ‹_› n2 _ _ _, far3 ‹_› n2 _ _ _, far3 ‹_› n2 _ _ _, far3 ‹_› n2 _ _ _, far3 ‹_› n2 _ _ _, far3 ‹_› n2 _ _ _, set3_below ‹_› _ g1 _ _ _⟩)
          | (go_split_ands; with_reducible exact ⟨stay_c ‹_› hbc (Nat.le_refl _), stay_c ‹_› hbc (Nat.le_refl _), stay_c ‹_› hbc (Nat.le_refl _), stay_c ‹_› hbc (Nat.le_refl _), stay_c ‹_› hbc (Nat.le_refl _), stay_c ‹_› hbc (Nat.le_refl _), stay_c ‹_› hbc (Nat.le_refl _), stay_c ‹_› hbc (Nat.le_refl _), stay_c ‹_› hbc (Nat.le_refl _), stay_c ‹_› hbc (Nat.le_refl _), stay_c ‹_› hbc (Nat.le_refl _), stay_c ‹_› hbc (Nat.le_refl _), stay_c ‹_› hbc (Nat.le_refl _), stay_c ‹_› hbc (Nat.le_refl _), stay_c ‹_› hbc (Nat.le_refl _), stay_b ‹_› hbc⟩))
        (((with_reducible refine (HA0.out _ hs_31).mono ?_); rintro e wa0 ⟨he, hbc⟩; subst he; have hsc := Steps.below hs_31 hbc; have hwc := stay_b hw_31 hbc; have jt := blk_below k_t_31 hbc (blk_lt k_t_31); have js := blk_below k_s_31 hbc (blk_lt k_s_31); have jx := blk_below k_x_31 hbc (blk_lt k_x_31); have ju := blk_below k_u_31 hbc (blk_lt k_u_31); have z0 := cell_of_blk jx 0; have z1 := cell_of_blk jx 1; have z2 := cell_of_blk jx 2; simp only [List.getElem?_toArray, List.getElem?_cons_zero, List.getElem?_cons_succ] at z0 z1 z2; have zs := blk_lt jx; have zf := frozen_of_blk jx))
      rename_i hH
      clear hH hS0 z0 z1 z2 zs zf k_t_31 k_s_31 k_x_31 k_u_31
      have k_t_40 : ((((wa0.setCell ⟨w3.heap.size, 0, none⟩ (.int .i64 V0.1)).setCell ⟨w3.heap.size, 1, none⟩ (.int .i64 V0.2.1)).setCell ⟨w3.heap.size, 2, none⟩ (.int .i64 V0.2.2))).heap[w.heap.size]? = some (.cells #[.int .i64 x, .int .i64 y, .int .i64 k] 23 (0, 0)) := farb3 jt n1.symm _ _ _
      have k_s_40 : ((((wa0.setCell ⟨w3.heap.size, 0, none⟩ (.int .i64 V0.1)).setCell ⟨w3.heap.size, 1, none⟩ (.int .i64 V0.2.1)).setCell ⟨w3.heap.size, 2, none⟩ (.int .i64 V0.2.2))).heap[gs]? = some (.cells #[.int .i64 (E0.1), .int .i64 (E0.2.1), .int .i64 (E0.2.2.1), .int .i64 (E0.2.2.2), .int .i64 (E1.1), .int .i64 (E1.2.1), .int .i64 (E1.2.2.1), .int .i64 (E1.2.2.2), .int .i64 (E2.1), .int .i64 (E2.2.1), .int .i64 (E2.2.2.1), .int .i64 (E2.2.2.2)] 27 (0, 0)) := farb3 js n2.symm _ _ _
      have k_x_40 : ((((wa0.setCell ⟨w3.heap.size, 0, none⟩ (.int .i64 V0.1)).setCell ⟨w3.heap.size, 1, none⟩ (.int .i64 V0.2.1)).setCell ⟨w3.heap.size, 2, none⟩ (.int .i64 V0.2.2))).heap[w3.heap.size]? = some (.cells #[.int .i64 (V0.1), .int .i64 (V0.2.1), .int .i64 (V0.2.2)] 23 (0, 0)) := set3_blk jx _ _ _
      have k_u_40 : ((((wa0.setCell ⟨w3.heap.size, 0, none⟩ (.int .i64 V0.1)).setCell ⟨w3.heap.size, 1, none⟩ (.int .i64 V0.2.1)).setCell ⟨w3.heap.size, 2, none⟩ (.int .i64 V0.2.2))).heap[w21.heap.size]? = some (.cells #[.int .i64 (q.1), .int .i64 (q.2.1), .int .i64 (q.2.2)] 23 (0, 0)) := farb3 ju n5 _ _ _
      have hs_40 : Steps ((((wa0.setCell ⟨w3.heap.size, 0, none⟩ (.int .i64 V0.1)).setCell ⟨w3.heap.size, 1, none⟩ (.int .i64 V0.2.1)).setCell ⟨w3.heap.size, 2, none⟩ (.int .i64 V0.2.2))) := Steps.set3 hsc (by omega) _ _ _
      have hw_40 : Below w.heap.size w ((((wa0.setCell ⟨w3.heap.size, 0, none⟩ (.int .i64 V0.1)).setCell ⟨w3.heap.size, 1, none⟩ (.int .i64 V0.2.1)).setCell ⟨w3.heap.size, 2, none⟩ (.int .i64 V0.2.2))) := set3_below hwc _ g1 _ _ _
      clear jt js jx ju hsc hwc hbc hs_31 hw_31
      generalize ((((wa0.setCell ⟨w3.heap.size, 0, none⟩ (.int .i64 V0.1)).setCell ⟨w3.heap.size, 1, none⟩ (.int .i64 V0.2.1)).setCell ⟨w3.heap.size, 2, none⟩ (.int .i64 V0.2.2))) = wy40 at k_t_40 k_s_40 k_x_40 k_u_40 hs_40 hw_40 ⊢
      go_wp2_with fail
      have k_t_41 : (wy40.drew).heap[w.heap.size]? = some (.cells #[.int .i64 x, .int .i64 y, .int .i64 k] 23 (0, 0)) := k_t_40
      have k_s_41 : (wy40.drew).heap[gs]? = some (.cells #[.int .i64 (E0.1), .int .i64 (E0.2.1), .int .i64 (E0.2.2.1), .int .i64 (E0.2.2.2), .int .i64 (E1.1), .int .i64 (E1.2.1), .int .i64 (E1.2.2.1), .int .i64 (E1.2.2.2), .int .i64 (E2.1), .int .i64 (E2.2.1), .int .i64 (E2.2.2.1), .int .i64 (E2.2.2.2)] 27 (0, 0)) := k_s_40
      have k_x_41 : (wy40.drew).heap[w3.heap.size]? = some (.cells #[.int .i64 (V0.1), .int .i64 (V0.2.1), .int .i64 (V0.2.2)] 23 (0, 0)) := k_x_40
      have k_u_41 : (wy40.drew).heap[w21.heap.size]? = some (.cells #[.int .i64 (q.1), .int .i64 (q.2.1), .int .i64 (q.2.2)] 23 (0, 0)) := k_u_40
      have hw_41 : Below w.heap.size w (wy40.drew) := (hw_40).drew
      have hs_41 : Steps (wy40.drew) := (hs_40.below (Below.refl _ _).drew)
      clear k_t_40 k_s_40 k_x_40 k_u_40 hw_40
      have c_t_0 := cell_of_blk k_t_41 0
      have c_t_1 := cell_of_blk k_t_41 1
      have c_t_2 := cell_of_blk k_t_41 2
      simp only [List.getElem?_toArray, List.getElem?_cons_zero, List.getElem?_cons_succ] at c_t_0 c_t_1 c_t_2
      have f_t := frozen_of_blk k_t_41
      have s_t := blk_lt k_t_41
      have c_s_0 := cell_of_blk k_s_41 0
      have c_s_1 := cell_of_blk k_s_41 1
      have c_s_2 := cell_of_blk k_s_41 2
      have c_s_3 := cell_of_blk k_s_41 3
      have c_s_4 := cell_of_blk k_s_41 4
      have c_s_5 := cell_of_blk k_s_41 5
      have c_s_6 := cell_of_blk k_s_41 6
      have c_s_7 := cell_of_blk k_s_41 7
      have c_s_8 := cell_of_blk k_s_41 8
      have c_s_9 := cell_of_blk k_s_41 9
      have c_s_10 := cell_of_blk k_s_41 10
      have c_s_11 := cell_of_blk k_s_41 11
      simp only [List.getElem?_toArray, List.getElem?_cons_zero, List.getElem?_cons_succ] at c_s_0 c_s_1 c_s_2 c_s_3 c_s_4 c_s_5 c_s_6 c_s_7 c_s_8 c_s_9 c_s_10 c_s_11
      have f_s := frozen_of_blk k_s_41
      have s_s := blk_lt k_s_41
      have hS0 := And.intro c_t_0 (And.intro c_t_1 (And.intro c_t_2 (And.intro c_s_0 (And.intro c_s_1 (And.intro c_s_2 (And.intro c_s_3 (And.intro c_s_4 (And.intro c_s_5 (And.intro c_s_6 (And.intro c_s_7 (And.intro c_s_8 (And.intro c_s_9 (And.intro c_s_10 (And.intro c_s_11 hw_41))))))))))))))
      clear c_t_0 c_t_1 c_t_2 c_s_0 c_s_1 c_s_2 c_s_3 c_s_4 c_s_5 c_s_6 c_s_7 c_s_8 c_s_9 c_s_10 c_s_11 f_t s_t f_s s_s
      go_region_held3 (fun w' => w'.cell? ⟨w.heap.size, 0, none⟩ = some (.int .i64 (x)) ∧ w'.cell? ⟨w.heap.size, 1, none⟩ = some (.int .i64 (y)) ∧ w'.cell? ⟨w.heap.size, 2, none⟩ = some (.int .i64 (k)) ∧ w'.cell? ⟨gs, 0, none⟩ = some (.int .i64 (E0.1)) ∧ w'.cell? ⟨gs, 1, none⟩ = some (.int .i64 (E0.2.1)) ∧ w'.cell? ⟨gs, 2, none⟩ = some (.int .i64 (E0.2.2.1)) ∧ w'.cell? ⟨gs, 3, none⟩ = some (.int .i64 (E0.2.2.2)) ∧ w'.cell? ⟨gs, 4, none⟩ = some (.int .i64 (E1.1)) ∧ w'.cell? ⟨gs, 5, none⟩ = some (.int .i64 (E1.2.1)) ∧ w'.cell? ⟨gs, 6, none⟩ = some (.int .i64 (E1.2.2.1)) ∧ w'.cell? ⟨gs, 7, none⟩ = some (.int .i64 (E1.2.2.2)) ∧ w'.cell? ⟨gs, 8, none⟩ = some (.int .i64 (E2.1)) ∧ w'.cell? ⟨gs, 9, none⟩ = some (.int .i64 (E2.2.1)) ∧ w'.cell? ⟨gs, 10, none⟩ = some (.int .i64 (E2.2.2.1)) ∧ w'.cell? ⟨gs, 11, none⟩ = some (.int .i64 (E2.2.2.2)) ∧ Below w.heap.size w w')
        (first
          | with_reducible exact hS0
          | (go_split_ands; with_reducible exact ⟨far3 ‹_› n3 _ _ _, far3 ‹_› n3 _ _ _, far3 ‹_› n3 _ _ _, far3 ‹_› n4 _ _ _, far3 ‹_› n4 _ _ _, far3 ‹_› n4 _ _ _, far3 ‹_› n4 _ _ _, far3 ‹_› n4 _ _ _, far3 ‹_› n4 _ _ _, far3 ‹_› n4 _ _ _, far3 ‹_› n4 _ _ _, far3 ‹_› n4 _ _ _, far3 ‹_› n4 _ _ _, far3 ‹_› n4 _ _ _, far3 ‹_› n4 _ _ _, set3_below ‹_› _ g2 _ _ _⟩)
          | (go_split_ands; with_reducible exact ⟨stay_c ‹_› hbc (Nat.le_refl _), stay_c ‹_› hbc (Nat.le_refl _), stay_c ‹_› hbc (Nat.le_refl _), stay_c ‹_› hbc (Nat.le_refl _), stay_c ‹_› hbc (Nat.le_refl _), stay_c ‹_› hbc (Nat.le_refl _), stay_c ‹_› hbc (Nat.le_refl _), stay_c ‹_› hbc (Nat.le_refl _), stay_c ‹_› hbc (Nat.le_refl _), stay_c ‹_› hbc (Nat.le_refl _), stay_c ‹_› hbc (Nat.le_refl _), stay_c ‹_› hbc (Nat.le_refl _), stay_c ‹_› hbc (Nat.le_refl _), stay_c ‹_› hbc (Nat.le_refl _), stay_c ‹_› hbc (Nat.le_refl _), stay_b ‹_› hbc⟩))
        (((with_reducible refine (HB0.out _).mono ?_); rintro e wb0 ⟨he, hbc⟩; subst he; have hsc := Steps.below hs_41 hbc; have hwc := stay_b hw_41 hbc; have jt := blk_below k_t_41 hbc (blk_lt k_t_41); have js := blk_below k_s_41 hbc (blk_lt k_s_41); have jx := blk_below k_x_41 hbc (blk_lt k_x_41); have ju := blk_below k_u_41 hbc (blk_lt k_u_41); have z0 := cell_of_blk ju 0; have z1 := cell_of_blk ju 1; have z2 := cell_of_blk ju 2; simp only [List.getElem?_toArray, List.getElem?_cons_zero, List.getElem?_cons_succ] at z0 z1 z2; have zs := blk_lt ju; have zf := frozen_of_blk ju))
      rename_i hH
      clear hH hS0 z0 z1 z2 zs zf k_t_41 k_s_41 k_x_41 k_u_41
      have k_t_50 : ((((wb0.setCell ⟨w21.heap.size, 0, none⟩ (.int .i64 V0.1)).setCell ⟨w21.heap.size, 1, none⟩ (.int .i64 V0.2.1)).setCell ⟨w21.heap.size, 2, none⟩ (.int .i64 V0.2.2))).heap[w.heap.size]? = some (.cells #[.int .i64 x, .int .i64 y, .int .i64 k] 23 (0, 0)) := farb3 jt n3.symm _ _ _
      have k_s_50 : ((((wb0.setCell ⟨w21.heap.size, 0, none⟩ (.int .i64 V0.1)).setCell ⟨w21.heap.size, 1, none⟩ (.int .i64 V0.2.1)).setCell ⟨w21.heap.size, 2, none⟩ (.int .i64 V0.2.2))).heap[gs]? = some (.cells #[.int .i64 (E0.1), .int .i64 (E0.2.1), .int .i64 (E0.2.2.1), .int .i64 (E0.2.2.2), .int .i64 (E1.1), .int .i64 (E1.2.1), .int .i64 (E1.2.2.1), .int .i64 (E1.2.2.2), .int .i64 (E2.1), .int .i64 (E2.2.1), .int .i64 (E2.2.2.1), .int .i64 (E2.2.2.2)] 27 (0, 0)) := farb3 js n4.symm _ _ _
      have k_x_50 : ((((wb0.setCell ⟨w21.heap.size, 0, none⟩ (.int .i64 V0.1)).setCell ⟨w21.heap.size, 1, none⟩ (.int .i64 V0.2.1)).setCell ⟨w21.heap.size, 2, none⟩ (.int .i64 V0.2.2))).heap[w3.heap.size]? = some (.cells #[.int .i64 (V0.1), .int .i64 (V0.2.1), .int .i64 (V0.2.2)] 23 (0, 0)) := farb3 jx n5.symm _ _ _
      have k_u_50 : ((((wb0.setCell ⟨w21.heap.size, 0, none⟩ (.int .i64 V0.1)).setCell ⟨w21.heap.size, 1, none⟩ (.int .i64 V0.2.1)).setCell ⟨w21.heap.size, 2, none⟩ (.int .i64 V0.2.2))).heap[w21.heap.size]? = some (.cells #[.int .i64 (V0.1), .int .i64 (V0.2.1), .int .i64 (V0.2.2)] 23 (0, 0)) := set3_blk ju _ _ _
      have hs_50 : Steps ((((wb0.setCell ⟨w21.heap.size, 0, none⟩ (.int .i64 V0.1)).setCell ⟨w21.heap.size, 1, none⟩ (.int .i64 V0.2.1)).setCell ⟨w21.heap.size, 2, none⟩ (.int .i64 V0.2.2))) := Steps.set3 hsc (by omega) _ _ _
      have hw_50 : Below w.heap.size w ((((wb0.setCell ⟨w21.heap.size, 0, none⟩ (.int .i64 V0.1)).setCell ⟨w21.heap.size, 1, none⟩ (.int .i64 V0.2.1)).setCell ⟨w21.heap.size, 2, none⟩ (.int .i64 V0.2.2))) := set3_below hwc _ g2 _ _ _
      clear jt js jx ju hsc hwc hbc hs_41 hw_41
      generalize ((((wb0.setCell ⟨w21.heap.size, 0, none⟩ (.int .i64 V0.1)).setCell ⟨w21.heap.size, 1, none⟩ (.int .i64 V0.2.1)).setCell ⟨w21.heap.size, 2, none⟩ (.int .i64 V0.2.2))) = wy50 at k_t_50 k_s_50 k_x_50 k_u_50 hs_50 hw_50 ⊢
      have c_x_0 := cell_of_blk k_x_50 0
      have c_x_1 := cell_of_blk k_x_50 1
      have c_x_2 := cell_of_blk k_x_50 2
      simp only [List.getElem?_toArray, List.getElem?_cons_zero, List.getElem?_cons_succ] at c_x_0 c_x_1 c_x_2
      have f_x := frozen_of_blk k_x_50
      have s_x := blk_lt k_x_50
      have c_u_0 := cell_of_blk k_u_50 0
      have c_u_1 := cell_of_blk k_u_50 1
      have c_u_2 := cell_of_blk k_u_50 2
      simp only [List.getElem?_toArray, List.getElem?_cons_zero, List.getElem?_cons_succ] at c_u_0 c_u_1 c_u_2
      have f_u := frozen_of_blk k_u_50
      have s_u := blk_lt k_u_50
      go_wp2
      go_roundw
      case rel => exact ⟨1, by omega, rfl, V0, V0, k_t_50, k_s_50, k_x_50, k_u_50, hs_50, hw_50⟩
      case measure => simp [intOf]
    · go_wp2_with fail
      have k_t_31 : (wr.drew).heap[w.heap.size]? = some (.cells #[.int .i64 x, .int .i64 y, .int .i64 k] 23 (0, 0)) := k_t_30
      have k_s_31 : (wr.drew).heap[gs]? = some (.cells #[.int .i64 (E0.1), .int .i64 (E0.2.1), .int .i64 (E0.2.2.1), .int .i64 (E0.2.2.2), .int .i64 (E1.1), .int .i64 (E1.2.1), .int .i64 (E1.2.2.1), .int .i64 (E1.2.2.2), .int .i64 (E2.1), .int .i64 (E2.2.1), .int .i64 (E2.2.2.1), .int .i64 (E2.2.2.2)] 27 (0, 0)) := k_s_30
      have k_x_31 : (wr.drew).heap[w3.heap.size]? = some (.cells #[.int .i64 (p.1), .int .i64 (p.2.1), .int .i64 (p.2.2)] 23 (0, 0)) := k_x_30
      have k_u_31 : (wr.drew).heap[w21.heap.size]? = some (.cells #[.int .i64 (q.1), .int .i64 (q.2.1), .int .i64 (q.2.2)] 23 (0, 0)) := k_u_30
      have hw_31 : Below w.heap.size w (wr.drew) := (hw_30).drew
      have hs_31 : Steps (wr.drew) := (hs_30.below (Below.refl _ _).drew)
      clear k_t_30 k_s_30 k_x_30 k_u_30 hw_30
      have c_t_0 := cell_of_blk k_t_31 0
      have c_t_1 := cell_of_blk k_t_31 1
      have c_t_2 := cell_of_blk k_t_31 2
      simp only [List.getElem?_toArray, List.getElem?_cons_zero, List.getElem?_cons_succ] at c_t_0 c_t_1 c_t_2
      have f_t := frozen_of_blk k_t_31
      have s_t := blk_lt k_t_31
      have c_s_0 := cell_of_blk k_s_31 0
      have c_s_1 := cell_of_blk k_s_31 1
      have c_s_2 := cell_of_blk k_s_31 2
      have c_s_3 := cell_of_blk k_s_31 3
      have c_s_4 := cell_of_blk k_s_31 4
      have c_s_5 := cell_of_blk k_s_31 5
      have c_s_6 := cell_of_blk k_s_31 6
      have c_s_7 := cell_of_blk k_s_31 7
      have c_s_8 := cell_of_blk k_s_31 8
      have c_s_9 := cell_of_blk k_s_31 9
      have c_s_10 := cell_of_blk k_s_31 10
      have c_s_11 := cell_of_blk k_s_31 11
      simp only [List.getElem?_toArray, List.getElem?_cons_zero, List.getElem?_cons_succ] at c_s_0 c_s_1 c_s_2 c_s_3 c_s_4 c_s_5 c_s_6 c_s_7 c_s_8 c_s_9 c_s_10 c_s_11
      have f_s := frozen_of_blk k_s_31
      have s_s := blk_lt k_s_31
      have hS0 := And.intro c_t_0 (And.intro c_t_1 (And.intro c_t_2 (And.intro c_s_0 (And.intro c_s_1 (And.intro c_s_2 (And.intro c_s_3 (And.intro c_s_4 (And.intro c_s_5 (And.intro c_s_6 (And.intro c_s_7 (And.intro c_s_8 (And.intro c_s_9 (And.intro c_s_10 (And.intro c_s_11 hw_31))))))))))))))
      clear c_t_0 c_t_1 c_t_2 c_s_0 c_s_1 c_s_2 c_s_3 c_s_4 c_s_5 c_s_6 c_s_7 c_s_8 c_s_9 c_s_10 c_s_11 f_t s_t f_s s_s
      go_region_held3 (fun w' => w'.cell? ⟨w.heap.size, 0, none⟩ = some (.int .i64 (x)) ∧ w'.cell? ⟨w.heap.size, 1, none⟩ = some (.int .i64 (y)) ∧ w'.cell? ⟨w.heap.size, 2, none⟩ = some (.int .i64 (k)) ∧ w'.cell? ⟨gs, 0, none⟩ = some (.int .i64 (E0.1)) ∧ w'.cell? ⟨gs, 1, none⟩ = some (.int .i64 (E0.2.1)) ∧ w'.cell? ⟨gs, 2, none⟩ = some (.int .i64 (E0.2.2.1)) ∧ w'.cell? ⟨gs, 3, none⟩ = some (.int .i64 (E0.2.2.2)) ∧ w'.cell? ⟨gs, 4, none⟩ = some (.int .i64 (E1.1)) ∧ w'.cell? ⟨gs, 5, none⟩ = some (.int .i64 (E1.2.1)) ∧ w'.cell? ⟨gs, 6, none⟩ = some (.int .i64 (E1.2.2.1)) ∧ w'.cell? ⟨gs, 7, none⟩ = some (.int .i64 (E1.2.2.2)) ∧ w'.cell? ⟨gs, 8, none⟩ = some (.int .i64 (E2.1)) ∧ w'.cell? ⟨gs, 9, none⟩ = some (.int .i64 (E2.2.1)) ∧ w'.cell? ⟨gs, 10, none⟩ = some (.int .i64 (E2.2.2.1)) ∧ w'.cell? ⟨gs, 11, none⟩ = some (.int .i64 (E2.2.2.2)) ∧ Below w.heap.size w w')
        (first
          | with_reducible exact hS0
          | (go_split_ands; with_reducible exact ⟨far3 ‹_› n1 _ _ _, far3 ‹_› n1 _ _ _, far3 ‹_› n1 _ _ _, far3 ‹_› n2 _ _ _, far3 ‹_› n2 _ _ _, far3 ‹_› n2 _ _ _, far3 ‹_› n2 _ _ _, far3 ‹_› n2 _ _ _, far3 ‹_› n2 _ _ _, far3 ‹_› n2 _ _ _, far3 ‹_› n2 _ _ _, far3 ‹_› n2 _ _ _, far3 ‹_› n2 _ _ _, far3 ‹_› n2 _ _ _, far3 ‹_› n2 _ _ _, set3_below ‹_› _ g1 _ _ _⟩)
          | (go_split_ands; with_reducible exact ⟨stay_c ‹_› hbc (Nat.le_refl _), stay_c ‹_› hbc (Nat.le_refl _), stay_c ‹_› hbc (Nat.le_refl _), stay_c ‹_› hbc (Nat.le_refl _), stay_c ‹_› hbc (Nat.le_refl _), stay_c ‹_› hbc (Nat.le_refl _), stay_c ‹_› hbc (Nat.le_refl _), stay_c ‹_› hbc (Nat.le_refl _), stay_c ‹_› hbc (Nat.le_refl _), stay_c ‹_› hbc (Nat.le_refl _), stay_c ‹_› hbc (Nat.le_refl _), stay_c ‹_› hbc (Nat.le_refl _), stay_c ‹_› hbc (Nat.le_refl _), stay_c ‹_› hbc (Nat.le_refl _), stay_c ‹_› hbc (Nat.le_refl _), stay_b ‹_› hbc⟩))
        (((with_reducible refine (HA1.out _ hs_31).mono ?_); rintro e wa1 ⟨he, hbc⟩; subst he; have hsc := Steps.below hs_31 hbc; have hwc := stay_b hw_31 hbc; have jt := blk_below k_t_31 hbc (blk_lt k_t_31); have js := blk_below k_s_31 hbc (blk_lt k_s_31); have jx := blk_below k_x_31 hbc (blk_lt k_x_31); have ju := blk_below k_u_31 hbc (blk_lt k_u_31); have z0 := cell_of_blk jx 0; have z1 := cell_of_blk jx 1; have z2 := cell_of_blk jx 2; simp only [List.getElem?_toArray, List.getElem?_cons_zero, List.getElem?_cons_succ] at z0 z1 z2; have zs := blk_lt jx; have zf := frozen_of_blk jx))
      rename_i hH
      clear hH hS0 z0 z1 z2 zs zf k_t_31 k_s_31 k_x_31 k_u_31
      have k_t_40 : ((((wa1.setCell ⟨w3.heap.size, 0, none⟩ (.int .i64 V1.1)).setCell ⟨w3.heap.size, 1, none⟩ (.int .i64 V1.2.1)).setCell ⟨w3.heap.size, 2, none⟩ (.int .i64 V1.2.2))).heap[w.heap.size]? = some (.cells #[.int .i64 x, .int .i64 y, .int .i64 k] 23 (0, 0)) := farb3 jt n1.symm _ _ _
      have k_s_40 : ((((wa1.setCell ⟨w3.heap.size, 0, none⟩ (.int .i64 V1.1)).setCell ⟨w3.heap.size, 1, none⟩ (.int .i64 V1.2.1)).setCell ⟨w3.heap.size, 2, none⟩ (.int .i64 V1.2.2))).heap[gs]? = some (.cells #[.int .i64 (E0.1), .int .i64 (E0.2.1), .int .i64 (E0.2.2.1), .int .i64 (E0.2.2.2), .int .i64 (E1.1), .int .i64 (E1.2.1), .int .i64 (E1.2.2.1), .int .i64 (E1.2.2.2), .int .i64 (E2.1), .int .i64 (E2.2.1), .int .i64 (E2.2.2.1), .int .i64 (E2.2.2.2)] 27 (0, 0)) := farb3 js n2.symm _ _ _
      have k_x_40 : ((((wa1.setCell ⟨w3.heap.size, 0, none⟩ (.int .i64 V1.1)).setCell ⟨w3.heap.size, 1, none⟩ (.int .i64 V1.2.1)).setCell ⟨w3.heap.size, 2, none⟩ (.int .i64 V1.2.2))).heap[w3.heap.size]? = some (.cells #[.int .i64 (V1.1), .int .i64 (V1.2.1), .int .i64 (V1.2.2)] 23 (0, 0)) := set3_blk jx _ _ _
      have k_u_40 : ((((wa1.setCell ⟨w3.heap.size, 0, none⟩ (.int .i64 V1.1)).setCell ⟨w3.heap.size, 1, none⟩ (.int .i64 V1.2.1)).setCell ⟨w3.heap.size, 2, none⟩ (.int .i64 V1.2.2))).heap[w21.heap.size]? = some (.cells #[.int .i64 (q.1), .int .i64 (q.2.1), .int .i64 (q.2.2)] 23 (0, 0)) := farb3 ju n5 _ _ _
      have hs_40 : Steps ((((wa1.setCell ⟨w3.heap.size, 0, none⟩ (.int .i64 V1.1)).setCell ⟨w3.heap.size, 1, none⟩ (.int .i64 V1.2.1)).setCell ⟨w3.heap.size, 2, none⟩ (.int .i64 V1.2.2))) := Steps.set3 hsc (by omega) _ _ _
      have hw_40 : Below w.heap.size w ((((wa1.setCell ⟨w3.heap.size, 0, none⟩ (.int .i64 V1.1)).setCell ⟨w3.heap.size, 1, none⟩ (.int .i64 V1.2.1)).setCell ⟨w3.heap.size, 2, none⟩ (.int .i64 V1.2.2))) := set3_below hwc _ g1 _ _ _
      clear jt js jx ju hsc hwc hbc hs_31 hw_31
      generalize ((((wa1.setCell ⟨w3.heap.size, 0, none⟩ (.int .i64 V1.1)).setCell ⟨w3.heap.size, 1, none⟩ (.int .i64 V1.2.1)).setCell ⟨w3.heap.size, 2, none⟩ (.int .i64 V1.2.2))) = wy40 at k_t_40 k_s_40 k_x_40 k_u_40 hs_40 hw_40 ⊢
      go_wp2_with fail
      have k_t_41 : (wy40.drew).heap[w.heap.size]? = some (.cells #[.int .i64 x, .int .i64 y, .int .i64 k] 23 (0, 0)) := k_t_40
      have k_s_41 : (wy40.drew).heap[gs]? = some (.cells #[.int .i64 (E0.1), .int .i64 (E0.2.1), .int .i64 (E0.2.2.1), .int .i64 (E0.2.2.2), .int .i64 (E1.1), .int .i64 (E1.2.1), .int .i64 (E1.2.2.1), .int .i64 (E1.2.2.2), .int .i64 (E2.1), .int .i64 (E2.2.1), .int .i64 (E2.2.2.1), .int .i64 (E2.2.2.2)] 27 (0, 0)) := k_s_40
      have k_x_41 : (wy40.drew).heap[w3.heap.size]? = some (.cells #[.int .i64 (V1.1), .int .i64 (V1.2.1), .int .i64 (V1.2.2)] 23 (0, 0)) := k_x_40
      have k_u_41 : (wy40.drew).heap[w21.heap.size]? = some (.cells #[.int .i64 (q.1), .int .i64 (q.2.1), .int .i64 (q.2.2)] 23 (0, 0)) := k_u_40
      have hw_41 : Below w.heap.size w (wy40.drew) := (hw_40).drew
      have hs_41 : Steps (wy40.drew) := (hs_40.below (Below.refl _ _).drew)
      clear k_t_40 k_s_40 k_x_40 k_u_40 hw_40
      have c_t_0 := cell_of_blk k_t_41 0
      have c_t_1 := cell_of_blk k_t_41 1
      have c_t_2 := cell_of_blk k_t_41 2
      simp only [List.getElem?_toArray, List.getElem?_cons_zero, List.getElem?_cons_succ] at c_t_0 c_t_1 c_t_2
      have f_t := frozen_of_blk k_t_41
      have s_t := blk_lt k_t_41
      have c_s_0 := cell_of_blk k_s_41 0
      have c_s_1 := cell_of_blk k_s_41 1
      have c_s_2 := cell_of_blk k_s_41 2
      have c_s_3 := cell_of_blk k_s_41 3
      have c_s_4 := cell_of_blk k_s_41 4
      have c_s_5 := cell_of_blk k_s_41 5
      have c_s_6 := cell_of_blk k_s_41 6
      have c_s_7 := cell_of_blk k_s_41 7
      have c_s_8 := cell_of_blk k_s_41 8
      have c_s_9 := cell_of_blk k_s_41 9
      have c_s_10 := cell_of_blk k_s_41 10
      have c_s_11 := cell_of_blk k_s_41 11
      simp only [List.getElem?_toArray, List.getElem?_cons_zero, List.getElem?_cons_succ] at c_s_0 c_s_1 c_s_2 c_s_3 c_s_4 c_s_5 c_s_6 c_s_7 c_s_8 c_s_9 c_s_10 c_s_11
      have f_s := frozen_of_blk k_s_41
      have s_s := blk_lt k_s_41
      have hS0 := And.intro c_t_0 (And.intro c_t_1 (And.intro c_t_2 (And.intro c_s_0 (And.intro c_s_1 (And.intro c_s_2 (And.intro c_s_3 (And.intro c_s_4 (And.intro c_s_5 (And.intro c_s_6 (And.intro c_s_7 (And.intro c_s_8 (And.intro c_s_9 (And.intro c_s_10 (And.intro c_s_11 hw_41))))))))))))))
      clear c_t_0 c_t_1 c_t_2 c_s_0 c_s_1 c_s_2 c_s_3 c_s_4 c_s_5 c_s_6 c_s_7 c_s_8 c_s_9 c_s_10 c_s_11 f_t s_t f_s s_s
      go_region_held3 (fun w' => w'.cell? ⟨w.heap.size, 0, none⟩ = some (.int .i64 (x)) ∧ w'.cell? ⟨w.heap.size, 1, none⟩ = some (.int .i64 (y)) ∧ w'.cell? ⟨w.heap.size, 2, none⟩ = some (.int .i64 (k)) ∧ w'.cell? ⟨gs, 0, none⟩ = some (.int .i64 (E0.1)) ∧ w'.cell? ⟨gs, 1, none⟩ = some (.int .i64 (E0.2.1)) ∧ w'.cell? ⟨gs, 2, none⟩ = some (.int .i64 (E0.2.2.1)) ∧ w'.cell? ⟨gs, 3, none⟩ = some (.int .i64 (E0.2.2.2)) ∧ w'.cell? ⟨gs, 4, none⟩ = some (.int .i64 (E1.1)) ∧ w'.cell? ⟨gs, 5, none⟩ = some (.int .i64 (E1.2.1)) ∧ w'.cell? ⟨gs, 6, none⟩ = some (.int .i64 (E1.2.2.1)) ∧ w'.cell? ⟨gs, 7, none⟩ = some (.int .i64 (E1.2.2.2)) ∧ w'.cell? ⟨gs, 8, none⟩ = some (.int .i64 (E2.1)) ∧ w'.cell? ⟨gs, 9, none⟩ = some (.int .i64 (E2.2.1)) ∧ w'.cell? ⟨gs, 10, none⟩ = some (.int .i64 (E2.2.2.1)) ∧ w'.cell? ⟨gs, 11, none⟩ = some (.int .i64 (E2.2.2.2)) ∧ Below w.heap.size w w')
        (first
          | with_reducible exact hS0
          | (go_split_ands; with_reducible exact ⟨far3 ‹_› n3 _ _ _, far3 ‹_› n3 _ _ _, far3 ‹_› n3 _ _ _, far3 ‹_› n4 _ _ _, far3 ‹_› n4 _ _ _, far3 ‹_› n4 _ _ _, far3 ‹_› n4 _ _ _, far3 ‹_› n4 _ _ _, far3 ‹_› n4 _ _ _, far3 ‹_› n4 _ _ _, far3 ‹_› n4 _ _ _, far3 ‹_› n4 _ _ _, far3 ‹_› n4 _ _ _, far3 ‹_› n4 _ _ _, far3 ‹_› n4 _ _ _, set3_below ‹_› _ g2 _ _ _⟩)
          | (go_split_ands; with_reducible exact ⟨stay_c ‹_› hbc (Nat.le_refl _), stay_c ‹_› hbc (Nat.le_refl _), stay_c ‹_› hbc (Nat.le_refl _), stay_c ‹_› hbc (Nat.le_refl _), stay_c ‹_› hbc (Nat.le_refl _), stay_c ‹_› hbc (Nat.le_refl _), stay_c ‹_› hbc (Nat.le_refl _), stay_c ‹_› hbc (Nat.le_refl _), stay_c ‹_› hbc (Nat.le_refl _), stay_c ‹_› hbc (Nat.le_refl _), stay_c ‹_› hbc (Nat.le_refl _), stay_c ‹_› hbc (Nat.le_refl _), stay_c ‹_› hbc (Nat.le_refl _), stay_c ‹_› hbc (Nat.le_refl _), stay_c ‹_› hbc (Nat.le_refl _), stay_b ‹_› hbc⟩))
        (((with_reducible refine (HB1.out _).mono ?_); rintro e wb1 ⟨he, hbc⟩; subst he; have hsc := Steps.below hs_41 hbc; have hwc := stay_b hw_41 hbc; have jt := blk_below k_t_41 hbc (blk_lt k_t_41); have js := blk_below k_s_41 hbc (blk_lt k_s_41); have jx := blk_below k_x_41 hbc (blk_lt k_x_41); have ju := blk_below k_u_41 hbc (blk_lt k_u_41); have z0 := cell_of_blk ju 0; have z1 := cell_of_blk ju 1; have z2 := cell_of_blk ju 2; simp only [List.getElem?_toArray, List.getElem?_cons_zero, List.getElem?_cons_succ] at z0 z1 z2; have zs := blk_lt ju; have zf := frozen_of_blk ju))
      rename_i hH
      clear hH hS0 z0 z1 z2 zs zf k_t_41 k_s_41 k_x_41 k_u_41
      have k_t_50 : ((((wb1.setCell ⟨w21.heap.size, 0, none⟩ (.int .i64 V1.1)).setCell ⟨w21.heap.size, 1, none⟩ (.int .i64 V1.2.1)).setCell ⟨w21.heap.size, 2, none⟩ (.int .i64 V1.2.2))).heap[w.heap.size]? = some (.cells #[.int .i64 x, .int .i64 y, .int .i64 k] 23 (0, 0)) := farb3 jt n3.symm _ _ _
      have k_s_50 : ((((wb1.setCell ⟨w21.heap.size, 0, none⟩ (.int .i64 V1.1)).setCell ⟨w21.heap.size, 1, none⟩ (.int .i64 V1.2.1)).setCell ⟨w21.heap.size, 2, none⟩ (.int .i64 V1.2.2))).heap[gs]? = some (.cells #[.int .i64 (E0.1), .int .i64 (E0.2.1), .int .i64 (E0.2.2.1), .int .i64 (E0.2.2.2), .int .i64 (E1.1), .int .i64 (E1.2.1), .int .i64 (E1.2.2.1), .int .i64 (E1.2.2.2), .int .i64 (E2.1), .int .i64 (E2.2.1), .int .i64 (E2.2.2.1), .int .i64 (E2.2.2.2)] 27 (0, 0)) := farb3 js n4.symm _ _ _
      have k_x_50 : ((((wb1.setCell ⟨w21.heap.size, 0, none⟩ (.int .i64 V1.1)).setCell ⟨w21.heap.size, 1, none⟩ (.int .i64 V1.2.1)).setCell ⟨w21.heap.size, 2, none⟩ (.int .i64 V1.2.2))).heap[w3.heap.size]? = some (.cells #[.int .i64 (V1.1), .int .i64 (V1.2.1), .int .i64 (V1.2.2)] 23 (0, 0)) := farb3 jx n5.symm _ _ _
      have k_u_50 : ((((wb1.setCell ⟨w21.heap.size, 0, none⟩ (.int .i64 V1.1)).setCell ⟨w21.heap.size, 1, none⟩ (.int .i64 V1.2.1)).setCell ⟨w21.heap.size, 2, none⟩ (.int .i64 V1.2.2))).heap[w21.heap.size]? = some (.cells #[.int .i64 (V1.1), .int .i64 (V1.2.1), .int .i64 (V1.2.2)] 23 (0, 0)) := set3_blk ju _ _ _
      have hs_50 : Steps ((((wb1.setCell ⟨w21.heap.size, 0, none⟩ (.int .i64 V1.1)).setCell ⟨w21.heap.size, 1, none⟩ (.int .i64 V1.2.1)).setCell ⟨w21.heap.size, 2, none⟩ (.int .i64 V1.2.2))) := Steps.set3 hsc (by omega) _ _ _
      have hw_50 : Below w.heap.size w ((((wb1.setCell ⟨w21.heap.size, 0, none⟩ (.int .i64 V1.1)).setCell ⟨w21.heap.size, 1, none⟩ (.int .i64 V1.2.1)).setCell ⟨w21.heap.size, 2, none⟩ (.int .i64 V1.2.2))) := set3_below hwc _ g2 _ _ _
      clear jt js jx ju hsc hwc hbc hs_41 hw_41
      generalize ((((wb1.setCell ⟨w21.heap.size, 0, none⟩ (.int .i64 V1.1)).setCell ⟨w21.heap.size, 1, none⟩ (.int .i64 V1.2.1)).setCell ⟨w21.heap.size, 2, none⟩ (.int .i64 V1.2.2))) = wy50 at k_t_50 k_s_50 k_x_50 k_u_50 hs_50 hw_50 ⊢
      have c_x_0 := cell_of_blk k_x_50 0
      have c_x_1 := cell_of_blk k_x_50 1
      have c_x_2 := cell_of_blk k_x_50 2
      simp only [List.getElem?_toArray, List.getElem?_cons_zero, List.getElem?_cons_succ] at c_x_0 c_x_1 c_x_2
      have f_x := frozen_of_blk k_x_50
      have s_x := blk_lt k_x_50
      have c_u_0 := cell_of_blk k_u_50 0
      have c_u_1 := cell_of_blk k_u_50 1
      have c_u_2 := cell_of_blk k_u_50 2
      simp only [List.getElem?_toArray, List.getElem?_cons_zero, List.getElem?_cons_succ] at c_u_0 c_u_1 c_u_2
      have f_u := frozen_of_blk k_u_50
      have s_u := blk_lt k_u_50
      go_wp2
      go_roundw
      case rel => exact ⟨2, by omega, rfl, V1, V1, k_t_50, k_s_50, k_x_50, k_u_50, hs_50, hw_50⟩
      case measure => simp [intOf]
    · go_wp2_with fail
      have k_t_31 : (wr.drew).heap[w.heap.size]? = some (.cells #[.int .i64 x, .int .i64 y, .int .i64 k] 23 (0, 0)) := k_t_30
      have k_s_31 : (wr.drew).heap[gs]? = some (.cells #[.int .i64 (E0.1), .int .i64 (E0.2.1), .int .i64 (E0.2.2.1), .int .i64 (E0.2.2.2), .int .i64 (E1.1), .int .i64 (E1.2.1), .int .i64 (E1.2.2.1), .int .i64 (E1.2.2.2), .int .i64 (E2.1), .int .i64 (E2.2.1), .int .i64 (E2.2.2.1), .int .i64 (E2.2.2.2)] 27 (0, 0)) := k_s_30
      have k_x_31 : (wr.drew).heap[w3.heap.size]? = some (.cells #[.int .i64 (p.1), .int .i64 (p.2.1), .int .i64 (p.2.2)] 23 (0, 0)) := k_x_30
      have k_u_31 : (wr.drew).heap[w21.heap.size]? = some (.cells #[.int .i64 (q.1), .int .i64 (q.2.1), .int .i64 (q.2.2)] 23 (0, 0)) := k_u_30
      have hw_31 : Below w.heap.size w (wr.drew) := (hw_30).drew
      have hs_31 : Steps (wr.drew) := (hs_30.below (Below.refl _ _).drew)
      clear k_t_30 k_s_30 k_x_30 k_u_30 hw_30
      have c_t_0 := cell_of_blk k_t_31 0
      have c_t_1 := cell_of_blk k_t_31 1
      have c_t_2 := cell_of_blk k_t_31 2
      simp only [List.getElem?_toArray, List.getElem?_cons_zero, List.getElem?_cons_succ] at c_t_0 c_t_1 c_t_2
      have f_t := frozen_of_blk k_t_31
      have s_t := blk_lt k_t_31
      have c_s_0 := cell_of_blk k_s_31 0
      have c_s_1 := cell_of_blk k_s_31 1
      have c_s_2 := cell_of_blk k_s_31 2
      have c_s_3 := cell_of_blk k_s_31 3
      have c_s_4 := cell_of_blk k_s_31 4
      have c_s_5 := cell_of_blk k_s_31 5
      have c_s_6 := cell_of_blk k_s_31 6
      have c_s_7 := cell_of_blk k_s_31 7
      have c_s_8 := cell_of_blk k_s_31 8
      have c_s_9 := cell_of_blk k_s_31 9
      have c_s_10 := cell_of_blk k_s_31 10
      have c_s_11 := cell_of_blk k_s_31 11
      simp only [List.getElem?_toArray, List.getElem?_cons_zero, List.getElem?_cons_succ] at c_s_0 c_s_1 c_s_2 c_s_3 c_s_4 c_s_5 c_s_6 c_s_7 c_s_8 c_s_9 c_s_10 c_s_11
      have f_s := frozen_of_blk k_s_31
      have s_s := blk_lt k_s_31
      have hS0 := And.intro c_t_0 (And.intro c_t_1 (And.intro c_t_2 (And.intro c_s_0 (And.intro c_s_1 (And.intro c_s_2 (And.intro c_s_3 (And.intro c_s_4 (And.intro c_s_5 (And.intro c_s_6 (And.intro c_s_7 (And.intro c_s_8 (And.intro c_s_9 (And.intro c_s_10 (And.intro c_s_11 hw_31))))))))))))))
      clear c_t_0 c_t_1 c_t_2 c_s_0 c_s_1 c_s_2 c_s_3 c_s_4 c_s_5 c_s_6 c_s_7 c_s_8 c_s_9 c_s_10 c_s_11 f_t s_t f_s s_s
      go_region_held3 (fun w' => w'.cell? ⟨w.heap.size, 0, none⟩ = some (.int .i64 (x)) ∧ w'.cell? ⟨w.heap.size, 1, none⟩ = some (.int .i64 (y)) ∧ w'.cell? ⟨w.heap.size, 2, none⟩ = some (.int .i64 (k)) ∧ w'.cell? ⟨gs, 0, none⟩ = some (.int .i64 (E0.1)) ∧ w'.cell? ⟨gs, 1, none⟩ = some (.int .i64 (E0.2.1)) ∧ w'.cell? ⟨gs, 2, none⟩ = some (.int .i64 (E0.2.2.1)) ∧ w'.cell? ⟨gs, 3, none⟩ = some (.int .i64 (E0.2.2.2)) ∧ w'.cell? ⟨gs, 4, none⟩ = some (.int .i64 (E1.1)) ∧ w'.cell? ⟨gs, 5, none⟩ = some (.int .i64 (E1.2.1)) ∧ w'.cell? ⟨gs, 6, none⟩ = some (.int .i64 (E1.2.2.1)) ∧ w'.cell? ⟨gs, 7, none⟩ = some (.int .i64 (E1.2.2.2)) ∧ w'.cell? ⟨gs, 8, none⟩ = some (.int .i64 (E2.1)) ∧ w'.cell? ⟨gs, 9, none⟩ = some (.int .i64 (E2.2.1)) ∧ w'.cell? ⟨gs, 10, none⟩ = some (.int .i64 (E2.2.2.1)) ∧ w'.cell? ⟨gs, 11, none⟩ = some (.int .i64 (E2.2.2.2)) ∧ Below w.heap.size w w')
        (first
          | with_reducible exact hS0
          | (go_split_ands; with_reducible exact ⟨far3 ‹_› n1 _ _ _, far3 ‹_› n1 _ _ _, far3 ‹_› n1 _ _ _, far3 ‹_› n2 _ _ _, far3 ‹_› n2 _ _ _, far3 ‹_› n2 _ _ _, far3 ‹_› n2 _ _ _, far3 ‹_› n2 _ _ _, far3 ‹_› n2 _ _ _, far3 ‹_› n2 _ _ _, far3 ‹_› n2 _ _ _, far3 ‹_› n2 _ _ _, far3 ‹_› n2 _ _ _, far3 ‹_› n2 _ _ _, far3 ‹_› n2 _ _ _, set3_below ‹_› _ g1 _ _ _⟩)
          | (go_split_ands; with_reducible exact ⟨stay_c ‹_› hbc (Nat.le_refl _), stay_c ‹_› hbc (Nat.le_refl _), stay_c ‹_› hbc (Nat.le_refl _), stay_c ‹_› hbc (Nat.le_refl _), stay_c ‹_› hbc (Nat.le_refl _), stay_c ‹_› hbc (Nat.le_refl _), stay_c ‹_› hbc (Nat.le_refl _), stay_c ‹_› hbc (Nat.le_refl _), stay_c ‹_› hbc (Nat.le_refl _), stay_c ‹_› hbc (Nat.le_refl _), stay_c ‹_› hbc (Nat.le_refl _), stay_c ‹_› hbc (Nat.le_refl _), stay_c ‹_› hbc (Nat.le_refl _), stay_c ‹_› hbc (Nat.le_refl _), stay_c ‹_› hbc (Nat.le_refl _), stay_b ‹_› hbc⟩))
        (((with_reducible refine (HA2.out _ hs_31).mono ?_); rintro e wa2 ⟨he, hbc⟩; subst he; have hsc := Steps.below hs_31 hbc; have hwc := stay_b hw_31 hbc; have jt := blk_below k_t_31 hbc (blk_lt k_t_31); have js := blk_below k_s_31 hbc (blk_lt k_s_31); have jx := blk_below k_x_31 hbc (blk_lt k_x_31); have ju := blk_below k_u_31 hbc (blk_lt k_u_31); have z0 := cell_of_blk jx 0; have z1 := cell_of_blk jx 1; have z2 := cell_of_blk jx 2; simp only [List.getElem?_toArray, List.getElem?_cons_zero, List.getElem?_cons_succ] at z0 z1 z2; have zs := blk_lt jx; have zf := frozen_of_blk jx))
      rename_i hH
      clear hH hS0 z0 z1 z2 zs zf k_t_31 k_s_31 k_x_31 k_u_31
      have k_t_40 : ((((wa2.setCell ⟨w3.heap.size, 0, none⟩ (.int .i64 V2.1)).setCell ⟨w3.heap.size, 1, none⟩ (.int .i64 V2.2.1)).setCell ⟨w3.heap.size, 2, none⟩ (.int .i64 V2.2.2))).heap[w.heap.size]? = some (.cells #[.int .i64 x, .int .i64 y, .int .i64 k] 23 (0, 0)) := farb3 jt n1.symm _ _ _
      have k_s_40 : ((((wa2.setCell ⟨w3.heap.size, 0, none⟩ (.int .i64 V2.1)).setCell ⟨w3.heap.size, 1, none⟩ (.int .i64 V2.2.1)).setCell ⟨w3.heap.size, 2, none⟩ (.int .i64 V2.2.2))).heap[gs]? = some (.cells #[.int .i64 (E0.1), .int .i64 (E0.2.1), .int .i64 (E0.2.2.1), .int .i64 (E0.2.2.2), .int .i64 (E1.1), .int .i64 (E1.2.1), .int .i64 (E1.2.2.1), .int .i64 (E1.2.2.2), .int .i64 (E2.1), .int .i64 (E2.2.1), .int .i64 (E2.2.2.1), .int .i64 (E2.2.2.2)] 27 (0, 0)) := farb3 js n2.symm _ _ _
      have k_x_40 : ((((wa2.setCell ⟨w3.heap.size, 0, none⟩ (.int .i64 V2.1)).setCell ⟨w3.heap.size, 1, none⟩ (.int .i64 V2.2.1)).setCell ⟨w3.heap.size, 2, none⟩ (.int .i64 V2.2.2))).heap[w3.heap.size]? = some (.cells #[.int .i64 (V2.1), .int .i64 (V2.2.1), .int .i64 (V2.2.2)] 23 (0, 0)) := set3_blk jx _ _ _
      have k_u_40 : ((((wa2.setCell ⟨w3.heap.size, 0, none⟩ (.int .i64 V2.1)).setCell ⟨w3.heap.size, 1, none⟩ (.int .i64 V2.2.1)).setCell ⟨w3.heap.size, 2, none⟩ (.int .i64 V2.2.2))).heap[w21.heap.size]? = some (.cells #[.int .i64 (q.1), .int .i64 (q.2.1), .int .i64 (q.2.2)] 23 (0, 0)) := farb3 ju n5 _ _ _
      have hs_40 : Steps ((((wa2.setCell ⟨w3.heap.size, 0, none⟩ (.int .i64 V2.1)).setCell ⟨w3.heap.size, 1, none⟩ (.int .i64 V2.2.1)).setCell ⟨w3.heap.size, 2, none⟩ (.int .i64 V2.2.2))) := Steps.set3 hsc (by omega) _ _ _
      have hw_40 : Below w.heap.size w ((((wa2.setCell ⟨w3.heap.size, 0, none⟩ (.int .i64 V2.1)).setCell ⟨w3.heap.size, 1, none⟩ (.int .i64 V2.2.1)).setCell ⟨w3.heap.size, 2, none⟩ (.int .i64 V2.2.2))) := set3_below hwc _ g1 _ _ _
      clear jt js jx ju hsc hwc hbc hs_31 hw_31
      generalize ((((wa2.setCell ⟨w3.heap.size, 0, none⟩ (.int .i64 V2.1)).setCell ⟨w3.heap.size, 1, none⟩ (.int .i64 V2.2.1)).setCell ⟨w3.heap.size, 2, none⟩ (.int .i64 V2.2.2))) = wy40 at k_t_40 k_s_40 k_x_40 k_u_40 hs_40 hw_40 ⊢
      go_wp2_with fail
      have k_t_41 : (wy40.drew).heap[w.heap.size]? = some (.cells #[.int .i64 x, .int .i64 y, .int .i64 k] 23 (0, 0)) := k_t_40
      have k_s_41 : (wy40.drew).heap[gs]? = some (.cells #[.int .i64 (E0.1), .int .i64 (E0.2.1), .int .i64 (E0.2.2.1), .int .i64 (E0.2.2.2), .int .i64 (E1.1), .int .i64 (E1.2.1), .int .i64 (E1.2.2.1), .int .i64 (E1.2.2.2), .int .i64 (E2.1), .int .i64 (E2.2.1), .int .i64 (E2.2.2.1), .int .i64 (E2.2.2.2)] 27 (0, 0)) := k_s_40
      have k_x_41 : (wy40.drew).heap[w3.heap.size]? = some (.cells #[.int .i64 (V2.1), .int .i64 (V2.2.1), .int .i64 (V2.2.2)] 23 (0, 0)) := k_x_40
      have k_u_41 : (wy40.drew).heap[w21.heap.size]? = some (.cells #[.int .i64 (q.1), .int .i64 (q.2.1), .int .i64 (q.2.2)] 23 (0, 0)) := k_u_40
      have hw_41 : Below w.heap.size w (wy40.drew) := (hw_40).drew
      have hs_41 : Steps (wy40.drew) := (hs_40.below (Below.refl _ _).drew)
      clear k_t_40 k_s_40 k_x_40 k_u_40 hw_40
      have c_t_0 := cell_of_blk k_t_41 0
      have c_t_1 := cell_of_blk k_t_41 1
      have c_t_2 := cell_of_blk k_t_41 2
      simp only [List.getElem?_toArray, List.getElem?_cons_zero, List.getElem?_cons_succ] at c_t_0 c_t_1 c_t_2
      have f_t := frozen_of_blk k_t_41
      have s_t := blk_lt k_t_41
      have c_s_0 := cell_of_blk k_s_41 0
      have c_s_1 := cell_of_blk k_s_41 1
      have c_s_2 := cell_of_blk k_s_41 2
      have c_s_3 := cell_of_blk k_s_41 3
      have c_s_4 := cell_of_blk k_s_41 4
      have c_s_5 := cell_of_blk k_s_41 5
      have c_s_6 := cell_of_blk k_s_41 6
      have c_s_7 := cell_of_blk k_s_41 7
      have c_s_8 := cell_of_blk k_s_41 8
      have c_s_9 := cell_of_blk k_s_41 9
      have c_s_10 := cell_of_blk k_s_41 10
      have c_s_11 := cell_of_blk k_s_41 11
      simp only [List.getElem?_toArray, List.getElem?_cons_zero, List.getElem?_cons_succ] at c_s_0 c_s_1 c_s_2 c_s_3 c_s_4 c_s_5 c_s_6 c_s_7 c_s_8 c_s_9 c_s_10 c_s_11
      have f_s := frozen_of_blk k_s_41
      have s_s := blk_lt k_s_41
      have hS0 := And.intro c_t_0 (And.intro c_t_1 (And.intro c_t_2 (And.intro c_s_0 (And.intro c_s_1 (And.intro c_s_2 (And.intro c_s_3 (And.intro c_s_4 (And.intro c_s_5 (And.intro c_s_6 (And.intro c_s_7 (And.intro c_s_8 (And.intro c_s_9 (And.intro c_s_10 (And.intro c_s_11 hw_41))))))))))))))
      clear c_t_0 c_t_1 c_t_2 c_s_0 c_s_1 c_s_2 c_s_3 c_s_4 c_s_5 c_s_6 c_s_7 c_s_8 c_s_9 c_s_10 c_s_11 f_t s_t f_s s_s
      go_region_held3 (fun w' => w'.cell? ⟨w.heap.size, 0, none⟩ = some (.int .i64 (x)) ∧ w'.cell? ⟨w.heap.size, 1, none⟩ = some (.int .i64 (y)) ∧ w'.cell? ⟨w.heap.size, 2, none⟩ = some (.int .i64 (k)) ∧ w'.cell? ⟨gs, 0, none⟩ = some (.int .i64 (E0.1)) ∧ w'.cell? ⟨gs, 1, none⟩ = some (.int .i64 (E0.2.1)) ∧ w'.cell? ⟨gs, 2, none⟩ = some (.int .i64 (E0.2.2.1)) ∧ w'.cell? ⟨gs, 3, none⟩ = some (.int .i64 (E0.2.2.2)) ∧ w'.cell? ⟨gs, 4, none⟩ = some (.int .i64 (E1.1)) ∧ w'.cell? ⟨gs, 5, none⟩ = some (.int .i64 (E1.2.1)) ∧ w'.cell? ⟨gs, 6, none⟩ = some (.int .i64 (E1.2.2.1)) ∧ w'.cell? ⟨gs, 7, none⟩ = some (.int .i64 (E1.2.2.2)) ∧ w'.cell? ⟨gs, 8, none⟩ = some (.int .i64 (E2.1)) ∧ w'.cell? ⟨gs, 9, none⟩ = some (.int .i64 (E2.2.1)) ∧ w'.cell? ⟨gs, 10, none⟩ = some (.int .i64 (E2.2.2.1)) ∧ w'.cell? ⟨gs, 11, none⟩ = some (.int .i64 (E2.2.2.2)) ∧ Below w.heap.size w w')
        (first
          | with_reducible exact hS0
          | (go_split_ands; with_reducible exact ⟨far3 ‹_› n3 _ _ _, far3 ‹_› n3 _ _ _, far3 ‹_› n3 _ _ _, far3 ‹_› n4 _ _ _, far3 ‹_› n4 _ _ _, far3 ‹_› n4 _ _ _, far3 ‹_› n4 _ _ _, far3 ‹_› n4 _ _ _, far3 ‹_› n4 _ _ _, far3 ‹_› n4 _ _ _, far3 ‹_› n4 _ _ _, far3 ‹_› n4 _ _ _, far3 ‹_› n4 _ _ _, far3 ‹_› n4 _ _ _, far3 ‹_› n4 _ _ _, set3_below ‹_› _ g2 _ _ _⟩)
          | (go_split_ands; with_reducible exact ⟨stay_c ‹_› hbc (Nat.le_refl _), stay_c ‹_› hbc (Nat.le_refl _), stay_c ‹_› hbc (Nat.le_refl _), stay_c ‹_› hbc (Nat.le_refl _), stay_c ‹_› hbc (Nat.le_refl _), stay_c ‹_› hbc (Nat.le_refl _), stay_c ‹_› hbc (Nat.le_refl _), stay_c ‹_› hbc (Nat.le_refl _), stay_c ‹_› hbc (Nat.le_refl _), stay_c ‹_› hbc (Nat.le_refl _), stay_c ‹_› hbc (Nat.le_refl _), stay_c ‹_› hbc (Nat.le_refl _), stay_c ‹_› hbc (Nat.le_refl _), stay_c ‹_› hbc (Nat.le_refl _), stay_c ‹_› hbc (Nat.le_refl _), stay_b ‹_› hbc⟩))
        (((with_reducible refine (HB2.out _).mono ?_); rintro e wb2 ⟨he, hbc⟩; subst he; have hsc := Steps.below hs_41 hbc; have hwc := stay_b hw_41 hbc; have jt := blk_below k_t_41 hbc (blk_lt k_t_41); have js := blk_below k_s_41 hbc (blk_lt k_s_41); have jx := blk_below k_x_41 hbc (blk_lt k_x_41); have ju := blk_below k_u_41 hbc (blk_lt k_u_41); have z0 := cell_of_blk ju 0; have z1 := cell_of_blk ju 1; have z2 := cell_of_blk ju 2; simp only [List.getElem?_toArray, List.getElem?_cons_zero, List.getElem?_cons_succ] at z0 z1 z2; have zs := blk_lt ju; have zf := frozen_of_blk ju))
      rename_i hH
      clear hH hS0 z0 z1 z2 zs zf k_t_41 k_s_41 k_x_41 k_u_41
      have k_t_50 : ((((wb2.setCell ⟨w21.heap.size, 0, none⟩ (.int .i64 V2.1)).setCell ⟨w21.heap.size, 1, none⟩ (.int .i64 V2.2.1)).setCell ⟨w21.heap.size, 2, none⟩ (.int .i64 V2.2.2))).heap[w.heap.size]? = some (.cells #[.int .i64 x, .int .i64 y, .int .i64 k] 23 (0, 0)) := farb3 jt n3.symm _ _ _
      have k_s_50 : ((((wb2.setCell ⟨w21.heap.size, 0, none⟩ (.int .i64 V2.1)).setCell ⟨w21.heap.size, 1, none⟩ (.int .i64 V2.2.1)).setCell ⟨w21.heap.size, 2, none⟩ (.int .i64 V2.2.2))).heap[gs]? = some (.cells #[.int .i64 (E0.1), .int .i64 (E0.2.1), .int .i64 (E0.2.2.1), .int .i64 (E0.2.2.2), .int .i64 (E1.1), .int .i64 (E1.2.1), .int .i64 (E1.2.2.1), .int .i64 (E1.2.2.2), .int .i64 (E2.1), .int .i64 (E2.2.1), .int .i64 (E2.2.2.1), .int .i64 (E2.2.2.2)] 27 (0, 0)) := farb3 js n4.symm _ _ _
      have k_x_50 : ((((wb2.setCell ⟨w21.heap.size, 0, none⟩ (.int .i64 V2.1)).setCell ⟨w21.heap.size, 1, none⟩ (.int .i64 V2.2.1)).setCell ⟨w21.heap.size, 2, none⟩ (.int .i64 V2.2.2))).heap[w3.heap.size]? = some (.cells #[.int .i64 (V2.1), .int .i64 (V2.2.1), .int .i64 (V2.2.2)] 23 (0, 0)) := farb3 jx n5.symm _ _ _
      have k_u_50 : ((((wb2.setCell ⟨w21.heap.size, 0, none⟩ (.int .i64 V2.1)).setCell ⟨w21.heap.size, 1, none⟩ (.int .i64 V2.2.1)).setCell ⟨w21.heap.size, 2, none⟩ (.int .i64 V2.2.2))).heap[w21.heap.size]? = some (.cells #[.int .i64 (V2.1), .int .i64 (V2.2.1), .int .i64 (V2.2.2)] 23 (0, 0)) := set3_blk ju _ _ _
      have hs_50 : Steps ((((wb2.setCell ⟨w21.heap.size, 0, none⟩ (.int .i64 V2.1)).setCell ⟨w21.heap.size, 1, none⟩ (.int .i64 V2.2.1)).setCell ⟨w21.heap.size, 2, none⟩ (.int .i64 V2.2.2))) := Steps.set3 hsc (by omega) _ _ _
      have hw_50 : Below w.heap.size w ((((wb2.setCell ⟨w21.heap.size, 0, none⟩ (.int .i64 V2.1)).setCell ⟨w21.heap.size, 1, none⟩ (.int .i64 V2.2.1)).setCell ⟨w21.heap.size, 2, none⟩ (.int .i64 V2.2.2))) := set3_below hwc _ g2 _ _ _
      clear jt js jx ju hsc hwc hbc hs_41 hw_41
      generalize ((((wb2.setCell ⟨w21.heap.size, 0, none⟩ (.int .i64 V2.1)).setCell ⟨w21.heap.size, 1, none⟩ (.int .i64 V2.2.1)).setCell ⟨w21.heap.size, 2, none⟩ (.int .i64 V2.2.2))) = wy50 at k_t_50 k_s_50 k_x_50 k_u_50 hs_50 hw_50 ⊢
      have c_x_0 := cell_of_blk k_x_50 0
      have c_x_1 := cell_of_blk k_x_50 1
      have c_x_2 := cell_of_blk k_x_50 2
      simp only [List.getElem?_toArray, List.getElem?_cons_zero, List.getElem?_cons_succ] at c_x_0 c_x_1 c_x_2
      have f_x := frozen_of_blk k_x_50
      have s_x := blk_lt k_x_50
      have c_u_0 := cell_of_blk k_u_50 0
      have c_u_1 := cell_of_blk k_u_50 1
      have c_u_2 := cell_of_blk k_u_50 2
      simp only [List.getElem?_toArray, List.getElem?_cons_zero, List.getElem?_cons_succ] at c_u_0 c_u_1 c_u_2
      have f_u := frozen_of_blk k_u_50
      have s_u := blk_lt k_u_50
      go_wp2
      go_roundw
      case rel => exact ⟨3, by omega, rfl, V2, V2, k_t_50, k_s_50, k_x_50, k_u_50, hs_50, hw_50⟩
      case measure => simp [intOf]
    · go_wp2
      go_ret
      exact ⟨rfl, hw_30⟩
end Go.Proofs.YthfhkmgegkhljaaDoor
