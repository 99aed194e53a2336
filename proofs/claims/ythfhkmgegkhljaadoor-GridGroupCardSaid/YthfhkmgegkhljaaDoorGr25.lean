/- samePoints; the walk of GridTris where the triangle may not be. Printed by gen_gr25.py. -/
import Derived.Test.YthfhkmgegkhljaaDoorGr24
namespace Go.Proofs.YthfhkmgegkhljaaDoor
open Go.RowKit

theorem set3_blk {w : World} {g : Nat} {t : TypeId} {a b c : Value} (h : w.heap[g]? = some (.cells #[a, b, c] t (0, 0))) (u v z : Value) : (((w.setCell ⟨g, 0, none⟩ u).setCell ⟨g, 1, none⟩ v).setCell ⟨g, 2, none⟩ z).heap[g]? = some (.cells #[u, v, z] t (0, 0)) := by
  have h1 := blk_set (blk_set (blk_set h 0 u) 1 v) 2 z
  simpa using h1
theorem far3 {w : World} {g b j : Nat} {u : Value} (h : w.cell? ⟨b, j, none⟩ = some u) (hne : g ≠ b) (x y z : Value) : (((w.setCell ⟨g, 0, none⟩ x).setCell ⟨g, 1, none⟩ y).setCell ⟨g, 2, none⟩ z).cell? ⟨b, j, none⟩ = some u := far1 (far1 (far1 h hne) hne) hne
theorem farb3 {w : World} {g b : Nat} {o : Obj} (h : w.heap[b]? = some o) (hne : b ≠ g) (x y z : Value) : (((w.setCell ⟨g, 0, none⟩ x).setCell ⟨g, 1, none⟩ y).setCell ⟨g, 2, none⟩ z).heap[b]? = some o := blk_far (blk_far (blk_far h hne _) hne _) hne _

set_option maxRecDepth 100000 in
set_option maxHeartbeats 3200000 in
theorem same_any (a b c d p q : Int) (g : Nat) (w : World) (hg : w.heap[g]? = some (.cells #[.int .i64 a, .int .i64 b, .int .i64 c, .int .i64 d, .int .i64 p, .int .i64 q] 25 (0, 0))) :
    Calls Tryd.prog 13 #[.agg #[.int .i64 a, .int .i64 b, .int .i64 c, .int .i64 d, .int .i64 p, .int .i64 q], .slice (some ⟨g, 0, none⟩) 3 3] w fun e w' => e = .returned (.bool true) ∧ Below w.heap.size w w' := by
  have hgl := blk_lt hg
  have ke := heap_alloc_new w (.cells #[.int .i64 a, .int .i64 b, .int .i64 c, .int .i64 d, .int .i64 p, .int .i64 q] 28)
  have kg := blk_alloc hg (.cells #[.int .i64 a, .int .i64 b, .int .i64 c, .int .i64 d, .int .i64 p, .int .i64 q] 28)
  have e0 := cell_of_blk ke 0
  have g0 := cell_of_blk kg 0
  have e1 := cell_of_blk ke 1
  have g1 := cell_of_blk kg 1
  have e2 := cell_of_blk ke 2
  have g2 := cell_of_blk kg 2
  have e3 := cell_of_blk ke 3
  have g3 := cell_of_blk kg 3
  have e4 := cell_of_blk ke 4
  have g4 := cell_of_blk kg 4
  have e5 := cell_of_blk ke 5
  have g5 := cell_of_blk kg 5
  simp only [List.getElem?_toArray, List.getElem?_cons_zero, List.getElem?_cons_succ] at e0 g0 e1 g1 e2 g2 e3 g3 e4 g4 e5 g5
  have r0 : ∀ w : World, (binOp .eql 25 (aggP a b) (aggP a b)).run Tryd.prog w = .ok (.bool true) w := fun w => by rw [eqP]; simp [eqL]
  have r1 : ∀ w : World, (binOp .eql 25 (aggP c d) (aggP c d)).run Tryd.prog w = .ok (.bool true) w := fun w => by rw [eqP]; simp [eqL]
  have r2 : ∀ w : World, (binOp .eql 25 (aggP p q) (aggP p q)).run Tryd.prog w = .ok (.bool true) w := fun w => by rw [eqP]; simp [eqL]
  clear ke kg hg
  go_enter Tryd.func13, Tryd.ntmps13
  go_wp2_with fail
  go_quiet (fail)
  go_wp2
  go_ret
  exact ⟨rfl, below_drewN (ba (Below.refl _ _) _) _⟩
set_option maxRecDepth 100000 in
set_option maxHeartbeats 3200000 in
theorem tris_noT (x y k : Int) (m : E4) (w : World) (ht : triMayB x y k = false) :
    Calls Tryd.prog 3 #[aggT x y k, aggE m] w fun e w' => e = .returned (.bool true) ∧ Below w.heap.size w w' := by
  have HT := Lib.hid ht
  clear ht
  have r1 : ∀ w : World, (binOp .eql 28 (.agg #[.int .i64 0, .int .i64 0, .int .i64 0, .int .i64 0, .int .i64 0, .int .i64 0]) (.agg #[.int .i64 0, .int .i64 0, .int .i64 0, .int .i64 0, .int .i64 0, .int .i64 0])).run Tryd.prog w = .ok (.bool true) w := fun w => by rw [eqPs]; rfl
  have r2 : ∀ w : World, (binOp .eql 32 (.agg #[.int .i64 0, .int .i64 0, .int .i64 0, .int .i64 0, .int .i64 0, .int .i64 0, .int .i64 0, .int .i64 0, .int .i64 0, .int .i64 0, .int .i64 0, .int .i64 0]) (.agg #[.int .i64 0, .int .i64 0, .int .i64 0, .int .i64 0, .int .i64 0, .int .i64 0, .int .i64 0, .int .i64 0, .int .i64 0, .int .i64 0, .int .i64 0, .int .i64 0])).run Tryd.prog w = .ok (.bool true) w := fun w => by rw [eqEs]; rfl
  have r3 : ∀ w : World, (binOp .eql 23 (.agg #[.int .i64 0, .int .i64 0, .int .i64 0]) (.agg #[.int .i64 0, .int .i64 0, .int .i64 0])).run Tryd.prog w = .ok (.bool true) w := fun w => by rw [eqT]; rfl
  go_enter Tryd.func3, Tryd.ntmps3
  go_wp2_with fail
  refine (gcorn_no x y k _ HT.out).mono ?_
  rintro e w1 ⟨rfl, hb1⟩
  have k_t_1 : w1.heap[w.heap.size]? = some (.cells #[.int .i64 x, .int .i64 y, .int .i64 k] 23 (0, 0)) := blk_below (blk_alloc (new_blk (.cells #[.int .i64 x, .int .i64 y, .int .i64 k] 23) (by first | rfl | (simp; done) | (simp; omega))) _) hb1 (by first | (simp; done) | (simp; omega))
  have k_o_1 : w1.heap[w.heap.size + 1]? = some (.cells #[.int .i64 (m.1), .int .i64 (m.2.1), .int .i64 (m.2.2.1), .int .i64 (m.2.2.2)] 27 (0, 0)) := blk_below (new_blk (.cells #[.int .i64 (m.1), .int .i64 (m.2.1), .int .i64 (m.2.2.1), .int .i64 (m.2.2.2)] 27) (by first | rfl | (simp; done) | (simp; omega))) hb1 (by first | (simp; done) | (simp; omega))
  have hw_1 : Below w.heap.size w w1 := stay_b (ba (ba (Below.refl _ _) _) _) hb1
  clear hb1
  have c_t_0 := cell_of_blk k_t_1 0
  have c_t_1 := cell_of_blk k_t_1 1
  have c_t_2 := cell_of_blk k_t_1 2
  simp only [List.getElem?_toArray, List.getElem?_cons_zero, List.getElem?_cons_succ] at c_t_0 c_t_1 c_t_2
  have f_t := frozen_of_blk k_t_1
  have s_t := blk_lt k_t_1
  have c_o_0 := cell_of_blk k_o_1 0
  have c_o_1 := cell_of_blk k_o_1 1
  have c_o_2 := cell_of_blk k_o_1 2
  have c_o_3 := cell_of_blk k_o_1 3
  simp only [List.getElem?_toArray, List.getElem?_cons_zero, List.getElem?_cons_succ] at c_o_0 c_o_1 c_o_2 c_o_3
  have f_o := frozen_of_blk k_o_1
  have s_o := blk_lt k_o_1
  go_wp2_with fail
  refine (gedges_no x y k _ HT.out).mono ?_
  rintro e w2 ⟨rfl, hb2⟩
  have k_t_2 : w2.heap[w.heap.size]? = some (.cells #[.int .i64 x, .int .i64 y, .int .i64 k] 23 (0, 0)) := blk_below (blk_alloc k_t_1 _) hb2 (blk_lt (blk_alloc k_t_1 _))
  have k_o_2 : w2.heap[w.heap.size + 1]? = some (.cells #[.int .i64 (m.1), .int .i64 (m.2.1), .int .i64 (m.2.2.1), .int .i64 (m.2.2.2)] 27 (0, 0)) := blk_below (blk_alloc k_o_1 _) hb2 (blk_lt (blk_alloc k_o_1 _))
  have k_c_2 : w2.heap[w1.heap.size]? = some (.cells #[.int .i64 0, .int .i64 0, .int .i64 0, .int .i64 0, .int .i64 0, .int .i64 0] 28 (0, 0)) := blk_below (new_blk (.cells #[.int .i64 0, .int .i64 0, .int .i64 0, .int .i64 0, .int .i64 0, .int .i64 0] 28) (by first | rfl | (simp; done) | (simp; omega))) hb2 (by first | (simp; done) | (simp; omega))
  have hw_2 : Below w.heap.size w w2 := stay_b (ba hw_1 _) hb2
  clear c_t_0 c_t_1 c_t_2 f_t s_t c_o_0 c_o_1 c_o_2 c_o_3 f_o s_o k_t_1 k_o_1 hb2 hw_1
  have c_t_0 := cell_of_blk k_t_2 0
  have c_t_1 := cell_of_blk k_t_2 1
  have c_t_2 := cell_of_blk k_t_2 2
  simp only [List.getElem?_toArray, List.getElem?_cons_zero, List.getElem?_cons_succ] at c_t_0 c_t_1 c_t_2
  have f_t := frozen_of_blk k_t_2
  have s_t := blk_lt k_t_2
  have c_o_0 := cell_of_blk k_o_2 0
  have c_o_1 := cell_of_blk k_o_2 1
  have c_o_2 := cell_of_blk k_o_2 2
  have c_o_3 := cell_of_blk k_o_2 3
  simp only [List.getElem?_toArray, List.getElem?_cons_zero, List.getElem?_cons_succ] at c_o_0 c_o_1 c_o_2 c_o_3
  have f_o := frozen_of_blk k_o_2
  have s_o := blk_lt k_o_2
  have c_c_0 := cell_of_blk k_c_2 0
  have c_c_1 := cell_of_blk k_c_2 1
  have c_c_2 := cell_of_blk k_c_2 2
  have c_c_3 := cell_of_blk k_c_2 3
  have c_c_4 := cell_of_blk k_c_2 4
  have c_c_5 := cell_of_blk k_c_2 5
  simp only [List.getElem?_toArray, List.getElem?_cons_zero, List.getElem?_cons_succ] at c_c_0 c_c_1 c_c_2 c_c_3 c_c_4 c_c_5
  have f_c := frozen_of_blk k_c_2
  have s_c := blk_lt k_c_2
  go_wp2_with fail
  refine (across_noT x y k m _ HT.out).mono ?_
  rintro e w3 ⟨rfl, hb3⟩
  have k_t_3 : w3.heap[w.heap.size]? = some (.cells #[.int .i64 x, .int .i64 y, .int .i64 k] 23 (0, 0)) := blk_below (blk_alloc k_t_2 _) hb3 (blk_lt (blk_alloc k_t_2 _))
  have k_o_3 : w3.heap[w.heap.size + 1]? = some (.cells #[.int .i64 (m.1), .int .i64 (m.2.1), .int .i64 (m.2.2.1), .int .i64 (m.2.2.2)] 27 (0, 0)) := blk_below (blk_alloc k_o_2 _) hb3 (blk_lt (blk_alloc k_o_2 _))
  have k_c_3 : w3.heap[w1.heap.size]? = some (.cells #[.int .i64 0, .int .i64 0, .int .i64 0, .int .i64 0, .int .i64 0, .int .i64 0] 28 (0, 0)) := blk_below (blk_alloc k_c_2 _) hb3 (blk_lt (blk_alloc k_c_2 _))
  have k_l_3 : w3.heap[w2.heap.size]? = some (.cells #[.int .i64 0, .int .i64 0, .int .i64 0, .int .i64 0, .int .i64 0, .int .i64 0, .int .i64 0, .int .i64 0, .int .i64 0, .int .i64 0, .int .i64 0, .int .i64 0] 32 (0, 0)) := blk_below (new_blk (.cells #[.int .i64 0, .int .i64 0, .int .i64 0, .int .i64 0, .int .i64 0, .int .i64 0, .int .i64 0, .int .i64 0, .int .i64 0, .int .i64 0, .int .i64 0, .int .i64 0] 32) (by first | rfl | (simp; done) | (simp; omega))) hb3 (by first | (simp; done) | (simp; omega))
  have hw_3 : Below w.heap.size w w3 := stay_b (ba hw_2 _) hb3
  clear c_t_0 c_t_1 c_t_2 f_t s_t c_o_0 c_o_1 c_o_2 c_o_3 f_o s_o c_c_0 c_c_1 c_c_2 c_c_3 c_c_4 c_c_5 f_c s_c k_t_2 k_o_2 k_c_2 hb3 hw_2
  have c_t_0 := cell_of_blk k_t_3 0
  have c_t_1 := cell_of_blk k_t_3 1
  have c_t_2 := cell_of_blk k_t_3 2
  simp only [List.getElem?_toArray, List.getElem?_cons_zero, List.getElem?_cons_succ] at c_t_0 c_t_1 c_t_2
  have f_t := frozen_of_blk k_t_3
  have s_t := blk_lt k_t_3
  have c_o_0 := cell_of_blk k_o_3 0
  have c_o_1 := cell_of_blk k_o_3 1
  have c_o_2 := cell_of_blk k_o_3 2
  have c_o_3 := cell_of_blk k_o_3 3
  simp only [List.getElem?_toArray, List.getElem?_cons_zero, List.getElem?_cons_succ] at c_o_0 c_o_1 c_o_2 c_o_3
  have f_o := frozen_of_blk k_o_3
  have s_o := blk_lt k_o_3
  have c_c_0 := cell_of_blk k_c_3 0
  have c_c_1 := cell_of_blk k_c_3 1
  have c_c_2 := cell_of_blk k_c_3 2
  have c_c_3 := cell_of_blk k_c_3 3
  have c_c_4 := cell_of_blk k_c_3 4
  have c_c_5 := cell_of_blk k_c_3 5
  simp only [List.getElem?_toArray, List.getElem?_cons_zero, List.getElem?_cons_succ] at c_c_0 c_c_1 c_c_2 c_c_3 c_c_4 c_c_5
  have f_c := frozen_of_blk k_c_3
  have s_c := blk_lt k_c_3
  have c_l_0 := cell_of_blk k_l_3 0
  have c_l_1 := cell_of_blk k_l_3 1
  have c_l_2 := cell_of_blk k_l_3 2
  have c_l_3 := cell_of_blk k_l_3 3
  have c_l_4 := cell_of_blk k_l_3 4
  have c_l_5 := cell_of_blk k_l_3 5
  have c_l_6 := cell_of_blk k_l_3 6
  have c_l_7 := cell_of_blk k_l_3 7
  have c_l_8 := cell_of_blk k_l_3 8
  have c_l_9 := cell_of_blk k_l_3 9
  have c_l_10 := cell_of_blk k_l_3 10
  have c_l_11 := cell_of_blk k_l_3 11
  simp only [List.getElem?_toArray, List.getElem?_cons_zero, List.getElem?_cons_succ] at c_l_0 c_l_1 c_l_2 c_l_3 c_l_4 c_l_5 c_l_6 c_l_7 c_l_8 c_l_9 c_l_10 c_l_11
  have f_l := frozen_of_blk k_l_3
  have s_l := blk_lt k_l_3
  go_wp2_with fail
  refine (refTri_any x y k _).mono ?_
  rintro e w4 ⟨rfl, hb4⟩
  rw [HT.out]
  have k_t_4 : w4.heap[w.heap.size]? = some (.cells #[.int .i64 x, .int .i64 y, .int .i64 k] 23 (0, 0)) := blk_below (blk_alloc k_t_3 _) hb4 (blk_lt (blk_alloc k_t_3 _))
  have k_o_4 : w4.heap[w.heap.size + 1]? = some (.cells #[.int .i64 (m.1), .int .i64 (m.2.1), .int .i64 (m.2.2.1), .int .i64 (m.2.2.2)] 27 (0, 0)) := blk_below (blk_alloc k_o_3 _) hb4 (blk_lt (blk_alloc k_o_3 _))
  have k_c_4 : w4.heap[w1.heap.size]? = some (.cells #[.int .i64 0, .int .i64 0, .int .i64 0, .int .i64 0, .int .i64 0, .int .i64 0] 28 (0, 0)) := blk_below (blk_alloc k_c_3 _) hb4 (blk_lt (blk_alloc k_c_3 _))
  have k_l_4 : w4.heap[w2.heap.size]? = some (.cells #[.int .i64 0, .int .i64 0, .int .i64 0, .int .i64 0, .int .i64 0, .int .i64 0, .int .i64 0, .int .i64 0, .int .i64 0, .int .i64 0, .int .i64 0, .int .i64 0] 32 (0, 0)) := blk_below (blk_alloc k_l_3 _) hb4 (blk_lt (blk_alloc k_l_3 _))
  have k_x_4 : w4.heap[w3.heap.size]? = some (.cells #[.int .i64 0, .int .i64 0, .int .i64 0] 23 (0, 0)) := blk_below (new_blk (.cells #[.int .i64 0, .int .i64 0, .int .i64 0] 23) (by first | rfl | (simp; done) | (simp; omega))) hb4 (by first | (simp; done) | (simp; omega))
  have hw_4 : Below w.heap.size w w4 := stay_b (ba hw_3 _) hb4
  clear c_t_0 c_t_1 c_t_2 f_t s_t c_o_0 c_o_1 c_o_2 c_o_3 f_o s_o c_c_0 c_c_1 c_c_2 c_c_3 c_c_4 c_c_5 f_c s_c c_l_0 c_l_1 c_l_2 c_l_3 c_l_4 c_l_5 c_l_6 c_l_7 c_l_8 c_l_9 c_l_10 c_l_11 f_l s_l k_t_3 k_o_3 k_c_3 k_l_3 hb4 hw_3
  have c_t_0 := cell_of_blk k_t_4 0
  have c_t_1 := cell_of_blk k_t_4 1
  have c_t_2 := cell_of_blk k_t_4 2
  simp only [List.getElem?_toArray, List.getElem?_cons_zero, List.getElem?_cons_succ] at c_t_0 c_t_1 c_t_2
  have f_t := frozen_of_blk k_t_4
  have s_t := blk_lt k_t_4
  have c_o_0 := cell_of_blk k_o_4 0
  have c_o_1 := cell_of_blk k_o_4 1
  have c_o_2 := cell_of_blk k_o_4 2
  have c_o_3 := cell_of_blk k_o_4 3
  simp only [List.getElem?_toArray, List.getElem?_cons_zero, List.getElem?_cons_succ] at c_o_0 c_o_1 c_o_2 c_o_3
  have f_o := frozen_of_blk k_o_4
  have s_o := blk_lt k_o_4
  have c_c_0 := cell_of_blk k_c_4 0
  have c_c_1 := cell_of_blk k_c_4 1
  have c_c_2 := cell_of_blk k_c_4 2
  have c_c_3 := cell_of_blk k_c_4 3
  have c_c_4 := cell_of_blk k_c_4 4
  have c_c_5 := cell_of_blk k_c_4 5
  simp only [List.getElem?_toArray, List.getElem?_cons_zero, List.getElem?_cons_succ] at c_c_0 c_c_1 c_c_2 c_c_3 c_c_4 c_c_5
  have f_c := frozen_of_blk k_c_4
  have s_c := blk_lt k_c_4
  have c_l_0 := cell_of_blk k_l_4 0
  have c_l_1 := cell_of_blk k_l_4 1
  have c_l_2 := cell_of_blk k_l_4 2
  have c_l_3 := cell_of_blk k_l_4 3
  have c_l_4 := cell_of_blk k_l_4 4
  have c_l_5 := cell_of_blk k_l_4 5
  have c_l_6 := cell_of_blk k_l_4 6
  have c_l_7 := cell_of_blk k_l_4 7
  have c_l_8 := cell_of_blk k_l_4 8
  have c_l_9 := cell_of_blk k_l_4 9
  have c_l_10 := cell_of_blk k_l_4 10
  have c_l_11 := cell_of_blk k_l_4 11
  simp only [List.getElem?_toArray, List.getElem?_cons_zero, List.getElem?_cons_succ] at c_l_0 c_l_1 c_l_2 c_l_3 c_l_4 c_l_5 c_l_6 c_l_7 c_l_8 c_l_9 c_l_10 c_l_11
  have f_l := frozen_of_blk k_l_4
  have s_l := blk_lt k_l_4
  have c_x_0 := cell_of_blk k_x_4 0
  have c_x_1 := cell_of_blk k_x_4 1
  have c_x_2 := cell_of_blk k_x_4 2
  simp only [List.getElem?_toArray, List.getElem?_cons_zero, List.getElem?_cons_succ] at c_x_0 c_x_1 c_x_2
  have f_x := frozen_of_blk k_x_4
  have s_x := blk_lt k_x_4
  go_wp2
  go_ret
  exact ⟨rfl, ba (ba hw_4 _) _⟩
end Go.Proofs.YthfhkmgegkhljaaDoor
