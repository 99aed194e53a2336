/- told of points and of edges; grid.Corners, grid.Edges. Printed by gen_gr18.py. -/
import Derived.Test.YthfhkmgegkhljaaDoorGr17
namespace Go.Proofs.YthfhkmgegkhljaaDoor
open Go.RowKit

set_option maxRecDepth 100000 in
set_option maxHeartbeats 1600000 in
theorem toldP_no (F : Value) (w : World) :
    Calls Tryd.prog 31 #[.bool false, F] w fun e w' => e = .returned (.tuple #[.agg #[.int .i64 0, .int .i64 0, .int .i64 0, .int .i64 0, .int .i64 0, .int .i64 0], .int .i64 3]) ∧ Below w.heap.size w w' := by
  go_enter Tryd.func31, Tryd.ntmps31
  go_wp2
  refine bodyPost_ret (v := .tuple #[.agg #[.int .i64 0, .int .i64 0, .int .i64 0, .int .i64 0, .int .i64 0, .int .i64 0], .int .i64 3]) (by simp [results, Tryd.results31, go_sem]) rfl ⟨rfl, ?_⟩
  exact ba (ba (Below.refl _ _) _) _
set_option maxRecDepth 100000 in
set_option maxHeartbeats 1600000 in
theorem toldP_ok (f : Nat) (p0 : Value) (a0 a1 a2 a3 a4 a5 : Int) (w : World) (hent : ∀ (args : Array Value) (wx : World), (callFunc f args).run Tryd.prog wx = .ok (.enter f args) wx)
    (hc1 : Calls Tryd.prog f #[p0] (w.alloc (.cells #[.int .i64 0, .int .i64 0, .int .i64 0, .int .i64 0, .int .i64 0, .int .i64 0] 28)) fun e w' => e = .returned (.agg #[.int .i64 a0, .int .i64 a1, .int .i64 a2, .int .i64 a3, .int .i64 a4, .int .i64 a5]) ∧ Below (w.alloc (.cells #[.int .i64 0, .int .i64 0, .int .i64 0, .int .i64 0, .int .i64 0, .int .i64 0] 28)).heap.size (w.alloc (.cells #[.int .i64 0, .int .i64 0, .int .i64 0, .int .i64 0, .int .i64 0, .int .i64 0] 28)) w') :
    Calls Tryd.prog 31 #[.bool true, .func (.func f) #[] #[p0]] w fun e w' => e = .returned (.tuple #[.agg #[.int .i64 a0, .int .i64 a1, .int .i64 a2, .int .i64 a3, .int .i64 a4, .int .i64 a5], .int .i64 0]) ∧ Below w.heap.size w w' := by
  have HC := Lib.hid hc1
  clear hc1
  go_enter Tryd.func31, Tryd.ntmps31
  go_wp2_with fail
  refine (show Calls _ _ _ _ _ from HC.out).mono ?_
  rintro e w1 ⟨rfl, hb1⟩
  have k_z_1 : w1.heap[w.heap.size]? = some (.cells #[.int .i64 0, .int .i64 0, .int .i64 0, .int .i64 0, .int .i64 0, .int .i64 0] 28 (0, 0)) := blk_below (new_blk (.cells #[.int .i64 0, .int .i64 0, .int .i64 0, .int .i64 0, .int .i64 0, .int .i64 0] 28) (by first | rfl | (simp; done) | (simp; omega))) hb1 (by first | (simp; done) | (simp; omega))
  have hw_1 : Below w.heap.size w w1 := stay_b (ba (Below.refl _ _) _) hb1
  clear hb1
  have c_z_0 := cell_of_blk k_z_1 0
  have c_z_1 := cell_of_blk k_z_1 1
  have c_z_2 := cell_of_blk k_z_1 2
  have c_z_3 := cell_of_blk k_z_1 3
  have c_z_4 := cell_of_blk k_z_1 4
  have c_z_5 := cell_of_blk k_z_1 5
  simp only [List.getElem?_toArray, List.getElem?_cons_zero, List.getElem?_cons_succ] at c_z_0 c_z_1 c_z_2 c_z_3 c_z_4 c_z_5
  have f_z := frozen_of_blk k_z_1
  have s_z := blk_lt k_z_1
  go_wp2
  refine bodyPost_ret (v := .tuple #[.agg #[.int .i64 a0, .int .i64 a1, .int .i64 a2, .int .i64 a3, .int .i64 a4, .int .i64 a5], .int .i64 0]) (by simp [results, Tryd.results31, go_sem, c_z_0, c_z_1, c_z_2, c_z_3, c_z_4, c_z_5]) rfl ⟨rfl, ?_⟩
  have hge : w.heap.size ≤ w.heap.size := Nat.le_refl _
  exact ((((((hw_1.setCell hge _).setCell hge _).setCell hge _).setCell hge _).setCell hge _).setCell hge _)
set_option maxRecDepth 100000 in
set_option maxHeartbeats 1600000 in
theorem toldE_no (F : Value) (w : World) :
    Calls Tryd.prog 35 #[.bool false, F] w fun e w' => e = .returned (.tuple #[.agg #[.int .i64 0, .int .i64 0, .int .i64 0, .int .i64 0, .int .i64 0, .int .i64 0, .int .i64 0, .int .i64 0, .int .i64 0, .int .i64 0, .int .i64 0, .int .i64 0], .int .i64 3]) ∧ Below w.heap.size w w' := by
  go_enter Tryd.func35, Tryd.ntmps35
  go_wp2
  refine bodyPost_ret (v := .tuple #[.agg #[.int .i64 0, .int .i64 0, .int .i64 0, .int .i64 0, .int .i64 0, .int .i64 0, .int .i64 0, .int .i64 0, .int .i64 0, .int .i64 0, .int .i64 0, .int .i64 0], .int .i64 3]) (by simp [results, Tryd.results35, go_sem]) rfl ⟨rfl, ?_⟩
  exact ba (ba (Below.refl _ _) _) _
set_option maxRecDepth 100000 in
set_option maxHeartbeats 1600000 in
theorem toldE_ok (f : Nat) (p0 : Value) (a0 a1 a2 a3 a4 a5 a6 a7 a8 a9 a10 a11 : Int) (w : World) (hent : ∀ (args : Array Value) (wx : World), (callFunc f args).run Tryd.prog wx = .ok (.enter f args) wx)
    (hc1 : Calls Tryd.prog f #[p0] (w.alloc (.cells #[.int .i64 0, .int .i64 0, .int .i64 0, .int .i64 0, .int .i64 0, .int .i64 0, .int .i64 0, .int .i64 0, .int .i64 0, .int .i64 0, .int .i64 0, .int .i64 0] 32)) fun e w' => e = .returned (.agg #[.int .i64 a0, .int .i64 a1, .int .i64 a2, .int .i64 a3, .int .i64 a4, .int .i64 a5, .int .i64 a6, .int .i64 a7, .int .i64 a8, .int .i64 a9, .int .i64 a10, .int .i64 a11]) ∧ Below (w.alloc (.cells #[.int .i64 0, .int .i64 0, .int .i64 0, .int .i64 0, .int .i64 0, .int .i64 0, .int .i64 0, .int .i64 0, .int .i64 0, .int .i64 0, .int .i64 0, .int .i64 0] 32)).heap.size (w.alloc (.cells #[.int .i64 0, .int .i64 0, .int .i64 0, .int .i64 0, .int .i64 0, .int .i64 0, .int .i64 0, .int .i64 0, .int .i64 0, .int .i64 0, .int .i64 0, .int .i64 0] 32)) w') :
    Calls Tryd.prog 35 #[.bool true, .func (.func f) #[] #[p0]] w fun e w' => e = .returned (.tuple #[.agg #[.int .i64 a0, .int .i64 a1, .int .i64 a2, .int .i64 a3, .int .i64 a4, .int .i64 a5, .int .i64 a6, .int .i64 a7, .int .i64 a8, .int .i64 a9, .int .i64 a10, .int .i64 a11], .int .i64 0]) ∧ Below w.heap.size w w' := by
  have HC := Lib.hid hc1
  clear hc1
  go_enter Tryd.func35, Tryd.ntmps35
  go_wp2_with fail
  refine (show Calls _ _ _ _ _ from HC.out).mono ?_
  rintro e w1 ⟨rfl, hb1⟩
  have k_z_1 : w1.heap[w.heap.size]? = some (.cells #[.int .i64 0, .int .i64 0, .int .i64 0, .int .i64 0, .int .i64 0, .int .i64 0, .int .i64 0, .int .i64 0, .int .i64 0, .int .i64 0, .int .i64 0, .int .i64 0] 32 (0, 0)) := blk_below (new_blk (.cells #[.int .i64 0, .int .i64 0, .int .i64 0, .int .i64 0, .int .i64 0, .int .i64 0, .int .i64 0, .int .i64 0, .int .i64 0, .int .i64 0, .int .i64 0, .int .i64 0] 32) (by first | rfl | (simp; done) | (simp; omega))) hb1 (by first | (simp; done) | (simp; omega))
  have hw_1 : Below w.heap.size w w1 := stay_b (ba (Below.refl _ _) _) hb1
  clear hb1
  have c_z_0 := cell_of_blk k_z_1 0
  have c_z_1 := cell_of_blk k_z_1 1
  have c_z_2 := cell_of_blk k_z_1 2
  have c_z_3 := cell_of_blk k_z_1 3
  have c_z_4 := cell_of_blk k_z_1 4
  have c_z_5 := cell_of_blk k_z_1 5
  have c_z_6 := cell_of_blk k_z_1 6
  have c_z_7 := cell_of_blk k_z_1 7
  have c_z_8 := cell_of_blk k_z_1 8
  have c_z_9 := cell_of_blk k_z_1 9
  have c_z_10 := cell_of_blk k_z_1 10
  have c_z_11 := cell_of_blk k_z_1 11
  simp only [List.getElem?_toArray, List.getElem?_cons_zero, List.getElem?_cons_succ] at c_z_0 c_z_1 c_z_2 c_z_3 c_z_4 c_z_5 c_z_6 c_z_7 c_z_8 c_z_9 c_z_10 c_z_11
  have f_z := frozen_of_blk k_z_1
  have s_z := blk_lt k_z_1
  go_wp2
  refine bodyPost_ret (v := .tuple #[.agg #[.int .i64 a0, .int .i64 a1, .int .i64 a2, .int .i64 a3, .int .i64 a4, .int .i64 a5, .int .i64 a6, .int .i64 a7, .int .i64 a8, .int .i64 a9, .int .i64 a10, .int .i64 a11], .int .i64 0]) (by simp [results, Tryd.results35, go_sem, c_z_0, c_z_1, c_z_2, c_z_3, c_z_4, c_z_5, c_z_6, c_z_7, c_z_8, c_z_9, c_z_10, c_z_11]) rfl ⟨rfl, ?_⟩
  have hge : w.heap.size ≤ w.heap.size := Nat.le_refl _
  exact ((((((((((((hw_1.setCell hge _).setCell hge _).setCell hge _).setCell hge _).setCell hge _).setCell hge _).setCell hge _).setCell hge _).setCell hge _).setCell hge _).setCell hge _).setCell hge _)
theorem edges1_enter (args : Array Value) (wx : World) : (callFunc 36 args).run Tryd.prog wx = .ok (.enter 36 args) wx := by kernel_rfl
set_option maxRecDepth 100000 in
set_option maxHeartbeats 1600000 in
theorem edges1_any (x y k : Int) (g : Nat) (w : World) (hs : Steps w) (k_t_0 : w.heap[g]? = some (.cells #[.int .i64 x, .int .i64 y, .int .i64 k] 23 (0, 0))) (ht : triMayB x y k = true) :
    Calls Tryd.prog 36 #[.pointer (some ⟨g, 0, none⟩)] w fun e w' => e = .returned (agg3E (edgeT x y k 0) (edgeT x y k 1) (edgeT x y k 2)) ∧ Below w.heap.size w w' := by
  obtain ⟨⟨x1, x2⟩, ⟨y1, y2⟩, k1, k2⟩ := triMayB_bd ht
  clear ht
  obtain ⟨E0, hE0⟩ : ∃ a : E4, a = edgeT x y k 0 := ⟨_, rfl⟩
  have HE0 := Lib.hid hE0
  clear hE0
  obtain ⟨E1, hE1⟩ : ∃ a : E4, a = edgeT x y k 1 := ⟨_, rfl⟩
  have HE1 := Lib.hid hE1
  clear hE1
  obtain ⟨E2, hE2⟩ : ∃ a : E4, a = edgeT x y k 2 := ⟨_, rfl⟩
  have HE2 := Lib.hid hE2
  clear hE2
  have c_t_0 := cell_of_blk k_t_0 0
  have c_t_1 := cell_of_blk k_t_0 1
  have c_t_2 := cell_of_blk k_t_0 2
  simp only [List.getElem?_toArray, List.getElem?_cons_zero, List.getElem?_cons_succ] at c_t_0 c_t_1 c_t_2
  have f_t := frozen_of_blk k_t_0
  have s_t := blk_lt k_t_0
  go_enter Tryd.func36, Tryd.ntmps36
  go_wp2_with fail
  refine (edges_any x y k _ (hs.alloc _) x1 x2 y1 y2 k1 k2).mono ?_
  rintro e w1 ⟨he, hb1⟩
  rw [← HE0.out, ← HE1.out, ← HE2.out] at he
  subst he
  have k_t_1 : w1.heap[g]? = some (.cells #[.int .i64 x, .int .i64 y, .int .i64 k] 23 (0, 0)) := blk_below (blk_alloc k_t_0 _) hb1 (blk_lt (blk_alloc k_t_0 _))
  have k_r_1 : w1.heap[w.heap.size]? = some (.cells #[.int .i64 0, .int .i64 0, .int .i64 0, .int .i64 0, .int .i64 0, .int .i64 0, .int .i64 0, .int .i64 0, .int .i64 0, .int .i64 0, .int .i64 0, .int .i64 0] 32 (0, 0)) := blk_below (new_blk (.cells #[.int .i64 0, .int .i64 0, .int .i64 0, .int .i64 0, .int .i64 0, .int .i64 0, .int .i64 0, .int .i64 0, .int .i64 0, .int .i64 0, .int .i64 0, .int .i64 0] 32) (by first | rfl | (simp; done) | (simp; omega))) hb1 (by first | (simp; done) | (simp; omega))
  have hw_1 : Below w.heap.size w w1 := stay_b (ba (Below.refl _ _) _) hb1
  have hs_1 := (hs.alloc _).below hb1
  clear c_t_0 c_t_1 c_t_2 f_t s_t k_t_0 hb1
  have c_t_0 := cell_of_blk k_t_1 0
  have c_t_1 := cell_of_blk k_t_1 1
  have c_t_2 := cell_of_blk k_t_1 2
  simp only [List.getElem?_toArray, List.getElem?_cons_zero, List.getElem?_cons_succ] at c_t_0 c_t_1 c_t_2
  have f_t := frozen_of_blk k_t_1
  have s_t := blk_lt k_t_1
  have c_r_0 := cell_of_blk k_r_1 0
  have c_r_1 := cell_of_blk k_r_1 1
  have c_r_2 := cell_of_blk k_r_1 2
  have c_r_3 := cell_of_blk k_r_1 3
  have c_r_4 := cell_of_blk k_r_1 4
  have c_r_5 := cell_of_blk k_r_1 5
  have c_r_6 := cell_of_blk k_r_1 6
  have c_r_7 := cell_of_blk k_r_1 7
  have c_r_8 := cell_of_blk k_r_1 8
  have c_r_9 := cell_of_blk k_r_1 9
  have c_r_10 := cell_of_blk k_r_1 10
  have c_r_11 := cell_of_blk k_r_1 11
  simp only [List.getElem?_toArray, List.getElem?_cons_zero, List.getElem?_cons_succ] at c_r_0 c_r_1 c_r_2 c_r_3 c_r_4 c_r_5 c_r_6 c_r_7 c_r_8 c_r_9 c_r_10 c_r_11
  have f_r := frozen_of_blk k_r_1
  have s_r := blk_lt k_r_1
  go_wp2
  have hge : w.heap.size ≤ w.heap.size := Nat.le_refl _
  exact bodyPost_ret (v := agg3E E0 E1 E2) (by simp [results, Tryd.results36, go_sem, c_r_0, c_r_1, c_r_2, c_r_3, c_r_4, c_r_5, c_r_6, c_r_7, c_r_8, c_r_9, c_r_10, c_r_11]) rfl ⟨by rw [HE0.out, HE1.out, HE2.out], ((((((((((((hw_1.setCell hge _).setCell hge _).setCell hge _).setCell hge _).setCell hge _).setCell hge _).setCell hge _).setCell hge _).setCell hge _).setCell hge _).setCell hge _).setCell hge _)⟩
theorem corners1_enter (args : Array Value) (wx : World) : (callFunc 33 args).run Tryd.prog wx = .ok (.enter 33 args) wx := by kernel_rfl
set_option maxRecDepth 100000 in
set_option maxHeartbeats 1600000 in
theorem corners1_any (x y k : Int) (g : Nat) (w : World) (hs : Steps w) (k_t_0 : w.heap[g]? = some (.cells #[.int .i64 x, .int .i64 y, .int .i64 k] 23 (0, 0))) (ht : triMayB x y k = true) :
    Calls Tryd.prog 33 #[.pointer (some ⟨g, 0, none⟩)] w fun e w' => e = .returned (.agg #[.int .i64 (2 * x + 1), .int .i64 (2 * y + 1), .int .i64 (cornX x k), .int .i64 (cornY y k), .int .i64 (cornX x (k + 1)), .int .i64 (cornY y (k + 1))]) ∧ Below w.heap.size w w' := by
  obtain ⟨⟨x1, x2⟩, ⟨y1, y2⟩, k1, k2⟩ := triMayB_bd ht
  clear ht
  obtain ⟨X1, hX1⟩ : ∃ a : Int, a = cornX x k := ⟨_, rfl⟩
  have HX1 := Lib.hid hX1
  clear hX1
  obtain ⟨Y1, hY1⟩ : ∃ a : Int, a = cornY y k := ⟨_, rfl⟩
  have HY1 := Lib.hid hY1
  clear hY1
  obtain ⟨X2, hX2⟩ : ∃ a : Int, a = cornX x (k + 1) := ⟨_, rfl⟩
  have HX2 := Lib.hid hX2
  clear hX2
  obtain ⟨Y2, hY2⟩ : ∃ a : Int, a = cornY y (k + 1) := ⟨_, rfl⟩
  have HY2 := Lib.hid hY2
  clear hY2
  have c_t_0 := cell_of_blk k_t_0 0
  have c_t_1 := cell_of_blk k_t_0 1
  have c_t_2 := cell_of_blk k_t_0 2
  simp only [List.getElem?_toArray, List.getElem?_cons_zero, List.getElem?_cons_succ] at c_t_0 c_t_1 c_t_2
  have f_t := frozen_of_blk k_t_0
  have s_t := blk_lt k_t_0
  go_enter Tryd.func33, Tryd.ntmps33
  go_wp2_with fail
  refine (corners_any x y k _ (hs.alloc _) x1 x2 y1 y2 k1 k2).mono ?_
  rintro e w1 ⟨he, hb1⟩
  rw [← HX1.out, ← HY1.out, ← HX2.out, ← HY2.out] at he
  subst he
  have k_t_1 : w1.heap[g]? = some (.cells #[.int .i64 x, .int .i64 y, .int .i64 k] 23 (0, 0)) := blk_below (blk_alloc k_t_0 _) hb1 (blk_lt (blk_alloc k_t_0 _))
  have k_r_1 : w1.heap[w.heap.size]? = some (.cells #[.int .i64 0, .int .i64 0, .int .i64 0, .int .i64 0, .int .i64 0, .int .i64 0] 28 (0, 0)) := blk_below (new_blk (.cells #[.int .i64 0, .int .i64 0, .int .i64 0, .int .i64 0, .int .i64 0, .int .i64 0] 28) (by first | rfl | (simp; done) | (simp; omega))) hb1 (by first | (simp; done) | (simp; omega))
  have hw_1 : Below w.heap.size w w1 := stay_b (ba (Below.refl _ _) _) hb1
  have hs_1 := (hs.alloc _).below hb1
  clear c_t_0 c_t_1 c_t_2 f_t s_t k_t_0 hb1
  have c_t_0 := cell_of_blk k_t_1 0
  have c_t_1 := cell_of_blk k_t_1 1
  have c_t_2 := cell_of_blk k_t_1 2
  simp only [List.getElem?_toArray, List.getElem?_cons_zero, List.getElem?_cons_succ] at c_t_0 c_t_1 c_t_2
  have f_t := frozen_of_blk k_t_1
  have s_t := blk_lt k_t_1
  have c_r_0 := cell_of_blk k_r_1 0
  have c_r_1 := cell_of_blk k_r_1 1
  have c_r_2 := cell_of_blk k_r_1 2
  have c_r_3 := cell_of_blk k_r_1 3
  have c_r_4 := cell_of_blk k_r_1 4
  have c_r_5 := cell_of_blk k_r_1 5
  simp only [List.getElem?_toArray, List.getElem?_cons_zero, List.getElem?_cons_succ] at c_r_0 c_r_1 c_r_2 c_r_3 c_r_4 c_r_5
  have f_r := frozen_of_blk k_r_1
  have s_r := blk_lt k_r_1
  go_wp2
  have hge : w.heap.size ≤ w.heap.size := Nat.le_refl _
  exact bodyPost_ret (v := .agg #[.int .i64 (2 * x + 1), .int .i64 (2 * y + 1), .int .i64 X1, .int .i64 Y1, .int .i64 X2, .int .i64 Y2]) (by simp [results, Tryd.results33, go_sem, c_r_0, c_r_1, c_r_2, c_r_3, c_r_4, c_r_5]) rfl ⟨by rw [HX1.out, HY1.out, HX2.out, HY2.out], ((((((hw_1.setCell hge _).setCell hge _).setCell hge _).setCell hge _).setCell hge _).setCell hge _)⟩
set_option maxRecDepth 100000 in
set_option maxHeartbeats 1600000 in
theorem gedges_no (x y k : Int) (w : World) (ht : triMayB x y k = false) :
    Calls Tryd.prog 9 #[aggT x y k] w fun e w' => e = .returned (.tuple #[.agg #[.int .i64 0, .int .i64 0, .int .i64 0, .int .i64 0, .int .i64 0, .int .i64 0, .int .i64 0, .int .i64 0, .int .i64 0, .int .i64 0, .int .i64 0, .int .i64 0], .int .i64 3]) ∧ Below w.heap.size w w' := by
  have HT := Lib.hid ht
  clear ht
  have hmf : ∀ (fn : Fn) (first cap : Array Value) (w : World), (Instr.makeFunc fn first cap).run Tryd.prog w = .ok (.func fn first cap) w := fun _ _ _ _ => rfl
  go_enter Tryd.func9, Tryd.ntmps9
  go_wp2_with fail
  refine (triMay_any x y k _).mono ?_
  rintro e w1 ⟨rfl, hb1⟩
  rw [HT.out]
  have k_t_1 : w1.heap[w.heap.size]? = some (.cells #[.int .i64 x, .int .i64 y, .int .i64 k] 23 (0, 0)) := blk_below (blk_alloc (new_blk (.cells #[.int .i64 x, .int .i64 y, .int .i64 k] 23) (by first | rfl | (simp; done) | (simp; omega))) _) hb1 (by first | (simp; done) | (simp; omega))
  have k_r_1 : w1.heap[w.heap.size + 1]? = some (.cells #[.int .i64 0, .int .i64 0, .int .i64 0, .int .i64 0, .int .i64 0, .int .i64 0, .int .i64 0, .int .i64 0, .int .i64 0, .int .i64 0, .int .i64 0, .int .i64 0] 32 (0, 0)) := blk_below (new_blk (.cells #[.int .i64 0, .int .i64 0, .int .i64 0, .int .i64 0, .int .i64 0, .int .i64 0, .int .i64 0, .int .i64 0, .int .i64 0, .int .i64 0, .int .i64 0, .int .i64 0] 32) (by first | rfl | (simp; done) | (simp; omega))) hb1 (by first | (simp; done) | (simp; omega))
  have hw_1 : Below w.heap.size w w1 := stay_b (ba (ba (Below.refl _ _) _) _) hb1
  clear hb1
  have c_t_0 := cell_of_blk k_t_1 0
  have c_t_1 := cell_of_blk k_t_1 1
  have c_t_2 := cell_of_blk k_t_1 2
  simp only [List.getElem?_toArray, List.getElem?_cons_zero, List.getElem?_cons_succ] at c_t_0 c_t_1 c_t_2
  have f_t := frozen_of_blk k_t_1
  have s_t := blk_lt k_t_1
  have c_r_0 := cell_of_blk k_r_1 0
  have c_r_1 := cell_of_blk k_r_1 1
  have c_r_2 := cell_of_blk k_r_1 2
  have c_r_3 := cell_of_blk k_r_1 3
  have c_r_4 := cell_of_blk k_r_1 4
  have c_r_5 := cell_of_blk k_r_1 5
  have c_r_6 := cell_of_blk k_r_1 6
  have c_r_7 := cell_of_blk k_r_1 7
  have c_r_8 := cell_of_blk k_r_1 8
  have c_r_9 := cell_of_blk k_r_1 9
  have c_r_10 := cell_of_blk k_r_1 10
  have c_r_11 := cell_of_blk k_r_1 11
  simp only [List.getElem?_toArray, List.getElem?_cons_zero, List.getElem?_cons_succ] at c_r_0 c_r_1 c_r_2 c_r_3 c_r_4 c_r_5 c_r_6 c_r_7 c_r_8 c_r_9 c_r_10 c_r_11
  have f_r := frozen_of_blk k_r_1
  have s_r := blk_lt k_r_1
  go_wp2_with fail
  refine (toldE_no _ _).mono ?_
  rintro e w2 ⟨rfl, hb2⟩
  have k_t_2 : w2.heap[w.heap.size]? = some (.cells #[.int .i64 x, .int .i64 y, .int .i64 k] 23 (0, 0)) := blk_below k_t_1 hb2 (blk_lt k_t_1)
  have k_r_2 : w2.heap[w.heap.size + 1]? = some (.cells #[.int .i64 0, .int .i64 0, .int .i64 0, .int .i64 0, .int .i64 0, .int .i64 0, .int .i64 0, .int .i64 0, .int .i64 0, .int .i64 0, .int .i64 0, .int .i64 0] 32 (0, 0)) := blk_below k_r_1 hb2 (blk_lt k_r_1)
  have hw_2 : Below w.heap.size w w2 := stay_b hw_1 hb2
  clear c_t_0 c_t_1 c_t_2 f_t s_t c_r_0 c_r_1 c_r_2 c_r_3 c_r_4 c_r_5 c_r_6 c_r_7 c_r_8 c_r_9 c_r_10 c_r_11 f_r s_r k_t_1 k_r_1 hb2 hw_1
  have c_t_0 := cell_of_blk k_t_2 0
  have c_t_1 := cell_of_blk k_t_2 1
  have c_t_2 := cell_of_blk k_t_2 2
  simp only [List.getElem?_toArray, List.getElem?_cons_zero, List.getElem?_cons_succ] at c_t_0 c_t_1 c_t_2
  have f_t := frozen_of_blk k_t_2
  have s_t := blk_lt k_t_2
  have c_r_0 := cell_of_blk k_r_2 0
  have c_r_1 := cell_of_blk k_r_2 1
  have c_r_2 := cell_of_blk k_r_2 2
  have c_r_3 := cell_of_blk k_r_2 3
  have c_r_4 := cell_of_blk k_r_2 4
  have c_r_5 := cell_of_blk k_r_2 5
  have c_r_6 := cell_of_blk k_r_2 6
  have c_r_7 := cell_of_blk k_r_2 7
  have c_r_8 := cell_of_blk k_r_2 8
  have c_r_9 := cell_of_blk k_r_2 9
  have c_r_10 := cell_of_blk k_r_2 10
  have c_r_11 := cell_of_blk k_r_2 11
  simp only [List.getElem?_toArray, List.getElem?_cons_zero, List.getElem?_cons_succ] at c_r_0 c_r_1 c_r_2 c_r_3 c_r_4 c_r_5 c_r_6 c_r_7 c_r_8 c_r_9 c_r_10 c_r_11
  have f_r := frozen_of_blk k_r_2
  have s_r := blk_lt k_r_2
  go_wp2
  have hge : w.heap.size ≤ w.heap.size + 1 := by omega
  exact bodyPost_ret (v := .tuple #[.agg #[.int .i64 0, .int .i64 0, .int .i64 0, .int .i64 0, .int .i64 0, .int .i64 0, .int .i64 0, .int .i64 0, .int .i64 0, .int .i64 0, .int .i64 0, .int .i64 0], .int .i64 3]) (by simp [results, Tryd.results9, go_sem, c_r_0, c_r_1, c_r_2, c_r_3, c_r_4, c_r_5, c_r_6, c_r_7, c_r_8, c_r_9, c_r_10, c_r_11]) rfl ⟨rfl, ((((((((((((hw_2.setCell hge _).setCell hge _).setCell hge _).setCell hge _).setCell hge _).setCell hge _).setCell hge _).setCell hge _).setCell hge _).setCell hge _).setCell hge _).setCell hge _)⟩
set_option maxRecDepth 100000 in
set_option maxHeartbeats 1600000 in
theorem gedges_ok (x y k : Int) (w : World) (hs : Steps w) (ht : triMayB x y k = true) :
    Calls Tryd.prog 9 #[aggT x y k] w fun e w' => e = .returned (.tuple #[agg3E (edgeT x y k 0) (edgeT x y k 1) (edgeT x y k 2), .int .i64 0]) ∧ Below w.heap.size w w' := by
  have HT := Lib.hid ht
  clear ht
  have hmf : ∀ (fn : Fn) (first cap : Array Value) (w : World), (Instr.makeFunc fn first cap).run Tryd.prog w = .ok (.func fn first cap) w := fun _ _ _ _ => rfl
  obtain ⟨E0, hE0⟩ : ∃ a : E4, a = edgeT x y k 0 := ⟨_, rfl⟩
  have HE0 := Lib.hid hE0
  clear hE0
  obtain ⟨E1, hE1⟩ : ∃ a : E4, a = edgeT x y k 1 := ⟨_, rfl⟩
  have HE1 := Lib.hid hE1
  clear hE1
  obtain ⟨E2, hE2⟩ : ∃ a : E4, a = edgeT x y k 2 := ⟨_, rfl⟩
  have HE2 := Lib.hid hE2
  clear hE2
  go_enter Tryd.func9, Tryd.ntmps9
  go_wp2_with fail
  refine (triMay_any x y k _).mono ?_
  rintro e w1 ⟨rfl, hb1⟩
  rw [HT.out]
  have k_t_1 : w1.heap[w.heap.size]? = some (.cells #[.int .i64 x, .int .i64 y, .int .i64 k] 23 (0, 0)) := blk_below (blk_alloc (new_blk (.cells #[.int .i64 x, .int .i64 y, .int .i64 k] 23) (by first | rfl | (simp; done) | (simp; omega))) _) hb1 (by first | (simp; done) | (simp; omega))
  have k_r_1 : w1.heap[w.heap.size + 1]? = some (.cells #[.int .i64 0, .int .i64 0, .int .i64 0, .int .i64 0, .int .i64 0, .int .i64 0, .int .i64 0, .int .i64 0, .int .i64 0, .int .i64 0, .int .i64 0, .int .i64 0] 32 (0, 0)) := blk_below (new_blk (.cells #[.int .i64 0, .int .i64 0, .int .i64 0, .int .i64 0, .int .i64 0, .int .i64 0, .int .i64 0, .int .i64 0, .int .i64 0, .int .i64 0, .int .i64 0, .int .i64 0] 32) (by first | rfl | (simp; done) | (simp; omega))) hb1 (by first | (simp; done) | (simp; omega))
  have hw_1 : Below w.heap.size w w1 := stay_b (ba (ba (Below.refl _ _) _) _) hb1
  have hs_1 := ((hs.alloc _).alloc _).below hb1
  clear hb1
  have c_t_0 := cell_of_blk k_t_1 0
  have c_t_1 := cell_of_blk k_t_1 1
  have c_t_2 := cell_of_blk k_t_1 2
  simp only [List.getElem?_toArray, List.getElem?_cons_zero, List.getElem?_cons_succ] at c_t_0 c_t_1 c_t_2
  have f_t := frozen_of_blk k_t_1
  have s_t := blk_lt k_t_1
  have c_r_0 := cell_of_blk k_r_1 0
  have c_r_1 := cell_of_blk k_r_1 1
  have c_r_2 := cell_of_blk k_r_1 2
  have c_r_3 := cell_of_blk k_r_1 3
  have c_r_4 := cell_of_blk k_r_1 4
  have c_r_5 := cell_of_blk k_r_1 5
  have c_r_6 := cell_of_blk k_r_1 6
  have c_r_7 := cell_of_blk k_r_1 7
  have c_r_8 := cell_of_blk k_r_1 8
  have c_r_9 := cell_of_blk k_r_1 9
  have c_r_10 := cell_of_blk k_r_1 10
  have c_r_11 := cell_of_blk k_r_1 11
  simp only [List.getElem?_toArray, List.getElem?_cons_zero, List.getElem?_cons_succ] at c_r_0 c_r_1 c_r_2 c_r_3 c_r_4 c_r_5 c_r_6 c_r_7 c_r_8 c_r_9 c_r_10 c_r_11
  have f_r := frozen_of_blk k_r_1
  have s_r := blk_lt k_r_1
  have hc1 := edges1_any x y k w.heap.size (w1.alloc (.cells #[.int .i64 0, .int .i64 0, .int .i64 0, .int .i64 0, .int .i64 0, .int .i64 0, .int .i64 0, .int .i64 0, .int .i64 0, .int .i64 0, .int .i64 0, .int .i64 0] 32)) (hs_1.alloc _) (blk_alloc k_t_1 _) HT.out
  rw [← HE0.out, ← HE1.out, ← HE2.out] at hc1
  have HC1 := Lib.hid hc1
  clear hc1
  go_wp2_with fail
  refine (toldE_ok _ _ E0.1 E0.2.1 E0.2.2.1 E0.2.2.2 E1.1 E1.2.1 E1.2.2.1 E1.2.2.2 E2.1 E2.2.1 E2.2.2.1 E2.2.2.2 _ edges1_enter HC1.out).mono ?_
  rintro e w2 ⟨rfl, hb2⟩
  have k_t_2 : w2.heap[w.heap.size]? = some (.cells #[.int .i64 x, .int .i64 y, .int .i64 k] 23 (0, 0)) := blk_below k_t_1 hb2 (blk_lt k_t_1)
  have k_r_2 : w2.heap[w.heap.size + 1]? = some (.cells #[.int .i64 0, .int .i64 0, .int .i64 0, .int .i64 0, .int .i64 0, .int .i64 0, .int .i64 0, .int .i64 0, .int .i64 0, .int .i64 0, .int .i64 0, .int .i64 0] 32 (0, 0)) := blk_below k_r_1 hb2 (blk_lt k_r_1)
  have hw_2 : Below w.heap.size w w2 := stay_b hw_1 hb2
  have hs_2 := hs_1.below hb2
  clear c_t_0 c_t_1 c_t_2 f_t s_t c_r_0 c_r_1 c_r_2 c_r_3 c_r_4 c_r_5 c_r_6 c_r_7 c_r_8 c_r_9 c_r_10 c_r_11 f_r s_r k_t_1 k_r_1 hb2 hw_1
  have c_t_0 := cell_of_blk k_t_2 0
  have c_t_1 := cell_of_blk k_t_2 1
  have c_t_2 := cell_of_blk k_t_2 2
  simp only [List.getElem?_toArray, List.getElem?_cons_zero, List.getElem?_cons_succ] at c_t_0 c_t_1 c_t_2
  have f_t := frozen_of_blk k_t_2
  have s_t := blk_lt k_t_2
  have c_r_0 := cell_of_blk k_r_2 0
  have c_r_1 := cell_of_blk k_r_2 1
  have c_r_2 := cell_of_blk k_r_2 2
  have c_r_3 := cell_of_blk k_r_2 3
  have c_r_4 := cell_of_blk k_r_2 4
  have c_r_5 := cell_of_blk k_r_2 5
  have c_r_6 := cell_of_blk k_r_2 6
  have c_r_7 := cell_of_blk k_r_2 7
  have c_r_8 := cell_of_blk k_r_2 8
  have c_r_9 := cell_of_blk k_r_2 9
  have c_r_10 := cell_of_blk k_r_2 10
  have c_r_11 := cell_of_blk k_r_2 11
  simp only [List.getElem?_toArray, List.getElem?_cons_zero, List.getElem?_cons_succ] at c_r_0 c_r_1 c_r_2 c_r_3 c_r_4 c_r_5 c_r_6 c_r_7 c_r_8 c_r_9 c_r_10 c_r_11
  have f_r := frozen_of_blk k_r_2
  have s_r := blk_lt k_r_2
  go_wp2
  have hge : w.heap.size ≤ w.heap.size + 1 := by omega
  exact bodyPost_ret (v := .tuple #[agg3E E0 E1 E2, .int .i64 0]) (by simp [results, Tryd.results9, go_sem, c_r_0, c_r_1, c_r_2, c_r_3, c_r_4, c_r_5, c_r_6, c_r_7, c_r_8, c_r_9, c_r_10, c_r_11]) rfl ⟨by rw [HE0.out, HE1.out, HE2.out], ((((((((((((hw_2.setCell hge _).setCell hge _).setCell hge _).setCell hge _).setCell hge _).setCell hge _).setCell hge _).setCell hge _).setCell hge _).setCell hge _).setCell hge _).setCell hge _)⟩
set_option maxRecDepth 100000 in
set_option maxHeartbeats 1600000 in
theorem gcorn_no (x y k : Int) (w : World) (ht : triMayB x y k = false) :
    Calls Tryd.prog 8 #[aggT x y k] w fun e w' => e = .returned (.tuple #[.agg #[.int .i64 0, .int .i64 0, .int .i64 0, .int .i64 0, .int .i64 0, .int .i64 0], .int .i64 3]) ∧ Below w.heap.size w w' := by
  have HT := Lib.hid ht
  clear ht
  have hmf : ∀ (fn : Fn) (first cap : Array Value) (w : World), (Instr.makeFunc fn first cap).run Tryd.prog w = .ok (.func fn first cap) w := fun _ _ _ _ => rfl
  go_enter Tryd.func8, Tryd.ntmps8
  go_wp2_with fail
  refine (triMay_any x y k _).mono ?_
  rintro e w1 ⟨rfl, hb1⟩
  rw [HT.out]
  have k_t_1 : w1.heap[w.heap.size]? = some (.cells #[.int .i64 x, .int .i64 y, .int .i64 k] 23 (0, 0)) := blk_below (blk_alloc (new_blk (.cells #[.int .i64 x, .int .i64 y, .int .i64 k] 23) (by first | rfl | (simp; done) | (simp; omega))) _) hb1 (by first | (simp; done) | (simp; omega))
  have k_r_1 : w1.heap[w.heap.size + 1]? = some (.cells #[.int .i64 0, .int .i64 0, .int .i64 0, .int .i64 0, .int .i64 0, .int .i64 0] 28 (0, 0)) := blk_below (new_blk (.cells #[.int .i64 0, .int .i64 0, .int .i64 0, .int .i64 0, .int .i64 0, .int .i64 0] 28) (by first | rfl | (simp; done) | (simp; omega))) hb1 (by first | (simp; done) | (simp; omega))
  have hw_1 : Below w.heap.size w w1 := stay_b (ba (ba (Below.refl _ _) _) _) hb1
  clear hb1
  have c_t_0 := cell_of_blk k_t_1 0
  have c_t_1 := cell_of_blk k_t_1 1
  have c_t_2 := cell_of_blk k_t_1 2
  simp only [List.getElem?_toArray, List.getElem?_cons_zero, List.getElem?_cons_succ] at c_t_0 c_t_1 c_t_2
  have f_t := frozen_of_blk k_t_1
  have s_t := blk_lt k_t_1
  have c_r_0 := cell_of_blk k_r_1 0
  have c_r_1 := cell_of_blk k_r_1 1
  have c_r_2 := cell_of_blk k_r_1 2
  have c_r_3 := cell_of_blk k_r_1 3
  have c_r_4 := cell_of_blk k_r_1 4
  have c_r_5 := cell_of_blk k_r_1 5
  simp only [List.getElem?_toArray, List.getElem?_cons_zero, List.getElem?_cons_succ] at c_r_0 c_r_1 c_r_2 c_r_3 c_r_4 c_r_5
  have f_r := frozen_of_blk k_r_1
  have s_r := blk_lt k_r_1
  go_wp2_with fail
  refine (toldP_no _ _).mono ?_
  rintro e w2 ⟨rfl, hb2⟩
  have k_t_2 : w2.heap[w.heap.size]? = some (.cells #[.int .i64 x, .int .i64 y, .int .i64 k] 23 (0, 0)) := blk_below k_t_1 hb2 (blk_lt k_t_1)
  have k_r_2 : w2.heap[w.heap.size + 1]? = some (.cells #[.int .i64 0, .int .i64 0, .int .i64 0, .int .i64 0, .int .i64 0, .int .i64 0] 28 (0, 0)) := blk_below k_r_1 hb2 (blk_lt k_r_1)
  have hw_2 : Below w.heap.size w w2 := stay_b hw_1 hb2
  clear c_t_0 c_t_1 c_t_2 f_t s_t c_r_0 c_r_1 c_r_2 c_r_3 c_r_4 c_r_5 f_r s_r k_t_1 k_r_1 hb2 hw_1
  have c_t_0 := cell_of_blk k_t_2 0
  have c_t_1 := cell_of_blk k_t_2 1
  have c_t_2 := cell_of_blk k_t_2 2
  simp only [List.getElem?_toArray, List.getElem?_cons_zero, List.getElem?_cons_succ] at c_t_0 c_t_1 c_t_2
  have f_t := frozen_of_blk k_t_2
  have s_t := blk_lt k_t_2
  have c_r_0 := cell_of_blk k_r_2 0
  have c_r_1 := cell_of_blk k_r_2 1
  have c_r_2 := cell_of_blk k_r_2 2
  have c_r_3 := cell_of_blk k_r_2 3
  have c_r_4 := cell_of_blk k_r_2 4
  have c_r_5 := cell_of_blk k_r_2 5
  simp only [List.getElem?_toArray, List.getElem?_cons_zero, List.getElem?_cons_succ] at c_r_0 c_r_1 c_r_2 c_r_3 c_r_4 c_r_5
  have f_r := frozen_of_blk k_r_2
  have s_r := blk_lt k_r_2
  go_wp2
  have hge : w.heap.size ≤ w.heap.size + 1 := by omega
  exact bodyPost_ret (v := .tuple #[.agg #[.int .i64 0, .int .i64 0, .int .i64 0, .int .i64 0, .int .i64 0, .int .i64 0], .int .i64 3]) (by simp [results, Tryd.results8, go_sem, c_r_0, c_r_1, c_r_2, c_r_3, c_r_4, c_r_5]) rfl ⟨rfl, ((((((hw_2.setCell hge _).setCell hge _).setCell hge _).setCell hge _).setCell hge _).setCell hge _)⟩
set_option maxRecDepth 100000 in
set_option maxHeartbeats 1600000 in
theorem gcorn_ok (x y k : Int) (w : World) (hs : Steps w) (ht : triMayB x y k = true) :
    Calls Tryd.prog 8 #[aggT x y k] w fun e w' => e = .returned (.tuple #[.agg #[.int .i64 (2 * x + 1), .int .i64 (2 * y + 1), .int .i64 (cornX x k), .int .i64 (cornY y k), .int .i64 (cornX x (k + 1)), .int .i64 (cornY y (k + 1))], .int .i64 0]) ∧ Below w.heap.size w w' := by
  have HT := Lib.hid ht
  clear ht
  have hmf : ∀ (fn : Fn) (first cap : Array Value) (w : World), (Instr.makeFunc fn first cap).run Tryd.prog w = .ok (.func fn first cap) w := fun _ _ _ _ => rfl
  obtain ⟨X1, hX1⟩ : ∃ a : Int, a = cornX x k := ⟨_, rfl⟩
  have HX1 := Lib.hid hX1
  clear hX1
  obtain ⟨Y1, hY1⟩ : ∃ a : Int, a = cornY y k := ⟨_, rfl⟩
  have HY1 := Lib.hid hY1
  clear hY1
  obtain ⟨X2, hX2⟩ : ∃ a : Int, a = cornX x (k + 1) := ⟨_, rfl⟩
  have HX2 := Lib.hid hX2
  clear hX2
  obtain ⟨Y2, hY2⟩ : ∃ a : Int, a = cornY y (k + 1) := ⟨_, rfl⟩
  have HY2 := Lib.hid hY2
  clear hY2
  go_enter Tryd.func8, Tryd.ntmps8
  go_wp2_with fail
  refine (triMay_any x y k _).mono ?_
  rintro e w1 ⟨rfl, hb1⟩
  rw [HT.out]
  have k_t_1 : w1.heap[w.heap.size]? = some (.cells #[.int .i64 x, .int .i64 y, .int .i64 k] 23 (0, 0)) := blk_below (blk_alloc (new_blk (.cells #[.int .i64 x, .int .i64 y, .int .i64 k] 23) (by first | rfl | (simp; done) | (simp; omega))) _) hb1 (by first | (simp; done) | (simp; omega))
  have k_r_1 : w1.heap[w.heap.size + 1]? = some (.cells #[.int .i64 0, .int .i64 0, .int .i64 0, .int .i64 0, .int .i64 0, .int .i64 0] 28 (0, 0)) := blk_below (new_blk (.cells #[.int .i64 0, .int .i64 0, .int .i64 0, .int .i64 0, .int .i64 0, .int .i64 0] 28) (by first | rfl | (simp; done) | (simp; omega))) hb1 (by first | (simp; done) | (simp; omega))
  have hw_1 : Below w.heap.size w w1 := stay_b (ba (ba (Below.refl _ _) _) _) hb1
  have hs_1 := ((hs.alloc _).alloc _).below hb1
  clear hb1
  have c_t_0 := cell_of_blk k_t_1 0
  have c_t_1 := cell_of_blk k_t_1 1
  have c_t_2 := cell_of_blk k_t_1 2
  simp only [List.getElem?_toArray, List.getElem?_cons_zero, List.getElem?_cons_succ] at c_t_0 c_t_1 c_t_2
  have f_t := frozen_of_blk k_t_1
  have s_t := blk_lt k_t_1
  have c_r_0 := cell_of_blk k_r_1 0
  have c_r_1 := cell_of_blk k_r_1 1
  have c_r_2 := cell_of_blk k_r_1 2
  have c_r_3 := cell_of_blk k_r_1 3
  have c_r_4 := cell_of_blk k_r_1 4
  have c_r_5 := cell_of_blk k_r_1 5
  simp only [List.getElem?_toArray, List.getElem?_cons_zero, List.getElem?_cons_succ] at c_r_0 c_r_1 c_r_2 c_r_3 c_r_4 c_r_5
  have f_r := frozen_of_blk k_r_1
  have s_r := blk_lt k_r_1
  have hc1 := corners1_any x y k w.heap.size (w1.alloc (.cells #[.int .i64 0, .int .i64 0, .int .i64 0, .int .i64 0, .int .i64 0, .int .i64 0] 28)) (hs_1.alloc _) (blk_alloc k_t_1 _) HT.out
  rw [← HX1.out, ← HY1.out, ← HX2.out, ← HY2.out] at hc1
  have HC1 := Lib.hid hc1
  clear hc1
  go_wp2_with fail
  refine (toldP_ok _ _ (2 * x + 1) (2 * y + 1) X1 Y1 X2 Y2 _ corners1_enter HC1.out).mono ?_
  rintro e w2 ⟨rfl, hb2⟩
  have k_t_2 : w2.heap[w.heap.size]? = some (.cells #[.int .i64 x, .int .i64 y, .int .i64 k] 23 (0, 0)) := blk_below k_t_1 hb2 (blk_lt k_t_1)
  have k_r_2 : w2.heap[w.heap.size + 1]? = some (.cells #[.int .i64 0, .int .i64 0, .int .i64 0, .int .i64 0, .int .i64 0, .int .i64 0] 28 (0, 0)) := blk_below k_r_1 hb2 (blk_lt k_r_1)
  have hw_2 : Below w.heap.size w w2 := stay_b hw_1 hb2
  have hs_2 := hs_1.below hb2
  clear c_t_0 c_t_1 c_t_2 f_t s_t c_r_0 c_r_1 c_r_2 c_r_3 c_r_4 c_r_5 f_r s_r k_t_1 k_r_1 hb2 hw_1
  have c_t_0 := cell_of_blk k_t_2 0
  have c_t_1 := cell_of_blk k_t_2 1
  have c_t_2 := cell_of_blk k_t_2 2
  simp only [List.getElem?_toArray, List.getElem?_cons_zero, List.getElem?_cons_succ] at c_t_0 c_t_1 c_t_2
  have f_t := frozen_of_blk k_t_2
  have s_t := blk_lt k_t_2
  have c_r_0 := cell_of_blk k_r_2 0
  have c_r_1 := cell_of_blk k_r_2 1
  have c_r_2 := cell_of_blk k_r_2 2
  have c_r_3 := cell_of_blk k_r_2 3
  have c_r_4 := cell_of_blk k_r_2 4
  have c_r_5 := cell_of_blk k_r_2 5
  simp only [List.getElem?_toArray, List.getElem?_cons_zero, List.getElem?_cons_succ] at c_r_0 c_r_1 c_r_2 c_r_3 c_r_4 c_r_5
  have f_r := frozen_of_blk k_r_2
  have s_r := blk_lt k_r_2
  go_wp2
  have hge : w.heap.size ≤ w.heap.size + 1 := by omega
  exact bodyPost_ret (v := .tuple #[.agg #[.int .i64 (2 * x + 1), .int .i64 (2 * y + 1), .int .i64 X1, .int .i64 Y1, .int .i64 X2, .int .i64 Y2], .int .i64 0]) (by simp [results, Tryd.results8, go_sem, c_r_0, c_r_1, c_r_2, c_r_3, c_r_4, c_r_5]) rfl ⟨by rw [HX1.out, HY1.out, HX2.out, HY2.out], ((((((hw_2.setCell hge _).setCell hge _).setCell hge _).setCell hge _).setCell hge _).setCell hge _)⟩
end Go.Proofs.YthfhkmgegkhljaaDoor
