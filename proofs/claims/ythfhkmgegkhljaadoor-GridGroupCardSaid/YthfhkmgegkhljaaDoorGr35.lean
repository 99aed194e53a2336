/- grid.After, grid.Back, grid.Move. Printed by gen_gr35.py. -/
import Derived.Test.YthfhkmgegkhljaaDoorGr34
import Derived.Test.YthfhkmgegkhljaaDoorGr32
import Derived.Test.YthfhkmgegkhljaaDoorGr9
namespace Go.Proofs.YthfhkmgegkhljaaDoor
set_option linter.unusedSimpArgs false
set_option linter.unusedVariables false
open Go.RowKit

def afterV (A B : V6) : V6 := (B.1 * A.1 + B.2.1 * A.2.2.1, B.1 * A.2.1 + B.2.1 * A.2.2.2.1, B.2.2.1 * A.1 + B.2.2.2.1 * A.2.2.1, B.2.2.1 * A.2.1 + B.2.2.2.1 * A.2.2.2.1, B.1 * A.2.2.2.2.1 + B.2.1 * A.2.2.2.2.2 + B.2.2.2.2.1, B.2.2.1 * A.2.2.2.2.1 + B.2.2.2.1 * A.2.2.2.2.2 + B.2.2.2.2.2)
def backV (A : V6) : V6 := (A.1, A.2.2.1, A.2.1, A.2.2.2.1, -(A.1 * A.2.2.2.2.1 + A.2.2.1 * A.2.2.2.2.2), -(A.2.1 * A.2.2.2.2.1 + A.2.2.2.1 * A.2.2.2.2.2))
def moveV (A : V6) (x y k : Int) : T3 := moveT A.1 A.2.1 A.2.2.1 A.2.2.2.1 A.2.2.2.2.1 A.2.2.2.2.2 x y k
theorem mapMay_V (A : V6) (w : World) : Calls Tryd.prog 52 #[aggM A] w fun r w' => r = .returned (.bool (mapMayB A)) ∧ Below w.heap.size w w' := by
  obtain ⟨a, b, c, d, e, f⟩ := A
  exact mapMay_any a b c d e f w
theorem after_V (A B : V6) (w : World) (ha : mapMayB A = true) (hb : mapMayB B = true) : Calls Tryd.prog 54 #[aggM A, aggM B] w fun r w' => r = .returned (aggM (afterV A B)) ∧ Below w.heap.size w w' :=
  after_any _ _ _ _ _ _ _ _ _ _ _ _ w (may_sm ha) (may_sm hb)
theorem back_V (A : V6) (w : World) (ha : mapMayB A = true) : Calls Tryd.prog 56 #[aggM A] w fun r w' => r = .returned (aggM (backV A)) ∧ Below w.heap.size w w' :=
  back_any _ _ _ _ _ _ w (may_sm ha)
theorem move_V (A : V6) (x y k : Int) (w : World) (hs : Steps w) (ha : mapMayB A = true) (ht : triMayB x y k = true) : Calls Tryd.prog 59 #[aggM A, aggT x y k] w fun r w' => r = .returned (aggT3 (moveV A x y k)) ∧ Below w.heap.size w w' := by
  obtain ⟨⟨x1, x2⟩, ⟨y1, y2⟩, k1, k2⟩ := triMayB_bd ht
  exact move_any _ _ _ _ _ _ x y k w hs (may_sm ha) x1 x2 y1 y2 k1 k2

set_option maxRecDepth 100000 in
set_option maxHeartbeats 1600000 in
theorem toldT_no (F : Value) (w : World) :
    Calls Tryd.prog 57 #[.bool false, F] w fun e w' => e = .returned (.tuple #[.agg #[.int .i64 0, .int .i64 0, .int .i64 0], .int .i64 3]) ∧ Below w.heap.size w w' := by
  go_enter Tryd.func57, Tryd.ntmps57
  go_wp2
  refine bodyPost_ret (v := .tuple #[.agg #[.int .i64 0, .int .i64 0, .int .i64 0], .int .i64 3]) (by simp [results, Tryd.results57, go_sem]) rfl ⟨rfl, ?_⟩
  exact ba (ba (Below.refl _ _) _) _
set_option maxRecDepth 100000 in
set_option maxHeartbeats 1600000 in
theorem toldT_ok (f : Nat) (p0 p1 : Value) (a0 a1 a2 : Int) (w : World) (hent : ∀ (args : Array Value) (wx : World), (callFunc f args).run Tryd.prog wx = .ok (.enter f args) wx)
    (hc1 : Calls Tryd.prog f #[p0, p1] (w.alloc (.cells #[.int .i64 0, .int .i64 0, .int .i64 0] 23)) fun e w' => e = .returned (.agg #[.int .i64 a0, .int .i64 a1, .int .i64 a2]) ∧ Below (w.alloc (.cells #[.int .i64 0, .int .i64 0, .int .i64 0] 23)).heap.size (w.alloc (.cells #[.int .i64 0, .int .i64 0, .int .i64 0] 23)) w') :
    Calls Tryd.prog 57 #[.bool true, .func (.func f) #[] #[p0, p1]] w fun e w' => e = .returned (.tuple #[.agg #[.int .i64 a0, .int .i64 a1, .int .i64 a2], .int .i64 0]) ∧ Below w.heap.size w w' := by
  have HC := Lib.hid hc1
  clear hc1
  go_enter Tryd.func57, Tryd.ntmps57
  go_wp2_with fail
  refine (show Calls _ _ _ _ _ from HC.out).mono ?_
  rintro e w1 ⟨rfl, hb1⟩
  have k_z_1 : w1.heap[w.heap.size]? = some (.cells #[.int .i64 0, .int .i64 0, .int .i64 0] 23 (0, 0)) := blk_below (new_blk (.cells #[.int .i64 0, .int .i64 0, .int .i64 0] 23) (by first | rfl | (simp; done) | (simp; omega))) hb1 (by first | (simp; done) | (simp; omega))
  have hw_1 : Below w.heap.size w w1 := stay_b (ba (Below.refl _ _) _) hb1
  clear hb1
  have c_z_0 := cell_of_blk k_z_1 0
  have c_z_1 := cell_of_blk k_z_1 1
  have c_z_2 := cell_of_blk k_z_1 2
  simp only [List.getElem?_toArray, List.getElem?_cons_zero, List.getElem?_cons_succ] at c_z_0 c_z_1 c_z_2
  have f_z := frozen_of_blk k_z_1
  have s_z := blk_lt k_z_1
  go_wp2
  refine bodyPost_ret (v := .tuple #[.agg #[.int .i64 a0, .int .i64 a1, .int .i64 a2], .int .i64 0]) (by simp [results, Tryd.results57, go_sem, c_z_0, c_z_1, c_z_2]) rfl ⟨rfl, ?_⟩
  have hge : w.heap.size ≤ w.heap.size := Nat.le_refl _
  exact (((hw_1.setCell hge _).setCell hge _).setCell hge _)
set_option maxRecDepth 100000 in
set_option maxHeartbeats 1600000 in
theorem toldN_no (F : Value) (w : World) :
    Calls Tryd.prog 48 #[.bool false, F] w fun e w' => e = .returned (.tuple #[.agg #[.int .i64 0, .int .i64 0, .int .i64 0, .int .i64 0, .int .i64 0, .int .i64 0], .int .i64 3]) ∧ Below w.heap.size w w' := by
  go_enter Tryd.func48, Tryd.ntmps48
  go_wp2
  refine bodyPost_ret (v := .tuple #[.agg #[.int .i64 0, .int .i64 0, .int .i64 0, .int .i64 0, .int .i64 0, .int .i64 0], .int .i64 3]) (by simp [results, Tryd.results48, go_sem]) rfl ⟨rfl, ?_⟩
  exact ba (ba (Below.refl _ _) _) _
set_option maxRecDepth 100000 in
set_option maxHeartbeats 1600000 in
theorem toldN_ok (f : Nat) (p0 p1 : Value) (a0 a1 a2 a3 a4 a5 : Int) (w : World) (hent : ∀ (args : Array Value) (wx : World), (callFunc f args).run Tryd.prog wx = .ok (.enter f args) wx)
    (hc1 : Calls Tryd.prog f #[p0, p1] (w.alloc (.cells #[.int .i64 0, .int .i64 0, .int .i64 0, .int .i64 0, .int .i64 0, .int .i64 0] 51)) fun e w' => e = .returned (.agg #[.int .i64 a0, .int .i64 a1, .int .i64 a2, .int .i64 a3, .int .i64 a4, .int .i64 a5]) ∧ Below (w.alloc (.cells #[.int .i64 0, .int .i64 0, .int .i64 0, .int .i64 0, .int .i64 0, .int .i64 0] 51)).heap.size (w.alloc (.cells #[.int .i64 0, .int .i64 0, .int .i64 0, .int .i64 0, .int .i64 0, .int .i64 0] 51)) w') :
    Calls Tryd.prog 48 #[.bool true, .func (.func f) #[] #[p0, p1]] w fun e w' => e = .returned (.tuple #[.agg #[.int .i64 a0, .int .i64 a1, .int .i64 a2, .int .i64 a3, .int .i64 a4, .int .i64 a5], .int .i64 0]) ∧ Below w.heap.size w w' := by
  have HC := Lib.hid hc1
  clear hc1
  go_enter Tryd.func48, Tryd.ntmps48
  go_wp2_with fail
  refine (show Calls _ _ _ _ _ from HC.out).mono ?_
  rintro e w1 ⟨rfl, hb1⟩
  have k_z_1 : w1.heap[w.heap.size]? = some (.cells #[.int .i64 0, .int .i64 0, .int .i64 0, .int .i64 0, .int .i64 0, .int .i64 0] 51 (0, 0)) := blk_below (new_blk (.cells #[.int .i64 0, .int .i64 0, .int .i64 0, .int .i64 0, .int .i64 0, .int .i64 0] 51) (by first | rfl | (simp; done) | (simp; omega))) hb1 (by first | (simp; done) | (simp; omega))
  have hw_1 : Below w.heap.size w w1 := stay_b (ba (Below.refl _ _) _) hb1
  clear hb1
  have c_z_0 := cell_of_blk k_z_1 0
  have c_z_1 := cell_of_blk k_z_1 1
  have c_z_2 := cell_of_blk k_z_1 2
  have c_z_3 := cell_of_blk k_z_1 3
  have c_z_4 := cell_of_blk k_z_1 4
  have c_z_5 := cell_of_blk k_z_1 5
  simp only [List.getElem?_toArray, List.getElem?_cons_zero, List.getElem?_cons_succ] at c_z_0 c_z_1 c_z_2 c_z_3 c_z_4 c_z_5
  have f_z := frozen_of_blk k_z_1
  have s_z := blk_lt k_z_1
  go_wp2
  refine bodyPost_ret (v := .tuple #[.agg #[.int .i64 a0, .int .i64 a1, .int .i64 a2, .int .i64 a3, .int .i64 a4, .int .i64 a5], .int .i64 0]) (by simp [results, Tryd.results48, go_sem, c_z_0, c_z_1, c_z_2, c_z_3, c_z_4, c_z_5]) rfl ⟨rfl, ?_⟩
  have hge : w.heap.size ≤ w.heap.size := Nat.le_refl _
  exact ((((((hw_1.setCell hge _).setCell hge _).setCell hge _).setCell hge _).setCell hge _).setCell hge _)
set_option maxRecDepth 100000 in
set_option maxHeartbeats 1600000 in
theorem toldO_no (F : Value) (w : World) :
    Calls Tryd.prog 48 #[.bool false, F] w fun e w' => e = .returned (.tuple #[.agg #[.int .i64 0, .int .i64 0, .int .i64 0, .int .i64 0, .int .i64 0, .int .i64 0], .int .i64 3]) ∧ Below w.heap.size w w' := by
  go_enter Tryd.func48, Tryd.ntmps48
  go_wp2
  refine bodyPost_ret (v := .tuple #[.agg #[.int .i64 0, .int .i64 0, .int .i64 0, .int .i64 0, .int .i64 0, .int .i64 0], .int .i64 3]) (by simp [results, Tryd.results48, go_sem]) rfl ⟨rfl, ?_⟩
  exact ba (ba (Below.refl _ _) _) _
set_option maxRecDepth 100000 in
set_option maxHeartbeats 1600000 in
theorem toldO_ok (f : Nat) (p0 : Value) (a0 a1 a2 a3 a4 a5 : Int) (w : World) (hent : ∀ (args : Array Value) (wx : World), (callFunc f args).run Tryd.prog wx = .ok (.enter f args) wx)
    (hc1 : Calls Tryd.prog f #[p0] (w.alloc (.cells #[.int .i64 0, .int .i64 0, .int .i64 0, .int .i64 0, .int .i64 0, .int .i64 0] 51)) fun e w' => e = .returned (.agg #[.int .i64 a0, .int .i64 a1, .int .i64 a2, .int .i64 a3, .int .i64 a4, .int .i64 a5]) ∧ Below (w.alloc (.cells #[.int .i64 0, .int .i64 0, .int .i64 0, .int .i64 0, .int .i64 0, .int .i64 0] 51)).heap.size (w.alloc (.cells #[.int .i64 0, .int .i64 0, .int .i64 0, .int .i64 0, .int .i64 0, .int .i64 0] 51)) w') :
    Calls Tryd.prog 48 #[.bool true, .func (.func f) #[] #[p0]] w fun e w' => e = .returned (.tuple #[.agg #[.int .i64 a0, .int .i64 a1, .int .i64 a2, .int .i64 a3, .int .i64 a4, .int .i64 a5], .int .i64 0]) ∧ Below w.heap.size w w' := by
  have HC := Lib.hid hc1
  clear hc1
  go_enter Tryd.func48, Tryd.ntmps48
  go_wp2_with fail
  refine (show Calls _ _ _ _ _ from HC.out).mono ?_
  rintro e w1 ⟨rfl, hb1⟩
  have k_z_1 : w1.heap[w.heap.size]? = some (.cells #[.int .i64 0, .int .i64 0, .int .i64 0, .int .i64 0, .int .i64 0, .int .i64 0] 51 (0, 0)) := blk_below (new_blk (.cells #[.int .i64 0, .int .i64 0, .int .i64 0, .int .i64 0, .int .i64 0, .int .i64 0] 51) (by first | rfl | (simp; done) | (simp; omega))) hb1 (by first | (simp; done) | (simp; omega))
  have hw_1 : Below w.heap.size w w1 := stay_b (ba (Below.refl _ _) _) hb1
  clear hb1
  have c_z_0 := cell_of_blk k_z_1 0
  have c_z_1 := cell_of_blk k_z_1 1
  have c_z_2 := cell_of_blk k_z_1 2
  have c_z_3 := cell_of_blk k_z_1 3
  have c_z_4 := cell_of_blk k_z_1 4
  have c_z_5 := cell_of_blk k_z_1 5
  simp only [List.getElem?_toArray, List.getElem?_cons_zero, List.getElem?_cons_succ] at c_z_0 c_z_1 c_z_2 c_z_3 c_z_4 c_z_5
  have f_z := frozen_of_blk k_z_1
  have s_z := blk_lt k_z_1
  go_wp2
  refine bodyPost_ret (v := .tuple #[.agg #[.int .i64 a0, .int .i64 a1, .int .i64 a2, .int .i64 a3, .int .i64 a4, .int .i64 a5], .int .i64 0]) (by simp [results, Tryd.results48, go_sem, c_z_0, c_z_1, c_z_2, c_z_3, c_z_4, c_z_5]) rfl ⟨rfl, ?_⟩
  have hge : w.heap.size ≤ w.heap.size := Nat.le_refl _
  exact ((((((hw_1.setCell hge _).setCell hge _).setCell hge _).setCell hge _).setCell hge _).setCell hge _)
theorem after1_enter (args : Array Value) (wx : World) : (callFunc 53 args).run Tryd.prog wx = .ok (.enter 53 args) wx := by kernel_rfl
set_option maxRecDepth 100000 in
set_option maxHeartbeats 1600000 in
theorem after1_any (A B : V6) (g h : Nat) (w : World) (k_a_0 : w.heap[g]? = some (.cells #[.int .i64 (A.1), .int .i64 (A.2.1), .int .i64 (A.2.2.1), .int .i64 (A.2.2.2.1), .int .i64 (A.2.2.2.2.1), .int .i64 (A.2.2.2.2.2)] 51 (0, 0))) (k_b_0 : w.heap[h]? = some (.cells #[.int .i64 (B.1), .int .i64 (B.2.1), .int .i64 (B.2.2.1), .int .i64 (B.2.2.2.1), .int .i64 (B.2.2.2.2.1), .int .i64 (B.2.2.2.2.2)] 51 (0, 0))) (ha : mapMayB A = true) (hb : mapMayB B = true) :
    Calls Tryd.prog 53 #[.pointer (some ⟨g, 0, none⟩), .pointer (some ⟨h, 0, none⟩)] w fun e w' => e = .returned (aggM (afterV A B)) ∧ Below w.heap.size w w' := by
  obtain ⟨V, hV⟩ : ∃ a : V6, a = afterV A B := ⟨_, rfl⟩
  have HV := Lib.hid hV
  clear hV
  have c_a_0 := cell_of_blk k_a_0 0
  have c_a_1 := cell_of_blk k_a_0 1
  have c_a_2 := cell_of_blk k_a_0 2
  have c_a_3 := cell_of_blk k_a_0 3
  have c_a_4 := cell_of_blk k_a_0 4
  have c_a_5 := cell_of_blk k_a_0 5
  simp only [List.getElem?_toArray, List.getElem?_cons_zero, List.getElem?_cons_succ] at c_a_0 c_a_1 c_a_2 c_a_3 c_a_4 c_a_5
  have f_a := frozen_of_blk k_a_0
  have s_a := blk_lt k_a_0
  have c_b_0 := cell_of_blk k_b_0 0
  have c_b_1 := cell_of_blk k_b_0 1
  have c_b_2 := cell_of_blk k_b_0 2
  have c_b_3 := cell_of_blk k_b_0 3
  have c_b_4 := cell_of_blk k_b_0 4
  have c_b_5 := cell_of_blk k_b_0 5
  simp only [List.getElem?_toArray, List.getElem?_cons_zero, List.getElem?_cons_succ] at c_b_0 c_b_1 c_b_2 c_b_3 c_b_4 c_b_5
  have f_b := frozen_of_blk k_b_0
  have s_b := blk_lt k_b_0
  go_enter Tryd.func53, Tryd.ntmps53
  go_wp2_with fail
  refine (after_V A B _ ha hb).mono ?_
  rintro e w1 ⟨he, hb1⟩
  rw [← HV.out] at he
  subst he
  have k_a_1 : w1.heap[g]? = some (.cells #[.int .i64 (A.1), .int .i64 (A.2.1), .int .i64 (A.2.2.1), .int .i64 (A.2.2.2.1), .int .i64 (A.2.2.2.2.1), .int .i64 (A.2.2.2.2.2)] 51 (0, 0)) := blk_below (blk_alloc k_a_0 _) hb1 (blk_lt (blk_alloc k_a_0 _))
  have k_b_1 : w1.heap[h]? = some (.cells #[.int .i64 (B.1), .int .i64 (B.2.1), .int .i64 (B.2.2.1), .int .i64 (B.2.2.2.1), .int .i64 (B.2.2.2.2.1), .int .i64 (B.2.2.2.2.2)] 51 (0, 0)) := blk_below (blk_alloc k_b_0 _) hb1 (blk_lt (blk_alloc k_b_0 _))
  have k_r_1 : w1.heap[w.heap.size]? = some (.cells #[.int .i64 0, .int .i64 0, .int .i64 0, .int .i64 0, .int .i64 0, .int .i64 0] 51 (0, 0)) := blk_below (new_blk (.cells #[.int .i64 0, .int .i64 0, .int .i64 0, .int .i64 0, .int .i64 0, .int .i64 0] 51) (by first | rfl | (simp; done) | (simp; omega))) hb1 (by first | (simp; done) | (simp; omega))
  have hw_1 : Below w.heap.size w w1 := stay_b (ba (Below.refl _ _) _) hb1
  clear c_a_0 c_a_1 c_a_2 c_a_3 c_a_4 c_a_5 f_a s_a c_b_0 c_b_1 c_b_2 c_b_3 c_b_4 c_b_5 f_b s_b k_a_0 k_b_0 hb1
  have c_a_0 := cell_of_blk k_a_1 0
  have c_a_1 := cell_of_blk k_a_1 1
  have c_a_2 := cell_of_blk k_a_1 2
  have c_a_3 := cell_of_blk k_a_1 3
  have c_a_4 := cell_of_blk k_a_1 4
  have c_a_5 := cell_of_blk k_a_1 5
  simp only [List.getElem?_toArray, List.getElem?_cons_zero, List.getElem?_cons_succ] at c_a_0 c_a_1 c_a_2 c_a_3 c_a_4 c_a_5
  have f_a := frozen_of_blk k_a_1
  have s_a := blk_lt k_a_1
  have c_b_0 := cell_of_blk k_b_1 0
  have c_b_1 := cell_of_blk k_b_1 1
  have c_b_2 := cell_of_blk k_b_1 2
  have c_b_3 := cell_of_blk k_b_1 3
  have c_b_4 := cell_of_blk k_b_1 4
  have c_b_5 := cell_of_blk k_b_1 5
  simp only [List.getElem?_toArray, List.getElem?_cons_zero, List.getElem?_cons_succ] at c_b_0 c_b_1 c_b_2 c_b_3 c_b_4 c_b_5
  have f_b := frozen_of_blk k_b_1
  have s_b := blk_lt k_b_1
  have c_r_0 := cell_of_blk k_r_1 0
  have c_r_1 := cell_of_blk k_r_1 1
  have c_r_2 := cell_of_blk k_r_1 2
  have c_r_3 := cell_of_blk k_r_1 3
  have c_r_4 := cell_of_blk k_r_1 4
  have c_r_5 := cell_of_blk k_r_1 5
  simp only [List.getElem?_toArray, List.getElem?_cons_zero, List.getElem?_cons_succ] at c_r_0 c_r_1 c_r_2 c_r_3 c_r_4 c_r_5
  have f_r := frozen_of_blk k_r_1
  have s_r := blk_lt k_r_1
  go_wp2
  have hge : w.heap.size ≤ w.heap.size := Nat.le_refl _
  exact bodyPost_ret (v := aggM V) (by simp [results, Tryd.results53, go_sem, c_r_0, c_r_1, c_r_2, c_r_3, c_r_4, c_r_5]) rfl ⟨by rw [HV.out], ((((((hw_1.setCell hge _).setCell hge _).setCell hge _).setCell hge _).setCell hge _).setCell hge _)⟩
theorem back1_enter (args : Array Value) (wx : World) : (callFunc 55 args).run Tryd.prog wx = .ok (.enter 55 args) wx := by kernel_rfl
set_option maxRecDepth 100000 in
set_option maxHeartbeats 1600000 in
theorem back1_any (A : V6) (g h : Nat) (w : World) (k_a_0 : w.heap[g]? = some (.cells #[.int .i64 (A.1), .int .i64 (A.2.1), .int .i64 (A.2.2.1), .int .i64 (A.2.2.2.1), .int .i64 (A.2.2.2.2.1), .int .i64 (A.2.2.2.2.2)] 51 (0, 0))) (ha : mapMayB A = true) :
    Calls Tryd.prog 55 #[.pointer (some ⟨g, 0, none⟩)] w fun e w' => e = .returned (aggM (backV A)) ∧ Below w.heap.size w w' := by
  obtain ⟨V, hV⟩ : ∃ a : V6, a = backV A := ⟨_, rfl⟩
  have HV := Lib.hid hV
  clear hV
  have c_a_0 := cell_of_blk k_a_0 0
  have c_a_1 := cell_of_blk k_a_0 1
  have c_a_2 := cell_of_blk k_a_0 2
  have c_a_3 := cell_of_blk k_a_0 3
  have c_a_4 := cell_of_blk k_a_0 4
  have c_a_5 := cell_of_blk k_a_0 5
  simp only [List.getElem?_toArray, List.getElem?_cons_zero, List.getElem?_cons_succ] at c_a_0 c_a_1 c_a_2 c_a_3 c_a_4 c_a_5
  have f_a := frozen_of_blk k_a_0
  have s_a := blk_lt k_a_0
  go_enter Tryd.func55, Tryd.ntmps55
  go_wp2_with fail
  refine (back_V A _ ha).mono ?_
  rintro e w1 ⟨he, hb1⟩
  rw [← HV.out] at he
  subst he
  have k_a_1 : w1.heap[g]? = some (.cells #[.int .i64 (A.1), .int .i64 (A.2.1), .int .i64 (A.2.2.1), .int .i64 (A.2.2.2.1), .int .i64 (A.2.2.2.2.1), .int .i64 (A.2.2.2.2.2)] 51 (0, 0)) := blk_below (blk_alloc k_a_0 _) hb1 (blk_lt (blk_alloc k_a_0 _))
  have k_r_1 : w1.heap[w.heap.size]? = some (.cells #[.int .i64 0, .int .i64 0, .int .i64 0, .int .i64 0, .int .i64 0, .int .i64 0] 51 (0, 0)) := blk_below (new_blk (.cells #[.int .i64 0, .int .i64 0, .int .i64 0, .int .i64 0, .int .i64 0, .int .i64 0] 51) (by first | rfl | (simp; done) | (simp; omega))) hb1 (by first | (simp; done) | (simp; omega))
  have hw_1 : Below w.heap.size w w1 := stay_b (ba (Below.refl _ _) _) hb1
  clear c_a_0 c_a_1 c_a_2 c_a_3 c_a_4 c_a_5 f_a s_a k_a_0 hb1
  have c_a_0 := cell_of_blk k_a_1 0
  have c_a_1 := cell_of_blk k_a_1 1
  have c_a_2 := cell_of_blk k_a_1 2
  have c_a_3 := cell_of_blk k_a_1 3
  have c_a_4 := cell_of_blk k_a_1 4
  have c_a_5 := cell_of_blk k_a_1 5
  simp only [List.getElem?_toArray, List.getElem?_cons_zero, List.getElem?_cons_succ] at c_a_0 c_a_1 c_a_2 c_a_3 c_a_4 c_a_5
  have f_a := frozen_of_blk k_a_1
  have s_a := blk_lt k_a_1
  have c_r_0 := cell_of_blk k_r_1 0
  have c_r_1 := cell_of_blk k_r_1 1
  have c_r_2 := cell_of_blk k_r_1 2
  have c_r_3 := cell_of_blk k_r_1 3
  have c_r_4 := cell_of_blk k_r_1 4
  have c_r_5 := cell_of_blk k_r_1 5
  simp only [List.getElem?_toArray, List.getElem?_cons_zero, List.getElem?_cons_succ] at c_r_0 c_r_1 c_r_2 c_r_3 c_r_4 c_r_5
  have f_r := frozen_of_blk k_r_1
  have s_r := blk_lt k_r_1
  go_wp2
  have hge : w.heap.size ≤ w.heap.size := Nat.le_refl _
  exact bodyPost_ret (v := aggM V) (by simp [results, Tryd.results55, go_sem, c_r_0, c_r_1, c_r_2, c_r_3, c_r_4, c_r_5]) rfl ⟨by rw [HV.out], ((((((hw_1.setCell hge _).setCell hge _).setCell hge _).setCell hge _).setCell hge _).setCell hge _)⟩
theorem move1_enter (args : Array Value) (wx : World) : (callFunc 58 args).run Tryd.prog wx = .ok (.enter 58 args) wx := by kernel_rfl
set_option maxRecDepth 100000 in
set_option maxHeartbeats 1600000 in
theorem move1_any (A : V6) (x y k : Int) (g h : Nat) (w : World) (k_a_0 : w.heap[g]? = some (.cells #[.int .i64 (A.1), .int .i64 (A.2.1), .int .i64 (A.2.2.1), .int .i64 (A.2.2.2.1), .int .i64 (A.2.2.2.2.1), .int .i64 (A.2.2.2.2.2)] 51 (0, 0))) (k_t_0 : w.heap[h]? = some (.cells #[.int .i64 x, .int .i64 y, .int .i64 k] 23 (0, 0))) (hs : Steps w) (ha : mapMayB A = true) (ht : triMayB x y k = true) :
    Calls Tryd.prog 58 #[.pointer (some ⟨g, 0, none⟩), .pointer (some ⟨h, 0, none⟩)] w fun e w' => e = .returned (aggT3 (moveV A x y k)) ∧ Below w.heap.size w w' := by
  obtain ⟨V, hV⟩ : ∃ a : T3, a = moveV A x y k := ⟨_, rfl⟩
  have HV := Lib.hid hV
  clear hV
  have c_a_0 := cell_of_blk k_a_0 0
  have c_a_1 := cell_of_blk k_a_0 1
  have c_a_2 := cell_of_blk k_a_0 2
  have c_a_3 := cell_of_blk k_a_0 3
  have c_a_4 := cell_of_blk k_a_0 4
  have c_a_5 := cell_of_blk k_a_0 5
  simp only [List.getElem?_toArray, List.getElem?_cons_zero, List.getElem?_cons_succ] at c_a_0 c_a_1 c_a_2 c_a_3 c_a_4 c_a_5
  have f_a := frozen_of_blk k_a_0
  have s_a := blk_lt k_a_0
  have c_t_0 := cell_of_blk k_t_0 0
  have c_t_1 := cell_of_blk k_t_0 1
  have c_t_2 := cell_of_blk k_t_0 2
  simp only [List.getElem?_toArray, List.getElem?_cons_zero, List.getElem?_cons_succ] at c_t_0 c_t_1 c_t_2
  have f_t := frozen_of_blk k_t_0
  have s_t := blk_lt k_t_0
  go_enter Tryd.func58, Tryd.ntmps58
  go_wp2_with fail
  refine (move_V A x y k _ (hs.alloc _) ha ht).mono ?_
  rintro e w1 ⟨he, hb1⟩
  rw [← HV.out] at he
  subst he
  have k_a_1 : w1.heap[g]? = some (.cells #[.int .i64 (A.1), .int .i64 (A.2.1), .int .i64 (A.2.2.1), .int .i64 (A.2.2.2.1), .int .i64 (A.2.2.2.2.1), .int .i64 (A.2.2.2.2.2)] 51 (0, 0)) := blk_below (blk_alloc k_a_0 _) hb1 (blk_lt (blk_alloc k_a_0 _))
  have k_t_1 : w1.heap[h]? = some (.cells #[.int .i64 x, .int .i64 y, .int .i64 k] 23 (0, 0)) := blk_below (blk_alloc k_t_0 _) hb1 (blk_lt (blk_alloc k_t_0 _))
  have k_r_1 : w1.heap[w.heap.size]? = some (.cells #[.int .i64 0, .int .i64 0, .int .i64 0] 23 (0, 0)) := blk_below (new_blk (.cells #[.int .i64 0, .int .i64 0, .int .i64 0] 23) (by first | rfl | (simp; done) | (simp; omega))) hb1 (by first | (simp; done) | (simp; omega))
  have hw_1 : Below w.heap.size w w1 := stay_b (ba (Below.refl _ _) _) hb1
  have hs_1 := (hs.alloc _).below hb1
  clear c_a_0 c_a_1 c_a_2 c_a_3 c_a_4 c_a_5 f_a s_a c_t_0 c_t_1 c_t_2 f_t s_t k_a_0 k_t_0 hb1
  have c_a_0 := cell_of_blk k_a_1 0
  have c_a_1 := cell_of_blk k_a_1 1
  have c_a_2 := cell_of_blk k_a_1 2
  have c_a_3 := cell_of_blk k_a_1 3
  have c_a_4 := cell_of_blk k_a_1 4
  have c_a_5 := cell_of_blk k_a_1 5
  simp only [List.getElem?_toArray, List.getElem?_cons_zero, List.getElem?_cons_succ] at c_a_0 c_a_1 c_a_2 c_a_3 c_a_4 c_a_5
  have f_a := frozen_of_blk k_a_1
  have s_a := blk_lt k_a_1
  have c_t_0 := cell_of_blk k_t_1 0
  have c_t_1 := cell_of_blk k_t_1 1
  have c_t_2 := cell_of_blk k_t_1 2
  simp only [List.getElem?_toArray, List.getElem?_cons_zero, List.getElem?_cons_succ] at c_t_0 c_t_1 c_t_2
  have f_t := frozen_of_blk k_t_1
  have s_t := blk_lt k_t_1
  have c_r_0 := cell_of_blk k_r_1 0
  have c_r_1 := cell_of_blk k_r_1 1
  have c_r_2 := cell_of_blk k_r_1 2
  simp only [List.getElem?_toArray, List.getElem?_cons_zero, List.getElem?_cons_succ] at c_r_0 c_r_1 c_r_2
  have f_r := frozen_of_blk k_r_1
  have s_r := blk_lt k_r_1
  go_wp2
  have hge : w.heap.size ≤ w.heap.size := Nat.le_refl _
  exact bodyPost_ret (v := aggT3 V) (by simp [results, Tryd.results58, go_sem, c_r_0, c_r_1, c_r_2]) rfl ⟨by rw [HV.out], (((hw_1.setCell hge _).setCell hge _).setCell hge _)⟩
set_option maxRecDepth 100000 in
set_option maxHeartbeats 3200000 in
theorem gafter_noA (A B : V6) (w : World) (ha : mapMayB A = false) :
    Calls Tryd.prog 22 #[aggM A, aggM B] w fun e w' => e = .returned (.tuple #[.agg #[.int .i64 0, .int .i64 0, .int .i64 0, .int .i64 0, .int .i64 0, .int .i64 0], .int .i64 3]) ∧ Below w.heap.size w w' := by
  have HA := Lib.hid ha
  clear ha
  have hmf : ∀ (fn : Fn) (first cap : Array Value) (w : World), (Instr.makeFunc fn first cap).run Tryd.prog w = .ok (.func fn first cap) w := fun _ _ _ _ => rfl
  go_enter Tryd.func22, Tryd.ntmps22
  go_wp2_with fail
  refine (mapMay_V A _).mono ?_
  rintro e w1 ⟨rfl, hb1⟩
  rw [HA.out]
  have k_a_1 : w1.heap[w.heap.size]? = some (.cells #[.int .i64 (A.1), .int .i64 (A.2.1), .int .i64 (A.2.2.1), .int .i64 (A.2.2.2.1), .int .i64 (A.2.2.2.2.1), .int .i64 (A.2.2.2.2.2)] 51 (0, 0)) := blk_below (blk_alloc (blk_alloc (new_blk (.cells #[.int .i64 (A.1), .int .i64 (A.2.1), .int .i64 (A.2.2.1), .int .i64 (A.2.2.2.1), .int .i64 (A.2.2.2.2.1), .int .i64 (A.2.2.2.2.2)] 51) (by first | rfl | (simp; done) | (simp; omega))) _) _) hb1 (by first | (simp; done) | (simp; omega))
  have k_b_1 : w1.heap[w.heap.size + 1]? = some (.cells #[.int .i64 (B.1), .int .i64 (B.2.1), .int .i64 (B.2.2.1), .int .i64 (B.2.2.2.1), .int .i64 (B.2.2.2.2.1), .int .i64 (B.2.2.2.2.2)] 51 (0, 0)) := blk_below (blk_alloc (new_blk (.cells #[.int .i64 (B.1), .int .i64 (B.2.1), .int .i64 (B.2.2.1), .int .i64 (B.2.2.2.1), .int .i64 (B.2.2.2.2.1), .int .i64 (B.2.2.2.2.2)] 51) (by first | rfl | (simp; done) | (simp; omega))) _) hb1 (by first | (simp; done) | (simp; omega))
  have k_r_1 : w1.heap[w.heap.size + 1 + 1]? = some (.cells #[.int .i64 0, .int .i64 0, .int .i64 0, .int .i64 0, .int .i64 0, .int .i64 0] 51 (0, 0)) := blk_below (new_blk (.cells #[.int .i64 0, .int .i64 0, .int .i64 0, .int .i64 0, .int .i64 0, .int .i64 0] 51) (by first | rfl | (simp; done) | (simp; omega))) hb1 (by first | (simp; done) | (simp; omega))
  have hw_1 : Below w.heap.size w w1 := stay_b (ba (ba (ba (Below.refl _ _) _) _) _) hb1
  clear hb1
  have c_a_0 := cell_of_blk k_a_1 0
  have c_a_1 := cell_of_blk k_a_1 1
  have c_a_2 := cell_of_blk k_a_1 2
  have c_a_3 := cell_of_blk k_a_1 3
  have c_a_4 := cell_of_blk k_a_1 4
  have c_a_5 := cell_of_blk k_a_1 5
  simp only [List.getElem?_toArray, List.getElem?_cons_zero, List.getElem?_cons_succ] at c_a_0 c_a_1 c_a_2 c_a_3 c_a_4 c_a_5
  have f_a := frozen_of_blk k_a_1
  have s_a := blk_lt k_a_1
  have c_b_0 := cell_of_blk k_b_1 0
  have c_b_1 := cell_of_blk k_b_1 1
  have c_b_2 := cell_of_blk k_b_1 2
  have c_b_3 := cell_of_blk k_b_1 3
  have c_b_4 := cell_of_blk k_b_1 4
  have c_b_5 := cell_of_blk k_b_1 5
  simp only [List.getElem?_toArray, List.getElem?_cons_zero, List.getElem?_cons_succ] at c_b_0 c_b_1 c_b_2 c_b_3 c_b_4 c_b_5
  have f_b := frozen_of_blk k_b_1
  have s_b := blk_lt k_b_1
  have c_r_0 := cell_of_blk k_r_1 0
  have c_r_1 := cell_of_blk k_r_1 1
  have c_r_2 := cell_of_blk k_r_1 2
  have c_r_3 := cell_of_blk k_r_1 3
  have c_r_4 := cell_of_blk k_r_1 4
  have c_r_5 := cell_of_blk k_r_1 5
  simp only [List.getElem?_toArray, List.getElem?_cons_zero, List.getElem?_cons_succ] at c_r_0 c_r_1 c_r_2 c_r_3 c_r_4 c_r_5
  have f_r := frozen_of_blk k_r_1
  have s_r := blk_lt k_r_1
  go_wp2_with fail
  refine (toldN_no _ _).mono ?_
  rintro e w2 ⟨rfl, hb2⟩
  have k_a_2 : w2.heap[w.heap.size]? = some (.cells #[.int .i64 (A.1), .int .i64 (A.2.1), .int .i64 (A.2.2.1), .int .i64 (A.2.2.2.1), .int .i64 (A.2.2.2.2.1), .int .i64 (A.2.2.2.2.2)] 51 (0, 0)) := blk_below k_a_1 hb2 (blk_lt k_a_1)
  have k_b_2 : w2.heap[w.heap.size + 1]? = some (.cells #[.int .i64 (B.1), .int .i64 (B.2.1), .int .i64 (B.2.2.1), .int .i64 (B.2.2.2.1), .int .i64 (B.2.2.2.2.1), .int .i64 (B.2.2.2.2.2)] 51 (0, 0)) := blk_below k_b_1 hb2 (blk_lt k_b_1)
  have k_r_2 : w2.heap[w.heap.size + 1 + 1]? = some (.cells #[.int .i64 0, .int .i64 0, .int .i64 0, .int .i64 0, .int .i64 0, .int .i64 0] 51 (0, 0)) := blk_below k_r_1 hb2 (blk_lt k_r_1)
  have hw_2 : Below w.heap.size w w2 := stay_b hw_1 hb2
  clear c_a_0 c_a_1 c_a_2 c_a_3 c_a_4 c_a_5 f_a s_a c_b_0 c_b_1 c_b_2 c_b_3 c_b_4 c_b_5 f_b s_b c_r_0 c_r_1 c_r_2 c_r_3 c_r_4 c_r_5 f_r s_r k_a_1 k_b_1 k_r_1 hb2 hw_1
  have c_a_0 := cell_of_blk k_a_2 0
  have c_a_1 := cell_of_blk k_a_2 1
  have c_a_2 := cell_of_blk k_a_2 2
  have c_a_3 := cell_of_blk k_a_2 3
  have c_a_4 := cell_of_blk k_a_2 4
  have c_a_5 := cell_of_blk k_a_2 5
  simp only [List.getElem?_toArray, List.getElem?_cons_zero, List.getElem?_cons_succ] at c_a_0 c_a_1 c_a_2 c_a_3 c_a_4 c_a_5
  have f_a := frozen_of_blk k_a_2
  have s_a := blk_lt k_a_2
  have c_b_0 := cell_of_blk k_b_2 0
  have c_b_1 := cell_of_blk k_b_2 1
  have c_b_2 := cell_of_blk k_b_2 2
  have c_b_3 := cell_of_blk k_b_2 3
  have c_b_4 := cell_of_blk k_b_2 4
  have c_b_5 := cell_of_blk k_b_2 5
  simp only [List.getElem?_toArray, List.getElem?_cons_zero, List.getElem?_cons_succ] at c_b_0 c_b_1 c_b_2 c_b_3 c_b_4 c_b_5
  have f_b := frozen_of_blk k_b_2
  have s_b := blk_lt k_b_2
  have c_r_0 := cell_of_blk k_r_2 0
  have c_r_1 := cell_of_blk k_r_2 1
  have c_r_2 := cell_of_blk k_r_2 2
  have c_r_3 := cell_of_blk k_r_2 3
  have c_r_4 := cell_of_blk k_r_2 4
  have c_r_5 := cell_of_blk k_r_2 5
  simp only [List.getElem?_toArray, List.getElem?_cons_zero, List.getElem?_cons_succ] at c_r_0 c_r_1 c_r_2 c_r_3 c_r_4 c_r_5
  have f_r := frozen_of_blk k_r_2
  have s_r := blk_lt k_r_2
  go_wp2_with fail
  refine (fits_err (0, 0, 0, 0, 0, 0) 3 _ rfl).mono ?_
  rintro e w3 ⟨rfl, hb3⟩
  have k_a_3 : w3.heap[w.heap.size]? = some (.cells #[.int .i64 (A.1), .int .i64 (A.2.1), .int .i64 (A.2.2.1), .int .i64 (A.2.2.2.1), .int .i64 (A.2.2.2.2.1), .int .i64 (A.2.2.2.2.2)] 51 (0, 0)) := blk_below k_a_2 hb3 (blk_lt k_a_2)
  have k_b_3 : w3.heap[w.heap.size + 1]? = some (.cells #[.int .i64 (B.1), .int .i64 (B.2.1), .int .i64 (B.2.2.1), .int .i64 (B.2.2.2.1), .int .i64 (B.2.2.2.2.1), .int .i64 (B.2.2.2.2.2)] 51 (0, 0)) := blk_below k_b_2 hb3 (blk_lt k_b_2)
  have k_r_3 : w3.heap[w.heap.size + 1 + 1]? = some (.cells #[.int .i64 0, .int .i64 0, .int .i64 0, .int .i64 0, .int .i64 0, .int .i64 0] 51 (0, 0)) := blk_below k_r_2 hb3 (blk_lt k_r_2)
  have hw_3 : Below w.heap.size w w3 := stay_b hw_2 hb3
  clear c_a_0 c_a_1 c_a_2 c_a_3 c_a_4 c_a_5 f_a s_a c_b_0 c_b_1 c_b_2 c_b_3 c_b_4 c_b_5 f_b s_b c_r_0 c_r_1 c_r_2 c_r_3 c_r_4 c_r_5 f_r s_r k_a_2 k_b_2 k_r_2 hb3 hw_2
  have c_a_0 := cell_of_blk k_a_3 0
  have c_a_1 := cell_of_blk k_a_3 1
  have c_a_2 := cell_of_blk k_a_3 2
  have c_a_3 := cell_of_blk k_a_3 3
  have c_a_4 := cell_of_blk k_a_3 4
  have c_a_5 := cell_of_blk k_a_3 5
  simp only [List.getElem?_toArray, List.getElem?_cons_zero, List.getElem?_cons_succ] at c_a_0 c_a_1 c_a_2 c_a_3 c_a_4 c_a_5
  have f_a := frozen_of_blk k_a_3
  have s_a := blk_lt k_a_3
  have c_b_0 := cell_of_blk k_b_3 0
  have c_b_1 := cell_of_blk k_b_3 1
  have c_b_2 := cell_of_blk k_b_3 2
  have c_b_3 := cell_of_blk k_b_3 3
  have c_b_4 := cell_of_blk k_b_3 4
  have c_b_5 := cell_of_blk k_b_3 5
  simp only [List.getElem?_toArray, List.getElem?_cons_zero, List.getElem?_cons_succ] at c_b_0 c_b_1 c_b_2 c_b_3 c_b_4 c_b_5
  have f_b := frozen_of_blk k_b_3
  have s_b := blk_lt k_b_3
  have c_r_0 := cell_of_blk k_r_3 0
  have c_r_1 := cell_of_blk k_r_3 1
  have c_r_2 := cell_of_blk k_r_3 2
  have c_r_3 := cell_of_blk k_r_3 3
  have c_r_4 := cell_of_blk k_r_3 4
  have c_r_5 := cell_of_blk k_r_3 5
  simp only [List.getElem?_toArray, List.getElem?_cons_zero, List.getElem?_cons_succ] at c_r_0 c_r_1 c_r_2 c_r_3 c_r_4 c_r_5
  have f_r := frozen_of_blk k_r_3
  have s_r := blk_lt k_r_3
  go_wp2
  have hge : w.heap.size ≤ w.heap.size + 1 + 1 := by omega
  exact bodyPost_ret (v := .tuple #[.agg #[.int .i64 0, .int .i64 0, .int .i64 0, .int .i64 0, .int .i64 0, .int .i64 0], .int .i64 3]) (by simp [results, Tryd.results22, go_sem, c_r_0, c_r_1, c_r_2, c_r_3, c_r_4, c_r_5]) rfl ⟨rfl, ((((((hw_3.setCell hge _).setCell hge _).setCell hge _).setCell hge _).setCell hge _).setCell hge _)⟩
set_option maxRecDepth 100000 in
set_option maxHeartbeats 3200000 in
theorem gafter_noB (A B : V6) (w : World) (ha : mapMayB A = true) (hb : mapMayB B = false) :
    Calls Tryd.prog 22 #[aggM A, aggM B] w fun e w' => e = .returned (.tuple #[.agg #[.int .i64 0, .int .i64 0, .int .i64 0, .int .i64 0, .int .i64 0, .int .i64 0], .int .i64 3]) ∧ Below w.heap.size w w' := by
  have HA := Lib.hid ha
  clear ha
  have HB := Lib.hid hb
  clear hb
  have hmf : ∀ (fn : Fn) (first cap : Array Value) (w : World), (Instr.makeFunc fn first cap).run Tryd.prog w = .ok (.func fn first cap) w := fun _ _ _ _ => rfl
  go_enter Tryd.func22, Tryd.ntmps22
  go_wp2_with fail
  refine (mapMay_V A _).mono ?_
  rintro e w1 ⟨rfl, hb1⟩
  rw [HA.out]
  have k_a_1 : w1.heap[w.heap.size]? = some (.cells #[.int .i64 (A.1), .int .i64 (A.2.1), .int .i64 (A.2.2.1), .int .i64 (A.2.2.2.1), .int .i64 (A.2.2.2.2.1), .int .i64 (A.2.2.2.2.2)] 51 (0, 0)) := blk_below (blk_alloc (blk_alloc (new_blk (.cells #[.int .i64 (A.1), .int .i64 (A.2.1), .int .i64 (A.2.2.1), .int .i64 (A.2.2.2.1), .int .i64 (A.2.2.2.2.1), .int .i64 (A.2.2.2.2.2)] 51) (by first | rfl | (simp; done) | (simp; omega))) _) _) hb1 (by first | (simp; done) | (simp; omega))
  have k_b_1 : w1.heap[w.heap.size + 1]? = some (.cells #[.int .i64 (B.1), .int .i64 (B.2.1), .int .i64 (B.2.2.1), .int .i64 (B.2.2.2.1), .int .i64 (B.2.2.2.2.1), .int .i64 (B.2.2.2.2.2)] 51 (0, 0)) := blk_below (blk_alloc (new_blk (.cells #[.int .i64 (B.1), .int .i64 (B.2.1), .int .i64 (B.2.2.1), .int .i64 (B.2.2.2.1), .int .i64 (B.2.2.2.2.1), .int .i64 (B.2.2.2.2.2)] 51) (by first | rfl | (simp; done) | (simp; omega))) _) hb1 (by first | (simp; done) | (simp; omega))
  have k_r_1 : w1.heap[w.heap.size + 1 + 1]? = some (.cells #[.int .i64 0, .int .i64 0, .int .i64 0, .int .i64 0, .int .i64 0, .int .i64 0] 51 (0, 0)) := blk_below (new_blk (.cells #[.int .i64 0, .int .i64 0, .int .i64 0, .int .i64 0, .int .i64 0, .int .i64 0] 51) (by first | rfl | (simp; done) | (simp; omega))) hb1 (by first | (simp; done) | (simp; omega))
  have hw_1 : Below w.heap.size w w1 := stay_b (ba (ba (ba (Below.refl _ _) _) _) _) hb1
  clear hb1
  have c_a_0 := cell_of_blk k_a_1 0
  have c_a_1 := cell_of_blk k_a_1 1
  have c_a_2 := cell_of_blk k_a_1 2
  have c_a_3 := cell_of_blk k_a_1 3
  have c_a_4 := cell_of_blk k_a_1 4
  have c_a_5 := cell_of_blk k_a_1 5
  simp only [List.getElem?_toArray, List.getElem?_cons_zero, List.getElem?_cons_succ] at c_a_0 c_a_1 c_a_2 c_a_3 c_a_4 c_a_5
  have f_a := frozen_of_blk k_a_1
  have s_a := blk_lt k_a_1
  have c_b_0 := cell_of_blk k_b_1 0
  have c_b_1 := cell_of_blk k_b_1 1
  have c_b_2 := cell_of_blk k_b_1 2
  have c_b_3 := cell_of_blk k_b_1 3
  have c_b_4 := cell_of_blk k_b_1 4
  have c_b_5 := cell_of_blk k_b_1 5
  simp only [List.getElem?_toArray, List.getElem?_cons_zero, List.getElem?_cons_succ] at c_b_0 c_b_1 c_b_2 c_b_3 c_b_4 c_b_5
  have f_b := frozen_of_blk k_b_1
  have s_b := blk_lt k_b_1
  have c_r_0 := cell_of_blk k_r_1 0
  have c_r_1 := cell_of_blk k_r_1 1
  have c_r_2 := cell_of_blk k_r_1 2
  have c_r_3 := cell_of_blk k_r_1 3
  have c_r_4 := cell_of_blk k_r_1 4
  have c_r_5 := cell_of_blk k_r_1 5
  simp only [List.getElem?_toArray, List.getElem?_cons_zero, List.getElem?_cons_succ] at c_r_0 c_r_1 c_r_2 c_r_3 c_r_4 c_r_5
  have f_r := frozen_of_blk k_r_1
  have s_r := blk_lt k_r_1
  go_wp2_with fail
  refine (mapMay_V B _).mono ?_
  rintro e w2 ⟨rfl, hb2⟩
  rw [HB.out]
  have k_a_2 : w2.heap[w.heap.size]? = some (.cells #[.int .i64 (A.1), .int .i64 (A.2.1), .int .i64 (A.2.2.1), .int .i64 (A.2.2.2.1), .int .i64 (A.2.2.2.2.1), .int .i64 (A.2.2.2.2.2)] 51 (0, 0)) := blk_below k_a_1 hb2 (blk_lt k_a_1)
  have k_b_2 : w2.heap[w.heap.size + 1]? = some (.cells #[.int .i64 (B.1), .int .i64 (B.2.1), .int .i64 (B.2.2.1), .int .i64 (B.2.2.2.1), .int .i64 (B.2.2.2.2.1), .int .i64 (B.2.2.2.2.2)] 51 (0, 0)) := blk_below k_b_1 hb2 (blk_lt k_b_1)
  have k_r_2 : w2.heap[w.heap.size + 1 + 1]? = some (.cells #[.int .i64 0, .int .i64 0, .int .i64 0, .int .i64 0, .int .i64 0, .int .i64 0] 51 (0, 0)) := blk_below k_r_1 hb2 (blk_lt k_r_1)
  have hw_2 : Below w.heap.size w w2 := stay_b hw_1 hb2
  clear c_a_0 c_a_1 c_a_2 c_a_3 c_a_4 c_a_5 f_a s_a c_b_0 c_b_1 c_b_2 c_b_3 c_b_4 c_b_5 f_b s_b c_r_0 c_r_1 c_r_2 c_r_3 c_r_4 c_r_5 f_r s_r k_a_1 k_b_1 k_r_1 hb2 hw_1
  have c_a_0 := cell_of_blk k_a_2 0
  have c_a_1 := cell_of_blk k_a_2 1
  have c_a_2 := cell_of_blk k_a_2 2
  have c_a_3 := cell_of_blk k_a_2 3
  have c_a_4 := cell_of_blk k_a_2 4
  have c_a_5 := cell_of_blk k_a_2 5
  simp only [List.getElem?_toArray, List.getElem?_cons_zero, List.getElem?_cons_succ] at c_a_0 c_a_1 c_a_2 c_a_3 c_a_4 c_a_5
  have f_a := frozen_of_blk k_a_2
  have s_a := blk_lt k_a_2
  have c_b_0 := cell_of_blk k_b_2 0
  have c_b_1 := cell_of_blk k_b_2 1
  have c_b_2 := cell_of_blk k_b_2 2
  have c_b_3 := cell_of_blk k_b_2 3
  have c_b_4 := cell_of_blk k_b_2 4
  have c_b_5 := cell_of_blk k_b_2 5
  simp only [List.getElem?_toArray, List.getElem?_cons_zero, List.getElem?_cons_succ] at c_b_0 c_b_1 c_b_2 c_b_3 c_b_4 c_b_5
  have f_b := frozen_of_blk k_b_2
  have s_b := blk_lt k_b_2
  have c_r_0 := cell_of_blk k_r_2 0
  have c_r_1 := cell_of_blk k_r_2 1
  have c_r_2 := cell_of_blk k_r_2 2
  have c_r_3 := cell_of_blk k_r_2 3
  have c_r_4 := cell_of_blk k_r_2 4
  have c_r_5 := cell_of_blk k_r_2 5
  simp only [List.getElem?_toArray, List.getElem?_cons_zero, List.getElem?_cons_succ] at c_r_0 c_r_1 c_r_2 c_r_3 c_r_4 c_r_5
  have f_r := frozen_of_blk k_r_2
  have s_r := blk_lt k_r_2
  go_wp2_with fail
  refine (toldN_no _ _).mono ?_
  rintro e w3 ⟨rfl, hb3⟩
  have k_a_3 : w3.heap[w.heap.size]? = some (.cells #[.int .i64 (A.1), .int .i64 (A.2.1), .int .i64 (A.2.2.1), .int .i64 (A.2.2.2.1), .int .i64 (A.2.2.2.2.1), .int .i64 (A.2.2.2.2.2)] 51 (0, 0)) := blk_below k_a_2 hb3 (blk_lt k_a_2)
  have k_b_3 : w3.heap[w.heap.size + 1]? = some (.cells #[.int .i64 (B.1), .int .i64 (B.2.1), .int .i64 (B.2.2.1), .int .i64 (B.2.2.2.1), .int .i64 (B.2.2.2.2.1), .int .i64 (B.2.2.2.2.2)] 51 (0, 0)) := blk_below k_b_2 hb3 (blk_lt k_b_2)
  have k_r_3 : w3.heap[w.heap.size + 1 + 1]? = some (.cells #[.int .i64 0, .int .i64 0, .int .i64 0, .int .i64 0, .int .i64 0, .int .i64 0] 51 (0, 0)) := blk_below k_r_2 hb3 (blk_lt k_r_2)
  have hw_3 : Below w.heap.size w w3 := stay_b hw_2 hb3
  clear c_a_0 c_a_1 c_a_2 c_a_3 c_a_4 c_a_5 f_a s_a c_b_0 c_b_1 c_b_2 c_b_3 c_b_4 c_b_5 f_b s_b c_r_0 c_r_1 c_r_2 c_r_3 c_r_4 c_r_5 f_r s_r k_a_2 k_b_2 k_r_2 hb3 hw_2
  have c_a_0 := cell_of_blk k_a_3 0
  have c_a_1 := cell_of_blk k_a_3 1
  have c_a_2 := cell_of_blk k_a_3 2
  have c_a_3 := cell_of_blk k_a_3 3
  have c_a_4 := cell_of_blk k_a_3 4
  have c_a_5 := cell_of_blk k_a_3 5
  simp only [List.getElem?_toArray, List.getElem?_cons_zero, List.getElem?_cons_succ] at c_a_0 c_a_1 c_a_2 c_a_3 c_a_4 c_a_5
  have f_a := frozen_of_blk k_a_3
  have s_a := blk_lt k_a_3
  have c_b_0 := cell_of_blk k_b_3 0
  have c_b_1 := cell_of_blk k_b_3 1
  have c_b_2 := cell_of_blk k_b_3 2
  have c_b_3 := cell_of_blk k_b_3 3
  have c_b_4 := cell_of_blk k_b_3 4
  have c_b_5 := cell_of_blk k_b_3 5
  simp only [List.getElem?_toArray, List.getElem?_cons_zero, List.getElem?_cons_succ] at c_b_0 c_b_1 c_b_2 c_b_3 c_b_4 c_b_5
  have f_b := frozen_of_blk k_b_3
  have s_b := blk_lt k_b_3
  have c_r_0 := cell_of_blk k_r_3 0
  have c_r_1 := cell_of_blk k_r_3 1
  have c_r_2 := cell_of_blk k_r_3 2
  have c_r_3 := cell_of_blk k_r_3 3
  have c_r_4 := cell_of_blk k_r_3 4
  have c_r_5 := cell_of_blk k_r_3 5
  simp only [List.getElem?_toArray, List.getElem?_cons_zero, List.getElem?_cons_succ] at c_r_0 c_r_1 c_r_2 c_r_3 c_r_4 c_r_5
  have f_r := frozen_of_blk k_r_3
  have s_r := blk_lt k_r_3
  go_wp2_with fail
  refine (fits_err (0, 0, 0, 0, 0, 0) 3 _ rfl).mono ?_
  rintro e w4 ⟨rfl, hb4⟩
  have k_a_4 : w4.heap[w.heap.size]? = some (.cells #[.int .i64 (A.1), .int .i64 (A.2.1), .int .i64 (A.2.2.1), .int .i64 (A.2.2.2.1), .int .i64 (A.2.2.2.2.1), .int .i64 (A.2.2.2.2.2)] 51 (0, 0)) := blk_below k_a_3 hb4 (blk_lt k_a_3)
  have k_b_4 : w4.heap[w.heap.size + 1]? = some (.cells #[.int .i64 (B.1), .int .i64 (B.2.1), .int .i64 (B.2.2.1), .int .i64 (B.2.2.2.1), .int .i64 (B.2.2.2.2.1), .int .i64 (B.2.2.2.2.2)] 51 (0, 0)) := blk_below k_b_3 hb4 (blk_lt k_b_3)
  have k_r_4 : w4.heap[w.heap.size + 1 + 1]? = some (.cells #[.int .i64 0, .int .i64 0, .int .i64 0, .int .i64 0, .int .i64 0, .int .i64 0] 51 (0, 0)) := blk_below k_r_3 hb4 (blk_lt k_r_3)
  have hw_4 : Below w.heap.size w w4 := stay_b hw_3 hb4
  clear c_a_0 c_a_1 c_a_2 c_a_3 c_a_4 c_a_5 f_a s_a c_b_0 c_b_1 c_b_2 c_b_3 c_b_4 c_b_5 f_b s_b c_r_0 c_r_1 c_r_2 c_r_3 c_r_4 c_r_5 f_r s_r k_a_3 k_b_3 k_r_3 hb4 hw_3
  have c_a_0 := cell_of_blk k_a_4 0
  have c_a_1 := cell_of_blk k_a_4 1
  have c_a_2 := cell_of_blk k_a_4 2
  have c_a_3 := cell_of_blk k_a_4 3
  have c_a_4 := cell_of_blk k_a_4 4
  have c_a_5 := cell_of_blk k_a_4 5
  simp only [List.getElem?_toArray, List.getElem?_cons_zero, List.getElem?_cons_succ] at c_a_0 c_a_1 c_a_2 c_a_3 c_a_4 c_a_5
  have f_a := frozen_of_blk k_a_4
  have s_a := blk_lt k_a_4
  have c_b_0 := cell_of_blk k_b_4 0
  have c_b_1 := cell_of_blk k_b_4 1
  have c_b_2 := cell_of_blk k_b_4 2
  have c_b_3 := cell_of_blk k_b_4 3
  have c_b_4 := cell_of_blk k_b_4 4
  have c_b_5 := cell_of_blk k_b_4 5
  simp only [List.getElem?_toArray, List.getElem?_cons_zero, List.getElem?_cons_succ] at c_b_0 c_b_1 c_b_2 c_b_3 c_b_4 c_b_5
  have f_b := frozen_of_blk k_b_4
  have s_b := blk_lt k_b_4
  have c_r_0 := cell_of_blk k_r_4 0
  have c_r_1 := cell_of_blk k_r_4 1
  have c_r_2 := cell_of_blk k_r_4 2
  have c_r_3 := cell_of_blk k_r_4 3
  have c_r_4 := cell_of_blk k_r_4 4
  have c_r_5 := cell_of_blk k_r_4 5
  simp only [List.getElem?_toArray, List.getElem?_cons_zero, List.getElem?_cons_succ] at c_r_0 c_r_1 c_r_2 c_r_3 c_r_4 c_r_5
  have f_r := frozen_of_blk k_r_4
  have s_r := blk_lt k_r_4
  go_wp2
  have hge : w.heap.size ≤ w.heap.size + 1 + 1 := by omega
  exact bodyPost_ret (v := .tuple #[.agg #[.int .i64 0, .int .i64 0, .int .i64 0, .int .i64 0, .int .i64 0, .int .i64 0], .int .i64 3]) (by simp [results, Tryd.results22, go_sem, c_r_0, c_r_1, c_r_2, c_r_3, c_r_4, c_r_5]) rfl ⟨rfl, ((((((hw_4.setCell hge _).setCell hge _).setCell hge _).setCell hge _).setCell hge _).setCell hge _)⟩
set_option maxRecDepth 100000 in
set_option maxHeartbeats 3200000 in
theorem gafter_big (A B : V6) (w : World) (ha : mapMayB A = true) (hb : mapMayB B = true) (hm : mapMayB (afterV A B) = false) :
    Calls Tryd.prog 22 #[aggM A, aggM B] w fun e w' => e = .returned (.tuple #[.agg #[.int .i64 0, .int .i64 0, .int .i64 0, .int .i64 0, .int .i64 0, .int .i64 0], .int .i64 2]) ∧ Below w.heap.size w w' := by
  obtain ⟨V, hV⟩ : ∃ a : V6, a = afterV A B := ⟨_, rfl⟩
  rw [← hV] at hm
  have HV := Lib.hid hV
  have HM := Lib.hid hm
  clear hV hm
  have HA := Lib.hid ha
  clear ha
  have HB := Lib.hid hb
  clear hb
  have hmf : ∀ (fn : Fn) (first cap : Array Value) (w : World), (Instr.makeFunc fn first cap).run Tryd.prog w = .ok (.func fn first cap) w := fun _ _ _ _ => rfl
  go_enter Tryd.func22, Tryd.ntmps22
  go_wp2_with fail
  refine (mapMay_V A _).mono ?_
  rintro e w1 ⟨rfl, hb1⟩
  rw [HA.out]
  have k_a_1 : w1.heap[w.heap.size]? = some (.cells #[.int .i64 (A.1), .int .i64 (A.2.1), .int .i64 (A.2.2.1), .int .i64 (A.2.2.2.1), .int .i64 (A.2.2.2.2.1), .int .i64 (A.2.2.2.2.2)] 51 (0, 0)) := blk_below (blk_alloc (blk_alloc (new_blk (.cells #[.int .i64 (A.1), .int .i64 (A.2.1), .int .i64 (A.2.2.1), .int .i64 (A.2.2.2.1), .int .i64 (A.2.2.2.2.1), .int .i64 (A.2.2.2.2.2)] 51) (by first | rfl | (simp; done) | (simp; omega))) _) _) hb1 (by first | (simp; done) | (simp; omega))
  have k_b_1 : w1.heap[w.heap.size + 1]? = some (.cells #[.int .i64 (B.1), .int .i64 (B.2.1), .int .i64 (B.2.2.1), .int .i64 (B.2.2.2.1), .int .i64 (B.2.2.2.2.1), .int .i64 (B.2.2.2.2.2)] 51 (0, 0)) := blk_below (blk_alloc (new_blk (.cells #[.int .i64 (B.1), .int .i64 (B.2.1), .int .i64 (B.2.2.1), .int .i64 (B.2.2.2.1), .int .i64 (B.2.2.2.2.1), .int .i64 (B.2.2.2.2.2)] 51) (by first | rfl | (simp; done) | (simp; omega))) _) hb1 (by first | (simp; done) | (simp; omega))
  have k_r_1 : w1.heap[w.heap.size + 1 + 1]? = some (.cells #[.int .i64 0, .int .i64 0, .int .i64 0, .int .i64 0, .int .i64 0, .int .i64 0] 51 (0, 0)) := blk_below (new_blk (.cells #[.int .i64 0, .int .i64 0, .int .i64 0, .int .i64 0, .int .i64 0, .int .i64 0] 51) (by first | rfl | (simp; done) | (simp; omega))) hb1 (by first | (simp; done) | (simp; omega))
  have hw_1 : Below w.heap.size w w1 := stay_b (ba (ba (ba (Below.refl _ _) _) _) _) hb1
  clear hb1
  have c_a_0 := cell_of_blk k_a_1 0
  have c_a_1 := cell_of_blk k_a_1 1
  have c_a_2 := cell_of_blk k_a_1 2
  have c_a_3 := cell_of_blk k_a_1 3
  have c_a_4 := cell_of_blk k_a_1 4
  have c_a_5 := cell_of_blk k_a_1 5
  simp only [List.getElem?_toArray, List.getElem?_cons_zero, List.getElem?_cons_succ] at c_a_0 c_a_1 c_a_2 c_a_3 c_a_4 c_a_5
  have f_a := frozen_of_blk k_a_1
  have s_a := blk_lt k_a_1
  have c_b_0 := cell_of_blk k_b_1 0
  have c_b_1 := cell_of_blk k_b_1 1
  have c_b_2 := cell_of_blk k_b_1 2
  have c_b_3 := cell_of_blk k_b_1 3
  have c_b_4 := cell_of_blk k_b_1 4
  have c_b_5 := cell_of_blk k_b_1 5
  simp only [List.getElem?_toArray, List.getElem?_cons_zero, List.getElem?_cons_succ] at c_b_0 c_b_1 c_b_2 c_b_3 c_b_4 c_b_5
  have f_b := frozen_of_blk k_b_1
  have s_b := blk_lt k_b_1
  have c_r_0 := cell_of_blk k_r_1 0
  have c_r_1 := cell_of_blk k_r_1 1
  have c_r_2 := cell_of_blk k_r_1 2
  have c_r_3 := cell_of_blk k_r_1 3
  have c_r_4 := cell_of_blk k_r_1 4
  have c_r_5 := cell_of_blk k_r_1 5
  simp only [List.getElem?_toArray, List.getElem?_cons_zero, List.getElem?_cons_succ] at c_r_0 c_r_1 c_r_2 c_r_3 c_r_4 c_r_5
  have f_r := frozen_of_blk k_r_1
  have s_r := blk_lt k_r_1
  go_wp2_with fail
  refine (mapMay_V B _).mono ?_
  rintro e w2 ⟨rfl, hb2⟩
  rw [HB.out]
  have k_a_2 : w2.heap[w.heap.size]? = some (.cells #[.int .i64 (A.1), .int .i64 (A.2.1), .int .i64 (A.2.2.1), .int .i64 (A.2.2.2.1), .int .i64 (A.2.2.2.2.1), .int .i64 (A.2.2.2.2.2)] 51 (0, 0)) := blk_below k_a_1 hb2 (blk_lt k_a_1)
  have k_b_2 : w2.heap[w.heap.size + 1]? = some (.cells #[.int .i64 (B.1), .int .i64 (B.2.1), .int .i64 (B.2.2.1), .int .i64 (B.2.2.2.1), .int .i64 (B.2.2.2.2.1), .int .i64 (B.2.2.2.2.2)] 51 (0, 0)) := blk_below k_b_1 hb2 (blk_lt k_b_1)
  have k_r_2 : w2.heap[w.heap.size + 1 + 1]? = some (.cells #[.int .i64 0, .int .i64 0, .int .i64 0, .int .i64 0, .int .i64 0, .int .i64 0] 51 (0, 0)) := blk_below k_r_1 hb2 (blk_lt k_r_1)
  have hw_2 : Below w.heap.size w w2 := stay_b hw_1 hb2
  clear c_a_0 c_a_1 c_a_2 c_a_3 c_a_4 c_a_5 f_a s_a c_b_0 c_b_1 c_b_2 c_b_3 c_b_4 c_b_5 f_b s_b c_r_0 c_r_1 c_r_2 c_r_3 c_r_4 c_r_5 f_r s_r k_a_1 k_b_1 k_r_1 hb2 hw_1
  have c_a_0 := cell_of_blk k_a_2 0
  have c_a_1 := cell_of_blk k_a_2 1
  have c_a_2 := cell_of_blk k_a_2 2
  have c_a_3 := cell_of_blk k_a_2 3
  have c_a_4 := cell_of_blk k_a_2 4
  have c_a_5 := cell_of_blk k_a_2 5
  simp only [List.getElem?_toArray, List.getElem?_cons_zero, List.getElem?_cons_succ] at c_a_0 c_a_1 c_a_2 c_a_3 c_a_4 c_a_5
  have f_a := frozen_of_blk k_a_2
  have s_a := blk_lt k_a_2
  have c_b_0 := cell_of_blk k_b_2 0
  have c_b_1 := cell_of_blk k_b_2 1
  have c_b_2 := cell_of_blk k_b_2 2
  have c_b_3 := cell_of_blk k_b_2 3
  have c_b_4 := cell_of_blk k_b_2 4
  have c_b_5 := cell_of_blk k_b_2 5
  simp only [List.getElem?_toArray, List.getElem?_cons_zero, List.getElem?_cons_succ] at c_b_0 c_b_1 c_b_2 c_b_3 c_b_4 c_b_5
  have f_b := frozen_of_blk k_b_2
  have s_b := blk_lt k_b_2
  have c_r_0 := cell_of_blk k_r_2 0
  have c_r_1 := cell_of_blk k_r_2 1
  have c_r_2 := cell_of_blk k_r_2 2
  have c_r_3 := cell_of_blk k_r_2 3
  have c_r_4 := cell_of_blk k_r_2 4
  have c_r_5 := cell_of_blk k_r_2 5
  simp only [List.getElem?_toArray, List.getElem?_cons_zero, List.getElem?_cons_succ] at c_r_0 c_r_1 c_r_2 c_r_3 c_r_4 c_r_5
  have f_r := frozen_of_blk k_r_2
  have s_r := blk_lt k_r_2
  have hc1 := after1_any A B w.heap.size (w.heap.size + 1) (w2.alloc (.cells #[.int .i64 0, .int .i64 0, .int .i64 0, .int .i64 0, .int .i64 0, .int .i64 0] 51)) (blk_alloc k_a_2 _) (blk_alloc k_b_2 _) HA.out HB.out
  rw [← HV.out] at hc1
  have HC1 := Lib.hid hc1
  clear hc1
  go_wp2_with fail
  refine (toldN_ok _ _ _ V.1 V.2.1 V.2.2.1 V.2.2.2.1 V.2.2.2.2.1 V.2.2.2.2.2 _ after1_enter HC1.out).mono ?_
  rintro e w3 ⟨rfl, hb3⟩
  have k_a_3 : w3.heap[w.heap.size]? = some (.cells #[.int .i64 (A.1), .int .i64 (A.2.1), .int .i64 (A.2.2.1), .int .i64 (A.2.2.2.1), .int .i64 (A.2.2.2.2.1), .int .i64 (A.2.2.2.2.2)] 51 (0, 0)) := blk_below k_a_2 hb3 (blk_lt k_a_2)
  have k_b_3 : w3.heap[w.heap.size + 1]? = some (.cells #[.int .i64 (B.1), .int .i64 (B.2.1), .int .i64 (B.2.2.1), .int .i64 (B.2.2.2.1), .int .i64 (B.2.2.2.2.1), .int .i64 (B.2.2.2.2.2)] 51 (0, 0)) := blk_below k_b_2 hb3 (blk_lt k_b_2)
  have k_r_3 : w3.heap[w.heap.size + 1 + 1]? = some (.cells #[.int .i64 0, .int .i64 0, .int .i64 0, .int .i64 0, .int .i64 0, .int .i64 0] 51 (0, 0)) := blk_below k_r_2 hb3 (blk_lt k_r_2)
  have hw_3 : Below w.heap.size w w3 := stay_b hw_2 hb3
  clear c_a_0 c_a_1 c_a_2 c_a_3 c_a_4 c_a_5 f_a s_a c_b_0 c_b_1 c_b_2 c_b_3 c_b_4 c_b_5 f_b s_b c_r_0 c_r_1 c_r_2 c_r_3 c_r_4 c_r_5 f_r s_r k_a_2 k_b_2 k_r_2 hb3 hw_2
  have c_a_0 := cell_of_blk k_a_3 0
  have c_a_1 := cell_of_blk k_a_3 1
  have c_a_2 := cell_of_blk k_a_3 2
  have c_a_3 := cell_of_blk k_a_3 3
  have c_a_4 := cell_of_blk k_a_3 4
  have c_a_5 := cell_of_blk k_a_3 5
  simp only [List.getElem?_toArray, List.getElem?_cons_zero, List.getElem?_cons_succ] at c_a_0 c_a_1 c_a_2 c_a_3 c_a_4 c_a_5
  have f_a := frozen_of_blk k_a_3
  have s_a := blk_lt k_a_3
  have c_b_0 := cell_of_blk k_b_3 0
  have c_b_1 := cell_of_blk k_b_3 1
  have c_b_2 := cell_of_blk k_b_3 2
  have c_b_3 := cell_of_blk k_b_3 3
  have c_b_4 := cell_of_blk k_b_3 4
  have c_b_5 := cell_of_blk k_b_3 5
  simp only [List.getElem?_toArray, List.getElem?_cons_zero, List.getElem?_cons_succ] at c_b_0 c_b_1 c_b_2 c_b_3 c_b_4 c_b_5
  have f_b := frozen_of_blk k_b_3
  have s_b := blk_lt k_b_3
  have c_r_0 := cell_of_blk k_r_3 0
  have c_r_1 := cell_of_blk k_r_3 1
  have c_r_2 := cell_of_blk k_r_3 2
  have c_r_3 := cell_of_blk k_r_3 3
  have c_r_4 := cell_of_blk k_r_3 4
  have c_r_5 := cell_of_blk k_r_3 5
  simp only [List.getElem?_toArray, List.getElem?_cons_zero, List.getElem?_cons_succ] at c_r_0 c_r_1 c_r_2 c_r_3 c_r_4 c_r_5
  have f_r := frozen_of_blk k_r_3
  have s_r := blk_lt k_r_3
  go_wp2_with fail
  refine (fits_no V _ HM.out).mono ?_
  rintro e w4 ⟨he, hb4⟩
  simp only [M0] at he
  subst he
  have k_a_4 : w4.heap[w.heap.size]? = some (.cells #[.int .i64 (A.1), .int .i64 (A.2.1), .int .i64 (A.2.2.1), .int .i64 (A.2.2.2.1), .int .i64 (A.2.2.2.2.1), .int .i64 (A.2.2.2.2.2)] 51 (0, 0)) := blk_below k_a_3 hb4 (blk_lt k_a_3)
  have k_b_4 : w4.heap[w.heap.size + 1]? = some (.cells #[.int .i64 (B.1), .int .i64 (B.2.1), .int .i64 (B.2.2.1), .int .i64 (B.2.2.2.1), .int .i64 (B.2.2.2.2.1), .int .i64 (B.2.2.2.2.2)] 51 (0, 0)) := blk_below k_b_3 hb4 (blk_lt k_b_3)
  have k_r_4 : w4.heap[w.heap.size + 1 + 1]? = some (.cells #[.int .i64 0, .int .i64 0, .int .i64 0, .int .i64 0, .int .i64 0, .int .i64 0] 51 (0, 0)) := blk_below k_r_3 hb4 (blk_lt k_r_3)
  have hw_4 : Below w.heap.size w w4 := stay_b hw_3 hb4
  clear c_a_0 c_a_1 c_a_2 c_a_3 c_a_4 c_a_5 f_a s_a c_b_0 c_b_1 c_b_2 c_b_3 c_b_4 c_b_5 f_b s_b c_r_0 c_r_1 c_r_2 c_r_3 c_r_4 c_r_5 f_r s_r k_a_3 k_b_3 k_r_3 hb4 hw_3
  have c_a_0 := cell_of_blk k_a_4 0
  have c_a_1 := cell_of_blk k_a_4 1
  have c_a_2 := cell_of_blk k_a_4 2
  have c_a_3 := cell_of_blk k_a_4 3
  have c_a_4 := cell_of_blk k_a_4 4
  have c_a_5 := cell_of_blk k_a_4 5
  simp only [List.getElem?_toArray, List.getElem?_cons_zero, List.getElem?_cons_succ] at c_a_0 c_a_1 c_a_2 c_a_3 c_a_4 c_a_5
  have f_a := frozen_of_blk k_a_4
  have s_a := blk_lt k_a_4
  have c_b_0 := cell_of_blk k_b_4 0
  have c_b_1 := cell_of_blk k_b_4 1
  have c_b_2 := cell_of_blk k_b_4 2
  have c_b_3 := cell_of_blk k_b_4 3
  have c_b_4 := cell_of_blk k_b_4 4
  have c_b_5 := cell_of_blk k_b_4 5
  simp only [List.getElem?_toArray, List.getElem?_cons_zero, List.getElem?_cons_succ] at c_b_0 c_b_1 c_b_2 c_b_3 c_b_4 c_b_5
  have f_b := frozen_of_blk k_b_4
  have s_b := blk_lt k_b_4
  have c_r_0 := cell_of_blk k_r_4 0
  have c_r_1 := cell_of_blk k_r_4 1
  have c_r_2 := cell_of_blk k_r_4 2
  have c_r_3 := cell_of_blk k_r_4 3
  have c_r_4 := cell_of_blk k_r_4 4
  have c_r_5 := cell_of_blk k_r_4 5
  simp only [List.getElem?_toArray, List.getElem?_cons_zero, List.getElem?_cons_succ] at c_r_0 c_r_1 c_r_2 c_r_3 c_r_4 c_r_5
  have f_r := frozen_of_blk k_r_4
  have s_r := blk_lt k_r_4
  go_wp2
  have hge : w.heap.size ≤ w.heap.size + 1 + 1 := by omega
  exact bodyPost_ret (v := .tuple #[.agg #[.int .i64 0, .int .i64 0, .int .i64 0, .int .i64 0, .int .i64 0, .int .i64 0], .int .i64 2]) (by simp [results, Tryd.results22, go_sem, c_r_0, c_r_1, c_r_2, c_r_3, c_r_4, c_r_5]) rfl ⟨rfl, ((((((hw_4.setCell hge _).setCell hge _).setCell hge _).setCell hge _).setCell hge _).setCell hge _)⟩
set_option maxRecDepth 100000 in
set_option maxHeartbeats 3200000 in
theorem gafter_ok (A B : V6) (w : World) (ha : mapMayB A = true) (hb : mapMayB B = true) (hm : mapMayB (afterV A B) = true) :
    Calls Tryd.prog 22 #[aggM A, aggM B] w fun e w' => e = .returned (.tuple #[aggM (afterV A B), .int .i64 0]) ∧ Below w.heap.size w w' := by
  obtain ⟨V, hV⟩ : ∃ a : V6, a = afterV A B := ⟨_, rfl⟩
  rw [← hV] at hm
  have HV := Lib.hid hV
  have HM := Lib.hid hm
  clear hV hm
  have HA := Lib.hid ha
  clear ha
  have HB := Lib.hid hb
  clear hb
  have hmf : ∀ (fn : Fn) (first cap : Array Value) (w : World), (Instr.makeFunc fn first cap).run Tryd.prog w = .ok (.func fn first cap) w := fun _ _ _ _ => rfl
  go_enter Tryd.func22, Tryd.ntmps22
  go_wp2_with fail
  refine (mapMay_V A _).mono ?_
  rintro e w1 ⟨rfl, hb1⟩
  rw [HA.out]
  have k_a_1 : w1.heap[w.heap.size]? = some (.cells #[.int .i64 (A.1), .int .i64 (A.2.1), .int .i64 (A.2.2.1), .int .i64 (A.2.2.2.1), .int .i64 (A.2.2.2.2.1), .int .i64 (A.2.2.2.2.2)] 51 (0, 0)) := blk_below (blk_alloc (blk_alloc (new_blk (.cells #[.int .i64 (A.1), .int .i64 (A.2.1), .int .i64 (A.2.2.1), .int .i64 (A.2.2.2.1), .int .i64 (A.2.2.2.2.1), .int .i64 (A.2.2.2.2.2)] 51) (by first | rfl | (simp; done) | (simp; omega))) _) _) hb1 (by first | (simp; done) | (simp; omega))
  have k_b_1 : w1.heap[w.heap.size + 1]? = some (.cells #[.int .i64 (B.1), .int .i64 (B.2.1), .int .i64 (B.2.2.1), .int .i64 (B.2.2.2.1), .int .i64 (B.2.2.2.2.1), .int .i64 (B.2.2.2.2.2)] 51 (0, 0)) := blk_below (blk_alloc (new_blk (.cells #[.int .i64 (B.1), .int .i64 (B.2.1), .int .i64 (B.2.2.1), .int .i64 (B.2.2.2.1), .int .i64 (B.2.2.2.2.1), .int .i64 (B.2.2.2.2.2)] 51) (by first | rfl | (simp; done) | (simp; omega))) _) hb1 (by first | (simp; done) | (simp; omega))
  have k_r_1 : w1.heap[w.heap.size + 1 + 1]? = some (.cells #[.int .i64 0, .int .i64 0, .int .i64 0, .int .i64 0, .int .i64 0, .int .i64 0] 51 (0, 0)) := blk_below (new_blk (.cells #[.int .i64 0, .int .i64 0, .int .i64 0, .int .i64 0, .int .i64 0, .int .i64 0] 51) (by first | rfl | (simp; done) | (simp; omega))) hb1 (by first | (simp; done) | (simp; omega))
  have hw_1 : Below w.heap.size w w1 := stay_b (ba (ba (ba (Below.refl _ _) _) _) _) hb1
  clear hb1
  have c_a_0 := cell_of_blk k_a_1 0
  have c_a_1 := cell_of_blk k_a_1 1
  have c_a_2 := cell_of_blk k_a_1 2
  have c_a_3 := cell_of_blk k_a_1 3
  have c_a_4 := cell_of_blk k_a_1 4
  have c_a_5 := cell_of_blk k_a_1 5
  simp only [List.getElem?_toArray, List.getElem?_cons_zero, List.getElem?_cons_succ] at c_a_0 c_a_1 c_a_2 c_a_3 c_a_4 c_a_5
  have f_a := frozen_of_blk k_a_1
  have s_a := blk_lt k_a_1
  have c_b_0 := cell_of_blk k_b_1 0
  have c_b_1 := cell_of_blk k_b_1 1
  have c_b_2 := cell_of_blk k_b_1 2
  have c_b_3 := cell_of_blk k_b_1 3
  have c_b_4 := cell_of_blk k_b_1 4
  have c_b_5 := cell_of_blk k_b_1 5
  simp only [List.getElem?_toArray, List.getElem?_cons_zero, List.getElem?_cons_succ] at c_b_0 c_b_1 c_b_2 c_b_3 c_b_4 c_b_5
  have f_b := frozen_of_blk k_b_1
  have s_b := blk_lt k_b_1
  have c_r_0 := cell_of_blk k_r_1 0
  have c_r_1 := cell_of_blk k_r_1 1
  have c_r_2 := cell_of_blk k_r_1 2
  have c_r_3 := cell_of_blk k_r_1 3
  have c_r_4 := cell_of_blk k_r_1 4
  have c_r_5 := cell_of_blk k_r_1 5
  simp only [List.getElem?_toArray, List.getElem?_cons_zero, List.getElem?_cons_succ] at c_r_0 c_r_1 c_r_2 c_r_3 c_r_4 c_r_5
  have f_r := frozen_of_blk k_r_1
  have s_r := blk_lt k_r_1
  go_wp2_with fail
  refine (mapMay_V B _).mono ?_
  rintro e w2 ⟨rfl, hb2⟩
  rw [HB.out]
  have k_a_2 : w2.heap[w.heap.size]? = some (.cells #[.int .i64 (A.1), .int .i64 (A.2.1), .int .i64 (A.2.2.1), .int .i64 (A.2.2.2.1), .int .i64 (A.2.2.2.2.1), .int .i64 (A.2.2.2.2.2)] 51 (0, 0)) := blk_below k_a_1 hb2 (blk_lt k_a_1)
  have k_b_2 : w2.heap[w.heap.size + 1]? = some (.cells #[.int .i64 (B.1), .int .i64 (B.2.1), .int .i64 (B.2.2.1), .int .i64 (B.2.2.2.1), .int .i64 (B.2.2.2.2.1), .int .i64 (B.2.2.2.2.2)] 51 (0, 0)) := blk_below k_b_1 hb2 (blk_lt k_b_1)
  have k_r_2 : w2.heap[w.heap.size + 1 + 1]? = some (.cells #[.int .i64 0, .int .i64 0, .int .i64 0, .int .i64 0, .int .i64 0, .int .i64 0] 51 (0, 0)) := blk_below k_r_1 hb2 (blk_lt k_r_1)
  have hw_2 : Below w.heap.size w w2 := stay_b hw_1 hb2
  clear c_a_0 c_a_1 c_a_2 c_a_3 c_a_4 c_a_5 f_a s_a c_b_0 c_b_1 c_b_2 c_b_3 c_b_4 c_b_5 f_b s_b c_r_0 c_r_1 c_r_2 c_r_3 c_r_4 c_r_5 f_r s_r k_a_1 k_b_1 k_r_1 hb2 hw_1
  have c_a_0 := cell_of_blk k_a_2 0
  have c_a_1 := cell_of_blk k_a_2 1
  have c_a_2 := cell_of_blk k_a_2 2
  have c_a_3 := cell_of_blk k_a_2 3
  have c_a_4 := cell_of_blk k_a_2 4
  have c_a_5 := cell_of_blk k_a_2 5
  simp only [List.getElem?_toArray, List.getElem?_cons_zero, List.getElem?_cons_succ] at c_a_0 c_a_1 c_a_2 c_a_3 c_a_4 c_a_5
  have f_a := frozen_of_blk k_a_2
  have s_a := blk_lt k_a_2
  have c_b_0 := cell_of_blk k_b_2 0
  have c_b_1 := cell_of_blk k_b_2 1
  have c_b_2 := cell_of_blk k_b_2 2
  have c_b_3 := cell_of_blk k_b_2 3
  have c_b_4 := cell_of_blk k_b_2 4
  have c_b_5 := cell_of_blk k_b_2 5
  simp only [List.getElem?_toArray, List.getElem?_cons_zero, List.getElem?_cons_succ] at c_b_0 c_b_1 c_b_2 c_b_3 c_b_4 c_b_5
  have f_b := frozen_of_blk k_b_2
  have s_b := blk_lt k_b_2
  have c_r_0 := cell_of_blk k_r_2 0
  have c_r_1 := cell_of_blk k_r_2 1
  have c_r_2 := cell_of_blk k_r_2 2
  have c_r_3 := cell_of_blk k_r_2 3
  have c_r_4 := cell_of_blk k_r_2 4
  have c_r_5 := cell_of_blk k_r_2 5
  simp only [List.getElem?_toArray, List.getElem?_cons_zero, List.getElem?_cons_succ] at c_r_0 c_r_1 c_r_2 c_r_3 c_r_4 c_r_5
  have f_r := frozen_of_blk k_r_2
  have s_r := blk_lt k_r_2
  have hc1 := after1_any A B w.heap.size (w.heap.size + 1) (w2.alloc (.cells #[.int .i64 0, .int .i64 0, .int .i64 0, .int .i64 0, .int .i64 0, .int .i64 0] 51)) (blk_alloc k_a_2 _) (blk_alloc k_b_2 _) HA.out HB.out
  rw [← HV.out] at hc1
  have HC1 := Lib.hid hc1
  clear hc1
  go_wp2_with fail
  refine (toldN_ok _ _ _ V.1 V.2.1 V.2.2.1 V.2.2.2.1 V.2.2.2.2.1 V.2.2.2.2.2 _ after1_enter HC1.out).mono ?_
  rintro e w3 ⟨rfl, hb3⟩
  have k_a_3 : w3.heap[w.heap.size]? = some (.cells #[.int .i64 (A.1), .int .i64 (A.2.1), .int .i64 (A.2.2.1), .int .i64 (A.2.2.2.1), .int .i64 (A.2.2.2.2.1), .int .i64 (A.2.2.2.2.2)] 51 (0, 0)) := blk_below k_a_2 hb3 (blk_lt k_a_2)
  have k_b_3 : w3.heap[w.heap.size + 1]? = some (.cells #[.int .i64 (B.1), .int .i64 (B.2.1), .int .i64 (B.2.2.1), .int .i64 (B.2.2.2.1), .int .i64 (B.2.2.2.2.1), .int .i64 (B.2.2.2.2.2)] 51 (0, 0)) := blk_below k_b_2 hb3 (blk_lt k_b_2)
  have k_r_3 : w3.heap[w.heap.size + 1 + 1]? = some (.cells #[.int .i64 0, .int .i64 0, .int .i64 0, .int .i64 0, .int .i64 0, .int .i64 0] 51 (0, 0)) := blk_below k_r_2 hb3 (blk_lt k_r_2)
  have hw_3 : Below w.heap.size w w3 := stay_b hw_2 hb3
  clear c_a_0 c_a_1 c_a_2 c_a_3 c_a_4 c_a_5 f_a s_a c_b_0 c_b_1 c_b_2 c_b_3 c_b_4 c_b_5 f_b s_b c_r_0 c_r_1 c_r_2 c_r_3 c_r_4 c_r_5 f_r s_r k_a_2 k_b_2 k_r_2 hb3 hw_2
  have c_a_0 := cell_of_blk k_a_3 0
  have c_a_1 := cell_of_blk k_a_3 1
  have c_a_2 := cell_of_blk k_a_3 2
  have c_a_3 := cell_of_blk k_a_3 3
  have c_a_4 := cell_of_blk k_a_3 4
  have c_a_5 := cell_of_blk k_a_3 5
  simp only [List.getElem?_toArray, List.getElem?_cons_zero, List.getElem?_cons_succ] at c_a_0 c_a_1 c_a_2 c_a_3 c_a_4 c_a_5
  have f_a := frozen_of_blk k_a_3
  have s_a := blk_lt k_a_3
  have c_b_0 := cell_of_blk k_b_3 0
  have c_b_1 := cell_of_blk k_b_3 1
  have c_b_2 := cell_of_blk k_b_3 2
  have c_b_3 := cell_of_blk k_b_3 3
  have c_b_4 := cell_of_blk k_b_3 4
  have c_b_5 := cell_of_blk k_b_3 5
  simp only [List.getElem?_toArray, List.getElem?_cons_zero, List.getElem?_cons_succ] at c_b_0 c_b_1 c_b_2 c_b_3 c_b_4 c_b_5
  have f_b := frozen_of_blk k_b_3
  have s_b := blk_lt k_b_3
  have c_r_0 := cell_of_blk k_r_3 0
  have c_r_1 := cell_of_blk k_r_3 1
  have c_r_2 := cell_of_blk k_r_3 2
  have c_r_3 := cell_of_blk k_r_3 3
  have c_r_4 := cell_of_blk k_r_3 4
  have c_r_5 := cell_of_blk k_r_3 5
  simp only [List.getElem?_toArray, List.getElem?_cons_zero, List.getElem?_cons_succ] at c_r_0 c_r_1 c_r_2 c_r_3 c_r_4 c_r_5
  have f_r := frozen_of_blk k_r_3
  have s_r := blk_lt k_r_3
  go_wp2_with fail
  refine (fits_ok V _ HM.out).mono ?_
  rintro e w4 ⟨rfl, hb4⟩
  have k_a_4 : w4.heap[w.heap.size]? = some (.cells #[.int .i64 (A.1), .int .i64 (A.2.1), .int .i64 (A.2.2.1), .int .i64 (A.2.2.2.1), .int .i64 (A.2.2.2.2.1), .int .i64 (A.2.2.2.2.2)] 51 (0, 0)) := blk_below k_a_3 hb4 (blk_lt k_a_3)
  have k_b_4 : w4.heap[w.heap.size + 1]? = some (.cells #[.int .i64 (B.1), .int .i64 (B.2.1), .int .i64 (B.2.2.1), .int .i64 (B.2.2.2.1), .int .i64 (B.2.2.2.2.1), .int .i64 (B.2.2.2.2.2)] 51 (0, 0)) := blk_below k_b_3 hb4 (blk_lt k_b_3)
  have k_r_4 : w4.heap[w.heap.size + 1 + 1]? = some (.cells #[.int .i64 0, .int .i64 0, .int .i64 0, .int .i64 0, .int .i64 0, .int .i64 0] 51 (0, 0)) := blk_below k_r_3 hb4 (blk_lt k_r_3)
  have hw_4 : Below w.heap.size w w4 := stay_b hw_3 hb4
  clear c_a_0 c_a_1 c_a_2 c_a_3 c_a_4 c_a_5 f_a s_a c_b_0 c_b_1 c_b_2 c_b_3 c_b_4 c_b_5 f_b s_b c_r_0 c_r_1 c_r_2 c_r_3 c_r_4 c_r_5 f_r s_r k_a_3 k_b_3 k_r_3 hb4 hw_3
  have c_a_0 := cell_of_blk k_a_4 0
  have c_a_1 := cell_of_blk k_a_4 1
  have c_a_2 := cell_of_blk k_a_4 2
  have c_a_3 := cell_of_blk k_a_4 3
  have c_a_4 := cell_of_blk k_a_4 4
  have c_a_5 := cell_of_blk k_a_4 5
  simp only [List.getElem?_toArray, List.getElem?_cons_zero, List.getElem?_cons_succ] at c_a_0 c_a_1 c_a_2 c_a_3 c_a_4 c_a_5
  have f_a := frozen_of_blk k_a_4
  have s_a := blk_lt k_a_4
  have c_b_0 := cell_of_blk k_b_4 0
  have c_b_1 := cell_of_blk k_b_4 1
  have c_b_2 := cell_of_blk k_b_4 2
  have c_b_3 := cell_of_blk k_b_4 3
  have c_b_4 := cell_of_blk k_b_4 4
  have c_b_5 := cell_of_blk k_b_4 5
  simp only [List.getElem?_toArray, List.getElem?_cons_zero, List.getElem?_cons_succ] at c_b_0 c_b_1 c_b_2 c_b_3 c_b_4 c_b_5
  have f_b := frozen_of_blk k_b_4
  have s_b := blk_lt k_b_4
  have c_r_0 := cell_of_blk k_r_4 0
  have c_r_1 := cell_of_blk k_r_4 1
  have c_r_2 := cell_of_blk k_r_4 2
  have c_r_3 := cell_of_blk k_r_4 3
  have c_r_4 := cell_of_blk k_r_4 4
  have c_r_5 := cell_of_blk k_r_4 5
  simp only [List.getElem?_toArray, List.getElem?_cons_zero, List.getElem?_cons_succ] at c_r_0 c_r_1 c_r_2 c_r_3 c_r_4 c_r_5
  have f_r := frozen_of_blk k_r_4
  have s_r := blk_lt k_r_4
  go_wp2
  have hge : w.heap.size ≤ w.heap.size + 1 + 1 := by omega
  exact bodyPost_ret (v := .tuple #[aggM V, .int .i64 0]) (by simp [results, Tryd.results22, go_sem, c_r_0, c_r_1, c_r_2, c_r_3, c_r_4, c_r_5]) rfl ⟨by rw [HV.out], ((((((hw_4.setCell hge _).setCell hge _).setCell hge _).setCell hge _).setCell hge _).setCell hge _)⟩
set_option maxRecDepth 100000 in
set_option maxHeartbeats 3200000 in
theorem gback_noA (A : V6) (w : World) (ha : mapMayB A = false) :
    Calls Tryd.prog 23 #[aggM A] w fun e w' => e = .returned (.tuple #[.agg #[.int .i64 0, .int .i64 0, .int .i64 0, .int .i64 0, .int .i64 0, .int .i64 0], .int .i64 3]) ∧ Below w.heap.size w w' := by
  have HA := Lib.hid ha
  clear ha
  have hmf : ∀ (fn : Fn) (first cap : Array Value) (w : World), (Instr.makeFunc fn first cap).run Tryd.prog w = .ok (.func fn first cap) w := fun _ _ _ _ => rfl
  go_enter Tryd.func23, Tryd.ntmps23
  go_wp2_with fail
  refine (mapMay_V A _).mono ?_
  rintro e w1 ⟨rfl, hb1⟩
  rw [HA.out]
  have k_a_1 : w1.heap[w.heap.size]? = some (.cells #[.int .i64 (A.1), .int .i64 (A.2.1), .int .i64 (A.2.2.1), .int .i64 (A.2.2.2.1), .int .i64 (A.2.2.2.2.1), .int .i64 (A.2.2.2.2.2)] 51 (0, 0)) := blk_below (blk_alloc (new_blk (.cells #[.int .i64 (A.1), .int .i64 (A.2.1), .int .i64 (A.2.2.1), .int .i64 (A.2.2.2.1), .int .i64 (A.2.2.2.2.1), .int .i64 (A.2.2.2.2.2)] 51) (by first | rfl | (simp; done) | (simp; omega))) _) hb1 (by first | (simp; done) | (simp; omega))
  have k_r_1 : w1.heap[w.heap.size + 1]? = some (.cells #[.int .i64 0, .int .i64 0, .int .i64 0, .int .i64 0, .int .i64 0, .int .i64 0] 51 (0, 0)) := blk_below (new_blk (.cells #[.int .i64 0, .int .i64 0, .int .i64 0, .int .i64 0, .int .i64 0, .int .i64 0] 51) (by first | rfl | (simp; done) | (simp; omega))) hb1 (by first | (simp; done) | (simp; omega))
  have hw_1 : Below w.heap.size w w1 := stay_b (ba (ba (Below.refl _ _) _) _) hb1
  clear hb1
  have c_a_0 := cell_of_blk k_a_1 0
  have c_a_1 := cell_of_blk k_a_1 1
  have c_a_2 := cell_of_blk k_a_1 2
  have c_a_3 := cell_of_blk k_a_1 3
  have c_a_4 := cell_of_blk k_a_1 4
  have c_a_5 := cell_of_blk k_a_1 5
  simp only [List.getElem?_toArray, List.getElem?_cons_zero, List.getElem?_cons_succ] at c_a_0 c_a_1 c_a_2 c_a_3 c_a_4 c_a_5
  have f_a := frozen_of_blk k_a_1
  have s_a := blk_lt k_a_1
  have c_r_0 := cell_of_blk k_r_1 0
  have c_r_1 := cell_of_blk k_r_1 1
  have c_r_2 := cell_of_blk k_r_1 2
  have c_r_3 := cell_of_blk k_r_1 3
  have c_r_4 := cell_of_blk k_r_1 4
  have c_r_5 := cell_of_blk k_r_1 5
  simp only [List.getElem?_toArray, List.getElem?_cons_zero, List.getElem?_cons_succ] at c_r_0 c_r_1 c_r_2 c_r_3 c_r_4 c_r_5
  have f_r := frozen_of_blk k_r_1
  have s_r := blk_lt k_r_1
  go_wp2_with fail
  refine (toldO_no _ _).mono ?_
  rintro e w2 ⟨rfl, hb2⟩
  have k_a_2 : w2.heap[w.heap.size]? = some (.cells #[.int .i64 (A.1), .int .i64 (A.2.1), .int .i64 (A.2.2.1), .int .i64 (A.2.2.2.1), .int .i64 (A.2.2.2.2.1), .int .i64 (A.2.2.2.2.2)] 51 (0, 0)) := blk_below k_a_1 hb2 (blk_lt k_a_1)
  have k_r_2 : w2.heap[w.heap.size + 1]? = some (.cells #[.int .i64 0, .int .i64 0, .int .i64 0, .int .i64 0, .int .i64 0, .int .i64 0] 51 (0, 0)) := blk_below k_r_1 hb2 (blk_lt k_r_1)
  have hw_2 : Below w.heap.size w w2 := stay_b hw_1 hb2
  clear c_a_0 c_a_1 c_a_2 c_a_3 c_a_4 c_a_5 f_a s_a c_r_0 c_r_1 c_r_2 c_r_3 c_r_4 c_r_5 f_r s_r k_a_1 k_r_1 hb2 hw_1
  have c_a_0 := cell_of_blk k_a_2 0
  have c_a_1 := cell_of_blk k_a_2 1
  have c_a_2 := cell_of_blk k_a_2 2
  have c_a_3 := cell_of_blk k_a_2 3
  have c_a_4 := cell_of_blk k_a_2 4
  have c_a_5 := cell_of_blk k_a_2 5
  simp only [List.getElem?_toArray, List.getElem?_cons_zero, List.getElem?_cons_succ] at c_a_0 c_a_1 c_a_2 c_a_3 c_a_4 c_a_5
  have f_a := frozen_of_blk k_a_2
  have s_a := blk_lt k_a_2
  have c_r_0 := cell_of_blk k_r_2 0
  have c_r_1 := cell_of_blk k_r_2 1
  have c_r_2 := cell_of_blk k_r_2 2
  have c_r_3 := cell_of_blk k_r_2 3
  have c_r_4 := cell_of_blk k_r_2 4
  have c_r_5 := cell_of_blk k_r_2 5
  simp only [List.getElem?_toArray, List.getElem?_cons_zero, List.getElem?_cons_succ] at c_r_0 c_r_1 c_r_2 c_r_3 c_r_4 c_r_5
  have f_r := frozen_of_blk k_r_2
  have s_r := blk_lt k_r_2
  go_wp2_with fail
  refine (fits_err (0, 0, 0, 0, 0, 0) 3 _ rfl).mono ?_
  rintro e w3 ⟨rfl, hb3⟩
  have k_a_3 : w3.heap[w.heap.size]? = some (.cells #[.int .i64 (A.1), .int .i64 (A.2.1), .int .i64 (A.2.2.1), .int .i64 (A.2.2.2.1), .int .i64 (A.2.2.2.2.1), .int .i64 (A.2.2.2.2.2)] 51 (0, 0)) := blk_below k_a_2 hb3 (blk_lt k_a_2)
  have k_r_3 : w3.heap[w.heap.size + 1]? = some (.cells #[.int .i64 0, .int .i64 0, .int .i64 0, .int .i64 0, .int .i64 0, .int .i64 0] 51 (0, 0)) := blk_below k_r_2 hb3 (blk_lt k_r_2)
  have hw_3 : Below w.heap.size w w3 := stay_b hw_2 hb3
  clear c_a_0 c_a_1 c_a_2 c_a_3 c_a_4 c_a_5 f_a s_a c_r_0 c_r_1 c_r_2 c_r_3 c_r_4 c_r_5 f_r s_r k_a_2 k_r_2 hb3 hw_2
  have c_a_0 := cell_of_blk k_a_3 0
  have c_a_1 := cell_of_blk k_a_3 1
  have c_a_2 := cell_of_blk k_a_3 2
  have c_a_3 := cell_of_blk k_a_3 3
  have c_a_4 := cell_of_blk k_a_3 4
  have c_a_5 := cell_of_blk k_a_3 5
  simp only [List.getElem?_toArray, List.getElem?_cons_zero, List.getElem?_cons_succ] at c_a_0 c_a_1 c_a_2 c_a_3 c_a_4 c_a_5
  have f_a := frozen_of_blk k_a_3
  have s_a := blk_lt k_a_3
  have c_r_0 := cell_of_blk k_r_3 0
  have c_r_1 := cell_of_blk k_r_3 1
  have c_r_2 := cell_of_blk k_r_3 2
  have c_r_3 := cell_of_blk k_r_3 3
  have c_r_4 := cell_of_blk k_r_3 4
  have c_r_5 := cell_of_blk k_r_3 5
  simp only [List.getElem?_toArray, List.getElem?_cons_zero, List.getElem?_cons_succ] at c_r_0 c_r_1 c_r_2 c_r_3 c_r_4 c_r_5
  have f_r := frozen_of_blk k_r_3
  have s_r := blk_lt k_r_3
  go_wp2
  have hge : w.heap.size ≤ w.heap.size + 1 := by omega
  exact bodyPost_ret (v := .tuple #[.agg #[.int .i64 0, .int .i64 0, .int .i64 0, .int .i64 0, .int .i64 0, .int .i64 0], .int .i64 3]) (by simp [results, Tryd.results23, go_sem, c_r_0, c_r_1, c_r_2, c_r_3, c_r_4, c_r_5]) rfl ⟨rfl, ((((((hw_3.setCell hge _).setCell hge _).setCell hge _).setCell hge _).setCell hge _).setCell hge _)⟩
set_option maxRecDepth 100000 in
set_option maxHeartbeats 3200000 in
theorem gback_big (A : V6) (w : World) (ha : mapMayB A = true) (hm : mapMayB (backV A) = false) :
    Calls Tryd.prog 23 #[aggM A] w fun e w' => e = .returned (.tuple #[.agg #[.int .i64 0, .int .i64 0, .int .i64 0, .int .i64 0, .int .i64 0, .int .i64 0], .int .i64 2]) ∧ Below w.heap.size w w' := by
  obtain ⟨V, hV⟩ : ∃ a : V6, a = backV A := ⟨_, rfl⟩
  rw [← hV] at hm
  have HV := Lib.hid hV
  have HM := Lib.hid hm
  clear hV hm
  have HA := Lib.hid ha
  clear ha
  have hmf : ∀ (fn : Fn) (first cap : Array Value) (w : World), (Instr.makeFunc fn first cap).run Tryd.prog w = .ok (.func fn first cap) w := fun _ _ _ _ => rfl
  go_enter Tryd.func23, Tryd.ntmps23
  go_wp2_with fail
  refine (mapMay_V A _).mono ?_
  rintro e w1 ⟨rfl, hb1⟩
  rw [HA.out]
  have k_a_1 : w1.heap[w.heap.size]? = some (.cells #[.int .i64 (A.1), .int .i64 (A.2.1), .int .i64 (A.2.2.1), .int .i64 (A.2.2.2.1), .int .i64 (A.2.2.2.2.1), .int .i64 (A.2.2.2.2.2)] 51 (0, 0)) := blk_below (blk_alloc (new_blk (.cells #[.int .i64 (A.1), .int .i64 (A.2.1), .int .i64 (A.2.2.1), .int .i64 (A.2.2.2.1), .int .i64 (A.2.2.2.2.1), .int .i64 (A.2.2.2.2.2)] 51) (by first | rfl | (simp; done) | (simp; omega))) _) hb1 (by first | (simp; done) | (simp; omega))
  have k_r_1 : w1.heap[w.heap.size + 1]? = some (.cells #[.int .i64 0, .int .i64 0, .int .i64 0, .int .i64 0, .int .i64 0, .int .i64 0] 51 (0, 0)) := blk_below (new_blk (.cells #[.int .i64 0, .int .i64 0, .int .i64 0, .int .i64 0, .int .i64 0, .int .i64 0] 51) (by first | rfl | (simp; done) | (simp; omega))) hb1 (by first | (simp; done) | (simp; omega))
  have hw_1 : Below w.heap.size w w1 := stay_b (ba (ba (Below.refl _ _) _) _) hb1
  clear hb1
  have c_a_0 := cell_of_blk k_a_1 0
  have c_a_1 := cell_of_blk k_a_1 1
  have c_a_2 := cell_of_blk k_a_1 2
  have c_a_3 := cell_of_blk k_a_1 3
  have c_a_4 := cell_of_blk k_a_1 4
  have c_a_5 := cell_of_blk k_a_1 5
  simp only [List.getElem?_toArray, List.getElem?_cons_zero, List.getElem?_cons_succ] at c_a_0 c_a_1 c_a_2 c_a_3 c_a_4 c_a_5
  have f_a := frozen_of_blk k_a_1
  have s_a := blk_lt k_a_1
  have c_r_0 := cell_of_blk k_r_1 0
  have c_r_1 := cell_of_blk k_r_1 1
  have c_r_2 := cell_of_blk k_r_1 2
  have c_r_3 := cell_of_blk k_r_1 3
  have c_r_4 := cell_of_blk k_r_1 4
  have c_r_5 := cell_of_blk k_r_1 5
  simp only [List.getElem?_toArray, List.getElem?_cons_zero, List.getElem?_cons_succ] at c_r_0 c_r_1 c_r_2 c_r_3 c_r_4 c_r_5
  have f_r := frozen_of_blk k_r_1
  have s_r := blk_lt k_r_1
  have hc1 := back1_any A w.heap.size 0 (w1.alloc (.cells #[.int .i64 0, .int .i64 0, .int .i64 0, .int .i64 0, .int .i64 0, .int .i64 0] 51)) (blk_alloc k_a_1 _) HA.out
  rw [← HV.out] at hc1
  have HC1 := Lib.hid hc1
  clear hc1
  go_wp2_with fail
  refine (toldO_ok _ _ V.1 V.2.1 V.2.2.1 V.2.2.2.1 V.2.2.2.2.1 V.2.2.2.2.2 _ back1_enter HC1.out).mono ?_
  rintro e w2 ⟨rfl, hb2⟩
  have k_a_2 : w2.heap[w.heap.size]? = some (.cells #[.int .i64 (A.1), .int .i64 (A.2.1), .int .i64 (A.2.2.1), .int .i64 (A.2.2.2.1), .int .i64 (A.2.2.2.2.1), .int .i64 (A.2.2.2.2.2)] 51 (0, 0)) := blk_below k_a_1 hb2 (blk_lt k_a_1)
  have k_r_2 : w2.heap[w.heap.size + 1]? = some (.cells #[.int .i64 0, .int .i64 0, .int .i64 0, .int .i64 0, .int .i64 0, .int .i64 0] 51 (0, 0)) := blk_below k_r_1 hb2 (blk_lt k_r_1)
  have hw_2 : Below w.heap.size w w2 := stay_b hw_1 hb2
  clear c_a_0 c_a_1 c_a_2 c_a_3 c_a_4 c_a_5 f_a s_a c_r_0 c_r_1 c_r_2 c_r_3 c_r_4 c_r_5 f_r s_r k_a_1 k_r_1 hb2 hw_1
  have c_a_0 := cell_of_blk k_a_2 0
  have c_a_1 := cell_of_blk k_a_2 1
  have c_a_2 := cell_of_blk k_a_2 2
  have c_a_3 := cell_of_blk k_a_2 3
  have c_a_4 := cell_of_blk k_a_2 4
  have c_a_5 := cell_of_blk k_a_2 5
  simp only [List.getElem?_toArray, List.getElem?_cons_zero, List.getElem?_cons_succ] at c_a_0 c_a_1 c_a_2 c_a_3 c_a_4 c_a_5
  have f_a := frozen_of_blk k_a_2
  have s_a := blk_lt k_a_2
  have c_r_0 := cell_of_blk k_r_2 0
  have c_r_1 := cell_of_blk k_r_2 1
  have c_r_2 := cell_of_blk k_r_2 2
  have c_r_3 := cell_of_blk k_r_2 3
  have c_r_4 := cell_of_blk k_r_2 4
  have c_r_5 := cell_of_blk k_r_2 5
  simp only [List.getElem?_toArray, List.getElem?_cons_zero, List.getElem?_cons_succ] at c_r_0 c_r_1 c_r_2 c_r_3 c_r_4 c_r_5
  have f_r := frozen_of_blk k_r_2
  have s_r := blk_lt k_r_2
  go_wp2_with fail
  refine (fits_no V _ HM.out).mono ?_
  rintro e w3 ⟨he, hb3⟩
  simp only [M0] at he
  subst he
  have k_a_3 : w3.heap[w.heap.size]? = some (.cells #[.int .i64 (A.1), .int .i64 (A.2.1), .int .i64 (A.2.2.1), .int .i64 (A.2.2.2.1), .int .i64 (A.2.2.2.2.1), .int .i64 (A.2.2.2.2.2)] 51 (0, 0)) := blk_below k_a_2 hb3 (blk_lt k_a_2)
  have k_r_3 : w3.heap[w.heap.size + 1]? = some (.cells #[.int .i64 0, .int .i64 0, .int .i64 0, .int .i64 0, .int .i64 0, .int .i64 0] 51 (0, 0)) := blk_below k_r_2 hb3 (blk_lt k_r_2)
  have hw_3 : Below w.heap.size w w3 := stay_b hw_2 hb3
  clear c_a_0 c_a_1 c_a_2 c_a_3 c_a_4 c_a_5 f_a s_a c_r_0 c_r_1 c_r_2 c_r_3 c_r_4 c_r_5 f_r s_r k_a_2 k_r_2 hb3 hw_2
  have c_a_0 := cell_of_blk k_a_3 0
  have c_a_1 := cell_of_blk k_a_3 1
  have c_a_2 := cell_of_blk k_a_3 2
  have c_a_3 := cell_of_blk k_a_3 3
  have c_a_4 := cell_of_blk k_a_3 4
  have c_a_5 := cell_of_blk k_a_3 5
  simp only [List.getElem?_toArray, List.getElem?_cons_zero, List.getElem?_cons_succ] at c_a_0 c_a_1 c_a_2 c_a_3 c_a_4 c_a_5
  have f_a := frozen_of_blk k_a_3
  have s_a := blk_lt k_a_3
  have c_r_0 := cell_of_blk k_r_3 0
  have c_r_1 := cell_of_blk k_r_3 1
  have c_r_2 := cell_of_blk k_r_3 2
  have c_r_3 := cell_of_blk k_r_3 3
  have c_r_4 := cell_of_blk k_r_3 4
  have c_r_5 := cell_of_blk k_r_3 5
  simp only [List.getElem?_toArray, List.getElem?_cons_zero, List.getElem?_cons_succ] at c_r_0 c_r_1 c_r_2 c_r_3 c_r_4 c_r_5
  have f_r := frozen_of_blk k_r_3
  have s_r := blk_lt k_r_3
  go_wp2
  have hge : w.heap.size ≤ w.heap.size + 1 := by omega
  exact bodyPost_ret (v := .tuple #[.agg #[.int .i64 0, .int .i64 0, .int .i64 0, .int .i64 0, .int .i64 0, .int .i64 0], .int .i64 2]) (by simp [results, Tryd.results23, go_sem, c_r_0, c_r_1, c_r_2, c_r_3, c_r_4, c_r_5]) rfl ⟨rfl, ((((((hw_3.setCell hge _).setCell hge _).setCell hge _).setCell hge _).setCell hge _).setCell hge _)⟩
set_option maxRecDepth 100000 in
set_option maxHeartbeats 3200000 in
theorem gback_ok (A : V6) (w : World) (ha : mapMayB A = true) (hm : mapMayB (backV A) = true) :
    Calls Tryd.prog 23 #[aggM A] w fun e w' => e = .returned (.tuple #[aggM (backV A), .int .i64 0]) ∧ Below w.heap.size w w' := by
  obtain ⟨V, hV⟩ : ∃ a : V6, a = backV A := ⟨_, rfl⟩
  rw [← hV] at hm
  have HV := Lib.hid hV
  have HM := Lib.hid hm
  clear hV hm
  have HA := Lib.hid ha
  clear ha
  have hmf : ∀ (fn : Fn) (first cap : Array Value) (w : World), (Instr.makeFunc fn first cap).run Tryd.prog w = .ok (.func fn first cap) w := fun _ _ _ _ => rfl
  go_enter Tryd.func23, Tryd.ntmps23
  go_wp2_with fail
  refine (mapMay_V A _).mono ?_
  rintro e w1 ⟨rfl, hb1⟩
  rw [HA.out]
  have k_a_1 : w1.heap[w.heap.size]? = some (.cells #[.int .i64 (A.1), .int .i64 (A.2.1), .int .i64 (A.2.2.1), .int .i64 (A.2.2.2.1), .int .i64 (A.2.2.2.2.1), .int .i64 (A.2.2.2.2.2)] 51 (0, 0)) := blk_below (blk_alloc (new_blk (.cells #[.int .i64 (A.1), .int .i64 (A.2.1), .int .i64 (A.2.2.1), .int .i64 (A.2.2.2.1), .int .i64 (A.2.2.2.2.1), .int .i64 (A.2.2.2.2.2)] 51) (by first | rfl | (simp; done) | (simp; omega))) _) hb1 (by first | (simp; done) | (simp; omega))
  have k_r_1 : w1.heap[w.heap.size + 1]? = some (.cells #[.int .i64 0, .int .i64 0, .int .i64 0, .int .i64 0, .int .i64 0, .int .i64 0] 51 (0, 0)) := blk_below (new_blk (.cells #[.int .i64 0, .int .i64 0, .int .i64 0, .int .i64 0, .int .i64 0, .int .i64 0] 51) (by first | rfl | (simp; done) | (simp; omega))) hb1 (by first | (simp; done) | (simp; omega))
  have hw_1 : Below w.heap.size w w1 := stay_b (ba (ba (Below.refl _ _) _) _) hb1
  clear hb1
  have c_a_0 := cell_of_blk k_a_1 0
  have c_a_1 := cell_of_blk k_a_1 1
  have c_a_2 := cell_of_blk k_a_1 2
  have c_a_3 := cell_of_blk k_a_1 3
  have c_a_4 := cell_of_blk k_a_1 4
  have c_a_5 := cell_of_blk k_a_1 5
  simp only [List.getElem?_toArray, List.getElem?_cons_zero, List.getElem?_cons_succ] at c_a_0 c_a_1 c_a_2 c_a_3 c_a_4 c_a_5
  have f_a := frozen_of_blk k_a_1
  have s_a := blk_lt k_a_1
  have c_r_0 := cell_of_blk k_r_1 0
  have c_r_1 := cell_of_blk k_r_1 1
  have c_r_2 := cell_of_blk k_r_1 2
  have c_r_3 := cell_of_blk k_r_1 3
  have c_r_4 := cell_of_blk k_r_1 4
  have c_r_5 := cell_of_blk k_r_1 5
  simp only [List.getElem?_toArray, List.getElem?_cons_zero, List.getElem?_cons_succ] at c_r_0 c_r_1 c_r_2 c_r_3 c_r_4 c_r_5
  have f_r := frozen_of_blk k_r_1
  have s_r := blk_lt k_r_1
  have hc1 := back1_any A w.heap.size 0 (w1.alloc (.cells #[.int .i64 0, .int .i64 0, .int .i64 0, .int .i64 0, .int .i64 0, .int .i64 0] 51)) (blk_alloc k_a_1 _) HA.out
  rw [← HV.out] at hc1
  have HC1 := Lib.hid hc1
  clear hc1
  go_wp2_with fail
  refine (toldO_ok _ _ V.1 V.2.1 V.2.2.1 V.2.2.2.1 V.2.2.2.2.1 V.2.2.2.2.2 _ back1_enter HC1.out).mono ?_
  rintro e w2 ⟨rfl, hb2⟩
  have k_a_2 : w2.heap[w.heap.size]? = some (.cells #[.int .i64 (A.1), .int .i64 (A.2.1), .int .i64 (A.2.2.1), .int .i64 (A.2.2.2.1), .int .i64 (A.2.2.2.2.1), .int .i64 (A.2.2.2.2.2)] 51 (0, 0)) := blk_below k_a_1 hb2 (blk_lt k_a_1)
  have k_r_2 : w2.heap[w.heap.size + 1]? = some (.cells #[.int .i64 0, .int .i64 0, .int .i64 0, .int .i64 0, .int .i64 0, .int .i64 0] 51 (0, 0)) := blk_below k_r_1 hb2 (blk_lt k_r_1)
  have hw_2 : Below w.heap.size w w2 := stay_b hw_1 hb2
  clear c_a_0 c_a_1 c_a_2 c_a_3 c_a_4 c_a_5 f_a s_a c_r_0 c_r_1 c_r_2 c_r_3 c_r_4 c_r_5 f_r s_r k_a_1 k_r_1 hb2 hw_1
  have c_a_0 := cell_of_blk k_a_2 0
  have c_a_1 := cell_of_blk k_a_2 1
  have c_a_2 := cell_of_blk k_a_2 2
  have c_a_3 := cell_of_blk k_a_2 3
  have c_a_4 := cell_of_blk k_a_2 4
  have c_a_5 := cell_of_blk k_a_2 5
  simp only [List.getElem?_toArray, List.getElem?_cons_zero, List.getElem?_cons_succ] at c_a_0 c_a_1 c_a_2 c_a_3 c_a_4 c_a_5
  have f_a := frozen_of_blk k_a_2
  have s_a := blk_lt k_a_2
  have c_r_0 := cell_of_blk k_r_2 0
  have c_r_1 := cell_of_blk k_r_2 1
  have c_r_2 := cell_of_blk k_r_2 2
  have c_r_3 := cell_of_blk k_r_2 3
  have c_r_4 := cell_of_blk k_r_2 4
  have c_r_5 := cell_of_blk k_r_2 5
  simp only [List.getElem?_toArray, List.getElem?_cons_zero, List.getElem?_cons_succ] at c_r_0 c_r_1 c_r_2 c_r_3 c_r_4 c_r_5
  have f_r := frozen_of_blk k_r_2
  have s_r := blk_lt k_r_2
  go_wp2_with fail
  refine (fits_ok V _ HM.out).mono ?_
  rintro e w3 ⟨rfl, hb3⟩
  have k_a_3 : w3.heap[w.heap.size]? = some (.cells #[.int .i64 (A.1), .int .i64 (A.2.1), .int .i64 (A.2.2.1), .int .i64 (A.2.2.2.1), .int .i64 (A.2.2.2.2.1), .int .i64 (A.2.2.2.2.2)] 51 (0, 0)) := blk_below k_a_2 hb3 (blk_lt k_a_2)
  have k_r_3 : w3.heap[w.heap.size + 1]? = some (.cells #[.int .i64 0, .int .i64 0, .int .i64 0, .int .i64 0, .int .i64 0, .int .i64 0] 51 (0, 0)) := blk_below k_r_2 hb3 (blk_lt k_r_2)
  have hw_3 : Below w.heap.size w w3 := stay_b hw_2 hb3
  clear c_a_0 c_a_1 c_a_2 c_a_3 c_a_4 c_a_5 f_a s_a c_r_0 c_r_1 c_r_2 c_r_3 c_r_4 c_r_5 f_r s_r k_a_2 k_r_2 hb3 hw_2
  have c_a_0 := cell_of_blk k_a_3 0
  have c_a_1 := cell_of_blk k_a_3 1
  have c_a_2 := cell_of_blk k_a_3 2
  have c_a_3 := cell_of_blk k_a_3 3
  have c_a_4 := cell_of_blk k_a_3 4
  have c_a_5 := cell_of_blk k_a_3 5
  simp only [List.getElem?_toArray, List.getElem?_cons_zero, List.getElem?_cons_succ] at c_a_0 c_a_1 c_a_2 c_a_3 c_a_4 c_a_5
  have f_a := frozen_of_blk k_a_3
  have s_a := blk_lt k_a_3
  have c_r_0 := cell_of_blk k_r_3 0
  have c_r_1 := cell_of_blk k_r_3 1
  have c_r_2 := cell_of_blk k_r_3 2
  have c_r_3 := cell_of_blk k_r_3 3
  have c_r_4 := cell_of_blk k_r_3 4
  have c_r_5 := cell_of_blk k_r_3 5
  simp only [List.getElem?_toArray, List.getElem?_cons_zero, List.getElem?_cons_succ] at c_r_0 c_r_1 c_r_2 c_r_3 c_r_4 c_r_5
  have f_r := frozen_of_blk k_r_3
  have s_r := blk_lt k_r_3
  go_wp2
  have hge : w.heap.size ≤ w.heap.size + 1 := by omega
  exact bodyPost_ret (v := .tuple #[aggM V, .int .i64 0]) (by simp [results, Tryd.results23, go_sem, c_r_0, c_r_1, c_r_2, c_r_3, c_r_4, c_r_5]) rfl ⟨by rw [HV.out], ((((((hw_3.setCell hge _).setCell hge _).setCell hge _).setCell hge _).setCell hge _).setCell hge _)⟩
set_option maxRecDepth 100000 in
set_option maxHeartbeats 3200000 in
theorem gmove_noA (A : V6) (x y k : Int) (w : World) (ha : mapMayB A = false) :
    Calls Tryd.prog 24 #[aggM A, aggT x y k] w fun e w' => e = .returned (.tuple #[.agg #[.int .i64 0, .int .i64 0, .int .i64 0], .int .i64 3]) ∧ Below w.heap.size w w' := by
  have HA := Lib.hid ha
  clear ha
  have hmf : ∀ (fn : Fn) (first cap : Array Value) (w : World), (Instr.makeFunc fn first cap).run Tryd.prog w = .ok (.func fn first cap) w := fun _ _ _ _ => rfl
  go_enter Tryd.func24, Tryd.ntmps24
  go_wp2_with fail
  refine (mapMay_V A _).mono ?_
  rintro e w1 ⟨rfl, hb1⟩
  rw [HA.out]
  have k_a_1 : w1.heap[w.heap.size]? = some (.cells #[.int .i64 (A.1), .int .i64 (A.2.1), .int .i64 (A.2.2.1), .int .i64 (A.2.2.2.1), .int .i64 (A.2.2.2.2.1), .int .i64 (A.2.2.2.2.2)] 51 (0, 0)) := blk_below (blk_alloc (blk_alloc (new_blk (.cells #[.int .i64 (A.1), .int .i64 (A.2.1), .int .i64 (A.2.2.1), .int .i64 (A.2.2.2.1), .int .i64 (A.2.2.2.2.1), .int .i64 (A.2.2.2.2.2)] 51) (by first | rfl | (simp; done) | (simp; omega))) _) _) hb1 (by first | (simp; done) | (simp; omega))
  have k_t_1 : w1.heap[w.heap.size + 1]? = some (.cells #[.int .i64 x, .int .i64 y, .int .i64 k] 23 (0, 0)) := blk_below (blk_alloc (new_blk (.cells #[.int .i64 x, .int .i64 y, .int .i64 k] 23) (by first | rfl | (simp; done) | (simp; omega))) _) hb1 (by first | (simp; done) | (simp; omega))
  have k_r_1 : w1.heap[w.heap.size + 1 + 1]? = some (.cells #[.int .i64 0, .int .i64 0, .int .i64 0] 23 (0, 0)) := blk_below (new_blk (.cells #[.int .i64 0, .int .i64 0, .int .i64 0] 23) (by first | rfl | (simp; done) | (simp; omega))) hb1 (by first | (simp; done) | (simp; omega))
  have hw_1 : Below w.heap.size w w1 := stay_b (ba (ba (ba (Below.refl _ _) _) _) _) hb1
  clear hb1
  have c_a_0 := cell_of_blk k_a_1 0
  have c_a_1 := cell_of_blk k_a_1 1
  have c_a_2 := cell_of_blk k_a_1 2
  have c_a_3 := cell_of_blk k_a_1 3
  have c_a_4 := cell_of_blk k_a_1 4
  have c_a_5 := cell_of_blk k_a_1 5
  simp only [List.getElem?_toArray, List.getElem?_cons_zero, List.getElem?_cons_succ] at c_a_0 c_a_1 c_a_2 c_a_3 c_a_4 c_a_5
  have f_a := frozen_of_blk k_a_1
  have s_a := blk_lt k_a_1
  have c_t_0 := cell_of_blk k_t_1 0
  have c_t_1 := cell_of_blk k_t_1 1
  have c_t_2 := cell_of_blk k_t_1 2
  simp only [List.getElem?_toArray, List.getElem?_cons_zero, List.getElem?_cons_succ] at c_t_0 c_t_1 c_t_2
  have f_t := frozen_of_blk k_t_1
  have s_t := blk_lt k_t_1
  have c_r_0 := cell_of_blk k_r_1 0
  have c_r_1 := cell_of_blk k_r_1 1
  have c_r_2 := cell_of_blk k_r_1 2
  simp only [List.getElem?_toArray, List.getElem?_cons_zero, List.getElem?_cons_succ] at c_r_0 c_r_1 c_r_2
  have f_r := frozen_of_blk k_r_1
  have s_r := blk_lt k_r_1
  go_wp2_with fail
  refine (toldT_no _ _).mono ?_
  rintro e w2 ⟨rfl, hb2⟩
  have k_a_2 : w2.heap[w.heap.size]? = some (.cells #[.int .i64 (A.1), .int .i64 (A.2.1), .int .i64 (A.2.2.1), .int .i64 (A.2.2.2.1), .int .i64 (A.2.2.2.2.1), .int .i64 (A.2.2.2.2.2)] 51 (0, 0)) := blk_below k_a_1 hb2 (blk_lt k_a_1)
  have k_t_2 : w2.heap[w.heap.size + 1]? = some (.cells #[.int .i64 x, .int .i64 y, .int .i64 k] 23 (0, 0)) := blk_below k_t_1 hb2 (blk_lt k_t_1)
  have k_r_2 : w2.heap[w.heap.size + 1 + 1]? = some (.cells #[.int .i64 0, .int .i64 0, .int .i64 0] 23 (0, 0)) := blk_below k_r_1 hb2 (blk_lt k_r_1)
  have hw_2 : Below w.heap.size w w2 := stay_b hw_1 hb2
  clear c_a_0 c_a_1 c_a_2 c_a_3 c_a_4 c_a_5 f_a s_a c_t_0 c_t_1 c_t_2 f_t s_t c_r_0 c_r_1 c_r_2 f_r s_r k_a_1 k_t_1 k_r_1 hb2 hw_1
  have c_a_0 := cell_of_blk k_a_2 0
  have c_a_1 := cell_of_blk k_a_2 1
  have c_a_2 := cell_of_blk k_a_2 2
  have c_a_3 := cell_of_blk k_a_2 3
  have c_a_4 := cell_of_blk k_a_2 4
  have c_a_5 := cell_of_blk k_a_2 5
  simp only [List.getElem?_toArray, List.getElem?_cons_zero, List.getElem?_cons_succ] at c_a_0 c_a_1 c_a_2 c_a_3 c_a_4 c_a_5
  have f_a := frozen_of_blk k_a_2
  have s_a := blk_lt k_a_2
  have c_t_0 := cell_of_blk k_t_2 0
  have c_t_1 := cell_of_blk k_t_2 1
  have c_t_2 := cell_of_blk k_t_2 2
  simp only [List.getElem?_toArray, List.getElem?_cons_zero, List.getElem?_cons_succ] at c_t_0 c_t_1 c_t_2
  have f_t := frozen_of_blk k_t_2
  have s_t := blk_lt k_t_2
  have c_r_0 := cell_of_blk k_r_2 0
  have c_r_1 := cell_of_blk k_r_2 1
  have c_r_2 := cell_of_blk k_r_2 2
  simp only [List.getElem?_toArray, List.getElem?_cons_zero, List.getElem?_cons_succ] at c_r_0 c_r_1 c_r_2
  have f_r := frozen_of_blk k_r_2
  have s_r := blk_lt k_r_2
  go_wp2
  have hge : w.heap.size ≤ w.heap.size + 1 + 1 := by omega
  refine bodyPost_ret (v := .tuple #[.agg #[.int .i64 0, .int .i64 0, .int .i64 0], .int .i64 3]) (by simp [results, Tryd.results24, go_sem, c_r_0, c_r_1, c_r_2, World.cell?_alloc_lt, World.size_setCell, s_r]) rfl ⟨rfl, ?_⟩
  exact ba (set3_below hw_2 _ hge _ _ _) _
set_option maxRecDepth 100000 in
set_option maxHeartbeats 3200000 in
theorem gmove_noT (A : V6) (x y k : Int) (w : World) (ha : mapMayB A = true) (ht : triMayB x y k = false) :
    Calls Tryd.prog 24 #[aggM A, aggT x y k] w fun e w' => e = .returned (.tuple #[.agg #[.int .i64 0, .int .i64 0, .int .i64 0], .int .i64 3]) ∧ Below w.heap.size w w' := by
  have HA := Lib.hid ha
  clear ha
  have HT := Lib.hid ht
  clear ht
  have hmf : ∀ (fn : Fn) (first cap : Array Value) (w : World), (Instr.makeFunc fn first cap).run Tryd.prog w = .ok (.func fn first cap) w := fun _ _ _ _ => rfl
  go_enter Tryd.func24, Tryd.ntmps24
  go_wp2_with fail
  refine (mapMay_V A _).mono ?_
  rintro e w1 ⟨rfl, hb1⟩
  rw [HA.out]
  have k_a_1 : w1.heap[w.heap.size]? = some (.cells #[.int .i64 (A.1), .int .i64 (A.2.1), .int .i64 (A.2.2.1), .int .i64 (A.2.2.2.1), .int .i64 (A.2.2.2.2.1), .int .i64 (A.2.2.2.2.2)] 51 (0, 0)) := blk_below (blk_alloc (blk_alloc (new_blk (.cells #[.int .i64 (A.1), .int .i64 (A.2.1), .int .i64 (A.2.2.1), .int .i64 (A.2.2.2.1), .int .i64 (A.2.2.2.2.1), .int .i64 (A.2.2.2.2.2)] 51) (by first | rfl | (simp; done) | (simp; omega))) _) _) hb1 (by first | (simp; done) | (simp; omega))
  have k_t_1 : w1.heap[w.heap.size + 1]? = some (.cells #[.int .i64 x, .int .i64 y, .int .i64 k] 23 (0, 0)) := blk_below (blk_alloc (new_blk (.cells #[.int .i64 x, .int .i64 y, .int .i64 k] 23) (by first | rfl | (simp; done) | (simp; omega))) _) hb1 (by first | (simp; done) | (simp; omega))
  have k_r_1 : w1.heap[w.heap.size + 1 + 1]? = some (.cells #[.int .i64 0, .int .i64 0, .int .i64 0] 23 (0, 0)) := blk_below (new_blk (.cells #[.int .i64 0, .int .i64 0, .int .i64 0] 23) (by first | rfl | (simp; done) | (simp; omega))) hb1 (by first | (simp; done) | (simp; omega))
  have hw_1 : Below w.heap.size w w1 := stay_b (ba (ba (ba (Below.refl _ _) _) _) _) hb1
  clear hb1
  have c_a_0 := cell_of_blk k_a_1 0
  have c_a_1 := cell_of_blk k_a_1 1
  have c_a_2 := cell_of_blk k_a_1 2
  have c_a_3 := cell_of_blk k_a_1 3
  have c_a_4 := cell_of_blk k_a_1 4
  have c_a_5 := cell_of_blk k_a_1 5
  simp only [List.getElem?_toArray, List.getElem?_cons_zero, List.getElem?_cons_succ] at c_a_0 c_a_1 c_a_2 c_a_3 c_a_4 c_a_5
  have f_a := frozen_of_blk k_a_1
  have s_a := blk_lt k_a_1
  have c_t_0 := cell_of_blk k_t_1 0
  have c_t_1 := cell_of_blk k_t_1 1
  have c_t_2 := cell_of_blk k_t_1 2
  simp only [List.getElem?_toArray, List.getElem?_cons_zero, List.getElem?_cons_succ] at c_t_0 c_t_1 c_t_2
  have f_t := frozen_of_blk k_t_1
  have s_t := blk_lt k_t_1
  have c_r_0 := cell_of_blk k_r_1 0
  have c_r_1 := cell_of_blk k_r_1 1
  have c_r_2 := cell_of_blk k_r_1 2
  simp only [List.getElem?_toArray, List.getElem?_cons_zero, List.getElem?_cons_succ] at c_r_0 c_r_1 c_r_2
  have f_r := frozen_of_blk k_r_1
  have s_r := blk_lt k_r_1
  go_wp2_with fail
  refine (triMay_any x y k _).mono ?_
  rintro e w2 ⟨rfl, hb2⟩
  rw [HT.out]
  have k_a_2 : w2.heap[w.heap.size]? = some (.cells #[.int .i64 (A.1), .int .i64 (A.2.1), .int .i64 (A.2.2.1), .int .i64 (A.2.2.2.1), .int .i64 (A.2.2.2.2.1), .int .i64 (A.2.2.2.2.2)] 51 (0, 0)) := blk_below k_a_1 hb2 (blk_lt k_a_1)
  have k_t_2 : w2.heap[w.heap.size + 1]? = some (.cells #[.int .i64 x, .int .i64 y, .int .i64 k] 23 (0, 0)) := blk_below k_t_1 hb2 (blk_lt k_t_1)
  have k_r_2 : w2.heap[w.heap.size + 1 + 1]? = some (.cells #[.int .i64 0, .int .i64 0, .int .i64 0] 23 (0, 0)) := blk_below k_r_1 hb2 (blk_lt k_r_1)
  have hw_2 : Below w.heap.size w w2 := stay_b hw_1 hb2
  clear c_a_0 c_a_1 c_a_2 c_a_3 c_a_4 c_a_5 f_a s_a c_t_0 c_t_1 c_t_2 f_t s_t c_r_0 c_r_1 c_r_2 f_r s_r k_a_1 k_t_1 k_r_1 hb2 hw_1
  have c_a_0 := cell_of_blk k_a_2 0
  have c_a_1 := cell_of_blk k_a_2 1
  have c_a_2 := cell_of_blk k_a_2 2
  have c_a_3 := cell_of_blk k_a_2 3
  have c_a_4 := cell_of_blk k_a_2 4
  have c_a_5 := cell_of_blk k_a_2 5
  simp only [List.getElem?_toArray, List.getElem?_cons_zero, List.getElem?_cons_succ] at c_a_0 c_a_1 c_a_2 c_a_3 c_a_4 c_a_5
  have f_a := frozen_of_blk k_a_2
  have s_a := blk_lt k_a_2
  have c_t_0 := cell_of_blk k_t_2 0
  have c_t_1 := cell_of_blk k_t_2 1
  have c_t_2 := cell_of_blk k_t_2 2
  simp only [List.getElem?_toArray, List.getElem?_cons_zero, List.getElem?_cons_succ] at c_t_0 c_t_1 c_t_2
  have f_t := frozen_of_blk k_t_2
  have s_t := blk_lt k_t_2
  have c_r_0 := cell_of_blk k_r_2 0
  have c_r_1 := cell_of_blk k_r_2 1
  have c_r_2 := cell_of_blk k_r_2 2
  simp only [List.getElem?_toArray, List.getElem?_cons_zero, List.getElem?_cons_succ] at c_r_0 c_r_1 c_r_2
  have f_r := frozen_of_blk k_r_2
  have s_r := blk_lt k_r_2
  go_wp2_with fail
  refine (toldT_no _ _).mono ?_
  rintro e w3 ⟨rfl, hb3⟩
  have k_a_3 : w3.heap[w.heap.size]? = some (.cells #[.int .i64 (A.1), .int .i64 (A.2.1), .int .i64 (A.2.2.1), .int .i64 (A.2.2.2.1), .int .i64 (A.2.2.2.2.1), .int .i64 (A.2.2.2.2.2)] 51 (0, 0)) := blk_below k_a_2 hb3 (blk_lt k_a_2)
  have k_t_3 : w3.heap[w.heap.size + 1]? = some (.cells #[.int .i64 x, .int .i64 y, .int .i64 k] 23 (0, 0)) := blk_below k_t_2 hb3 (blk_lt k_t_2)
  have k_r_3 : w3.heap[w.heap.size + 1 + 1]? = some (.cells #[.int .i64 0, .int .i64 0, .int .i64 0] 23 (0, 0)) := blk_below k_r_2 hb3 (blk_lt k_r_2)
  have hw_3 : Below w.heap.size w w3 := stay_b hw_2 hb3
  clear c_a_0 c_a_1 c_a_2 c_a_3 c_a_4 c_a_5 f_a s_a c_t_0 c_t_1 c_t_2 f_t s_t c_r_0 c_r_1 c_r_2 f_r s_r k_a_2 k_t_2 k_r_2 hb3 hw_2
  have c_a_0 := cell_of_blk k_a_3 0
  have c_a_1 := cell_of_blk k_a_3 1
  have c_a_2 := cell_of_blk k_a_3 2
  have c_a_3 := cell_of_blk k_a_3 3
  have c_a_4 := cell_of_blk k_a_3 4
  have c_a_5 := cell_of_blk k_a_3 5
  simp only [List.getElem?_toArray, List.getElem?_cons_zero, List.getElem?_cons_succ] at c_a_0 c_a_1 c_a_2 c_a_3 c_a_4 c_a_5
  have f_a := frozen_of_blk k_a_3
  have s_a := blk_lt k_a_3
  have c_t_0 := cell_of_blk k_t_3 0
  have c_t_1 := cell_of_blk k_t_3 1
  have c_t_2 := cell_of_blk k_t_3 2
  simp only [List.getElem?_toArray, List.getElem?_cons_zero, List.getElem?_cons_succ] at c_t_0 c_t_1 c_t_2
  have f_t := frozen_of_blk k_t_3
  have s_t := blk_lt k_t_3
  have c_r_0 := cell_of_blk k_r_3 0
  have c_r_1 := cell_of_blk k_r_3 1
  have c_r_2 := cell_of_blk k_r_3 2
  simp only [List.getElem?_toArray, List.getElem?_cons_zero, List.getElem?_cons_succ] at c_r_0 c_r_1 c_r_2
  have f_r := frozen_of_blk k_r_3
  have s_r := blk_lt k_r_3
  go_wp2
  have hge : w.heap.size ≤ w.heap.size + 1 + 1 := by omega
  refine bodyPost_ret (v := .tuple #[.agg #[.int .i64 0, .int .i64 0, .int .i64 0], .int .i64 3]) (by simp [results, Tryd.results24, go_sem, c_r_0, c_r_1, c_r_2, World.cell?_alloc_lt, World.size_setCell, s_r]) rfl ⟨rfl, ?_⟩
  exact ba (set3_below hw_3 _ hge _ _ _) _
set_option maxRecDepth 100000 in
set_option maxHeartbeats 3200000 in
theorem gmove_big (A : V6) (x y k : Int) (w : World) (hs : Steps w) (ha : mapMayB A = true) (ht : triMayB x y k = true) (hm : triMayB (moveV A x y k).1 (moveV A x y k).2.1 (moveV A x y k).2.2 = false) :
    Calls Tryd.prog 24 #[aggM A, aggT x y k] w fun e w' => e = .returned (.tuple #[.agg #[.int .i64 0, .int .i64 0, .int .i64 0], .int .i64 2]) ∧ Below w.heap.size w w' := by
  obtain ⟨V, hV⟩ : ∃ a : T3, a = moveV A x y k := ⟨_, rfl⟩
  rw [← hV] at hm
  have HV := Lib.hid hV
  have HM := Lib.hid hm
  clear hV hm
  have HA := Lib.hid ha
  clear ha
  have HT := Lib.hid ht
  clear ht
  have hmf : ∀ (fn : Fn) (first cap : Array Value) (w : World), (Instr.makeFunc fn first cap).run Tryd.prog w = .ok (.func fn first cap) w := fun _ _ _ _ => rfl
  go_enter Tryd.func24, Tryd.ntmps24
  go_wp2_with fail
  refine (mapMay_V A _).mono ?_
  rintro e w1 ⟨rfl, hb1⟩
  rw [HA.out]
  have k_a_1 : w1.heap[w.heap.size]? = some (.cells #[.int .i64 (A.1), .int .i64 (A.2.1), .int .i64 (A.2.2.1), .int .i64 (A.2.2.2.1), .int .i64 (A.2.2.2.2.1), .int .i64 (A.2.2.2.2.2)] 51 (0, 0)) := blk_below (blk_alloc (blk_alloc (new_blk (.cells #[.int .i64 (A.1), .int .i64 (A.2.1), .int .i64 (A.2.2.1), .int .i64 (A.2.2.2.1), .int .i64 (A.2.2.2.2.1), .int .i64 (A.2.2.2.2.2)] 51) (by first | rfl | (simp; done) | (simp; omega))) _) _) hb1 (by first | (simp; done) | (simp; omega))
  have k_t_1 : w1.heap[w.heap.size + 1]? = some (.cells #[.int .i64 x, .int .i64 y, .int .i64 k] 23 (0, 0)) := blk_below (blk_alloc (new_blk (.cells #[.int .i64 x, .int .i64 y, .int .i64 k] 23) (by first | rfl | (simp; done) | (simp; omega))) _) hb1 (by first | (simp; done) | (simp; omega))
  have k_r_1 : w1.heap[w.heap.size + 1 + 1]? = some (.cells #[.int .i64 0, .int .i64 0, .int .i64 0] 23 (0, 0)) := blk_below (new_blk (.cells #[.int .i64 0, .int .i64 0, .int .i64 0] 23) (by first | rfl | (simp; done) | (simp; omega))) hb1 (by first | (simp; done) | (simp; omega))
  have hw_1 : Below w.heap.size w w1 := stay_b (ba (ba (ba (Below.refl _ _) _) _) _) hb1
  have hs_1 := (((hs.alloc _).alloc _).alloc _).below hb1
  clear hb1
  have c_a_0 := cell_of_blk k_a_1 0
  have c_a_1 := cell_of_blk k_a_1 1
  have c_a_2 := cell_of_blk k_a_1 2
  have c_a_3 := cell_of_blk k_a_1 3
  have c_a_4 := cell_of_blk k_a_1 4
  have c_a_5 := cell_of_blk k_a_1 5
  simp only [List.getElem?_toArray, List.getElem?_cons_zero, List.getElem?_cons_succ] at c_a_0 c_a_1 c_a_2 c_a_3 c_a_4 c_a_5
  have f_a := frozen_of_blk k_a_1
  have s_a := blk_lt k_a_1
  have c_t_0 := cell_of_blk k_t_1 0
  have c_t_1 := cell_of_blk k_t_1 1
  have c_t_2 := cell_of_blk k_t_1 2
  simp only [List.getElem?_toArray, List.getElem?_cons_zero, List.getElem?_cons_succ] at c_t_0 c_t_1 c_t_2
  have f_t := frozen_of_blk k_t_1
  have s_t := blk_lt k_t_1
  have c_r_0 := cell_of_blk k_r_1 0
  have c_r_1 := cell_of_blk k_r_1 1
  have c_r_2 := cell_of_blk k_r_1 2
  simp only [List.getElem?_toArray, List.getElem?_cons_zero, List.getElem?_cons_succ] at c_r_0 c_r_1 c_r_2
  have f_r := frozen_of_blk k_r_1
  have s_r := blk_lt k_r_1
  go_wp2_with fail
  refine (triMay_any x y k _).mono ?_
  rintro e w2 ⟨rfl, hb2⟩
  rw [HT.out]
  have k_a_2 : w2.heap[w.heap.size]? = some (.cells #[.int .i64 (A.1), .int .i64 (A.2.1), .int .i64 (A.2.2.1), .int .i64 (A.2.2.2.1), .int .i64 (A.2.2.2.2.1), .int .i64 (A.2.2.2.2.2)] 51 (0, 0)) := blk_below k_a_1 hb2 (blk_lt k_a_1)
  have k_t_2 : w2.heap[w.heap.size + 1]? = some (.cells #[.int .i64 x, .int .i64 y, .int .i64 k] 23 (0, 0)) := blk_below k_t_1 hb2 (blk_lt k_t_1)
  have k_r_2 : w2.heap[w.heap.size + 1 + 1]? = some (.cells #[.int .i64 0, .int .i64 0, .int .i64 0] 23 (0, 0)) := blk_below k_r_1 hb2 (blk_lt k_r_1)
  have hw_2 : Below w.heap.size w w2 := stay_b hw_1 hb2
  have hs_2 := hs_1.below hb2
  clear c_a_0 c_a_1 c_a_2 c_a_3 c_a_4 c_a_5 f_a s_a c_t_0 c_t_1 c_t_2 f_t s_t c_r_0 c_r_1 c_r_2 f_r s_r k_a_1 k_t_1 k_r_1 hb2 hw_1
  have c_a_0 := cell_of_blk k_a_2 0
  have c_a_1 := cell_of_blk k_a_2 1
  have c_a_2 := cell_of_blk k_a_2 2
  have c_a_3 := cell_of_blk k_a_2 3
  have c_a_4 := cell_of_blk k_a_2 4
  have c_a_5 := cell_of_blk k_a_2 5
  simp only [List.getElem?_toArray, List.getElem?_cons_zero, List.getElem?_cons_succ] at c_a_0 c_a_1 c_a_2 c_a_3 c_a_4 c_a_5
  have f_a := frozen_of_blk k_a_2
  have s_a := blk_lt k_a_2
  have c_t_0 := cell_of_blk k_t_2 0
  have c_t_1 := cell_of_blk k_t_2 1
  have c_t_2 := cell_of_blk k_t_2 2
  simp only [List.getElem?_toArray, List.getElem?_cons_zero, List.getElem?_cons_succ] at c_t_0 c_t_1 c_t_2
  have f_t := frozen_of_blk k_t_2
  have s_t := blk_lt k_t_2
  have c_r_0 := cell_of_blk k_r_2 0
  have c_r_1 := cell_of_blk k_r_2 1
  have c_r_2 := cell_of_blk k_r_2 2
  simp only [List.getElem?_toArray, List.getElem?_cons_zero, List.getElem?_cons_succ] at c_r_0 c_r_1 c_r_2
  have f_r := frozen_of_blk k_r_2
  have s_r := blk_lt k_r_2
  have hc1 := move1_any A x y k w.heap.size (w.heap.size + 1) (w2.alloc (.cells #[.int .i64 0, .int .i64 0, .int .i64 0] 23)) (blk_alloc k_a_2 _) (blk_alloc k_t_2 _) (hs_2.alloc _) HA.out HT.out
  rw [← HV.out] at hc1
  have HC1 := Lib.hid hc1
  clear hc1
  go_wp2_with fail
  refine (toldT_ok _ _ _ V.1 V.2.1 V.2.2 _ move1_enter HC1.out).mono ?_
  rintro e w3 ⟨rfl, hb3⟩
  have k_a_3 : w3.heap[w.heap.size]? = some (.cells #[.int .i64 (A.1), .int .i64 (A.2.1), .int .i64 (A.2.2.1), .int .i64 (A.2.2.2.1), .int .i64 (A.2.2.2.2.1), .int .i64 (A.2.2.2.2.2)] 51 (0, 0)) := blk_below k_a_2 hb3 (blk_lt k_a_2)
  have k_t_3 : w3.heap[w.heap.size + 1]? = some (.cells #[.int .i64 x, .int .i64 y, .int .i64 k] 23 (0, 0)) := blk_below k_t_2 hb3 (blk_lt k_t_2)
  have k_r_3 : w3.heap[w.heap.size + 1 + 1]? = some (.cells #[.int .i64 0, .int .i64 0, .int .i64 0] 23 (0, 0)) := blk_below k_r_2 hb3 (blk_lt k_r_2)
  have hw_3 : Below w.heap.size w w3 := stay_b hw_2 hb3
  have hs_3 := hs_2.below hb3
  clear c_a_0 c_a_1 c_a_2 c_a_3 c_a_4 c_a_5 f_a s_a c_t_0 c_t_1 c_t_2 f_t s_t c_r_0 c_r_1 c_r_2 f_r s_r k_a_2 k_t_2 k_r_2 hb3 hw_2
  have c_a_0 := cell_of_blk k_a_3 0
  have c_a_1 := cell_of_blk k_a_3 1
  have c_a_2 := cell_of_blk k_a_3 2
  have c_a_3 := cell_of_blk k_a_3 3
  have c_a_4 := cell_of_blk k_a_3 4
  have c_a_5 := cell_of_blk k_a_3 5
  simp only [List.getElem?_toArray, List.getElem?_cons_zero, List.getElem?_cons_succ] at c_a_0 c_a_1 c_a_2 c_a_3 c_a_4 c_a_5
  have f_a := frozen_of_blk k_a_3
  have s_a := blk_lt k_a_3
  have c_t_0 := cell_of_blk k_t_3 0
  have c_t_1 := cell_of_blk k_t_3 1
  have c_t_2 := cell_of_blk k_t_3 2
  simp only [List.getElem?_toArray, List.getElem?_cons_zero, List.getElem?_cons_succ] at c_t_0 c_t_1 c_t_2
  have f_t := frozen_of_blk k_t_3
  have s_t := blk_lt k_t_3
  have c_r_0 := cell_of_blk k_r_3 0
  have c_r_1 := cell_of_blk k_r_3 1
  have c_r_2 := cell_of_blk k_r_3 2
  simp only [List.getElem?_toArray, List.getElem?_cons_zero, List.getElem?_cons_succ] at c_r_0 c_r_1 c_r_2
  have f_r := frozen_of_blk k_r_3
  have s_r := blk_lt k_r_3
  go_wp2_with fail
  refine (triMay_any V.1 V.2.1 V.2.2 _).mono ?_
  rintro e w4 ⟨rfl, hb4⟩
  rw [HM.out]
  have k_a_4 : w4.heap[w.heap.size]? = some (.cells #[.int .i64 (A.1), .int .i64 (A.2.1), .int .i64 (A.2.2.1), .int .i64 (A.2.2.2.1), .int .i64 (A.2.2.2.2.1), .int .i64 (A.2.2.2.2.2)] 51 (0, 0)) := blk_below (blk_alloc k_a_3 _) hb4 (blk_lt (blk_alloc k_a_3 _))
  have k_t_4 : w4.heap[w.heap.size + 1]? = some (.cells #[.int .i64 x, .int .i64 y, .int .i64 k] 23 (0, 0)) := blk_below (blk_alloc k_t_3 _) hb4 (blk_lt (blk_alloc k_t_3 _))
  have k_r_4 : w4.heap[w.heap.size + 1 + 1]? = some (.cells #[.int .i64 0, .int .i64 0, .int .i64 0] 23 (0, 0)) := blk_below (blk_alloc k_r_3 _) hb4 (blk_lt (blk_alloc k_r_3 _))
  have k_u_4 : w4.heap[w3.heap.size]? = some (.cells #[.int .i64 (V.1), .int .i64 (V.2.1), .int .i64 (V.2.2)] 23 (0, 0)) := blk_below (new_blk (.cells #[.int .i64 (V.1), .int .i64 (V.2.1), .int .i64 (V.2.2)] 23) (by first | rfl | (simp; done) | (simp; omega))) hb4 (by first | (simp; done) | (simp; omega))
  have hw_4 : Below w.heap.size w w4 := stay_b (ba hw_3 _) hb4
  have hs_4 := (hs_3.alloc _).below hb4
  clear c_a_0 c_a_1 c_a_2 c_a_3 c_a_4 c_a_5 f_a s_a c_t_0 c_t_1 c_t_2 f_t s_t c_r_0 c_r_1 c_r_2 f_r s_r k_a_3 k_t_3 k_r_3 hb4 hw_3
  have c_a_0 := cell_of_blk k_a_4 0
  have c_a_1 := cell_of_blk k_a_4 1
  have c_a_2 := cell_of_blk k_a_4 2
  have c_a_3 := cell_of_blk k_a_4 3
  have c_a_4 := cell_of_blk k_a_4 4
  have c_a_5 := cell_of_blk k_a_4 5
  simp only [List.getElem?_toArray, List.getElem?_cons_zero, List.getElem?_cons_succ] at c_a_0 c_a_1 c_a_2 c_a_3 c_a_4 c_a_5
  have f_a := frozen_of_blk k_a_4
  have s_a := blk_lt k_a_4
  have c_t_0 := cell_of_blk k_t_4 0
  have c_t_1 := cell_of_blk k_t_4 1
  have c_t_2 := cell_of_blk k_t_4 2
  simp only [List.getElem?_toArray, List.getElem?_cons_zero, List.getElem?_cons_succ] at c_t_0 c_t_1 c_t_2
  have f_t := frozen_of_blk k_t_4
  have s_t := blk_lt k_t_4
  have c_r_0 := cell_of_blk k_r_4 0
  have c_r_1 := cell_of_blk k_r_4 1
  have c_r_2 := cell_of_blk k_r_4 2
  simp only [List.getElem?_toArray, List.getElem?_cons_zero, List.getElem?_cons_succ] at c_r_0 c_r_1 c_r_2
  have f_r := frozen_of_blk k_r_4
  have s_r := blk_lt k_r_4
  have c_u_0 := cell_of_blk k_u_4 0
  have c_u_1 := cell_of_blk k_u_4 1
  have c_u_2 := cell_of_blk k_u_4 2
  simp only [List.getElem?_toArray, List.getElem?_cons_zero, List.getElem?_cons_succ] at c_u_0 c_u_1 c_u_2
  have f_u := frozen_of_blk k_u_4
  have s_u := blk_lt k_u_4
  go_wp2
  have hge : w.heap.size ≤ w.heap.size + 1 + 1 := by omega
  refine bodyPost_ret (v := .tuple #[.agg #[.int .i64 0, .int .i64 0, .int .i64 0], .int .i64 2]) (by simp [results, Tryd.results24, go_sem, c_r_0, c_r_1, c_r_2]) rfl ⟨rfl, ?_⟩
  exact set3_below hw_4 _ hge _ _ _
set_option maxRecDepth 100000 in
set_option maxHeartbeats 3200000 in
theorem gmove_ok (A : V6) (x y k : Int) (w : World) (hs : Steps w) (ha : mapMayB A = true) (ht : triMayB x y k = true) (hm : triMayB (moveV A x y k).1 (moveV A x y k).2.1 (moveV A x y k).2.2 = true) :
    Calls Tryd.prog 24 #[aggM A, aggT x y k] w fun e w' => e = .returned (.tuple #[aggT3 (moveV A x y k), .int .i64 0]) ∧ Below w.heap.size w w' := by
  obtain ⟨V, hV⟩ : ∃ a : T3, a = moveV A x y k := ⟨_, rfl⟩
  rw [← hV] at hm
  have HV := Lib.hid hV
  have HM := Lib.hid hm
  clear hV hm
  have HA := Lib.hid ha
  clear ha
  have HT := Lib.hid ht
  clear ht
  have hmf : ∀ (fn : Fn) (first cap : Array Value) (w : World), (Instr.makeFunc fn first cap).run Tryd.prog w = .ok (.func fn first cap) w := fun _ _ _ _ => rfl
  go_enter Tryd.func24, Tryd.ntmps24
  go_wp2_with fail
  refine (mapMay_V A _).mono ?_
  rintro e w1 ⟨rfl, hb1⟩
  rw [HA.out]
  have k_a_1 : w1.heap[w.heap.size]? = some (.cells #[.int .i64 (A.1), .int .i64 (A.2.1), .int .i64 (A.2.2.1), .int .i64 (A.2.2.2.1), .int .i64 (A.2.2.2.2.1), .int .i64 (A.2.2.2.2.2)] 51 (0, 0)) := blk_below (blk_alloc (blk_alloc (new_blk (.cells #[.int .i64 (A.1), .int .i64 (A.2.1), .int .i64 (A.2.2.1), .int .i64 (A.2.2.2.1), .int .i64 (A.2.2.2.2.1), .int .i64 (A.2.2.2.2.2)] 51) (by first | rfl | (simp; done) | (simp; omega))) _) _) hb1 (by first | (simp; done) | (simp; omega))
  have k_t_1 : w1.heap[w.heap.size + 1]? = some (.cells #[.int .i64 x, .int .i64 y, .int .i64 k] 23 (0, 0)) := blk_below (blk_alloc (new_blk (.cells #[.int .i64 x, .int .i64 y, .int .i64 k] 23) (by first | rfl | (simp; done) | (simp; omega))) _) hb1 (by first | (simp; done) | (simp; omega))
  have k_r_1 : w1.heap[w.heap.size + 1 + 1]? = some (.cells #[.int .i64 0, .int .i64 0, .int .i64 0] 23 (0, 0)) := blk_below (new_blk (.cells #[.int .i64 0, .int .i64 0, .int .i64 0] 23) (by first | rfl | (simp; done) | (simp; omega))) hb1 (by first | (simp; done) | (simp; omega))
  have hw_1 : Below w.heap.size w w1 := stay_b (ba (ba (ba (Below.refl _ _) _) _) _) hb1
  have hs_1 := (((hs.alloc _).alloc _).alloc _).below hb1
  clear hb1
  have c_a_0 := cell_of_blk k_a_1 0
  have c_a_1 := cell_of_blk k_a_1 1
  have c_a_2 := cell_of_blk k_a_1 2
  have c_a_3 := cell_of_blk k_a_1 3
  have c_a_4 := cell_of_blk k_a_1 4
  have c_a_5 := cell_of_blk k_a_1 5
  simp only [List.getElem?_toArray, List.getElem?_cons_zero, List.getElem?_cons_succ] at c_a_0 c_a_1 c_a_2 c_a_3 c_a_4 c_a_5
  have f_a := frozen_of_blk k_a_1
  have s_a := blk_lt k_a_1
  have c_t_0 := cell_of_blk k_t_1 0
  have c_t_1 := cell_of_blk k_t_1 1
  have c_t_2 := cell_of_blk k_t_1 2
  simp only [List.getElem?_toArray, List.getElem?_cons_zero, List.getElem?_cons_succ] at c_t_0 c_t_1 c_t_2
  have f_t := frozen_of_blk k_t_1
  have s_t := blk_lt k_t_1
  have c_r_0 := cell_of_blk k_r_1 0
  have c_r_1 := cell_of_blk k_r_1 1
  have c_r_2 := cell_of_blk k_r_1 2
  simp only [List.getElem?_toArray, List.getElem?_cons_zero, List.getElem?_cons_succ] at c_r_0 c_r_1 c_r_2
  have f_r := frozen_of_blk k_r_1
  have s_r := blk_lt k_r_1
  go_wp2_with fail
  refine (triMay_any x y k _).mono ?_
  rintro e w2 ⟨rfl, hb2⟩
  rw [HT.out]
  have k_a_2 : w2.heap[w.heap.size]? = some (.cells #[.int .i64 (A.1), .int .i64 (A.2.1), .int .i64 (A.2.2.1), .int .i64 (A.2.2.2.1), .int .i64 (A.2.2.2.2.1), .int .i64 (A.2.2.2.2.2)] 51 (0, 0)) := blk_below k_a_1 hb2 (blk_lt k_a_1)
  have k_t_2 : w2.heap[w.heap.size + 1]? = some (.cells #[.int .i64 x, .int .i64 y, .int .i64 k] 23 (0, 0)) := blk_below k_t_1 hb2 (blk_lt k_t_1)
  have k_r_2 : w2.heap[w.heap.size + 1 + 1]? = some (.cells #[.int .i64 0, .int .i64 0, .int .i64 0] 23 (0, 0)) := blk_below k_r_1 hb2 (blk_lt k_r_1)
  have hw_2 : Below w.heap.size w w2 := stay_b hw_1 hb2
  have hs_2 := hs_1.below hb2
  clear c_a_0 c_a_1 c_a_2 c_a_3 c_a_4 c_a_5 f_a s_a c_t_0 c_t_1 c_t_2 f_t s_t c_r_0 c_r_1 c_r_2 f_r s_r k_a_1 k_t_1 k_r_1 hb2 hw_1
  have c_a_0 := cell_of_blk k_a_2 0
  have c_a_1 := cell_of_blk k_a_2 1
  have c_a_2 := cell_of_blk k_a_2 2
  have c_a_3 := cell_of_blk k_a_2 3
  have c_a_4 := cell_of_blk k_a_2 4
  have c_a_5 := cell_of_blk k_a_2 5
  simp only [List.getElem?_toArray, List.getElem?_cons_zero, List.getElem?_cons_succ] at c_a_0 c_a_1 c_a_2 c_a_3 c_a_4 c_a_5
  have f_a := frozen_of_blk k_a_2
  have s_a := blk_lt k_a_2
  have c_t_0 := cell_of_blk k_t_2 0
  have c_t_1 := cell_of_blk k_t_2 1
  have c_t_2 := cell_of_blk k_t_2 2
  simp only [List.getElem?_toArray, List.getElem?_cons_zero, List.getElem?_cons_succ] at c_t_0 c_t_1 c_t_2
  have f_t := frozen_of_blk k_t_2
  have s_t := blk_lt k_t_2
  have c_r_0 := cell_of_blk k_r_2 0
  have c_r_1 := cell_of_blk k_r_2 1
  have c_r_2 := cell_of_blk k_r_2 2
  simp only [List.getElem?_toArray, List.getElem?_cons_zero, List.getElem?_cons_succ] at c_r_0 c_r_1 c_r_2
  have f_r := frozen_of_blk k_r_2
  have s_r := blk_lt k_r_2
  have hc1 := move1_any A x y k w.heap.size (w.heap.size + 1) (w2.alloc (.cells #[.int .i64 0, .int .i64 0, .int .i64 0] 23)) (blk_alloc k_a_2 _) (blk_alloc k_t_2 _) (hs_2.alloc _) HA.out HT.out
  rw [← HV.out] at hc1
  have HC1 := Lib.hid hc1
  clear hc1
  go_wp2_with fail
  refine (toldT_ok _ _ _ V.1 V.2.1 V.2.2 _ move1_enter HC1.out).mono ?_
  rintro e w3 ⟨rfl, hb3⟩
  have k_a_3 : w3.heap[w.heap.size]? = some (.cells #[.int .i64 (A.1), .int .i64 (A.2.1), .int .i64 (A.2.2.1), .int .i64 (A.2.2.2.1), .int .i64 (A.2.2.2.2.1), .int .i64 (A.2.2.2.2.2)] 51 (0, 0)) := blk_below k_a_2 hb3 (blk_lt k_a_2)
  have k_t_3 : w3.heap[w.heap.size + 1]? = some (.cells #[.int .i64 x, .int .i64 y, .int .i64 k] 23 (0, 0)) := blk_below k_t_2 hb3 (blk_lt k_t_2)
  have k_r_3 : w3.heap[w.heap.size + 1 + 1]? = some (.cells #[.int .i64 0, .int .i64 0, .int .i64 0] 23 (0, 0)) := blk_below k_r_2 hb3 (blk_lt k_r_2)
  have hw_3 : Below w.heap.size w w3 := stay_b hw_2 hb3
  have hs_3 := hs_2.below hb3
  clear c_a_0 c_a_1 c_a_2 c_a_3 c_a_4 c_a_5 f_a s_a c_t_0 c_t_1 c_t_2 f_t s_t c_r_0 c_r_1 c_r_2 f_r s_r k_a_2 k_t_2 k_r_2 hb3 hw_2
  have c_a_0 := cell_of_blk k_a_3 0
  have c_a_1 := cell_of_blk k_a_3 1
  have c_a_2 := cell_of_blk k_a_3 2
  have c_a_3 := cell_of_blk k_a_3 3
  have c_a_4 := cell_of_blk k_a_3 4
  have c_a_5 := cell_of_blk k_a_3 5
  simp only [List.getElem?_toArray, List.getElem?_cons_zero, List.getElem?_cons_succ] at c_a_0 c_a_1 c_a_2 c_a_3 c_a_4 c_a_5
  have f_a := frozen_of_blk k_a_3
  have s_a := blk_lt k_a_3
  have c_t_0 := cell_of_blk k_t_3 0
  have c_t_1 := cell_of_blk k_t_3 1
  have c_t_2 := cell_of_blk k_t_3 2
  simp only [List.getElem?_toArray, List.getElem?_cons_zero, List.getElem?_cons_succ] at c_t_0 c_t_1 c_t_2
  have f_t := frozen_of_blk k_t_3
  have s_t := blk_lt k_t_3
  have c_r_0 := cell_of_blk k_r_3 0
  have c_r_1 := cell_of_blk k_r_3 1
  have c_r_2 := cell_of_blk k_r_3 2
  simp only [List.getElem?_toArray, List.getElem?_cons_zero, List.getElem?_cons_succ] at c_r_0 c_r_1 c_r_2
  have f_r := frozen_of_blk k_r_3
  have s_r := blk_lt k_r_3
  go_wp2_with fail
  refine (triMay_any V.1 V.2.1 V.2.2 _).mono ?_
  rintro e w4 ⟨rfl, hb4⟩
  rw [HM.out]
  have k_a_4 : w4.heap[w.heap.size]? = some (.cells #[.int .i64 (A.1), .int .i64 (A.2.1), .int .i64 (A.2.2.1), .int .i64 (A.2.2.2.1), .int .i64 (A.2.2.2.2.1), .int .i64 (A.2.2.2.2.2)] 51 (0, 0)) := blk_below (blk_alloc k_a_3 _) hb4 (blk_lt (blk_alloc k_a_3 _))
  have k_t_4 : w4.heap[w.heap.size + 1]? = some (.cells #[.int .i64 x, .int .i64 y, .int .i64 k] 23 (0, 0)) := blk_below (blk_alloc k_t_3 _) hb4 (blk_lt (blk_alloc k_t_3 _))
  have k_r_4 : w4.heap[w.heap.size + 1 + 1]? = some (.cells #[.int .i64 0, .int .i64 0, .int .i64 0] 23 (0, 0)) := blk_below (blk_alloc k_r_3 _) hb4 (blk_lt (blk_alloc k_r_3 _))
  have k_u_4 : w4.heap[w3.heap.size]? = some (.cells #[.int .i64 (V.1), .int .i64 (V.2.1), .int .i64 (V.2.2)] 23 (0, 0)) := blk_below (new_blk (.cells #[.int .i64 (V.1), .int .i64 (V.2.1), .int .i64 (V.2.2)] 23) (by first | rfl | (simp; done) | (simp; omega))) hb4 (by first | (simp; done) | (simp; omega))
  have hw_4 : Below w.heap.size w w4 := stay_b (ba hw_3 _) hb4
  have hs_4 := (hs_3.alloc _).below hb4
  clear c_a_0 c_a_1 c_a_2 c_a_3 c_a_4 c_a_5 f_a s_a c_t_0 c_t_1 c_t_2 f_t s_t c_r_0 c_r_1 c_r_2 f_r s_r k_a_3 k_t_3 k_r_3 hb4 hw_3
  have c_a_0 := cell_of_blk k_a_4 0
  have c_a_1 := cell_of_blk k_a_4 1
  have c_a_2 := cell_of_blk k_a_4 2
  have c_a_3 := cell_of_blk k_a_4 3
  have c_a_4 := cell_of_blk k_a_4 4
  have c_a_5 := cell_of_blk k_a_4 5
  simp only [List.getElem?_toArray, List.getElem?_cons_zero, List.getElem?_cons_succ] at c_a_0 c_a_1 c_a_2 c_a_3 c_a_4 c_a_5
  have f_a := frozen_of_blk k_a_4
  have s_a := blk_lt k_a_4
  have c_t_0 := cell_of_blk k_t_4 0
  have c_t_1 := cell_of_blk k_t_4 1
  have c_t_2 := cell_of_blk k_t_4 2
  simp only [List.getElem?_toArray, List.getElem?_cons_zero, List.getElem?_cons_succ] at c_t_0 c_t_1 c_t_2
  have f_t := frozen_of_blk k_t_4
  have s_t := blk_lt k_t_4
  have c_r_0 := cell_of_blk k_r_4 0
  have c_r_1 := cell_of_blk k_r_4 1
  have c_r_2 := cell_of_blk k_r_4 2
  simp only [List.getElem?_toArray, List.getElem?_cons_zero, List.getElem?_cons_succ] at c_r_0 c_r_1 c_r_2
  have f_r := frozen_of_blk k_r_4
  have s_r := blk_lt k_r_4
  have c_u_0 := cell_of_blk k_u_4 0
  have c_u_1 := cell_of_blk k_u_4 1
  have c_u_2 := cell_of_blk k_u_4 2
  simp only [List.getElem?_toArray, List.getElem?_cons_zero, List.getElem?_cons_succ] at c_u_0 c_u_1 c_u_2
  have f_u := frozen_of_blk k_u_4
  have s_u := blk_lt k_u_4
  go_wp2
  have hge : w.heap.size ≤ w.heap.size + 1 + 1 := by omega
  refine bodyPost_ret (v := .tuple #[aggT3 V, .int .i64 0]) (by simp [results, Tryd.results24, go_sem, c_r_0, c_r_1, c_r_2]) rfl ⟨by rw [HV.out], ?_⟩
  exact set3_below hw_4 _ hge _ _ _
end Go.Proofs.YthfhkmgegkhljaaDoor
