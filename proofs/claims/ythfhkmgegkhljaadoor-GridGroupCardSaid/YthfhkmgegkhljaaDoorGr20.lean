/- hasEdge; slices.Index over three edges. Printed by gen_gr20.py. -/
import Derived.Test.YthfhkmgegkhljaaDoorGr19
namespace Go.Proofs.YthfhkmgegkhljaaDoor
open Go.RowKit

def eqE4 (a b : E4) : Bool := eqL [(a.1, b.1), (a.2.1, b.2.1), (a.2.2.1, b.2.2.1), (a.2.2.2, b.2.2.2)]
theorem eqE4_iff (a b : E4) : eqE4 a b = true ↔ a = b := by
  obtain ⟨a1, a2, a3, a4⟩ := a
  obtain ⟨b1, b2, b3, b4⟩ := b
  simp [eqE4, eqL]
def hasE (x y k : Int) (m : E4) : Bool := eqE4 (edgeT x y k 0) m || eqE4 (edgeT x y k 1) m || eqE4 (edgeT x y k 2) m
def idxE (a b c m : E4) : Int := if eqE4 m a then 0 else if eqE4 m b then 1 else if eqE4 m c then 2 else -1
theorem qE (a b : E4) (w : World) : (binOp .eql 27 (aggE a) (aggE b)).run Tryd.prog w = .ok (.bool (eqE4 a b)) w := eqE ..

set_option maxRecDepth 100000 in
set_option maxHeartbeats 3200000 in
theorem has_0 (x y k : Int) (m : E4) (w : World) (x1 : -2000000 ≤ x) (x2 : x ≤ 2000000) (y1 : -2000000 ≤ y) (y2 : y ≤ 2000000) (k1 : 0 ≤ k) (k2 : k ≤ 3) (q0 : eqE4 (edgeT x y k 0) m = true) :
    Calls Tryd.prog 42 #[aggT x y k, aggE m] w fun e w' => e = .returned (.bool (true)) ∧ Below w.heap.size w w' := by
  obtain ⟨E0, hE0⟩ : ∃ a : E4, a = edgeT x y k 0 := ⟨_, rfl⟩
  have HE0 := Lib.hid hE0
  clear hE0
  obtain ⟨E1, hE1⟩ : ∃ a : E4, a = edgeT x y k 1 := ⟨_, rfl⟩
  have HE1 := Lib.hid hE1
  clear hE1
  obtain ⟨E2, hE2⟩ : ∃ a : E4, a = edgeT x y k 2 := ⟨_, rfl⟩
  have HE2 := Lib.hid hE2
  clear hE2
  rw [← HE0.out] at q0
  have Q0 := Lib.hid q0
  clear q0
  go_enter Tryd.func42, Tryd.ntmps42
  go_wp2_with fail
  refine (edgesOf_any x y k _ x1 x2 y1 y2 k1 k2).mono ?_
  rintro e w1 ⟨⟨g, he, hg⟩, hb1⟩
  subst he
  rw [← HE0.out, ← HE1.out, ← HE2.out] at hg
  have k_t_1 : w1.heap[w.heap.size]? = some (.cells #[.int .i64 x, .int .i64 y, .int .i64 k] 23 (0, 0)) := blk_below (blk_alloc (new_blk (.cells #[.int .i64 x, .int .i64 y, .int .i64 k] 23) (by first | rfl | (simp; done) | (simp; omega))) _) hb1 (by first | (simp; done) | (simp; omega))
  have k_e_1 : w1.heap[w.heap.size + 1]? = some (.cells #[.int .i64 (m.1), .int .i64 (m.2.1), .int .i64 (m.2.2.1), .int .i64 (m.2.2.2)] 27 (0, 0)) := blk_below (new_blk (.cells #[.int .i64 (m.1), .int .i64 (m.2.1), .int .i64 (m.2.2.1), .int .i64 (m.2.2.2)] 27) (by first | rfl | (simp; done) | (simp; omega))) hb1 (by first | (simp; done) | (simp; omega))
  have hw_1 : Below w.heap.size w w1 := stay_b (ba (ba (Below.refl _ _) _) _) hb1
  clear hb1
  have c_t_0 := cell_of_blk k_t_1 0
  have c_t_1 := cell_of_blk k_t_1 1
  have c_t_2 := cell_of_blk k_t_1 2
  simp only [List.getElem?_toArray, List.getElem?_cons_zero, List.getElem?_cons_succ] at c_t_0 c_t_1 c_t_2
  have f_t := frozen_of_blk k_t_1
  have s_t := blk_lt k_t_1
  have c_e_0 := cell_of_blk k_e_1 0
  have c_e_1 := cell_of_blk k_e_1 1
  have c_e_2 := cell_of_blk k_e_1 2
  have c_e_3 := cell_of_blk k_e_1 3
  simp only [List.getElem?_toArray, List.getElem?_cons_zero, List.getElem?_cons_succ] at c_e_0 c_e_1 c_e_2 c_e_3
  have f_e := frozen_of_blk k_e_1
  have s_e := blk_lt k_e_1
  have d0 := cell_of_blk hg 0
  have d1 := cell_of_blk hg 1
  have d2 := cell_of_blk hg 2
  have d3 := cell_of_blk hg 3
  have d4 := cell_of_blk hg 4
  have d5 := cell_of_blk hg 5
  have d6 := cell_of_blk hg 6
  have d7 := cell_of_blk hg 7
  have d8 := cell_of_blk hg 8
  have d9 := cell_of_blk hg 9
  have d10 := cell_of_blk hg 10
  have d11 := cell_of_blk hg 11
  simp only [List.getElem?_toArray, List.getElem?_cons_zero, List.getElem?_cons_succ] at d0 d1 d2 d3 d4 d5 d6 d7 d8 d9 d10 d11
  clear hg k_t_1 k_e_1
  have r0 : ∀ w : World, (binOp .eql 27 (aggE E0) (aggE m)).run Tryd.prog w = .ok (.bool true) w := fun w => by rw [qE, Q0.out]
  go_wp2_with fail
  go_quiet (fail)
  go_wp2
  go_ret
  exact ⟨rfl, below_drewN hw_1 _⟩
set_option maxRecDepth 100000 in
set_option maxHeartbeats 3200000 in
theorem has_1 (x y k : Int) (m : E4) (w : World) (x1 : -2000000 ≤ x) (x2 : x ≤ 2000000) (y1 : -2000000 ≤ y) (y2 : y ≤ 2000000) (k1 : 0 ≤ k) (k2 : k ≤ 3) (q0 : eqE4 (edgeT x y k 0) m = false) (q1 : eqE4 (edgeT x y k 1) m = true) :
    Calls Tryd.prog 42 #[aggT x y k, aggE m] w fun e w' => e = .returned (.bool (true)) ∧ Below w.heap.size w w' := by
  obtain ⟨E0, hE0⟩ : ∃ a : E4, a = edgeT x y k 0 := ⟨_, rfl⟩
  have HE0 := Lib.hid hE0
  clear hE0
  obtain ⟨E1, hE1⟩ : ∃ a : E4, a = edgeT x y k 1 := ⟨_, rfl⟩
  have HE1 := Lib.hid hE1
  clear hE1
  obtain ⟨E2, hE2⟩ : ∃ a : E4, a = edgeT x y k 2 := ⟨_, rfl⟩
  have HE2 := Lib.hid hE2
  clear hE2
  rw [← HE0.out] at q0
  rw [← HE1.out] at q1
  have Q0 := Lib.hid q0
  clear q0
  have Q1 := Lib.hid q1
  clear q1
  go_enter Tryd.func42, Tryd.ntmps42
  go_wp2_with fail
  refine (edgesOf_any x y k _ x1 x2 y1 y2 k1 k2).mono ?_
  rintro e w1 ⟨⟨g, he, hg⟩, hb1⟩
  subst he
  rw [← HE0.out, ← HE1.out, ← HE2.out] at hg
  have k_t_1 : w1.heap[w.heap.size]? = some (.cells #[.int .i64 x, .int .i64 y, .int .i64 k] 23 (0, 0)) := blk_below (blk_alloc (new_blk (.cells #[.int .i64 x, .int .i64 y, .int .i64 k] 23) (by first | rfl | (simp; done) | (simp; omega))) _) hb1 (by first | (simp; done) | (simp; omega))
  have k_e_1 : w1.heap[w.heap.size + 1]? = some (.cells #[.int .i64 (m.1), .int .i64 (m.2.1), .int .i64 (m.2.2.1), .int .i64 (m.2.2.2)] 27 (0, 0)) := blk_below (new_blk (.cells #[.int .i64 (m.1), .int .i64 (m.2.1), .int .i64 (m.2.2.1), .int .i64 (m.2.2.2)] 27) (by first | rfl | (simp; done) | (simp; omega))) hb1 (by first | (simp; done) | (simp; omega))
  have hw_1 : Below w.heap.size w w1 := stay_b (ba (ba (Below.refl _ _) _) _) hb1
  clear hb1
  have c_t_0 := cell_of_blk k_t_1 0
  have c_t_1 := cell_of_blk k_t_1 1
  have c_t_2 := cell_of_blk k_t_1 2
  simp only [List.getElem?_toArray, List.getElem?_cons_zero, List.getElem?_cons_succ] at c_t_0 c_t_1 c_t_2
  have f_t := frozen_of_blk k_t_1
  have s_t := blk_lt k_t_1
  have c_e_0 := cell_of_blk k_e_1 0
  have c_e_1 := cell_of_blk k_e_1 1
  have c_e_2 := cell_of_blk k_e_1 2
  have c_e_3 := cell_of_blk k_e_1 3
  simp only [List.getElem?_toArray, List.getElem?_cons_zero, List.getElem?_cons_succ] at c_e_0 c_e_1 c_e_2 c_e_3
  have f_e := frozen_of_blk k_e_1
  have s_e := blk_lt k_e_1
  have d0 := cell_of_blk hg 0
  have d1 := cell_of_blk hg 1
  have d2 := cell_of_blk hg 2
  have d3 := cell_of_blk hg 3
  have d4 := cell_of_blk hg 4
  have d5 := cell_of_blk hg 5
  have d6 := cell_of_blk hg 6
  have d7 := cell_of_blk hg 7
  have d8 := cell_of_blk hg 8
  have d9 := cell_of_blk hg 9
  have d10 := cell_of_blk hg 10
  have d11 := cell_of_blk hg 11
  simp only [List.getElem?_toArray, List.getElem?_cons_zero, List.getElem?_cons_succ] at d0 d1 d2 d3 d4 d5 d6 d7 d8 d9 d10 d11
  clear hg k_t_1 k_e_1
  have r0 : ∀ w : World, (binOp .eql 27 (aggE E0) (aggE m)).run Tryd.prog w = .ok (.bool false) w := fun w => by rw [qE, Q0.out]
  have r1 : ∀ w : World, (binOp .eql 27 (aggE E1) (aggE m)).run Tryd.prog w = .ok (.bool true) w := fun w => by rw [qE, Q1.out]
  go_wp2_with fail
  go_quiet (fail)
  go_wp2
  go_ret
  exact ⟨rfl, below_drewN hw_1 _⟩
set_option maxRecDepth 100000 in
set_option maxHeartbeats 3200000 in
theorem has_2 (x y k : Int) (m : E4) (w : World) (x1 : -2000000 ≤ x) (x2 : x ≤ 2000000) (y1 : -2000000 ≤ y) (y2 : y ≤ 2000000) (k1 : 0 ≤ k) (k2 : k ≤ 3) (q0 : eqE4 (edgeT x y k 0) m = false) (q1 : eqE4 (edgeT x y k 1) m = false) :
    Calls Tryd.prog 42 #[aggT x y k, aggE m] w fun e w' => e = .returned (.bool (eqE4 (edgeT x y k 2) m)) ∧ Below w.heap.size w w' := by
  obtain ⟨E0, hE0⟩ : ∃ a : E4, a = edgeT x y k 0 := ⟨_, rfl⟩
  have HE0 := Lib.hid hE0
  clear hE0
  obtain ⟨E1, hE1⟩ : ∃ a : E4, a = edgeT x y k 1 := ⟨_, rfl⟩
  have HE1 := Lib.hid hE1
  clear hE1
  obtain ⟨E2, hE2⟩ : ∃ a : E4, a = edgeT x y k 2 := ⟨_, rfl⟩
  have HE2 := Lib.hid hE2
  clear hE2
  rw [← HE0.out] at q0
  rw [← HE1.out] at q1
  rw [show eqE4 (edgeT x y k 2) m = eqE4 E2 m by rw [HE2.out]]
  have Q0 := Lib.hid q0
  clear q0
  have Q1 := Lib.hid q1
  clear q1
  go_enter Tryd.func42, Tryd.ntmps42
  go_wp2_with fail
  refine (edgesOf_any x y k _ x1 x2 y1 y2 k1 k2).mono ?_
  rintro e w1 ⟨⟨g, he, hg⟩, hb1⟩
  subst he
  rw [← HE0.out, ← HE1.out, ← HE2.out] at hg
  have k_t_1 : w1.heap[w.heap.size]? = some (.cells #[.int .i64 x, .int .i64 y, .int .i64 k] 23 (0, 0)) := blk_below (blk_alloc (new_blk (.cells #[.int .i64 x, .int .i64 y, .int .i64 k] 23) (by first | rfl | (simp; done) | (simp; omega))) _) hb1 (by first | (simp; done) | (simp; omega))
  have k_e_1 : w1.heap[w.heap.size + 1]? = some (.cells #[.int .i64 (m.1), .int .i64 (m.2.1), .int .i64 (m.2.2.1), .int .i64 (m.2.2.2)] 27 (0, 0)) := blk_below (new_blk (.cells #[.int .i64 (m.1), .int .i64 (m.2.1), .int .i64 (m.2.2.1), .int .i64 (m.2.2.2)] 27) (by first | rfl | (simp; done) | (simp; omega))) hb1 (by first | (simp; done) | (simp; omega))
  have hw_1 : Below w.heap.size w w1 := stay_b (ba (ba (Below.refl _ _) _) _) hb1
  clear hb1
  have c_t_0 := cell_of_blk k_t_1 0
  have c_t_1 := cell_of_blk k_t_1 1
  have c_t_2 := cell_of_blk k_t_1 2
  simp only [List.getElem?_toArray, List.getElem?_cons_zero, List.getElem?_cons_succ] at c_t_0 c_t_1 c_t_2
  have f_t := frozen_of_blk k_t_1
  have s_t := blk_lt k_t_1
  have c_e_0 := cell_of_blk k_e_1 0
  have c_e_1 := cell_of_blk k_e_1 1
  have c_e_2 := cell_of_blk k_e_1 2
  have c_e_3 := cell_of_blk k_e_1 3
  simp only [List.getElem?_toArray, List.getElem?_cons_zero, List.getElem?_cons_succ] at c_e_0 c_e_1 c_e_2 c_e_3
  have f_e := frozen_of_blk k_e_1
  have s_e := blk_lt k_e_1
  have d0 := cell_of_blk hg 0
  have d1 := cell_of_blk hg 1
  have d2 := cell_of_blk hg 2
  have d3 := cell_of_blk hg 3
  have d4 := cell_of_blk hg 4
  have d5 := cell_of_blk hg 5
  have d6 := cell_of_blk hg 6
  have d7 := cell_of_blk hg 7
  have d8 := cell_of_blk hg 8
  have d9 := cell_of_blk hg 9
  have d10 := cell_of_blk hg 10
  have d11 := cell_of_blk hg 11
  simp only [List.getElem?_toArray, List.getElem?_cons_zero, List.getElem?_cons_succ] at d0 d1 d2 d3 d4 d5 d6 d7 d8 d9 d10 d11
  clear hg k_t_1 k_e_1
  have r0 : ∀ w : World, (binOp .eql 27 (aggE E0) (aggE m)).run Tryd.prog w = .ok (.bool false) w := fun w => by rw [qE, Q0.out]
  have r1 : ∀ w : World, (binOp .eql 27 (aggE E1) (aggE m)).run Tryd.prog w = .ok (.bool false) w := fun w => by rw [qE, Q1.out]
  have r2 : ∀ w : World, (binOp .eql 27 (aggE E2) (aggE m)).run Tryd.prog w = .ok (.bool (eqE4 E2 m)) w := fun w => qE ..
  go_wp2_with fail
  go_quiet (fail)
  go_wp2
  go_ret
  exact ⟨rfl, below_drewN hw_1 _⟩
theorem has_any (x y k : Int) (m : E4) (w : World) (x1 : -2000000 ≤ x) (x2 : x ≤ 2000000) (y1 : -2000000 ≤ y) (y2 : y ≤ 2000000) (k1 : 0 ≤ k) (k2 : k ≤ 3) :
    Calls Tryd.prog 42 #[aggT x y k, aggE m] w fun e w' => e = .returned (.bool (hasE x y k m)) ∧ Below w.heap.size w w' := by
  unfold hasE
  cases q0 : eqE4 (edgeT x y k 0) m
  · cases q1 : eqE4 (edgeT x y k 1) m
    · exact has_2 x y k m w x1 x2 y1 y2 k1 k2 q0 q1
    · exact has_1 x y k m w x1 x2 y1 y2 k1 k2 q0 q1
  · exact has_0 x y k m w x1 x2 y1 y2 k1 k2 q0

end Go.Proofs.YthfhkmgegkhljaaDoor
