/- Equal points, edges and triangles; hasEdge; slices.Index over three edges. -/
import Derived.Test.YtbnkabmnenginaaGreatDoorK03
import Derived.Laws.StructEq
namespace Go.Proofs.YtbnkabmnenginaaGreatDoor
set_option linter.unusedSimpArgs false
set_option linter.unusedVariables false
section
section
open Go.RowKit
def eqL : List (Int × Int) → Bool
 | [] => true
 | (a, b) :: l => (a == b) && eqL l
theorem eqP (a0 a1 b0 b1 : Int) (w : World) : (binOp .eql 48 (.agg #[.int .i64 a0, .int .i64 a1]) (.agg #[.int .i64 b0, .int .i64 b1])).run Tryz.prog w = .ok (.bool (eqL [(a0, b0), (a1, b1)])) w := by
 simp [go_sem, eqL]
 repeat (first | rfl | (split <;> simp_all))
theorem eqE (a0 a1 a2 a3 b0 b1 b2 b3 : Int) (w : World) : (binOp .eql 50 (.agg #[.int .i64 a0, .int .i64 a1, .int .i64 a2, .int .i64 a3]) (.agg #[.int .i64 b0, .int .i64 b1, .int .i64 b2, .int .i64 b3])).run Tryz.prog w = .ok (.bool (eqL [(a0, b0), (a1, b1), (a2, b2), (a3, b3)])) w := by
 simp [go_sem, eqL]
 repeat (first | rfl | (split <;> simp_all))
theorem eqT (a0 a1 a2 b0 b1 b2 : Int) (w : World) : (binOp .eql 59 (.agg #[.int .i64 a0, .int .i64 a1, .int .i64 a2]) (.agg #[.int .i64 b0, .int .i64 b1, .int .i64 b2])).run Tryz.prog w = .ok (.bool (eqL [(a0, b0), (a1, b1), (a2, b2)])) w := by
 simp [go_sem, eqL]
 repeat (first | rfl | (split <;> simp_all))
theorem neT (a0 a1 a2 b0 b1 b2 : Int) (w : World) : (binOp .neq 59 (.agg #[.int .i64 a0, .int .i64 a1, .int .i64 a2]) (.agg #[.int .i64 b0, .int .i64 b1, .int .i64 b2])).run Tryz.prog w = .ok (.bool (!(eqL [(a0, b0), (a1, b1), (a2, b2)]))) w := by
 simp [go_sem, eqL]
 repeat (first | rfl | (split <;> simp_all))
end
section
open Go.RowKit
def eqE4 (a b : E4) : Bool := eqL [(a.1, b.1), (a.2.1, b.2.1), (a.2.2.1, b.2.2.1), (a.2.2.2, b.2.2.2)]
theorem eqE4_iff (a b : E4) : eqE4 a b = true ↔ a = b := by
 obtain ⟨a1, a2, a3, a4⟩ := a
 obtain ⟨b1, b2, b3, b4⟩ := b
 simp [eqE4, eqL]
def hasE (x y k : Int) (m : E4) : Bool := eqE4 (edgeT x y k 0) m || eqE4 (edgeT x y k 1) m || eqE4 (edgeT x y k 2) m
def idxE (a b c m : E4) : Int := if eqE4 m a then 0 else if eqE4 m b then 1 else if eqE4 m c then 2 else -1
theorem qE (a b : E4) (w : World) : (binOp .eql 50 (aggE a) (aggE b)).run Tryz.prog w = .ok (.bool (eqE4 a b)) w := eqE ..
set_option maxRecDepth 100000 in
set_option maxHeartbeats 3200000 in
theorem has_0 (x y k : Int) (m : E4) (w : World) (x1 : -2000000 ≤ x) (x2 : x ≤ 2000000) (y1 : -2000000 ≤ y) (y2 : y ≤ 2000000) (k1 : 0 ≤ k) (k2 : k ≤ 3) (q0 : eqE4 (edgeT x y k 0) m = true) :
  Calls Tryz.prog 38 #[aggT x y k, aggE m] w fun e w' => e = .returned (.bool (true)) ∧ Below w.heap.size w w' := by
 obtain ⟨E0, hE0⟩ : ∃ a : E4, a = edgeT x y k 0 := ⟨_, rfl⟩
 have HE0 := Lib.hid hE0
 clear hE0
 obtain ⟨E1, hE1⟩ : ∃ a : E4, a = edgeT x y k 1 := ⟨_, rfl⟩
 have HE1 := Lib.hid hE1
 clear hE1
 obtain ⟨E2, hE2⟩ : ∃ a : E4, a = edgeT x y k 2 := ⟨_, rfl⟩
 have HE2 := Lib.hid hE2
 clear hE2
 rw [← HE0.out] at q0
 have Q0 := Lib.hid q0
 clear q0
 go_enter Tryz.func38, Tryz.ntmps38
 go_wp2_with fail
 refine (edgesOf_any x y k _ x1 x2 y1 y2 k1 k2).mono ?_
 rintro e w1 ⟨⟨g, he, hg⟩, hb1⟩
 subst he
 rw [← HE0.out, ← HE1.out, ← HE2.out] at hg
 have k_t_1 : w1.heap[w.heap.size]? = some (.cells #[.int .i64 x, .int .i64 y, .int .i64 k] 59 (0, 0)) := blk_below (blk_alloc (new_blk (.cells #[.int .i64 x, .int .i64 y, .int .i64 k] 59) (by first | rfl | (simp; done) | (simp; omega))) _) hb1 (by first | (simp; done) | (simp; omega))
 have k_e_1 : w1.heap[w.heap.size + 1]? = some (.cells #[.int .i64 (m.1), .int .i64 (m.2.1), .int .i64 (m.2.2.1), .int .i64 (m.2.2.2)] 50 (0, 0)) := blk_below (new_blk (.cells #[.int .i64 (m.1), .int .i64 (m.2.1), .int .i64 (m.2.2.1), .int .i64 (m.2.2.2)] 50) (by first | rfl | (simp; done) | (simp; omega))) hb1 (by first | (simp; done) | (simp; omega))
 have hw_1 : Below w.heap.size w w1 := stay_b (ba (ba (Below.refl _ _) _) _) hb1
 clear hb1
 have c_t_0 := cell_of_blk k_t_1 0
 have c_t_1 := cell_of_blk k_t_1 1
 have c_t_2 := cell_of_blk k_t_1 2
 simp only [List.getElem?_toArray, List.getElem?_cons_zero, List.getElem?_cons_succ] at c_t_0 c_t_1 c_t_2
 have f_t := frozen_of_blk k_t_1
 have s_t := blk_lt k_t_1
 have c_e_0 := cell_of_blk k_e_1 0
 have c_e_1 := cell_of_blk k_e_1 1
 have c_e_2 := cell_of_blk k_e_1 2
 have c_e_3 := cell_of_blk k_e_1 3
 simp only [List.getElem?_toArray, List.getElem?_cons_zero, List.getElem?_cons_succ] at c_e_0 c_e_1 c_e_2 c_e_3
 have f_e := frozen_of_blk k_e_1
 have s_e := blk_lt k_e_1
 have d0 := cell_of_blk hg 0
 have d1 := cell_of_blk hg 1
 have d2 := cell_of_blk hg 2
 have d3 := cell_of_blk hg 3
 have d4 := cell_of_blk hg 4
 have d5 := cell_of_blk hg 5
 have d6 := cell_of_blk hg 6
 have d7 := cell_of_blk hg 7
 have d8 := cell_of_blk hg 8
 have d9 := cell_of_blk hg 9
 have d10 := cell_of_blk hg 10
 have d11 := cell_of_blk hg 11
 simp only [List.getElem?_toArray, List.getElem?_cons_zero, List.getElem?_cons_succ] at d0 d1 d2 d3 d4 d5 d6 d7 d8 d9 d10 d11
 clear hg k_t_1 k_e_1
 have r0 : ∀ w : World, (binOp .eql 50 (aggE E0) (aggE m)).run Tryz.prog w = .ok (.bool true) w := fun w => by rw [qE, Q0.out]
 go_wp2_with fail
 go_quiet (fail)
 go_wp2
 go_ret
 exact ⟨rfl, below_drewN hw_1 _⟩
set_option maxRecDepth 100000 in
set_option maxHeartbeats 3200000 in
theorem has_1 (x y k : Int) (m : E4) (w : World) (x1 : -2000000 ≤ x) (x2 : x ≤ 2000000) (y1 : -2000000 ≤ y) (y2 : y ≤ 2000000) (k1 : 0 ≤ k) (k2 : k ≤ 3) (q0 : eqE4 (edgeT x y k 0) m = false) (q1 : eqE4 (edgeT x y k 1) m = true) :
  Calls Tryz.prog 38 #[aggT x y k, aggE m] w fun e w' => e = .returned (.bool (true)) ∧ Below w.heap.size w w' := by
 obtain ⟨E0, hE0⟩ : ∃ a : E4, a = edgeT x y k 0 := ⟨_, rfl⟩
 have HE0 := Lib.hid hE0
 clear hE0
 obtain ⟨E1, hE1⟩ : ∃ a : E4, a = edgeT x y k 1 := ⟨_, rfl⟩
 have HE1 := Lib.hid hE1
 clear hE1
 obtain ⟨E2, hE2⟩ : ∃ a : E4, a = edgeT x y k 2 := ⟨_, rfl⟩
 have HE2 := Lib.hid hE2
 clear hE2
 rw [← HE0.out] at q0
 rw [← HE1.out] at q1
 have Q0 := Lib.hid q0
 clear q0
 have Q1 := Lib.hid q1
 clear q1
 go_enter Tryz.func38, Tryz.ntmps38
 go_wp2_with fail
 refine (edgesOf_any x y k _ x1 x2 y1 y2 k1 k2).mono ?_
 rintro e w1 ⟨⟨g, he, hg⟩, hb1⟩
 subst he
 rw [← HE0.out, ← HE1.out, ← HE2.out] at hg
 have k_t_1 : w1.heap[w.heap.size]? = some (.cells #[.int .i64 x, .int .i64 y, .int .i64 k] 59 (0, 0)) := blk_below (blk_alloc (new_blk (.cells #[.int .i64 x, .int .i64 y, .int .i64 k] 59) (by first | rfl | (simp; done) | (simp; omega))) _) hb1 (by first | (simp; done) | (simp; omega))
 have k_e_1 : w1.heap[w.heap.size + 1]? = some (.cells #[.int .i64 (m.1), .int .i64 (m.2.1), .int .i64 (m.2.2.1), .int .i64 (m.2.2.2)] 50 (0, 0)) := blk_below (new_blk (.cells #[.int .i64 (m.1), .int .i64 (m.2.1), .int .i64 (m.2.2.1), .int .i64 (m.2.2.2)] 50) (by first | rfl | (simp; done) | (simp; omega))) hb1 (by first | (simp; done) | (simp; omega))
 have hw_1 : Below w.heap.size w w1 := stay_b (ba (ba (Below.refl _ _) _) _) hb1
 clear hb1
 have c_t_0 := cell_of_blk k_t_1 0
 have c_t_1 := cell_of_blk k_t_1 1
 have c_t_2 := cell_of_blk k_t_1 2
 simp only [List.getElem?_toArray, List.getElem?_cons_zero, List.getElem?_cons_succ] at c_t_0 c_t_1 c_t_2
 have f_t := frozen_of_blk k_t_1
 have s_t := blk_lt k_t_1
 have c_e_0 := cell_of_blk k_e_1 0
 have c_e_1 := cell_of_blk k_e_1 1
 have c_e_2 := cell_of_blk k_e_1 2
 have c_e_3 := cell_of_blk k_e_1 3
 simp only [List.getElem?_toArray, List.getElem?_cons_zero, List.getElem?_cons_succ] at c_e_0 c_e_1 c_e_2 c_e_3
 have f_e := frozen_of_blk k_e_1
 have s_e := blk_lt k_e_1
 have d0 := cell_of_blk hg 0
 have d1 := cell_of_blk hg 1
 have d2 := cell_of_blk hg 2
 have d3 := cell_of_blk hg 3
 have d4 := cell_of_blk hg 4
 have d5 := cell_of_blk hg 5
 have d6 := cell_of_blk hg 6
 have d7 := cell_of_blk hg 7
 have d8 := cell_of_blk hg 8
 have d9 := cell_of_blk hg 9
 have d10 := cell_of_blk hg 10
 have d11 := cell_of_blk hg 11
 simp only [List.getElem?_toArray, List.getElem?_cons_zero, List.getElem?_cons_succ] at d0 d1 d2 d3 d4 d5 d6 d7 d8 d9 d10 d11
 clear hg k_t_1 k_e_1
 have r0 : ∀ w : World, (binOp .eql 50 (aggE E0) (aggE m)).run Tryz.prog w = .ok (.bool false) w := fun w => by rw [qE, Q0.out]
 have r1 : ∀ w : World, (binOp .eql 50 (aggE E1) (aggE m)).run Tryz.prog w = .ok (.bool true) w := fun w => by rw [qE, Q1.out]
 go_wp2_with fail
 go_quiet (fail)
 go_wp2
 go_ret
 exact ⟨rfl, below_drewN hw_1 _⟩
set_option maxRecDepth 100000 in
set_option maxHeartbeats 3200000 in
theorem has_2 (x y k : Int) (m : E4) (w : World) (x1 : -2000000 ≤ x) (x2 : x ≤ 2000000) (y1 : -2000000 ≤ y) (y2 : y ≤ 2000000) (k1 : 0 ≤ k) (k2 : k ≤ 3) (q0 : eqE4 (edgeT x y k 0) m = false) (q1 : eqE4 (edgeT x y k 1) m = false) :
  Calls Tryz.prog 38 #[aggT x y k, aggE m] w fun e w' => e = .returned (.bool (eqE4 (edgeT x y k 2) m)) ∧ Below w.heap.size w w' := by
 obtain ⟨E0, hE0⟩ : ∃ a : E4, a = edgeT x y k 0 := ⟨_, rfl⟩
 have HE0 := Lib.hid hE0
 clear hE0
 obtain ⟨E1, hE1⟩ : ∃ a : E4, a = edgeT x y k 1 := ⟨_, rfl⟩
 have HE1 := Lib.hid hE1
 clear hE1
 obtain ⟨E2, hE2⟩ : ∃ a : E4, a = edgeT x y k 2 := ⟨_, rfl⟩
 have HE2 := Lib.hid hE2
 clear hE2
 rw [← HE0.out] at q0
 rw [← HE1.out] at q1
 rw [show eqE4 (edgeT x y k 2) m = eqE4 E2 m by rw [HE2.out]]
 have Q0 := Lib.hid q0
 clear q0
 have Q1 := Lib.hid q1
 clear q1
 go_enter Tryz.func38, Tryz.ntmps38
 go_wp2_with fail
 refine (edgesOf_any x y k _ x1 x2 y1 y2 k1 k2).mono ?_
 rintro e w1 ⟨⟨g, he, hg⟩, hb1⟩
 subst he
 rw [← HE0.out, ← HE1.out, ← HE2.out] at hg
 have k_t_1 : w1.heap[w.heap.size]? = some (.cells #[.int .i64 x, .int .i64 y, .int .i64 k] 59 (0, 0)) := blk_below (blk_alloc (new_blk (.cells #[.int .i64 x, .int .i64 y, .int .i64 k] 59) (by first | rfl | (simp; done) | (simp; omega))) _) hb1 (by first | (simp; done) | (simp; omega))
 have k_e_1 : w1.heap[w.heap.size + 1]? = some (.cells #[.int .i64 (m.1), .int .i64 (m.2.1), .int .i64 (m.2.2.1), .int .i64 (m.2.2.2)] 50 (0, 0)) := blk_below (new_blk (.cells #[.int .i64 (m.1), .int .i64 (m.2.1), .int .i64 (m.2.2.1), .int .i64 (m.2.2.2)] 50) (by first | rfl | (simp; done) | (simp; omega))) hb1 (by first | (simp; done) | (simp; omega))
 have hw_1 : Below w.heap.size w w1 := stay_b (ba (ba (Below.refl _ _) _) _) hb1
 clear hb1
 have c_t_0 := cell_of_blk k_t_1 0
 have c_t_1 := cell_of_blk k_t_1 1
 have c_t_2 := cell_of_blk k_t_1 2
 simp only [List.getElem?_toArray, List.getElem?_cons_zero, List.getElem?_cons_succ] at c_t_0 c_t_1 c_t_2
 have f_t := frozen_of_blk k_t_1
 have s_t := blk_lt k_t_1
 have c_e_0 := cell_of_blk k_e_1 0
 have c_e_1 := cell_of_blk k_e_1 1
 have c_e_2 := cell_of_blk k_e_1 2
 have c_e_3 := cell_of_blk k_e_1 3
 simp only [List.getElem?_toArray, List.getElem?_cons_zero, List.getElem?_cons_succ] at c_e_0 c_e_1 c_e_2 c_e_3
 have f_e := frozen_of_blk k_e_1
 have s_e := blk_lt k_e_1
 have d0 := cell_of_blk hg 0
 have d1 := cell_of_blk hg 1
 have d2 := cell_of_blk hg 2
 have d3 := cell_of_blk hg 3
 have d4 := cell_of_blk hg 4
 have d5 := cell_of_blk hg 5
 have d6 := cell_of_blk hg 6
 have d7 := cell_of_blk hg 7
 have d8 := cell_of_blk hg 8
 have d9 := cell_of_blk hg 9
 have d10 := cell_of_blk hg 10
 have d11 := cell_of_blk hg 11
 simp only [List.getElem?_toArray, List.getElem?_cons_zero, List.getElem?_cons_succ] at d0 d1 d2 d3 d4 d5 d6 d7 d8 d9 d10 d11
 clear hg k_t_1 k_e_1
 have r0 : ∀ w : World, (binOp .eql 50 (aggE E0) (aggE m)).run Tryz.prog w = .ok (.bool false) w := fun w => by rw [qE, Q0.out]
 have r1 : ∀ w : World, (binOp .eql 50 (aggE E1) (aggE m)).run Tryz.prog w = .ok (.bool false) w := fun w => by rw [qE, Q1.out]
 have r2 : ∀ w : World, (binOp .eql 50 (aggE E2) (aggE m)).run Tryz.prog w = .ok (.bool (eqE4 E2 m)) w := fun w => qE ..
 go_wp2_with fail
 go_quiet (fail)
 go_wp2
 go_ret
 exact ⟨rfl, below_drewN hw_1 _⟩
theorem has_any (x y k : Int) (m : E4) (w : World) (x1 : -2000000 ≤ x) (x2 : x ≤ 2000000) (y1 : -2000000 ≤ y) (y2 : y ≤ 2000000) (k1 : 0 ≤ k) (k2 : k ≤ 3) :
  Calls Tryz.prog 38 #[aggT x y k, aggE m] w fun e w' => e = .returned (.bool (hasE x y k m)) ∧ Below w.heap.size w w' := by
 unfold hasE
 cases q0 : eqE4 (edgeT x y k 0) m
 ·cases q1 : eqE4 (edgeT x y k 1) m
  ·exact has_2 x y k m w x1 x2 y1 y2 k1 k2 q0 q1
  ·exact has_1 x y k m w x1 x2 y1 y2 k1 k2 q0 q1
 ·exact has_0 x y k m w x1 x2 y1 y2 k1 k2 q0
end
section
open Go.RowKit
set_option maxRecDepth 100000 in
set_option maxHeartbeats 3200000 in
theorem index3_any (a b c m : E4) (g : Nat) (w : World) (k_l_0 : w.heap[g]? = some (.cells #[.int .i64 (a.1), .int .i64 (a.2.1), .int .i64 (a.2.2.1), .int .i64 (a.2.2.2), .int .i64 (b.1), .int .i64 (b.2.1), .int .i64 (b.2.2.1), .int .i64 (b.2.2.2), .int .i64 (c.1), .int .i64 (c.2.1), .int .i64 (c.2.2.1), .int .i64 (c.2.2.2)] 98 (0, 0))) :
  Calls Tryz.prog 48 #[.slice (some ⟨g, 0, none⟩) 3 3, aggE m] w fun e w' => e = .returned (.int .i64 (idxE a b c m)) ∧ Below w.heap.size w w' := by
 obtain ⟨R, hR⟩ : ∃ R, R = idxE a b c m := ⟨_, rfl⟩
 rw [← hR]
 have HR : Hid ((eqE4 m a = true → R = 0) ∧ (eqE4 m a = false → eqE4 m b = true → R = 1) ∧ (eqE4 m a = false → eqE4 m b = false → eqE4 m c = true → R = 2) ∧ (eqE4 m a = false → eqE4 m b = false → eqE4 m c = false → R = -1)) := Lib.hid (by rw [hR]; refine ⟨?_, ?_, ?_, ?_⟩ <;> intros <;> simp [idxE, *])
 clear hR
 have hgl := blk_lt k_l_0
 have c0 := cell_of_blk k_l_0 0
 have c1 := cell_of_blk k_l_0 1
 have c2 := cell_of_blk k_l_0 2
 have c3 := cell_of_blk k_l_0 3
 have c4 := cell_of_blk k_l_0 4
 have c5 := cell_of_blk k_l_0 5
 have c6 := cell_of_blk k_l_0 6
 have c7 := cell_of_blk k_l_0 7
 have c8 := cell_of_blk k_l_0 8
 have c9 := cell_of_blk k_l_0 9
 have c10 := cell_of_blk k_l_0 10
 have c11 := cell_of_blk k_l_0 11
 simp only [List.getElem?_toArray, List.getElem?_cons_zero, List.getElem?_cons_succ] at c0 c1 c2 c3 c4 c5 c6 c7 c8 c9 c10 c11
 have c0 := al_c c0 (.cells #[.int .i64 (m.1), .int .i64 (m.2.1), .int .i64 (m.2.2.1), .int .i64 (m.2.2.2)] 50)
 have c1 := al_c c1 (.cells #[.int .i64 (m.1), .int .i64 (m.2.1), .int .i64 (m.2.2.1), .int .i64 (m.2.2.2)] 50)
 have c2 := al_c c2 (.cells #[.int .i64 (m.1), .int .i64 (m.2.1), .int .i64 (m.2.2.1), .int .i64 (m.2.2.2)] 50)
 have c3 := al_c c3 (.cells #[.int .i64 (m.1), .int .i64 (m.2.1), .int .i64 (m.2.2.1), .int .i64 (m.2.2.2)] 50)
 have c4 := al_c c4 (.cells #[.int .i64 (m.1), .int .i64 (m.2.1), .int .i64 (m.2.2.1), .int .i64 (m.2.2.2)] 50)
 have c5 := al_c c5 (.cells #[.int .i64 (m.1), .int .i64 (m.2.1), .int .i64 (m.2.2.1), .int .i64 (m.2.2.2)] 50)
 have c6 := al_c c6 (.cells #[.int .i64 (m.1), .int .i64 (m.2.1), .int .i64 (m.2.2.1), .int .i64 (m.2.2.2)] 50)
 have c7 := al_c c7 (.cells #[.int .i64 (m.1), .int .i64 (m.2.1), .int .i64 (m.2.2.1), .int .i64 (m.2.2.2)] 50)
 have c8 := al_c c8 (.cells #[.int .i64 (m.1), .int .i64 (m.2.1), .int .i64 (m.2.2.1), .int .i64 (m.2.2.2)] 50)
 have c9 := al_c c9 (.cells #[.int .i64 (m.1), .int .i64 (m.2.1), .int .i64 (m.2.2.1), .int .i64 (m.2.2.2)] 50)
 have c10 := al_c c10 (.cells #[.int .i64 (m.1), .int .i64 (m.2.1), .int .i64 (m.2.2.1), .int .i64 (m.2.2.2)] 50)
 have c11 := al_c c11 (.cells #[.int .i64 (m.1), .int .i64 (m.2.1), .int .i64 (m.2.2.1), .int .i64 (m.2.2.2)] 50)
 clear k_l_0
 have hb0 : Below w.heap.size w (w.alloc (.cells #[.int .i64 (m.1), .int .i64 (m.2.1), .int .i64 (m.2.2.1), .int .i64 (m.2.2.2)] 50)) := ba (Below.refl _ _) _
 have ke := heap_alloc_new w (.cells #[.int .i64 (m.1), .int .i64 (m.2.1), .int .i64 (m.2.2.1), .int .i64 (m.2.2.2)] 50)
 have e0 := cell_of_blk ke 0
 have e1 := cell_of_blk ke 1
 have e2 := cell_of_blk ke 2
 have e3 := cell_of_blk ke 3
 simp only [List.getElem?_toArray, List.getElem?_cons_zero, List.getElem?_cons_succ] at e0 e1 e2 e3
 clear ke
 have hge : w.heap.size ≤ w.heap.size := Nat.le_refl _
 go_enter Tryz.func48, Tryz.ntmps48
 go_wp2
 go_loopw [8] (fun i wr => ∃ n : Nat, n ≤ 3 ∧ i = .int .i64 n ∧ (0 < n → eqE4 m a = false) ∧ (1 < n → eqE4 m b = false) ∧ (2 < n → eqE4 m c = false) ∧ Below (w.alloc (.cells #[.int .i64 (m.1), .int .i64 (m.2.1), .int .i64 (m.2.2.1), .int .i64 (m.2.2.2)] 50)).heap.size (w.alloc (.cells #[.int .i64 (m.1), .int .i64 (m.2.1), .int .i64 (m.2.2.1), .int .i64 (m.2.2.2)] 50)) wr) (fun i _ => 3 - (intOf i).toNat)
 case atStart => exact ⟨0, by omega, rfl, by omega, by omega, by omega, Below.refl _ _⟩
 case round =>
  obtain ⟨n, hn, rfl, g0, g1, g2, hbel⟩ := hrel
  have c0 := sd c0 hbel
  have c1 := sd c1 hbel
  have c2 := sd c2 hbel
  have c3 := sd c3 hbel
  have c4 := sd c4 hbel
  have c5 := sd c5 hbel
  have c6 := sd c6 hbel
  have c7 := sd c7 hbel
  have c8 := sd c8 hbel
  have c9 := sd c9 hbel
  have c10 := sd c10 hbel
  have c11 := sd c11 hbel
  have e0 := sd e0 hbel
  have e1 := sd e1 hbel
  have e2 := sd e2 hbel
  have e3 := sd e3 hbel
  have hend : Below w.heap.size w wr := hb0.trans (hbel.mono hb0.size)
  have hn4 : n = 0 ∨ n = 1 ∨ n = 2 ∨ n = 3 := by omega
  rcases hn4 with rfl | rfl | rfl | rfl
  ·have G0 := Lib.hid g0
   have G1 := Lib.hid g1
   have G2 := Lib.hid g2
   clear g0 g1 g2
   rcases Bool.eq_false_or_eq_true (eqE4 m a) with q | q
   ·have Q := Lib.hid q
    clear q
    have r : ∀ w : World, (binOp .eql 50 (aggE m) (aggE a)).run Tryz.prog w = .ok (.bool true) w := fun w => by rw [qE, Q.out]
    go_wp2_with fail
    go_quiet (fail)
    go_wp2
    go_ret
    exact ⟨by rw [HR.out.1 Q.out]; rfl, below_drewN hend _⟩
   ·have Q := Lib.hid q
    clear q
    have r : ∀ w : World, (binOp .eql 50 (aggE m) (aggE a)).run Tryz.prog w = .ok (.bool false) w := fun w => by rw [qE, Q.out]
    go_wp2_with fail
    go_quiet (fail)
    go_wp2
    go_roundw
    case rel => exact ⟨1, by omega, rfl, (fun _ => Q.out), (fun h => absurd h (by omega)), (fun h => absurd h (by omega)), below_drewN hbel _⟩
    case measure => simp [intOf]
  ·have G0 := Lib.hid g0
   have G1 := Lib.hid g1
   have G2 := Lib.hid g2
   clear g0 g1 g2
   rcases Bool.eq_false_or_eq_true (eqE4 m b) with q | q
   ·have Q := Lib.hid q
    clear q
    have r : ∀ w : World, (binOp .eql 50 (aggE m) (aggE b)).run Tryz.prog w = .ok (.bool true) w := fun w => by rw [qE, Q.out]
    go_wp2_with fail
    go_quiet (fail)
    go_wp2
    go_ret
    exact ⟨by rw [HR.out.2.1 (G0.out (by omega)) Q.out]; rfl, below_drewN hend _⟩
   ·have Q := Lib.hid q
    clear q
    have r : ∀ w : World, (binOp .eql 50 (aggE m) (aggE b)).run Tryz.prog w = .ok (.bool false) w := fun w => by rw [qE, Q.out]
    go_wp2_with fail
    go_quiet (fail)
    go_wp2
    go_roundw
    case rel => exact ⟨2, by omega, rfl, (fun _ => G0.out (by omega)), (fun _ => Q.out), (fun h => absurd h (by omega)), below_drewN hbel _⟩
    case measure => simp [intOf]
  ·have G0 := Lib.hid g0
   have G1 := Lib.hid g1
   have G2 := Lib.hid g2
   clear g0 g1 g2
   rcases Bool.eq_false_or_eq_true (eqE4 m c) with q | q
   ·have Q := Lib.hid q
    clear q
    have r : ∀ w : World, (binOp .eql 50 (aggE m) (aggE c)).run Tryz.prog w = .ok (.bool true) w := fun w => by rw [qE, Q.out]
    go_wp2_with fail
    go_quiet (fail)
    go_wp2
    go_ret
    exact ⟨by rw [HR.out.2.2.1 (G0.out (by omega)) (G1.out (by omega)) Q.out]; rfl, below_drewN hend _⟩
   ·have Q := Lib.hid q
    clear q
    have r : ∀ w : World, (binOp .eql 50 (aggE m) (aggE c)).run Tryz.prog w = .ok (.bool false) w := fun w => by rw [qE, Q.out]
    go_wp2_with fail
    go_quiet (fail)
    go_wp2
    go_roundw
    case rel => exact ⟨3, by omega, rfl, (fun _ => G0.out (by omega)), (fun _ => G1.out (by omega)), (fun _ => Q.out), below_drewN hbel _⟩
    case measure => simp [intOf]
  ·have HL : Hid (R = -1) := Lib.hid (HR.out.2.2.2 (g0 (by omega)) (g1 (by omega)) (g2 (by omega)))
   clear g0 g1 g2
   go_wp2
   go_ret
   exact ⟨by rw [HL.out]; rfl, hend⟩
end
end
end Go.Proofs.YtbnkabmnenginaaGreatDoor
