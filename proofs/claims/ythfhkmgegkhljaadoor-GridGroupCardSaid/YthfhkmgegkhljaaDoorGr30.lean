/- A map at a point, in both layers; tile.After. Printed by gen_gr30.py. -/
import Derived.Test.YthfhkmgegkhljaaDoorGr29
import Derived.Test.YthfhkmgegkhljaaDoorGr22
namespace Go.Proofs.YthfhkmgegkhljaaDoor
set_option linter.unusedSimpArgs false
set_option linter.unusedVariables false
open Go.RowKit

theorem prod_bd {a x M : Int} (a1 : -1 ≤ a) (a2 : a ≤ 1) (x1 : -M ≤ x) (x2 : x ≤ M) : -M ≤ a * x ∧ a * x ≤ M := by
  have h : a = -1 ∨ a = 0 ∨ a = 1 := by omega
  rcases h with rfl | rfl | rfl <;> omega
/-- The numbers of a map are small. -/
structure Sm (a b c d e f : Int) : Prop where
  a1 : -1 ≤ a
  a2 : a ≤ 1
  b1 : -1 ≤ b
  b2 : b ≤ 1
  c1 : -1 ≤ c
  c2 : c ≤ 1
  d1 : -1 ≤ d
  d2 : d ≤ 1
  e1 : -1000000 ≤ e
  e2 : e ≤ 1000000
  f1 : -1000000 ≤ f
  f2 : f ≤ 1000000
theorem may_sm {m : V6} (h : mapMayB m = true) : Sm m.1 m.2.1 m.2.2.1 m.2.2.2.1 m.2.2.2.2.1 m.2.2.2.2.2 := by
  obtain ⟨a, b, c, d, e, f⟩ := m
  simp only [mapMayB, Bool.and_eq_true] at h
  have h1 := turned_ways h.1
  have h2 : (-1000000 ≤ e ∧ e ≤ 1000000) ∧ (-1000000 ≤ f ∧ f ≤ 1000000) := by
    have := h.2
    simp [tailB, inN] at this
    omega
  constructor <;> simp only <;> omega

set_option maxRecDepth 100000 in
set_option maxHeartbeats 1600000 in
theorem point_any (a b c d e f x y : Int) (w : World) (p0 : -4000000 ≤ a * x ∧ a * x ≤ 4000000) (p1 : -4000000 ≤ b * y ∧ b * y ≤ 4000000) (p2 : -4000000 ≤ c * x ∧ c * x ≤ 4000000) (p3 : -4000000 ≤ d * y ∧ d * y ≤ 4000000) (p4 : -4000000 ≤ e ∧ e ≤ 4000000) (p5 : -4000000 ≤ f ∧ f ≤ 4000000) :
    Calls Tryd.prog 68 #[.agg #[.int .i64 a, .int .i64 b, .int .i64 c, .int .i64 d, .int .i64 e, .int .i64 f], aggP x y] w fun e' w' => e' = .returned (aggP (a * x + b * y + e) (c * x + d * y + f)) ∧ Below w.heap.size w w' := by
  go_enter Tryd.func68, Tryd.ntmps68
  go_wp2
  refine bodyPost_ret (v := aggP (a * x + b * y + e) (c * x + d * y + f)) (by simp [results, Tryd.results68, go_sem]) rfl ⟨rfl, ?_⟩
  exact ba (ba (ba (Below.refl _ _) _) _) _
set_option maxRecDepth 100000 in
set_option maxHeartbeats 1600000 in
theorem pointOf_any (a b c d e f x y : Int) (w : World) (p0 : -4000000 ≤ a * x ∧ a * x ≤ 4000000) (p1 : -4000000 ≤ b * y ∧ b * y ≤ 4000000) (p2 : -4000000 ≤ c * x ∧ c * x ≤ 4000000) (p3 : -4000000 ≤ d * y ∧ d * y ≤ 4000000) (p4 : -4000000 ≤ e ∧ e ≤ 4000000) (p5 : -4000000 ≤ f ∧ f ≤ 4000000) :
    Calls Tryd.prog 60 #[.agg #[.int .i64 a, .int .i64 b, .int .i64 c, .int .i64 d, .int .i64 e, .int .i64 f], aggP x y] w fun e' w' => e' = .returned (aggP (a * x + b * y + e) (c * x + d * y + f)) ∧ Below w.heap.size w w' := by
  go_enter Tryd.func60, Tryd.ntmps60
  go_wp2
  refine bodyPost_ret (v := aggP (a * x + b * y + e) (c * x + d * y + f)) (by simp [results, Tryd.results60, go_sem]) rfl ⟨rfl, ?_⟩
  exact ba (ba (ba (Below.refl _ _) _) _) _
set_option maxRecDepth 100000 in
set_option maxHeartbeats 6400000 in
theorem after_any (p q r s e f P Q R S E F : Int) (w : World) (ha : Sm p q r s e f) (hb : Sm P Q R S E F) :
    Calls Tryd.prog 54 #[.agg #[.int .i64 p, .int .i64 q, .int .i64 r, .int .i64 s, .int .i64 e, .int .i64 f], .agg #[.int .i64 P, .int .i64 Q, .int .i64 R, .int .i64 S, .int .i64 E, .int .i64 F]] w fun e' w' => e' = .returned (.agg #[.int .i64 (P * p + Q * r), .int .i64 (P * q + Q * s), .int .i64 (R * p + S * r), .int .i64 (R * q + S * s), .int .i64 (P * e + Q * f + E), .int .i64 (R * e + S * f + F)]) ∧ Below w.heap.size w w' := by
  have o0 := prod_bd (M := 1) hb.a1 hb.a2 ha.a1 ha.a2
  have o1 := prod_bd (M := 1) hb.b1 hb.b2 ha.c1 ha.c2
  have o2 := prod_bd (M := 1) hb.a1 hb.a2 ha.b1 ha.b2
  have o3 := prod_bd (M := 1) hb.b1 hb.b2 ha.d1 ha.d2
  have o4 := prod_bd (M := 1) hb.c1 hb.c2 ha.a1 ha.a2
  have o5 := prod_bd (M := 1) hb.d1 hb.d2 ha.c1 ha.c2
  have o6 := prod_bd (M := 1) hb.c1 hb.c2 ha.b1 ha.b2
  have o7 := prod_bd (M := 1) hb.d1 hb.d2 ha.d1 ha.d2
  have u0 := prod_bd (M := 1000000) hb.a1 hb.a2 ha.e1 ha.e2
  have u1 := prod_bd (M := 1000000) hb.b1 hb.b2 ha.f1 ha.f2
  have u2 := prod_bd (M := 1000000) hb.c1 hb.c2 ha.e1 ha.e2
  have u3 := prod_bd (M := 1000000) hb.d1 hb.d2 ha.f1 ha.f2
  obtain ⟨_, _, _, _, _, _, _, _, e1, e2, f1, f2⟩ := ha
  obtain ⟨_, _, _, _, _, _, _, _, E1, E2, F1, F2⟩ := hb
  go_enter Tryd.func54, Tryd.ntmps54
  go_wp2_with fail
  refine (point_any P Q R S E F e f _ (by omega) (by omega) (by omega) (by omega) (by omega) (by omega)).mono ?_
  rintro e w1 ⟨rfl, hb1⟩
  have k_a_1 : w1.heap[w.heap.size]? = some (.cells #[.int .i64 p, .int .i64 q, .int .i64 r, .int .i64 s, .int .i64 e, .int .i64 f] 51 (0, 0)) := blk_below (blk_alloc (blk_alloc (new_blk (.cells #[.int .i64 p, .int .i64 q, .int .i64 r, .int .i64 s, .int .i64 e, .int .i64 f] 51) (by first | rfl | (simp; done) | (simp; omega))) _) _) hb1 (by first | (simp; done) | (simp; omega))
  have k_b_1 : w1.heap[w.heap.size + 1]? = some (.cells #[.int .i64 P, .int .i64 Q, .int .i64 R, .int .i64 S, .int .i64 E, .int .i64 F] 51 (0, 0)) := blk_below (blk_alloc (new_blk (.cells #[.int .i64 P, .int .i64 Q, .int .i64 R, .int .i64 S, .int .i64 E, .int .i64 F] 51) (by first | rfl | (simp; done) | (simp; omega))) _) hb1 (by first | (simp; done) | (simp; omega))
  have k_r_1 : w1.heap[w.heap.size + 1 + 1]? = some (.cells #[.int .i64 0, .int .i64 0, .int .i64 0, .int .i64 0, .int .i64 0, .int .i64 0] 51 (0, 0)) := blk_below (new_blk (.cells #[.int .i64 0, .int .i64 0, .int .i64 0, .int .i64 0, .int .i64 0, .int .i64 0] 51) (by first | rfl | (simp; done) | (simp; omega))) hb1 (by first | (simp; done) | (simp; omega))
  have hw_1 : Below w.heap.size w w1 := stay_b (ba (ba (ba (Below.refl _ _) _) _) _) hb1
  clear hb1
  have c_a_0 := cell_of_blk k_a_1 0
  have c_a_1 := cell_of_blk k_a_1 1
  have c_a_2 := cell_of_blk k_a_1 2
  have c_a_3 := cell_of_blk k_a_1 3
  have c_a_4 := cell_of_blk k_a_1 4
  have c_a_5 := cell_of_blk k_a_1 5
  simp only [List.getElem?_toArray, List.getElem?_cons_zero, List.getElem?_cons_succ] at c_a_0 c_a_1 c_a_2 c_a_3 c_a_4 c_a_5
  have f_a := frozen_of_blk k_a_1
  have s_a := blk_lt k_a_1
  have c_b_0 := cell_of_blk k_b_1 0
  have c_b_1 := cell_of_blk k_b_1 1
  have c_b_2 := cell_of_blk k_b_1 2
  have c_b_3 := cell_of_blk k_b_1 3
  have c_b_4 := cell_of_blk k_b_1 4
  have c_b_5 := cell_of_blk k_b_1 5
  simp only [List.getElem?_toArray, List.getElem?_cons_zero, List.getElem?_cons_succ] at c_b_0 c_b_1 c_b_2 c_b_3 c_b_4 c_b_5
  have f_b := frozen_of_blk k_b_1
  have s_b := blk_lt k_b_1
  have c_r_0 := cell_of_blk k_r_1 0
  have c_r_1 := cell_of_blk k_r_1 1
  have c_r_2 := cell_of_blk k_r_1 2
  have c_r_3 := cell_of_blk k_r_1 3
  have c_r_4 := cell_of_blk k_r_1 4
  have c_r_5 := cell_of_blk k_r_1 5
  simp only [List.getElem?_toArray, List.getElem?_cons_zero, List.getElem?_cons_succ] at c_r_0 c_r_1 c_r_2 c_r_3 c_r_4 c_r_5
  have f_r := frozen_of_blk k_r_1
  have s_r := blk_lt k_r_1
  go_wp2
  refine bodyPost_ret (v := .agg #[.int .i64 (P * p + Q * r), .int .i64 (P * q + Q * s), .int .i64 (R * p + S * r), .int .i64 (R * q + S * s), .int .i64 (P * e + Q * f + E), .int .i64 (R * e + S * f + F)]) (by simp [results, Tryd.results54, go_sem, c_r_0, c_r_1, c_r_2, c_r_3, c_r_4, c_r_5, World.cell?_alloc_lt, World.size_setCell, s_r]) rfl ⟨rfl, ?_⟩
  exact ba (set6_below hw_1 _ (by omega) _ _ _ _ _ _) _
end Go.Proofs.YthfhkmgegkhljaaDoor
