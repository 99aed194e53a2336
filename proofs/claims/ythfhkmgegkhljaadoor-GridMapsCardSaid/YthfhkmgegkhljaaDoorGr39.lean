/- The walk of the document's MoveOf: its drawn region of three calls. Printed by gen_gr39.py. -/
import Derived.Test.YthfhkmgegkhljaaDoorGr38
import Derived.Test.YthfhkmgegkhljaaDoorGr40
import Derived.Test.YthfhkmgegkhljaaDoorGr34
namespace Go.Proofs.YthfhkmgegkhljaaDoor
set_option linter.unusedSimpArgs false
set_option linter.unusedVariables false
open Go.RowKit

set_option maxRecDepth 100000 in
set_option maxHeartbeats 6400000 in
theorem moveOf_any (a b c d e f x y k : Int) (w : World) (ha : Sm a b c d e f) (ht : turnedB a b c d = true) (he0 : e % 2 = 0) (hf0 : f % 2 = 0) (x1 : -1000000 ≤ x) (x2 : x ≤ 1000000) (y1 : -1000000 ≤ y) (y2 : y ≤ 1000000) (k1 : 0 ≤ k) (k2 : k ≤ 3) :
    Calls Tryd.prog 27 #[.agg #[.int .i64 a, .int .i64 b, .int .i64 c, .int .i64 d, .int .i64 e, .int .i64 f], aggT x y k] w fun e' w' => e' = .returned (aggT3 (moveT a b c d e f x y k)) ∧ Below w.heap.size w w' := by
  have bX1 := cornX_bd k x1 x2
  have bX2 := cornX_bd (k + 1) x1 x2
  have bY1 := cornY_bd k y1 y2
  have bY2 := cornY_bd (k + 1) y1 y2
  obtain ⟨X1, hX1⟩ : ∃ a, a = cornX x k := ⟨_, rfl⟩
  obtain ⟨Y1, hY1⟩ : ∃ a, a = cornY y k := ⟨_, rfl⟩
  obtain ⟨X2, hX2⟩ : ∃ a, a = cornX x (k + 1) := ⟨_, rfl⟩
  obtain ⟨Y2, hY2⟩ : ∃ a, a = cornY y (k + 1) := ⟨_, rfl⟩
  rw [← hX1] at bX1
  rw [← hX2] at bX2
  rw [← hY1] at bY1
  rw [← hY2] at bY2
  have HX1 := Lib.hid hX1
  clear hX1
  have HY1 := Lib.hid hY1
  clear hY1
  have HX2 := Lib.hid hX2
  clear hX2
  have HY2 := Lib.hid hY2
  clear hY2
  have oa0 := prod_bd (a := a) (x := 2 * x + 1) (M := 2000002) ha.a1 ha.a2 (by omega) (by omega)
  have ob0 := prod_bd (a := b) (x := 2 * y + 1) (M := 2000002) ha.b1 ha.b2 (by omega) (by omega)
  have oc0 := prod_bd (a := c) (x := 2 * x + 1) (M := 2000002) ha.c1 ha.c2 (by omega) (by omega)
  have od0 := prod_bd (a := d) (x := 2 * y + 1) (M := 2000002) ha.d1 ha.d2 (by omega) (by omega)
  obtain ⟨P0, hP0⟩ : ∃ z, z = a * (2 * x + 1) + b * (2 * y + 1) + e := ⟨_, rfl⟩
  obtain ⟨Q0, hQ0⟩ : ∃ z, z = c * (2 * x + 1) + d * (2 * y + 1) + f := ⟨_, rfl⟩
  have oa1 := prod_bd (a := a) (x := X1) (M := 2000002) ha.a1 ha.a2 (by omega) (by omega)
  have ob1 := prod_bd (a := b) (x := Y1) (M := 2000002) ha.b1 ha.b2 (by omega) (by omega)
  have oc1 := prod_bd (a := c) (x := X1) (M := 2000002) ha.c1 ha.c2 (by omega) (by omega)
  have od1 := prod_bd (a := d) (x := Y1) (M := 2000002) ha.d1 ha.d2 (by omega) (by omega)
  obtain ⟨P1, hP1⟩ : ∃ z, z = a * X1 + b * Y1 + e := ⟨_, rfl⟩
  obtain ⟨Q1, hQ1⟩ : ∃ z, z = c * X1 + d * Y1 + f := ⟨_, rfl⟩
  have oa2 := prod_bd (a := a) (x := X2) (M := 2000002) ha.a1 ha.a2 (by omega) (by omega)
  have ob2 := prod_bd (a := b) (x := Y2) (M := 2000002) ha.b1 ha.b2 (by omega) (by omega)
  have oc2 := prod_bd (a := c) (x := X2) (M := 2000002) ha.c1 ha.c2 (by omega) (by omega)
  have od2 := prod_bd (a := d) (x := Y2) (M := 2000002) ha.d1 ha.d2 (by omega) (by omega)
  obtain ⟨P2, hP2⟩ : ∃ z, z = a * X2 + b * Y2 + e := ⟨_, rfl⟩
  obtain ⟨Q2, hQ2⟩ : ∃ z, z = c * X2 + d * Y2 + f := ⟨_, rfl⟩
  have he1 := ha.e1
  have he2 := ha.e2
  have hf1 := ha.f1
  have hf2 := ha.f2
  have A0 : Hid (∀ w : World, Calls Tryd.prog 60 #[.agg #[.int .i64 a, .int .i64 b, .int .i64 c, .int .i64 d, .int .i64 e, .int .i64 f], aggP (2 * x + 1) (2 * y + 1)] w fun e' w' => e' = .returned (aggP P0 Q0) ∧ Below w.heap.size w w') := Lib.hid (fun w => by
    have h := pointOf_any a b c d e f (2 * x + 1) (2 * y + 1) w (by omega) (by omega) (by omega) (by omega) (by omega) (by omega)
    rw [← hP0, ← hQ0] at h
    exact h)
  have A1 : Hid (∀ w : World, Calls Tryd.prog 60 #[.agg #[.int .i64 a, .int .i64 b, .int .i64 c, .int .i64 d, .int .i64 e, .int .i64 f], aggP X1 Y1] w fun e' w' => e' = .returned (aggP P1 Q1) ∧ Below w.heap.size w w') := Lib.hid (fun w => by
    have h := pointOf_any a b c d e f X1 Y1 w (by omega) (by omega) (by omega) (by omega) (by omega) (by omega)
    rw [← hP1, ← hQ1] at h
    exact h)
  have A2 : Hid (∀ w : World, Calls Tryd.prog 60 #[.agg #[.int .i64 a, .int .i64 b, .int .i64 c, .int .i64 d, .int .i64 e, .int .i64 f], aggP X2 Y2] w fun e' w' => e' = .returned (aggP P2 Q2) ∧ Below w.heap.size w w') := Lib.hid (fun w => by
    have h := pointOf_any a b c d e f X2 Y2 w (by omega) (by omega) (by omega) (by omega) (by omega) (by omega)
    rw [← hP2, ← hQ2] at h
    exact h)
  have hlaw := mv_law (x := x) (y := y) (k := k) (P0 := P0) (Q0 := Q0) (P1 := P1) (Q1 := Q1) (P2 := P2) (Q2 := Q2) hP0 hQ0 (by rw [hP1, HX1.out, HY1.out]) (by rw [hQ1, HX1.out, HY1.out]) (by rw [hP2, HX2.out, HY2.out]) (by rw [hQ2, HX2.out, HY2.out]) ht he0 hf0 k1 k2 x1 x2 y1 y2 he1 he2 hf1 hf2
  obtain ⟨T, hT⟩ : ∃ T, T = moveT a b c d e f x y k := ⟨_, rfl⟩
  rw [← hT]
  have hT2 : (P0 / 2, Q0 / 2, ofK (P1 + P2 - 2 * P0) (Q1 + Q2 - 2 * Q0)) = T := by
    rw [hT, hP0, hP1, hP2, hQ0, hQ1, hQ2, HX1.out, HX2.out, HY1.out, HY2.out]
    rfl
  obtain ⟨X, hX⟩ : ∃ X, X = P0 / 2 := ⟨_, rfl⟩
  obtain ⟨Y, hY⟩ : ∃ Y, Y = Q0 / 2 := ⟨_, rfl⟩
  obtain ⟨K, hK⟩ : ∃ K, K = ofK (P1 + P2 - 2 * P0) (Q1 + Q2 - 2 * Q0) := ⟨_, rfl⟩
  rw [← hX, ← hY, ← hK] at hlaw hT2
  obtain ⟨⟨l1, l2, ⟨l3, l4⟩, l5, l6⟩, ⟨l7, l8⟩, hcn⟩ := hlaw
  subst hT2
  clear hT hX hY hK
  have HCN := Lib.hid hcn
  clear hcn
  have tX : (P0 - 1).tdiv 2 = X := by
    rw [← l1]
    rw [show 2 * X + 1 - 1 = 2 * X by omega]
    exact Int.mul_tdiv_cancel_left X (by decide)
  have tY : (Q0 - 1).tdiv 2 = Y := by
    rw [← l2]
    rw [show 2 * Y + 1 - 1 = 2 * Y by omega]
    exact Int.mul_tdiv_cancel_left Y (by decide)
  have g1 : IntKind.i64.wrap (P0 - 1) = P0 - 1 := IntWalk.i64_in _ (by omega)
  have g2 : IntKind.i64.wrap (Q0 - 1) = Q0 - 1 := IntWalk.i64_in _ (by omega)
  have g3 : IntKind.i64.wrap X = X := IntWalk.i64_in _ (by omega)
  have g4 : IntKind.i64.wrap Y = Y := IntWalk.i64_in _ (by omega)
  have G := Lib.hid (And.intro l1 (And.intro l2 (And.intro tX (And.intro tY (And.intro g1 (And.intro g2 (And.intro g3 g4)))))))
  clear l1 l2 tX tY g1 g2 g3 g4 ht he0 hf0
  have HP0 := Lib.hid hP0
  have HQ0 := Lib.hid hQ0
  clear hP0 hQ0
  have HP1 := Lib.hid hP1
  have HQ1 := Lib.hid hQ1
  clear hP1 hQ1
  have HP2 := Lib.hid hP2
  have HQ2 := Lib.hid hQ2
  clear hP2 hQ2
  clear he1 he2 hf1 hf2 bX1 bX2 bY1 bY2 ha oa0 oa1 oa2 ob0 ob1 ob2 oc0 oc1 oc2 od0 od1 od2
  go_enter Tryd.func27, Tryd.ntmps27
  go_wp2_with fail
  refine (cornersOf_any x y k _ x1 x2 y1 y2 k1 k2).mono ?_
  rintro e w1 ⟨⟨g, he, hg⟩, hb1⟩
  subst he
  rw [← HX1.out, ← HY1.out, ← HX2.out, ← HY2.out] at hg
  have k_m_1 : w1.heap[w.heap.size]? = some (.cells #[.int .i64 a, .int .i64 b, .int .i64 c, .int .i64 d, .int .i64 e, .int .i64 f] 51 (0, 0)) := blk_below (blk_alloc (blk_alloc (new_blk (.cells #[.int .i64 a, .int .i64 b, .int .i64 c, .int .i64 d, .int .i64 e, .int .i64 f] 51) (by first | rfl | (simp; done) | (simp; omega))) _) _) hb1 (by first | (simp; done) | (simp; omega))
  have k_t_1 : w1.heap[w.heap.size + 1]? = some (.cells #[.int .i64 x, .int .i64 y, .int .i64 k] 23 (0, 0)) := blk_below (blk_alloc (new_blk (.cells #[.int .i64 x, .int .i64 y, .int .i64 k] 23) (by first | rfl | (simp; done) | (simp; omega))) _) hb1 (by first | (simp; done) | (simp; omega))
  have k_r_1 : w1.heap[w.heap.size + 1 + 1]? = some (.cells #[.int .i64 0, .int .i64 0, .int .i64 0] 23 (0, 0)) := blk_below (new_blk (.cells #[.int .i64 0, .int .i64 0, .int .i64 0] 23) (by first | rfl | (simp; done) | (simp; omega))) hb1 (by first | (simp; done) | (simp; omega))
  have hw_1 : Below w.heap.size w w1 := stay_b (ba (ba (ba (Below.refl _ _) _) _) _) hb1
  clear hb1
  have c_m_0 := cell_of_blk k_m_1 0
  have c_m_1 := cell_of_blk k_m_1 1
  have c_m_2 := cell_of_blk k_m_1 2
  have c_m_3 := cell_of_blk k_m_1 3
  have c_m_4 := cell_of_blk k_m_1 4
  have c_m_5 := cell_of_blk k_m_1 5
  simp only [List.getElem?_toArray, List.getElem?_cons_zero, List.getElem?_cons_succ] at c_m_0 c_m_1 c_m_2 c_m_3 c_m_4 c_m_5
  have f_m := frozen_of_blk k_m_1
  have s_m := blk_lt k_m_1
  have c_t_0 := cell_of_blk k_t_1 0
  have c_t_1 := cell_of_blk k_t_1 1
  have c_t_2 := cell_of_blk k_t_1 2
  simp only [List.getElem?_toArray, List.getElem?_cons_zero, List.getElem?_cons_succ] at c_t_0 c_t_1 c_t_2
  have f_t := frozen_of_blk k_t_1
  have s_t := blk_lt k_t_1
  have c_r_0 := cell_of_blk k_r_1 0
  have c_r_1 := cell_of_blk k_r_1 1
  have c_r_2 := cell_of_blk k_r_1 2
  simp only [List.getElem?_toArray, List.getElem?_cons_zero, List.getElem?_cons_succ] at c_r_0 c_r_1 c_r_2
  have f_r := frozen_of_blk k_r_1
  have s_r := blk_lt k_r_1
  go_wp2_with fail
  have hsm : w.heap.size < w1.heap.size := s_m
  have hsr : w.heap.size + 1 + 1 < w1.heap.size := s_r
  have hsg : g < w1.heap.size := blk_lt hg
  clear c_m_0 c_m_1 c_m_2 c_m_3 c_m_4 c_m_5 f_m s_m c_t_0 c_t_1 c_t_2 f_t s_t c_r_0 c_r_1 c_r_2 f_r s_r
  have hkb : (Kb w w.heap.size (w.heap.size + 1 + 1) g w1.heap.size (.cells #[.int .i64 a, .int .i64 b, .int .i64 c, .int .i64 d, .int .i64 e, .int .i64 f] 51 (0, 0)) (.cells #[.int .i64 0, .int .i64 0, .int .i64 0] 23 (0, 0)) (.cells #[.int .i64 (2 * x + 1), .int .i64 (2 * y + 1), .int .i64 X1, .int .i64 Y1, .int .i64 X2, .int .i64 Y2] 25 (0, 0))) w1.drew := ⟨k_m_1, k_r_1, hg, hw_1.drew, Nat.le_refl _⟩
  have HKB := Lib.hid hkb
  clear hkb k_m_1 k_t_1 k_r_1 hg hw_1
  refine wp_region_inv (fun L a0 w0 => ∃ (s6 s7 s8 s16 s17 s18 s19 s20 s21 s22 s23 s24 s25 s26 s27 s28 s29 s30 : Value) (b6 b7 b8 : Nat), a0 = { tmps := #[.agg #[.int .i64 a, .int .i64 b, .int .i64 c, .int .i64 d, .int .i64 e, .int .i64 f], aggT x y k, .pointer (some ⟨w.heap.size, 0, none⟩), .pointer (some ⟨w.heap.size + 1, 0, none⟩), .pointer (some ⟨w.heap.size + 1 + 1, 0, none⟩), .slice (some ⟨g, 0, none⟩) 3 3, s6, s7, s8, undef, undef, undef, undef, undef, aggT x y k, .slice (some ⟨g, 0, none⟩) 3 3, s16, s17, s18, s19, s20, s21, s22, s23, s24, s25, s26, s27, s28, s29, s30, undef, undef, undef, undef, undef, undef, undef, undef, undef, undef, undef, undef, undef, undef, undef, undef, undef, undef, undef, undef, undef, undef, undef, undef, undef, undef, undef, undef, undef, undef, undef, undef, undef, undef, undef, undef, undef, undef, undef, undef, undef, undef, undef, undef, undef, undef, undef, undef, undef, undef, undef, undef, undef, undef, undef, undef, undef, undef, undef, undef, undef, undef], defers := [] } ∧ Mv (Kb w w.heap.size (w.heap.size + 1 + 1) g w1.heap.size (.cells #[.int .i64 a, .int .i64 b, .int .i64 c, .int .i64 d, .int .i64 e, .int .i64 f] 51 (0, 0)) (.cells #[.int .i64 0, .int .i64 0, .int .i64 0] 23 (0, 0)) (.cells #[.int .i64 (2 * x + 1), .int .i64 (2 * y + 1), .int .i64 X1, .int .i64 Y1, .int .i64 X2, .int .i64 Y2] 25 (0, 0))) w1.heap.size g a b c d e f x y X1 Y1 X2 Y2 P0 Q0 P1 Q1 P2 Q2 L w0 s6 s7 s8 s16 s17 s18 s19 s20 s21 s22 s23 s24 s25 s26 s27 s28 s29 s30 b6 b7 b8) (by kernel_rfl) ?_ ?_ ?_
  · exact ⟨undef, undef, undef, undef, undef, undef, undef, undef, undef, undef, undef, undef, undef, undef, undef, undef, undef, undef, 0, 0, 0, rfl, ⟨by simp, HKB.out, fun h => absurd h (by decide), fun h => absurd h (by decide), fun h => absurd h (by decide), fun h => absurd h (by decide), fun h => absurd h (by decide), fun h => absurd h (by decide), fun h => absurd h (by decide), fun h => absurd h (by decide), fun h => absurd h (by decide), fun h => absurd h (by decide), fun h => absurd h (by decide), fun h => absurd h (by decide), fun h => absurd h (by decide), fun h => absurd h (by decide), fun h => absurd h (by decide), fun h => absurd h (by decide), fun h => absurd h (by decide), fun h => absurd h (by decide), fun h => absurd h (by decide), fun h => absurd h (by decide), fun h => absurd h (by decide), fun h => absurd h (by decide), fun h => absurd h (by decide), fun h => absurd h (by decide)⟩⟩
  · intro L a0 w0 i hI hr
    obtain ⟨s6, s7, s8, s16, s17, s18, s19, s20, s21, s22, s23, s24, s25, s26, s27, s28, s29, s30, b6, b7, b8, rfl, hv⟩ := hI
    have hi : i < 21 := ready_lt hr
    have HV := Lib.hid hv
    clear hv
    have hc : i = 0 ∨ i = 1 ∨ i = 2 ∨ i = 3 ∨ i = 4 ∨ i = 5 ∨ i = 6 ∨ i = 7 ∨ i = 8 ∨ i = 9 ∨ i = 10 ∨ i = 11 ∨ i = 12 ∨ i = 13 ∨ i = 14 ∨ i = 15 ∨ i = 16 ∨ i = 17 ∨ i = 18 ∨ i = 19 ∨ i = 20 := by omega
    clear hi
    rcases hc with rfl | rfl | rfl | rfl | rfl | rfl | rfl | rfl | rfl | rfl | rfl | rfl | rfl | rfl | rfl | rfl | rfl | rfl | rfl | rfl | rfl
    · clear hr
      have c0 := cell_of_blk HV.out.kb.m 0
      have c1 := cell_of_blk HV.out.kb.m 1
      have c2 := cell_of_blk HV.out.kb.m 2
      have c3 := cell_of_blk HV.out.kb.m 3
      have c4 := cell_of_blk HV.out.kb.m 4
      have c5 := cell_of_blk HV.out.kb.m 5
      simp only [List.getElem?_toArray, List.getElem?_cons_zero, List.getElem?_cons_succ] at c0 c1 c2 c3 c4 c5
      refine wpOp_step rfl (fun K hK => ?_)
      go_simp
      refine hK _ _ ?_
      exact ⟨_, _, _, _, _, _, _, _, _, _, _, _, _, _, _, _, _, _, b6, b7, b8, rfl, Mv.l0 HV.out rfl⟩
    · clear hr
      refine wpOp_step rfl (fun K hK => ?_)
      go_simp
      refine hK _ _ ?_
      exact ⟨_, _, _, _, _, _, _, _, _, _, _, _, _, _, _, _, _, _, b6, b7, b8, rfl, Mv.l1 HV.out rfl⟩
    · have d1 := ready_dep hr (k := 1) (by kernel_rfl)
      clear hr
      obtain rfl := HV.out.p1 d1
      refine wpOp_step rfl (fun K hK => ?_)
      go_simp
      refine hK _ _ ?_
      exact ⟨_, _, _, _, _, _, _, _, _, _, _, _, _, _, _, _, _, _, b6, b7, b8, rfl, Mv.l2 HV.out rfl⟩
    · have d2 := ready_dep hr (k := 2) (by kernel_rfl)
      clear hr
      obtain rfl := HV.out.p2 d2
      have c0 := cell_of_blk HV.out.kb.c 0
      have c1 := cell_of_blk HV.out.kb.c 1
      have c2 := cell_of_blk HV.out.kb.c 2
      have c3 := cell_of_blk HV.out.kb.c 3
      have c4 := cell_of_blk HV.out.kb.c 4
      have c5 := cell_of_blk HV.out.kb.c 5
      simp only [List.getElem?_toArray, List.getElem?_cons_zero, List.getElem?_cons_succ] at c0 c1 c2 c3 c4 c5
      refine wpOp_step rfl (fun K hK => ?_)
      go_simp
      refine hK _ _ ?_
      exact ⟨_, _, _, _, _, _, _, _, _, _, _, _, _, _, _, _, _, _, b6, b7, b8, rfl, Mv.l3 HV.out rfl⟩
    · have d0 := ready_dep hr (k := 0) (by kernel_rfl)
      have d3 := ready_dep hr (k := 3) (by kernel_rfl)
      clear hr
      obtain rfl := HV.out.p0 d0
      obtain rfl := HV.out.p3 d3
      refine wpOp_step rfl (fun K hK => ?_)
      go_wp2_with fail
      refine (A0.out _).mono ?_
      rintro e' wc ⟨he, hbc⟩
      subst he
      refine hK _ _ ?_
      exact ⟨_, _, _, _, _, _, _, _, _, _, _, _, _, _, _, _, _, _, b6, b7, b8, rfl, Mv.l4 (HV.out.below hbc (HV.out.kb.below hbc)) rfl⟩
    · clear hr
      have c0 := cell_of_blk HV.out.kb.m 0
      have c1 := cell_of_blk HV.out.kb.m 1
      have c2 := cell_of_blk HV.out.kb.m 2
      have c3 := cell_of_blk HV.out.kb.m 3
      have c4 := cell_of_blk HV.out.kb.m 4
      have c5 := cell_of_blk HV.out.kb.m 5
      simp only [List.getElem?_toArray, List.getElem?_cons_zero, List.getElem?_cons_succ] at c0 c1 c2 c3 c4 c5
      refine wpOp_step rfl (fun K hK => ?_)
      go_simp
      refine hK _ _ ?_
      exact ⟨_, _, _, _, _, _, _, _, _, _, _, _, _, _, _, _, _, _, b6, b7, b8, rfl, Mv.l5 HV.out rfl⟩
    · clear hr
      refine wpOp_step rfl (fun K hK => ?_)
      go_simp
      refine hK _ _ ?_
      exact ⟨_, _, _, _, _, _, _, _, _, _, _, _, _, _, _, _, _, _, b6, b7, b8, rfl, Mv.l6 HV.out rfl⟩
    · have d6 := ready_dep hr (k := 6) (by kernel_rfl)
      clear hr
      obtain rfl := HV.out.p6 d6
      refine wpOp_step rfl (fun K hK => ?_)
      go_simp
      refine hK _ _ ?_
      exact ⟨_, _, _, _, _, _, _, _, _, _, _, _, _, _, _, _, _, _, b6, b7, b8, rfl, Mv.l7 HV.out rfl⟩
    · have d7 := ready_dep hr (k := 7) (by kernel_rfl)
      clear hr
      obtain rfl := HV.out.p7 d7
      have c0 := cell_of_blk HV.out.kb.c 0
      have c1 := cell_of_blk HV.out.kb.c 1
      have c2 := cell_of_blk HV.out.kb.c 2
      have c3 := cell_of_blk HV.out.kb.c 3
      have c4 := cell_of_blk HV.out.kb.c 4
      have c5 := cell_of_blk HV.out.kb.c 5
      simp only [List.getElem?_toArray, List.getElem?_cons_zero, List.getElem?_cons_succ] at c0 c1 c2 c3 c4 c5
      refine wpOp_step rfl (fun K hK => ?_)
      go_simp
      refine hK _ _ ?_
      exact ⟨_, _, _, _, _, _, _, _, _, _, _, _, _, _, _, _, _, _, b6, b7, b8, rfl, Mv.l8 HV.out rfl⟩
    · have d5 := ready_dep hr (k := 5) (by kernel_rfl)
      have d8 := ready_dep hr (k := 8) (by kernel_rfl)
      clear hr
      obtain rfl := HV.out.p5 d5
      obtain rfl := HV.out.p8 d8
      refine wpOp_step rfl (fun K hK => ?_)
      go_wp2_with fail
      refine (A1.out _).mono ?_
      rintro e' wc ⟨he, hbc⟩
      subst he
      refine hK _ _ ?_
      exact ⟨_, _, _, _, _, _, _, _, _, _, _, _, _, _, _, _, _, _, b6, b7, b8, rfl, Mv.l9 (HV.out.below hbc (HV.out.kb.below hbc)) rfl⟩
    · clear hr
      have c0 := cell_of_blk HV.out.kb.m 0
      have c1 := cell_of_blk HV.out.kb.m 1
      have c2 := cell_of_blk HV.out.kb.m 2
      have c3 := cell_of_blk HV.out.kb.m 3
      have c4 := cell_of_blk HV.out.kb.m 4
      have c5 := cell_of_blk HV.out.kb.m 5
      simp only [List.getElem?_toArray, List.getElem?_cons_zero, List.getElem?_cons_succ] at c0 c1 c2 c3 c4 c5
      refine wpOp_step rfl (fun K hK => ?_)
      go_simp
      refine hK _ _ ?_
      exact ⟨_, _, _, _, _, _, _, _, _, _, _, _, _, _, _, _, _, _, b6, b7, b8, rfl, Mv.l10 HV.out rfl⟩
    · clear hr
      refine wpOp_step rfl (fun K hK => ?_)
      go_simp
      refine hK _ _ ?_
      exact ⟨_, _, _, _, _, _, _, _, _, _, _, _, _, _, _, _, _, _, b6, b7, b8, rfl, Mv.l11 HV.out rfl⟩
    · have d11 := ready_dep hr (k := 11) (by kernel_rfl)
      clear hr
      obtain rfl := HV.out.p11 d11
      refine wpOp_step rfl (fun K hK => ?_)
      go_simp
      refine hK _ _ ?_
      exact ⟨_, _, _, _, _, _, _, _, _, _, _, _, _, _, _, _, _, _, b6, b7, b8, rfl, Mv.l12 HV.out rfl⟩
    · have d12 := ready_dep hr (k := 12) (by kernel_rfl)
      clear hr
      obtain rfl := HV.out.p12 d12
      have c0 := cell_of_blk HV.out.kb.c 0
      have c1 := cell_of_blk HV.out.kb.c 1
      have c2 := cell_of_blk HV.out.kb.c 2
      have c3 := cell_of_blk HV.out.kb.c 3
      have c4 := cell_of_blk HV.out.kb.c 4
      have c5 := cell_of_blk HV.out.kb.c 5
      simp only [List.getElem?_toArray, List.getElem?_cons_zero, List.getElem?_cons_succ] at c0 c1 c2 c3 c4 c5
      refine wpOp_step rfl (fun K hK => ?_)
      go_simp
      refine hK _ _ ?_
      exact ⟨_, _, _, _, _, _, _, _, _, _, _, _, _, _, _, _, _, _, b6, b7, b8, rfl, Mv.l13 HV.out rfl⟩
    · have d10 := ready_dep hr (k := 10) (by kernel_rfl)
      have d13 := ready_dep hr (k := 13) (by kernel_rfl)
      clear hr
      obtain rfl := HV.out.p10 d10
      obtain rfl := HV.out.p13 d13
      refine wpOp_step rfl (fun K hK => ?_)
      go_wp2_with fail
      refine (A2.out _).mono ?_
      rintro e' wc ⟨he, hbc⟩
      subst he
      refine hK _ _ ?_
      exact ⟨_, _, _, _, _, _, _, _, _, _, _, _, _, _, _, _, _, _, b6, b7, b8, rfl, Mv.l14 (HV.out.below hbc (HV.out.kb.below hbc)) rfl⟩
    · have hno : L.getD 18 false = false := by
        cases h : L.getD 18 false with
        | false => rfl
        | true => exact absurd ((HV.out.p18 h).1.symm.trans (getD_both (mem_ready.1 hr).1)) (by decide)
      clear hr
      refine wpOp_step rfl (fun K hK => ?_)
      go_simp
      refine hK _ _ ?_
      exact ⟨_, _, _, _, _, _, _, _, _, _, _, _, _, _, _, _, _, _, _, b7, b8, rfl, Mv.l15 HV.out HV.out.kb.nl (HV.out.kb.below (below_new _ _)) hno⟩
    · have hno : L.getD 19 false = false := by
        cases h : L.getD 19 false with
        | false => rfl
        | true => exact absurd ((HV.out.p19 h).1.symm.trans (getD_both (mem_ready.1 hr).1)) (by decide)
      clear hr
      refine wpOp_step rfl (fun K hK => ?_)
      go_simp
      refine hK _ _ ?_
      exact ⟨_, _, _, _, _, _, _, _, _, _, _, _, _, _, _, _, _, _, b6, _, b8, rfl, Mv.l16 HV.out HV.out.kb.nl (HV.out.kb.below (below_new _ _)) hno⟩
    · have hno : L.getD 20 false = false := by
        cases h : L.getD 20 false with
        | false => rfl
        | true => exact absurd ((HV.out.p20 h).1.symm.trans (getD_both (mem_ready.1 hr).1)) (by decide)
      clear hr
      refine wpOp_step rfl (fun K hK => ?_)
      go_simp
      refine hK _ _ ?_
      exact ⟨_, _, _, _, _, _, _, _, _, _, _, _, _, _, _, _, _, _, b6, b7, _, rfl, Mv.l17 HV.out HV.out.kb.nl (HV.out.kb.below (below_new _ _)) hno⟩
    · have d15 := ready_dep hr (k := 15) (by kernel_rfl)
      have d4 := ready_dep hr (k := 4) (by kernel_rfl)
      clear hr
      obtain rfl := HV.out.p4 d4
      obtain ⟨rfl, hbN, u, v, hb⟩ := HV.out.p15 d15
      have z0 := cell_of_blk hb 0
      have z1 := cell_of_blk hb 1
      simp only [List.getElem?_toArray, List.getElem?_cons_zero, List.getElem?_cons_succ] at z0 z1
      have zf := frozen_of_blk hb
      have zl := blk_lt hb
      refine wpOp_step rfl (fun K hK => ?_)
      go_simp
      refine hK _ _ ?_
      exact ⟨_, _, _, _, _, _, _, _, _, _, _, _, _, _, _, _, _, _, b6, b7, b8, rfl, Mv.l18 HV.out d15 (HV.out.kb.set2 hsm hsr hsg (by omega) hbN _ _)⟩
    · have d16 := ready_dep hr (k := 16) (by kernel_rfl)
      have d9 := ready_dep hr (k := 9) (by kernel_rfl)
      clear hr
      obtain rfl := HV.out.p9 d9
      obtain ⟨rfl, hbN, u, v, hb⟩ := HV.out.p16 d16
      have z0 := cell_of_blk hb 0
      have z1 := cell_of_blk hb 1
      simp only [List.getElem?_toArray, List.getElem?_cons_zero, List.getElem?_cons_succ] at z0 z1
      have zf := frozen_of_blk hb
      have zl := blk_lt hb
      refine wpOp_step rfl (fun K hK => ?_)
      go_simp
      refine hK _ _ ?_
      exact ⟨_, _, _, _, _, _, _, _, _, _, _, _, _, _, _, _, _, _, b6, b7, b8, rfl, Mv.l19 HV.out d16 (HV.out.kb.set2 hsm hsr hsg (by omega) hbN _ _)⟩
    · have d17 := ready_dep hr (k := 17) (by kernel_rfl)
      have d14 := ready_dep hr (k := 14) (by kernel_rfl)
      clear hr
      obtain rfl := HV.out.p14 d14
      obtain ⟨rfl, hbN, u, v, hb⟩ := HV.out.p17 d17
      have z0 := cell_of_blk hb 0
      have z1 := cell_of_blk hb 1
      simp only [List.getElem?_toArray, List.getElem?_cons_zero, List.getElem?_cons_succ] at z0 z1
      have zf := frozen_of_blk hb
      have zl := blk_lt hb
      refine wpOp_step rfl (fun K hK => ?_)
      go_simp
      refine hK _ _ ?_
      exact ⟨_, _, _, _, _, _, _, _, _, _, _, _, _, _, _, _, _, _, b6, b7, b8, rfl, Mv.l20 HV.out d17 (HV.out.kb.set2 hsm hsr hsg (by omega) hbN _ _)⟩
  · intro L a0 w0 hI hrd
    obtain ⟨s6, s7, s8, s16, s17, s18, s19, s20, s21, s22, s23, s24, s25, s26, s27, s28, s29, s30, b6, b7, b8, rfl, hv⟩ := hI
    have hall := all_listed hrd hv.sz (by kernel_rfl)
    clear hrd
    have h15 := hv.p15 (hall 15 (by decide))
    have h16 := hv.p16 (hall 16 (by decide))
    have h17 := hv.p17 (hall 17 (by decide))
    have h18 := (hv.p18 (hall 18 (by decide))).2
    have h19 := (hv.p19 (hall 19 (by decide))).2
    have h20 := (hv.p20 (hall 20 (by decide))).2
    have hkb := hv.kb
    clear hv hall
    obtain ⟨rfl, hb6, _⟩ := h15
    obtain ⟨rfl, hb7, _⟩ := h16
    obtain ⟨rfl, hb8, _⟩ := h17
    have k_p_10 := h18
    have k_q_10 := h19
    have k_v_10 := h20
    have k_r_10 := hkb.r
    have hw_10 := hkb.bel
    clear h18 h19 h20 hkb HKB A0 A1 A2
    obtain ⟨l1, l2, tX, tY, g1, g2, g3, g4⟩ := G.out
    clear G
    dsimp only
    have c_p_0 := cell_of_blk k_p_10 0
    have c_p_1 := cell_of_blk k_p_10 1
    simp only [List.getElem?_toArray, List.getElem?_cons_zero, List.getElem?_cons_succ] at c_p_0 c_p_1
    have f_p := frozen_of_blk k_p_10
    have s_p := blk_lt k_p_10
    have c_q_0 := cell_of_blk k_q_10 0
    have c_q_1 := cell_of_blk k_q_10 1
    simp only [List.getElem?_toArray, List.getElem?_cons_zero, List.getElem?_cons_succ] at c_q_0 c_q_1
    have f_q := frozen_of_blk k_q_10
    have s_q := blk_lt k_q_10
    have c_v_0 := cell_of_blk k_v_10 0
    have c_v_1 := cell_of_blk k_v_10 1
    simp only [List.getElem?_toArray, List.getElem?_cons_zero, List.getElem?_cons_succ] at c_v_0 c_v_1
    have f_v := frozen_of_blk k_v_10
    have s_v := blk_lt k_v_10
    have c_r_0 := cell_of_blk k_r_10 0
    have c_r_1 := cell_of_blk k_r_10 1
    have c_r_2 := cell_of_blk k_r_10 2
    simp only [List.getElem?_toArray, List.getElem?_cons_zero, List.getElem?_cons_succ] at c_r_0 c_r_1 c_r_2
    have f_r := frozen_of_blk k_r_10
    have s_r := blk_lt k_r_10
    go_wp2_with fail
    go_quiet (fail)
    go_wp2_with fail
    clear c_p_0 c_p_1 f_p s_p k_p_10 g1 g2 g3 g4 tX tY
    go_loopw [11] (fun i wr => ∃ n : Int, 0 ≤ n ∧ n ≤ K ∧ i = .int .i64 n ∧ Below w0.heap.size w0 wr) (fun i _ => (4 - intOf i).toNat)
    case atStart => exact ⟨0, by omega, l7, rfl, below_drewN (Below.refl _ _) _⟩
    case round =>
      obtain ⟨n, hn1, hn2, rfl, hbel⟩ := hrel
      have k_q_50 := blk_below k_q_10 hbel (blk_lt k_q_10)
      have k_v_50 := blk_below k_v_10 hbel (blk_lt k_v_10)
      have k_r_50 := blk_below k_r_10 hbel (blk_lt k_r_10)
      have hw_50 : Below w.heap.size w wr := hw_10.trans (hbel.mono hw_10.size)
      clear c_q_0 c_q_1 f_q s_q c_v_0 c_v_1 f_v s_v c_r_0 c_r_1 c_r_2 f_r s_r
      obtain ⟨U1, hU1⟩ : ∃ z, z = cornX X n := ⟨_, rfl⟩
      obtain ⟨W1, hW1⟩ : ∃ z, z = cornY Y n := ⟨_, rfl⟩
      obtain ⟨U2, hU2⟩ : ∃ z, z = cornX X (n + 1) := ⟨_, rfl⟩
      obtain ⟨W2, hW2⟩ : ∃ z, z = cornY Y (n + 1) := ⟨_, rfl⟩
      have hcn := HCN.out n hn1 (by omega)
      unfold CornAt at hcn
      rw [← hU1, ← hU2, ← hW1, ← hW2] at hcn
      have HC := Lib.hid hcn
      have HU1 := Lib.hid hU1
      have HU2 := Lib.hid hU2
      have HW1 := Lib.hid hW1
      have HW2 := Lib.hid hW2
      clear hcn hU1 hU2 hW1 hW2
      have c_q_0 := cell_of_blk k_q_50 0
      have c_q_1 := cell_of_blk k_q_50 1
      simp only [List.getElem?_toArray, List.getElem?_cons_zero, List.getElem?_cons_succ] at c_q_0 c_q_1
      have f_q := frozen_of_blk k_q_50
      have s_q := blk_lt k_q_50
      have c_v_0 := cell_of_blk k_v_50 0
      have c_v_1 := cell_of_blk k_v_50 1
      simp only [List.getElem?_toArray, List.getElem?_cons_zero, List.getElem?_cons_succ] at c_v_0 c_v_1
      have f_v := frozen_of_blk k_v_50
      have s_v := blk_lt k_v_50
      have c_r_0 := cell_of_blk k_r_50 0
      have c_r_1 := cell_of_blk k_r_50 1
      have c_r_2 := cell_of_blk k_r_50 2
      simp only [List.getElem?_toArray, List.getElem?_cons_zero, List.getElem?_cons_succ] at c_r_0 c_r_1 c_r_2
      have f_r := frozen_of_blk k_r_50
      have s_r := blk_lt k_r_50
      go_wp2_with fail
      refine (cornersOf_wide X Y n _ (by omega) (by omega) (by omega) (by omega) hn1 (by omega)).mono ?_
      rintro e w51 ⟨⟨g2, he, hg2⟩, hb51⟩
      subst he
      rw [← HU1.out, ← HU2.out, ← HW1.out, ← HW2.out] at hg2
      have hbq := stay_b (ba hbel _) hb51
      have k_q_51 : w51.heap[b7]? = some (.cells #[.int .i64 P1, .int .i64 Q1] 25 (0, 0)) := blk_below (blk_alloc k_q_50 _) hb51 (blk_lt (blk_alloc k_q_50 _))
      have k_v_51 : w51.heap[b8]? = some (.cells #[.int .i64 P2, .int .i64 Q2] 25 (0, 0)) := blk_below (blk_alloc k_v_50 _) hb51 (blk_lt (blk_alloc k_v_50 _))
      have k_r_51 : w51.heap[w.heap.size + 1 + 1]? = some (.cells #[.int .i64 0, .int .i64 0, .int .i64 0] 23 (0, 0)) := blk_below (blk_alloc k_r_50 _) hb51 (blk_lt (blk_alloc k_r_50 _))
      have k_u_51 : w51.heap[wr.heap.size]? = some (.cells #[.int .i64 X, .int .i64 Y, .int .i64 n] 23 (0, 0)) := blk_below (new_blk (.cells #[.int .i64 X, .int .i64 Y, .int .i64 n] 23) (by first | rfl | (simp; done) | (simp; omega))) hb51 (by first | (simp; done) | (simp; omega))
      have hw_51 : Below w.heap.size w w51 := stay_b (ba hw_50 _) hb51
      clear c_q_0 c_q_1 f_q s_q c_v_0 c_v_1 f_v s_v c_r_0 c_r_1 c_r_2 f_r s_r k_q_50 k_v_50 k_r_50 hb51 hw_50
      have c_q_0 := cell_of_blk k_q_51 0
      have c_q_1 := cell_of_blk k_q_51 1
      simp only [List.getElem?_toArray, List.getElem?_cons_zero, List.getElem?_cons_succ] at c_q_0 c_q_1
      have f_q := frozen_of_blk k_q_51
      have s_q := blk_lt k_q_51
      have c_v_0 := cell_of_blk k_v_51 0
      have c_v_1 := cell_of_blk k_v_51 1
      simp only [List.getElem?_toArray, List.getElem?_cons_zero, List.getElem?_cons_succ] at c_v_0 c_v_1
      have f_v := frozen_of_blk k_v_51
      have s_v := blk_lt k_v_51
      have c_r_0 := cell_of_blk k_r_51 0
      have c_r_1 := cell_of_blk k_r_51 1
      have c_r_2 := cell_of_blk k_r_51 2
      simp only [List.getElem?_toArray, List.getElem?_cons_zero, List.getElem?_cons_succ] at c_r_0 c_r_1 c_r_2
      have f_r := frozen_of_blk k_r_51
      have s_r := blk_lt k_r_51
      have c_u_0 := cell_of_blk k_u_51 0
      have c_u_1 := cell_of_blk k_u_51 1
      have c_u_2 := cell_of_blk k_u_51 2
      simp only [List.getElem?_toArray, List.getElem?_cons_zero, List.getElem?_cons_succ] at c_u_0 c_u_1 c_u_2
      have f_u := frozen_of_blk k_u_51
      have s_u := blk_lt k_u_51
      have d0 := cell_of_blk hg2 0
      have d1 := cell_of_blk hg2 1
      have d2 := cell_of_blk hg2 2
      have d3 := cell_of_blk hg2 3
      have d4 := cell_of_blk hg2 4
      have d5 := cell_of_blk hg2 5
      simp only [List.getElem?_toArray, List.getElem?_cons_zero, List.getElem?_cons_succ] at d0 d1 d2 d3 d4 d5
      clear hg2 k_q_51 k_v_51 k_r_51 k_u_51 HU1 HU2 HW1 HW2
      rcases Bool.eq_false_or_eq_true (eqL [(U1, P1), (W1, Q1)]) with he1 | he1
      · rcases Bool.eq_false_or_eq_true (eqL [(U2, P2), (W2, Q2)]) with he2 | he2
        · have HN : Hid (n = K) := Lib.hid (HC.out.1 (by simp [eqL] at he1 he2; omega))
          have re1 : ∀ w : World, (binOp .eql 25 (aggP U1 W1) (aggP P1 Q1)).run Tryd.prog w = .ok (.bool true) w := fun w => by rw [eqP, he1]
          have re2 : ∀ w : World, (binOp .eql 25 (aggP U2 W2) (aggP P2 Q2)).run Tryd.prog w = .ok (.bool true) w := fun w => by rw [eqP, he2]
          clear he1 he2
          go_wp2_with fail
          go_quiet (fail)
          go_wp2
          refine bodyPost_ret (v := aggT X Y n) (by simp [results, Tryd.results27, go_sem, c_r_0, c_r_1, c_r_2]) rfl ⟨by rw [HN.out], ?_⟩
          exact set3_below (below_drewN hw_51 _) _ (by omega) _ _ _
        · rcases Bool.eq_false_or_eq_true (eqL [(U1, P2), (W1, Q2)]) with he3 | he3
          · rcases Bool.eq_false_or_eq_true (eqL [(U2, P1), (W2, Q1)]) with he4 | he4
            · have HN : Hid (n = K) := Lib.hid (HC.out.1 (by simp [eqL] at he1 he2 he3 he4; omega))
              have re1 : ∀ w : World, (binOp .eql 25 (aggP U1 W1) (aggP P1 Q1)).run Tryd.prog w = .ok (.bool true) w := fun w => by rw [eqP, he1]
              have re2 : ∀ w : World, (binOp .eql 25 (aggP U2 W2) (aggP P2 Q2)).run Tryd.prog w = .ok (.bool false) w := fun w => by rw [eqP, he2]
              have re3 : ∀ w : World, (binOp .eql 25 (aggP U1 W1) (aggP P2 Q2)).run Tryd.prog w = .ok (.bool true) w := fun w => by rw [eqP, he3]
              have re4 : ∀ w : World, (binOp .eql 25 (aggP U2 W2) (aggP P1 Q1)).run Tryd.prog w = .ok (.bool true) w := fun w => by rw [eqP, he4]
              clear he1 he2 he3 he4
              go_wp2_with fail
              go_quiet (fail)
              go_wp2
              refine bodyPost_ret (v := aggT X Y n) (by simp [results, Tryd.results27, go_sem, c_r_0, c_r_1, c_r_2]) rfl ⟨by rw [HN.out], ?_⟩
              exact set3_below (below_drewN hw_51 _) _ (by omega) _ _ _
            · have HN : Hid (n ≠ K) := Lib.hid (fun h => by
                have h5 := HC.out.2 h
                simp [eqL] at he1 he2 he3 he4
                omega)
              have re1 : ∀ w : World, (binOp .eql 25 (aggP U1 W1) (aggP P1 Q1)).run Tryd.prog w = .ok (.bool true) w := fun w => by rw [eqP, he1]
              have re2 : ∀ w : World, (binOp .eql 25 (aggP U2 W2) (aggP P2 Q2)).run Tryd.prog w = .ok (.bool false) w := fun w => by rw [eqP, he2]
              have re3 : ∀ w : World, (binOp .eql 25 (aggP U1 W1) (aggP P2 Q2)).run Tryd.prog w = .ok (.bool true) w := fun w => by rw [eqP, he3]
              have re4 : ∀ w : World, (binOp .eql 25 (aggP U2 W2) (aggP P1 Q1)).run Tryd.prog w = .ok (.bool false) w := fun w => by rw [eqP, he4]
              clear he1 he2 he3 he4
              go_wp2_with fail
              go_quiet (fail)
              go_wp2
              go_roundw
              case rel => exact ⟨n + 1, by omega, by have := HN.out; omega, rfl, below_drewN hbq _⟩
              case measure => simp [intOf]; omega
          · have HN : Hid (n ≠ K) := Lib.hid (fun h => by
              have h5 := HC.out.2 h
              simp [eqL] at he1 he2 he3
              omega)
            have re1 : ∀ w : World, (binOp .eql 25 (aggP U1 W1) (aggP P1 Q1)).run Tryd.prog w = .ok (.bool true) w := fun w => by rw [eqP, he1]
            have re2 : ∀ w : World, (binOp .eql 25 (aggP U2 W2) (aggP P2 Q2)).run Tryd.prog w = .ok (.bool false) w := fun w => by rw [eqP, he2]
            have re3 : ∀ w : World, (binOp .eql 25 (aggP U1 W1) (aggP P2 Q2)).run Tryd.prog w = .ok (.bool false) w := fun w => by rw [eqP, he3]
            clear he1 he2 he3
            go_wp2_with fail
            go_quiet (fail)
            go_wp2
            go_roundw
            case rel => exact ⟨n + 1, by omega, by have := HN.out; omega, rfl, below_drewN hbq _⟩
            case measure => simp [intOf]; omega
      · rcases Bool.eq_false_or_eq_true (eqL [(U1, P2), (W1, Q2)]) with he3 | he3
        · rcases Bool.eq_false_or_eq_true (eqL [(U2, P1), (W2, Q1)]) with he4 | he4
          · have HN : Hid (n = K) := Lib.hid (HC.out.1 (by simp [eqL] at he1 he3 he4; omega))
            have re1 : ∀ w : World, (binOp .eql 25 (aggP U1 W1) (aggP P1 Q1)).run Tryd.prog w = .ok (.bool false) w := fun w => by rw [eqP, he1]
            have re3 : ∀ w : World, (binOp .eql 25 (aggP U1 W1) (aggP P2 Q2)).run Tryd.prog w = .ok (.bool true) w := fun w => by rw [eqP, he3]
            have re4 : ∀ w : World, (binOp .eql 25 (aggP U2 W2) (aggP P1 Q1)).run Tryd.prog w = .ok (.bool true) w := fun w => by rw [eqP, he4]
            clear he1 he3 he4
            go_wp2_with fail
            go_quiet (fail)
            go_wp2
            refine bodyPost_ret (v := aggT X Y n) (by simp [results, Tryd.results27, go_sem, c_r_0, c_r_1, c_r_2]) rfl ⟨by rw [HN.out], ?_⟩
            exact set3_below (below_drewN hw_51 _) _ (by omega) _ _ _
          · have HN : Hid (n ≠ K) := Lib.hid (fun h => by
              have h5 := HC.out.2 h
              simp [eqL] at he1 he3 he4
              omega)
            have re1 : ∀ w : World, (binOp .eql 25 (aggP U1 W1) (aggP P1 Q1)).run Tryd.prog w = .ok (.bool false) w := fun w => by rw [eqP, he1]
            have re3 : ∀ w : World, (binOp .eql 25 (aggP U1 W1) (aggP P2 Q2)).run Tryd.prog w = .ok (.bool true) w := fun w => by rw [eqP, he3]
            have re4 : ∀ w : World, (binOp .eql 25 (aggP U2 W2) (aggP P1 Q1)).run Tryd.prog w = .ok (.bool false) w := fun w => by rw [eqP, he4]
            clear he1 he3 he4
            go_wp2_with fail
            go_quiet (fail)
            go_wp2
            go_roundw
            case rel => exact ⟨n + 1, by omega, by have := HN.out; omega, rfl, below_drewN hbq _⟩
            case measure => simp [intOf]; omega
        · have HN : Hid (n ≠ K) := Lib.hid (fun h => by
            have h5 := HC.out.2 h
            simp [eqL] at he1 he3
            omega)
          have re1 : ∀ w : World, (binOp .eql 25 (aggP U1 W1) (aggP P1 Q1)).run Tryd.prog w = .ok (.bool false) w := fun w => by rw [eqP, he1]
          have re3 : ∀ w : World, (binOp .eql 25 (aggP U1 W1) (aggP P2 Q2)).run Tryd.prog w = .ok (.bool false) w := fun w => by rw [eqP, he3]
          clear he1 he3
          go_wp2_with fail
          go_quiet (fail)
          go_wp2
          go_roundw
          case rel => exact ⟨n + 1, by omega, by have := HN.out; omega, rfl, below_drewN hbq _⟩
          case measure => simp [intOf]; omega
end Go.Proofs.YthfhkmgegkhljaaDoor
