/- The edges of a triangle, in both layers. -/
import Derived.Test.YtbnkabmnenginaaGreatDoorK02
namespace Go.Proofs.YtbnkabmnenginaaGreatDoor
set_option linter.unusedSimpArgs false
set_option linter.unusedVariables false
section
open Go.RowKit
def edgeT (x y k : Int) (i : Nat) : E4 := match i with
 | 0 => ordE (2 * x + 1) (2 * y + 1) (cornX x k) (cornY y k)
 | 1 => ordE (cornX x k) (cornY y k) (cornX x (k + 1)) (cornY y (k + 1))
 | _ => ordE (cornX x (k + 1)) (cornY y (k + 1)) (2 * x + 1) (2 * y + 1)
theorem set12_below {w w1 : World} (h : Below w.heap.size w w1) (g : Nat) (hg : w.heap.size ≤ g) (a0 a1 a2 a3 a4 a5 a6 a7 a8 a9 a10 a11 : Value) : Below w.heap.size w ((((((((((((w1.setCell ⟨g, 0, none⟩ a0).setCell ⟨g, 1, none⟩ a1).setCell ⟨g, 2, none⟩ a2).setCell ⟨g, 3, none⟩ a3).setCell ⟨g, 4, none⟩ a4).setCell ⟨g, 5, none⟩ a5).setCell ⟨g, 6, none⟩ a6).setCell ⟨g, 7, none⟩ a7).setCell ⟨g, 8, none⟩ a8).setCell ⟨g, 9, none⟩ a9).setCell ⟨g, 10, none⟩ a10).setCell ⟨g, 11, none⟩ a11) := ((((((((((((h.setCell hg a0).setCell hg a1).setCell hg a2).setCell hg a3).setCell hg a4).setCell hg a5).setCell hg a6).setCell hg a7).setCell hg a8).setCell hg a9).setCell hg a10).setCell hg a11)
theorem far1 {w : World} {g b i j : Nat} {u v : Value} (h : w.cell? ⟨b, j, none⟩ = some u) (hne : g ≠ b) : (w.setCell ⟨g, i, none⟩ v).cell? ⟨b, j, none⟩ = some u := (World.cell?_setCell_far w _ _ _ hne).trans h
theorem far12 {w : World} {g b j : Nat} {u : Value} (h : w.cell? ⟨b, j, none⟩ = some u) (hne : g ≠ b) (a0 a1 a2 a3 a4 a5 a6 a7 a8 a9 a10 a11 : Value) : ((((((((((((w.setCell ⟨g, 0, none⟩ a0).setCell ⟨g, 1, none⟩ a1).setCell ⟨g, 2, none⟩ a2).setCell ⟨g, 3, none⟩ a3).setCell ⟨g, 4, none⟩ a4).setCell ⟨g, 5, none⟩ a5).setCell ⟨g, 6, none⟩ a6).setCell ⟨g, 7, none⟩ a7).setCell ⟨g, 8, none⟩ a8).setCell ⟨g, 9, none⟩ a9).setCell ⟨g, 10, none⟩ a10).setCell ⟨g, 11, none⟩ a11).cell? ⟨b, j, none⟩ = some u := (far1 (far1 (far1 (far1 (far1 (far1 (far1 (far1 (far1 (far1 (far1 (far1 h hne) hne) hne) hne) hne) hne) hne) hne) hne) hne) hne) hne)
theorem al_c {w : World} {a : Addr} {v : Value} (h : w.cell? a = some v) (o : Obj) : (w.alloc o).cell? a = some v := sd h (below_new w o)
abbrev aggT (x y k : Int) : Value := .agg #[.int .i64 x, .int .i64 y, .int .i64 k]
abbrev agg3E (a b c : E4) : Value := .agg #[.int .i64 a.1, .int .i64 a.2.1, .int .i64 a.2.2.1, .int .i64 a.2.2.2, .int .i64 b.1, .int .i64 b.2.1, .int .i64 b.2.2.1, .int .i64 b.2.2.2, .int .i64 c.1, .int .i64 c.2.1, .int .i64 c.2.2.1, .int .i64 c.2.2.2]
def ThreeE (w : World) (e : Ending) (a b c : E4) : Prop := ∃ g, e = .returned (.slice (some ⟨g, 0, none⟩) 3 3) ∧ w.heap[g]? = some (.cells #[.int .i64 a.1, .int .i64 a.2.1, .int .i64 a.2.2.1, .int .i64 a.2.2.2, .int .i64 b.1, .int .i64 b.2.1, .int .i64 b.2.2.1, .int .i64 b.2.2.2, .int .i64 c.1, .int .i64 c.2.1, .int .i64 c.2.2.1, .int .i64 c.2.2.2] 50 (0, 0))
set_option maxRecDepth 100000 in
set_option maxHeartbeats 6400000 in
theorem edges_any (x y k : Int) (w : World) (hs : Steps w) (x1 : -1000000 ≤ x) (x2 : x ≤ 1000000) (y1 : -1000000 ≤ y) (y2 : y ≤ 1000000) (k1 : 0 ≤ k) (k2 : k ≤ 3) :
  Calls Tryz.prog 47 #[aggT x y k] w fun e w' => e = .returned (agg3E (edgeT x y k 0) (edgeT x y k 1) (edgeT x y k 2)) ∧ Below w.heap.size w w' := by
 obtain ⟨X1, hX1⟩ : ∃ a : Int, a = cornX x k := ⟨_, rfl⟩
 have HX1 := Lib.hid hX1
 clear hX1
 obtain ⟨Y1, hY1⟩ : ∃ a : Int, a = cornY y k := ⟨_, rfl⟩
 have HY1 := Lib.hid hY1
 clear hY1
 obtain ⟨X2, hX2⟩ : ∃ a : Int, a = cornX x (k + 1) := ⟨_, rfl⟩
 have HX2 := Lib.hid hX2
 clear hX2
 obtain ⟨Y2, hY2⟩ : ∃ a : Int, a = cornY y (k + 1) := ⟨_, rfl⟩
 have HY2 := Lib.hid hY2
 clear hY2
 obtain ⟨E0, hE0⟩ : ∃ a : E4, a = ordE (2 * x + 1) (2 * y + 1) X1 Y1 := ⟨_, rfl⟩
 have HE0 := Lib.hid hE0
 clear hE0
 obtain ⟨E1, hE1⟩ : ∃ a : E4, a = ordE X1 Y1 X2 Y2 := ⟨_, rfl⟩
 have HE1 := Lib.hid hE1
 clear hE1
 obtain ⟨E2, hE2⟩ : ∃ a : E4, a = ordE X2 Y2 (2 * x + 1) (2 * y + 1) := ⟨_, rfl⟩
 have HE2 := Lib.hid hE2
 clear hE2
 go_enter Tryz.func47, Tryz.ntmps47
 go_wp2_with fail
 refine (corners_any x y k _ ((hs.alloc _).alloc _) x1 x2 y1 y2 k1 k2).mono ?_
 rintro e w1 ⟨he, hb1⟩
 rw [← HX1.out, ← HY1.out, ← HX2.out, ← HY2.out] at he
 subst he
 have k_t_1 : w1.heap[w.heap.size]? = some (.cells #[.int .i64 x, .int .i64 y, .int .i64 k] 59 (0, 0)) := blk_below (blk_alloc (new_blk (.cells #[.int .i64 x, .int .i64 y, .int .i64 k] 59) (by first | rfl | (simp; done) | (simp; omega))) _) hb1 (by first | (simp; done) | (simp; omega))
 have k_r_1 : w1.heap[w.heap.size + 1]? = some (.cells #[.int .i64 0, .int .i64 0, .int .i64 0, .int .i64 0, .int .i64 0, .int .i64 0, .int .i64 0, .int .i64 0, .int .i64 0, .int .i64 0, .int .i64 0, .int .i64 0] 98 (0, 0)) := blk_below (new_blk (.cells #[.int .i64 0, .int .i64 0, .int .i64 0, .int .i64 0, .int .i64 0, .int .i64 0, .int .i64 0, .int .i64 0, .int .i64 0, .int .i64 0, .int .i64 0, .int .i64 0] 98) (by first | rfl | (simp; done) | (simp; omega))) hb1 (by first | (simp; done) | (simp; omega))
 have hw_1 : Below w.heap.size w w1 := stay_b (ba (ba (Below.refl _ _) _) _) hb1
 have hs_1 := ((hs.alloc _).alloc _).below hb1
 clear hb1
 have c_t_0 := cell_of_blk k_t_1 0
 have c_t_1 := cell_of_blk k_t_1 1
 have c_t_2 := cell_of_blk k_t_1 2
 simp only [List.getElem?_toArray, List.getElem?_cons_zero, List.getElem?_cons_succ] at c_t_0 c_t_1 c_t_2
 have f_t := frozen_of_blk k_t_1
 have s_t := blk_lt k_t_1
 have c_r_0 := cell_of_blk k_r_1 0
 have c_r_1 := cell_of_blk k_r_1 1
 have c_r_2 := cell_of_blk k_r_1 2
 have c_r_3 := cell_of_blk k_r_1 3
 have c_r_4 := cell_of_blk k_r_1 4
 have c_r_5 := cell_of_blk k_r_1 5
 have c_r_6 := cell_of_blk k_r_1 6
 have c_r_7 := cell_of_blk k_r_1 7
 have c_r_8 := cell_of_blk k_r_1 8
 have c_r_9 := cell_of_blk k_r_1 9
 have c_r_10 := cell_of_blk k_r_1 10
 have c_r_11 := cell_of_blk k_r_1 11
 simp only [List.getElem?_toArray, List.getElem?_cons_zero, List.getElem?_cons_succ] at c_r_0 c_r_1 c_r_2 c_r_3 c_r_4 c_r_5 c_r_6 c_r_7 c_r_8 c_r_9 c_r_10 c_r_11
 have f_r := frozen_of_blk k_r_1
 have s_r := blk_lt k_r_1
 go_wp2_with fail
 have hkc : ((w1.alloc (.cells #[.int .i64 (2 * x + 1), .int .i64 (2 * y + 1), .int .i64 X1, .int .i64 Y1, .int .i64 X2, .int .i64 Y2] 126)).drew).heap[w1.heap.size]? = some (.cells #[.int .i64 (2 * x + 1), .int .i64 (2 * y + 1), .int .i64 X1, .int .i64 Y1, .int .i64 X2, .int .i64 Y2] 126 (0, 0)) := heap_alloc_new w1 _
 have kr : ((w1.alloc (.cells #[.int .i64 (2 * x + 1), .int .i64 (2 * y + 1), .int .i64 X1, .int .i64 Y1, .int .i64 X2, .int .i64 Y2] 126)).drew).heap[w.heap.size + 1]? = some (.cells #[.int .i64 0, .int .i64 0, .int .i64 0, .int .i64 0, .int .i64 0, .int .i64 0, .int .i64 0, .int .i64 0, .int .i64 0, .int .i64 0, .int .i64 0, .int .i64 0] 98 (0, 0)) := blk_alloc k_r_1 _
 have hne : w.heap.size + 1 ≠ w1.heap.size := by omega
 have hge : w.heap.size ≤ w.heap.size + 1 := by omega
 have hb0 : Below w.heap.size w ((w1.alloc (.cells #[.int .i64 (2 * x + 1), .int .i64 (2 * y + 1), .int .i64 X1, .int .i64 Y1, .int .i64 X2, .int .i64 Y2] 126)).drew) := (ba hw_1 _).drew
 have d0 := cell_of_blk hkc 0
 have d1 := cell_of_blk hkc 1
 have d2 := cell_of_blk hkc 2
 have d3 := cell_of_blk hkc 3
 have d4 := cell_of_blk hkc 4
 have d5 := cell_of_blk hkc 5
 simp only [List.getElem?_toArray, List.getElem?_cons_zero, List.getElem?_cons_succ] at d0 d1 d2 d3 d4 d5
 clear hkc k_r_1 k_t_1 c_t_0 c_t_1 c_t_2 f_t s_t c_r_0 c_r_1 c_r_2 c_r_3 c_r_4 c_r_5 c_r_6 c_r_7 c_r_8 c_r_9 c_r_10 c_r_11 f_r s_r hw_1 hs_1
 have hS0 := And.intro d0 (And.intro d1 (And.intro d2 (And.intro d3 (And.intro d4 (And.intro d5 hb0)))))
 clear d0 d1 d2 d3 d4 d5 hb0
 go_region_held3 (fun w' => w'.cell? ⟨w1.heap.size, 0, none⟩ = some (.int .i64 (2 * x + 1)) ∧ w'.cell? ⟨w1.heap.size, 1, none⟩ = some (.int .i64 (2 * y + 1)) ∧ w'.cell? ⟨w1.heap.size, 2, none⟩ = some (.int .i64 (X1)) ∧ w'.cell? ⟨w1.heap.size, 3, none⟩ = some (.int .i64 (Y1)) ∧ w'.cell? ⟨w1.heap.size, 4, none⟩ = some (.int .i64 (X2)) ∧ w'.cell? ⟨w1.heap.size, 5, none⟩ = some (.int .i64 (Y2)) ∧ Below w.heap.size w w')
  (first
   | with_reducible exact hS0
   | (go_split_ands; with_reducible exact ⟨far12 ‹_› hne _ _ _ _ _ _ _ _ _ _ _ _, far12 ‹_› hne _ _ _ _ _ _ _ _ _ _ _ _, far12 ‹_› hne _ _ _ _ _ _ _ _ _ _ _ _, far12 ‹_› hne _ _ _ _ _ _ _ _ _ _ _ _, far12 ‹_› hne _ _ _ _ _ _ _ _ _ _ _ _, far12 ‹_› hne _ _ _ _ _ _ _ _ _ _ _ _, set12_below ‹_› _ hge _ _ _ _ _ _ _ _ _ _ _ _⟩)
   | (go_split_ands; with_reducible exact ⟨sd ‹_› hbc, sd ‹_› hbc, sd ‹_› hbc, sd ‹_› hbc, sd ‹_› hbc, sd ‹_› hbc, stay_b ‹_› hbc⟩))
  (first
    | ((with_reducible refine (tileEdge_any (2 * x + 1) (2 * y + 1) X1 Y1 _).mono ?_); rintro e wc ⟨he, hbc⟩; rw [← HE0.out] at he; subst he; have kr := blk_below kr hbc (blk_lt kr); have zf := frozen_of_blk kr; have z0 := cell_of_blk kr 0; have z1 := cell_of_blk kr 1; have z2 := cell_of_blk kr 2; have z3 := cell_of_blk kr 3; have z4 := cell_of_blk kr 4; have z5 := cell_of_blk kr 5; have z6 := cell_of_blk kr 6; have z7 := cell_of_blk kr 7; have z8 := cell_of_blk kr 8; have z9 := cell_of_blk kr 9; have z10 := cell_of_blk kr 10; have z11 := cell_of_blk kr 11; simp only [List.getElem?_toArray, List.getElem?_cons_zero, List.getElem?_cons_succ] at z0 z1 z2 z3 z4 z5 z6 z7 z8 z9 z10 z11)
    | ((with_reducible refine (tileEdge_any X1 Y1 X2 Y2 _).mono ?_); rintro e wc ⟨he, hbc⟩; rw [← HE1.out] at he; subst he; have kr := blk_below kr hbc (blk_lt kr); have zf := frozen_of_blk kr; have z0 := cell_of_blk kr 0; have z1 := cell_of_blk kr 1; have z2 := cell_of_blk kr 2; have z3 := cell_of_blk kr 3; have z4 := cell_of_blk kr 4; have z5 := cell_of_blk kr 5; have z6 := cell_of_blk kr 6; have z7 := cell_of_blk kr 7; have z8 := cell_of_blk kr 8; have z9 := cell_of_blk kr 9; have z10 := cell_of_blk kr 10; have z11 := cell_of_blk kr 11; simp only [List.getElem?_toArray, List.getElem?_cons_zero, List.getElem?_cons_succ] at z0 z1 z2 z3 z4 z5 z6 z7 z8 z9 z10 z11)
    | ((with_reducible refine (tileEdge_any X2 Y2 (2 * x + 1) (2 * y + 1) _).mono ?_); rintro e wc ⟨he, hbc⟩; rw [← HE2.out] at he; subst he; have kr := blk_below kr hbc (blk_lt kr); have zf := frozen_of_blk kr; have z0 := cell_of_blk kr 0; have z1 := cell_of_blk kr 1; have z2 := cell_of_blk kr 2; have z3 := cell_of_blk kr 3; have z4 := cell_of_blk kr 4; have z5 := cell_of_blk kr 5; have z6 := cell_of_blk kr 6; have z7 := cell_of_blk kr 7; have z8 := cell_of_blk kr 8; have z9 := cell_of_blk kr 9; have z10 := cell_of_blk kr 10; have z11 := cell_of_blk kr 11; simp only [List.getElem?_toArray, List.getElem?_cons_zero, List.getElem?_cons_succ] at z0 z1 z2 z3 z4 z5 z6 z7 z8 z9 z10 z11))
 rename_i hH
 obtain ⟨_, _, _, _, _, _, hend⟩ := hH
 go_wp2
 exact bodyPost_ret (v := agg3E E0 E1 E2) (by simp [results, Tryz.results47, go_sem, z0, z1, z2, z3, z4, z5, z6, z7, z8, z9, z10, z11]) rfl ⟨by rw [HE0.out, HE1.out, HE2.out, HX1.out, HX2.out, HY1.out, HY2.out]; rfl, hend⟩
set_option maxRecDepth 100000 in
set_option maxHeartbeats 3200000 in
theorem cornersOf_wide (x y k : Int) (w : World) (x1 : -2000000 ≤ x) (x2 : x ≤ 2000000) (y1 : -2000000 ≤ y) (y2 : y ≤ 2000000) (k1 : 0 ≤ k) (k2 : k ≤ 3) :
  Calls Tryz.prog 67 #[.agg #[.int .i64 x, .int .i64 y, .int .i64 k]] w fun e w' => ThreeP w' e (2 * x + 1) (2 * y + 1) (cornX x k) (cornY y k) (cornX x (k + 1)) (cornY y (k + 1)) ∧ Below w.heap.size w w' := by
 have hk : k = 0 ∨ k = 1 ∨ k = 2 ∨ k = 3 := by omega
 rcases hk with rfl | rfl | rfl | rfl
 ·have e1 : cornX x 0 = 2 * x := by simp [cornX, stepX]; try omega
  have e2 : cornY y 0 = 2 * y := by simp [cornY, stepY]; try omega
  have e3 : cornX x (0 + 1) = 2 * x + 2 := by simp [cornX, stepX]; try omega
  have e4 : cornY y (0 + 1) = 2 * y := by simp [cornY, stepY]; try omega
  rw [e1, e2, e3, e4]
  clear e1 e2 e3 e4
  go_enter Tryz.func67, Tryz.ntmps67
  go_wp2_with fail
  go_quiet (fail)
  go_wp2
  go_ret
  refine ⟨⟨_, rfl, ?_⟩, ?_⟩
  ·exact new_blk _ (by simp)
  ·exact ba (ba (ba (ba (ba (ba (below_drewN (ba (Below.refl _ _) _) _) _) _) _) _) _) _
 ·have e1 : cornX x 1 = 2 * x + 2 := by simp [cornX, stepX]; try omega
  have e2 : cornY y 1 = 2 * y := by simp [cornY, stepY]; try omega
  have e3 : cornX x (1 + 1) = 2 * x + 2 := by simp [cornX, stepX]; try omega
  have e4 : cornY y (1 + 1) = 2 * y + 2 := by simp [cornY, stepY]; try omega
  rw [e1, e2, e3, e4]
  clear e1 e2 e3 e4
  go_enter Tryz.func67, Tryz.ntmps67
  go_wp2_with fail
  go_quiet (fail)
  go_wp2
  go_ret
  refine ⟨⟨_, rfl, ?_⟩, ?_⟩
  ·exact new_blk _ (by simp)
  ·exact ba (ba (ba (ba (ba (ba (below_drewN (ba (Below.refl _ _) _) _) _) _) _) _) _) _
 ·have e1 : cornX x 2 = 2 * x + 2 := by simp [cornX, stepX]; try omega
  have e2 : cornY y 2 = 2 * y + 2 := by simp [cornY, stepY]; try omega
  have e3 : cornX x (2 + 1) = 2 * x := by simp [cornX, stepX]; try omega
  have e4 : cornY y (2 + 1) = 2 * y + 2 := by simp [cornY, stepY]; try omega
  rw [e1, e2, e3, e4]
  clear e1 e2 e3 e4
  go_enter Tryz.func67, Tryz.ntmps67
  go_wp2_with fail
  go_quiet (fail)
  go_wp2
  go_ret
  refine ⟨⟨_, rfl, ?_⟩, ?_⟩
  ·exact new_blk _ (by simp)
  ·exact ba (ba (ba (ba (ba (ba (below_drewN (ba (Below.refl _ _) _) _) _) _) _) _) _) _
 ·have e1 : cornX x 3 = 2 * x := by simp [cornX, stepX]; try omega
  have e2 : cornY y 3 = 2 * y + 2 := by simp [cornY, stepY]; try omega
  have e3 : cornX x (3 + 1) = 2 * x := by simp [cornX, stepX]; try omega
  have e4 : cornY y (3 + 1) = 2 * y := by simp [cornY, stepY]; try omega
  rw [e1, e2, e3, e4]
  clear e1 e2 e3 e4
  go_enter Tryz.func67, Tryz.ntmps67
  go_wp2_with fail
  go_quiet (fail)
  go_wp2
  go_ret
  refine ⟨⟨_, rfl, ?_⟩, ?_⟩
  ·exact new_blk _ (by simp)
  ·exact ba (ba (ba (ba (ba (ba (below_drewN (ba (Below.refl _ _) _) _) _) _) _) _) _) _
set_option maxRecDepth 100000 in
set_option maxHeartbeats 6400000 in
theorem edgesOf_any (x y k : Int) (w : World) (x1 : -2000000 ≤ x) (x2 : x ≤ 2000000) (y1 : -2000000 ≤ y) (y2 : y ≤ 2000000) (k1 : 0 ≤ k) (k2 : k ≤ 3) :
  Calls Tryz.prog 64 #[aggT x y k] w fun e w' => ThreeE w' e (edgeT x y k 0) (edgeT x y k 1) (edgeT x y k 2) ∧ Below w.heap.size w w' := by
 obtain ⟨X1, hX1⟩ : ∃ a : Int, a = cornX x k := ⟨_, rfl⟩
 have HX1 := Lib.hid hX1
 clear hX1
 obtain ⟨Y1, hY1⟩ : ∃ a : Int, a = cornY y k := ⟨_, rfl⟩
 have HY1 := Lib.hid hY1
 clear hY1
 obtain ⟨X2, hX2⟩ : ∃ a : Int, a = cornX x (k + 1) := ⟨_, rfl⟩
 have HX2 := Lib.hid hX2
 clear hX2
 obtain ⟨Y2, hY2⟩ : ∃ a : Int, a = cornY y (k + 1) := ⟨_, rfl⟩
 have HY2 := Lib.hid hY2
 clear hY2
 obtain ⟨E0, hE0⟩ : ∃ a : E4, a = ordE (2 * x + 1) (2 * y + 1) X1 Y1 := ⟨_, rfl⟩
 have HE0 := Lib.hid hE0
 clear hE0
 obtain ⟨E1, hE1⟩ : ∃ a : E4, a = ordE X1 Y1 X2 Y2 := ⟨_, rfl⟩
 have HE1 := Lib.hid hE1
 clear hE1
 obtain ⟨E2, hE2⟩ : ∃ a : E4, a = ordE X2 Y2 (2 * x + 1) (2 * y + 1) := ⟨_, rfl⟩
 have HE2 := Lib.hid hE2
 clear hE2
 go_enter Tryz.func64, Tryz.ntmps64
 go_wp2_with fail
 refine (cornersOf_wide x y k _ x1 x2 y1 y2 k1 k2).mono ?_
 rintro e w1 ⟨⟨g, he, hg⟩, hb1⟩
 subst he
 rw [← HX1.out, ← HY1.out, ← HX2.out, ← HY2.out] at hg
 have k_t_1 : w1.heap[w.heap.size]? = some (.cells #[.int .i64 x, .int .i64 y, .int .i64 k] 59 (0, 0)) := blk_below (new_blk (.cells #[.int .i64 x, .int .i64 y, .int .i64 k] 59) (by first | rfl | (simp; done) | (simp; omega))) hb1 (by first | (simp; done) | (simp; omega))
 have hw_1 : Below w.heap.size w w1 := stay_b (ba (Below.refl _ _) _) hb1
 clear hb1
 have c_t_0 := cell_of_blk k_t_1 0
 have c_t_1 := cell_of_blk k_t_1 1
 have c_t_2 := cell_of_blk k_t_1 2
 simp only [List.getElem?_toArray, List.getElem?_cons_zero, List.getElem?_cons_succ] at c_t_0 c_t_1 c_t_2
 have f_t := frozen_of_blk k_t_1
 have s_t := blk_lt k_t_1
 go_wp2_with fail
 have hkc : w1.drew.heap[g]? = some (.cells #[.int .i64 (2 * x + 1), .int .i64 (2 * y + 1), .int .i64 X1, .int .i64 Y1, .int .i64 X2, .int .i64 Y2] 48 (0, 0)) := hg
 have hb0 : Below w.heap.size w w1.drew := hw_1.drew
 have d0 := cell_of_blk hkc 0
 have d1 := cell_of_blk hkc 1
 have d2 := cell_of_blk hkc 2
 have d3 := cell_of_blk hkc 3
 have d4 := cell_of_blk hkc 4
 have d5 := cell_of_blk hkc 5
 simp only [List.getElem?_toArray, List.getElem?_cons_zero, List.getElem?_cons_succ] at d0 d1 d2 d3 d4 d5
 have hgl := blk_lt hg
 clear hkc hg k_t_1 c_t_0 c_t_1 c_t_2 f_t s_t hw_1
 have hS0 := And.intro d0 (And.intro d1 (And.intro d2 (And.intro d3 (And.intro d4 (And.intro d5 hb0)))))
 clear d0 d1 d2 d3 d4 d5 hb0
 go_region_held3 (fun w' => w'.cell? ⟨g, 0, none⟩ = some (.int .i64 (2 * x + 1)) ∧ w'.cell? ⟨g, 1, none⟩ = some (.int .i64 (2 * y + 1)) ∧ w'.cell? ⟨g, 2, none⟩ = some (.int .i64 (X1)) ∧ w'.cell? ⟨g, 3, none⟩ = some (.int .i64 (Y1)) ∧ w'.cell? ⟨g, 4, none⟩ = some (.int .i64 (X2)) ∧ w'.cell? ⟨g, 5, none⟩ = some (.int .i64 (Y2)) ∧ Below w.heap.size w w')
  (first
   | with_reducible exact hS0
   | (go_split_ands; with_reducible exact ⟨al_c ‹_› _, al_c ‹_› _, al_c ‹_› _, al_c ‹_› _, al_c ‹_› _, al_c ‹_› _, ba ‹_› _⟩)
   | (go_split_ands; with_reducible exact ⟨sd ‹_› hbc, sd ‹_› hbc, sd ‹_› hbc, sd ‹_› hbc, sd ‹_› hbc, sd ‹_› hbc, stay_b ‹_› hbc⟩))
  (first
    | ((with_reducible refine (refEdge_any (2 * x + 1) (2 * y + 1) X1 Y1 _).mono ?_); rintro e wc ⟨he, hbc⟩; rw [← HE0.out] at he; subst he)
    | ((with_reducible refine (refEdge_any X1 Y1 X2 Y2 _).mono ?_); rintro e wc ⟨he, hbc⟩; rw [← HE1.out] at he; subst he)
    | ((with_reducible refine (refEdge_any X2 Y2 (2 * x + 1) (2 * y + 1) _).mono ?_); rintro e wc ⟨he, hbc⟩; rw [← HE2.out] at he; subst he))
 rename_i hH
 obtain ⟨_, _, _, _, _, _, hend⟩ := hH
 go_wp2
 go_ret
 refine ⟨?_, hend⟩
 rw [show edgeT x y k 0 = E0 by rw [HE0.out, HX1.out, HY1.out]; rfl, show edgeT x y k 1 = E1 by rw [HE1.out, HX1.out, HY1.out, HX2.out, HY2.out]; rfl, show edgeT x y k 2 = E2 by rw [HE2.out, HX2.out, HY2.out]; rfl]
 exact ⟨_, rfl, new_blk _ rfl⟩
end
end Go.Proofs.YtbnkabmnenginaaGreatDoor
