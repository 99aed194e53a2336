/- The edges of a triangle, in both layers. Equal points, edges and triangles; hasEdge; slices.Index over three edges. -/
import Derived.Test.YtpkjekedgodccaaGreatDoorK02
import Derived.Laws.StructEq
namespace Go.Proofs.YtpkjekedgodccaaGreatDoor
set_option linter.unusedSimpArgs false
set_option linter.unusedVariables false
section
open Go.RowKit
def edgeT (x y k : Int) (i : Nat) : E4 := match i with
 | 0 => ordE (2 * x + 1) (2 * y + 1) (cornX x k) (cornY y k)
 | 1 => ordE (cornX x k) (cornY y k) (cornX x (k + 1)) (cornY y (k + 1))
 | _ => ordE (cornX x (k + 1)) (cornY y (k + 1)) (2 * x + 1) (2 * y + 1)
theorem set12_below {w w1 : World} (h : Below w.heap.size w w1) (g : Nat) (hg : w.heap.size ≤ g) (a0 a1 a2 a3 a4 a5 a6 a7 a8 a9 a10 a11 : Value) : Below w.heap.size w ((((((((((((w1.setCell ⟨g, 0, none⟩ a0).setCell ⟨g, 1, none⟩ a1).setCell ⟨g, 2, none⟩ a2).setCell ⟨g, 3, none⟩ a3).setCell ⟨g, 4, none⟩ a4).setCell ⟨g, 5, none⟩ a5).setCell ⟨g, 6, none⟩ a6).setCell ⟨g, 7, none⟩ a7).setCell ⟨g, 8, none⟩ a8).setCell ⟨g, 9, none⟩ a9).setCell ⟨g, 10, none⟩ a10).setCell ⟨g, 11, none⟩ a11) := ((((((((((((h.setCell hg a0).setCell hg a1).setCell hg a2).setCell hg a3).setCell hg a4).setCell hg a5).setCell hg a6).setCell hg a7).setCell hg a8).setCell hg a9).setCell hg a10).setCell hg a11)
theorem far1 {w : World} {g b i j : Nat} {u v : Value} (h : w.cell? ⟨b, j, none⟩ = some u) (hne : g ≠ b) : (w.setCell ⟨g, i, none⟩ v).cell? ⟨b, j, none⟩ = some u := (World.cell?_setCell_far w _ _ _ hne).trans h
theorem far12 {w : World} {g b j : Nat} {u : Value} (h : w.cell? ⟨b, j, none⟩ = some u) (hne : g ≠ b) (a0 a1 a2 a3 a4 a5 a6 a7 a8 a9 a10 a11 : Value) : ((((((((((((w.setCell ⟨g, 0, none⟩ a0).setCell ⟨g, 1, none⟩ a1).setCell ⟨g, 2, none⟩ a2).setCell ⟨g, 3, none⟩ a3).setCell ⟨g, 4, none⟩ a4).setCell ⟨g, 5, none⟩ a5).setCell ⟨g, 6, none⟩ a6).setCell ⟨g, 7, none⟩ a7).setCell ⟨g, 8, none⟩ a8).setCell ⟨g, 9, none⟩ a9).setCell ⟨g, 10, none⟩ a10).setCell ⟨g, 11, none⟩ a11).cell? ⟨b, j, none⟩ = some u := (far1 (far1 (far1 (far1 (far1 (far1 (far1 (far1 (far1 (far1 (far1 (far1 h hne) hne) hne) hne) hne) hne) hne) hne) hne) hne) hne) hne)
theorem al_c {w : World} {a : Addr} {v : Value} (h : w.cell? a = some v) (o : Obj) : (w.alloc o).cell? a = some v := sd h (below_new w o)
abbrev aggT (x y k : Int) : Value := .agg #[.int .i64 x, .int .i64 y, .int .i64 k]
abbrev agg3E (a b c : E4) : Value := .agg #[.int .i64 a.1, .int .i64 a.2.1, .int .i64 a.2.2.1, .int .i64 a.2.2.2, .int .i64 b.1, .int .i64 b.2.1, .int .i64 b.2.2.1, .int .i64 b.2.2.2, .int .i64 c.1, .int .i64 c.2.1, .int .i64 c.2.2.1, .int .i64 c.2.2.2]
def ThreeE (w : World) (e : Ending) (a b c : E4) : Prop := ∃ g, e = .returned (.slice (some ⟨g, 0, none⟩) 3 3) ∧ w.heap[g]? = some (.cells #[.int .i64 a.1, .int .i64 a.2.1, .int .i64 a.2.2.1, .int .i64 a.2.2.2, .int .i64 b.1, .int .i64 b.2.1, .int .i64 b.2.2.1, .int .i64 b.2.2.2, .int .i64 c.1, .int .i64 c.2.1, .int .i64 c.2.2.1, .int .i64 c.2.2.2] 100 (0, 0))
set_option maxRecDepth 100000 in
set_option maxHeartbeats 6400000 in
theorem edges_any (x y k : Int) (w : World) (hs : Steps w) (x1 : -1000000 ≤ x) (x2 : x ≤ 1000000) (y1 : -1000000 ≤ y) (y2 : y ≤ 1000000) (k1 : 0 ≤ k) (k2 : k ≤ 3) :
  Calls Tryz.prog 62 #[aggT x y k] w fun e w' => e = .returned (agg3E (edgeT x y k 0) (edgeT x y k 1) (edgeT x y k 2)) ∧ Below w.heap.size w w' := by
 obtain ⟨X1, hX1⟩ : ∃ a : Int, a = cornX x k := ⟨_, rfl⟩
 have HX1 := Lib.hid hX1
 clear hX1
 obtain ⟨Y1, hY1⟩ : ∃ a : Int, a = cornY y k := ⟨_, rfl⟩
 have HY1 := Lib.hid hY1
 clear hY1
 obtain ⟨X2, hX2⟩ : ∃ a : Int, a = cornX x (k + 1) := ⟨_, rfl⟩
 have HX2 := Lib.hid hX2
 clear hX2
 obtain ⟨Y2, hY2⟩ : ∃ a : Int, a = cornY y (k + 1) := ⟨_, rfl⟩
 have HY2 := Lib.hid hY2
 clear hY2
 obtain ⟨E0, hE0⟩ : ∃ a : E4, a = ordE (2 * x + 1) (2 * y + 1) X1 Y1 := ⟨_, rfl⟩
 have HE0 := Lib.hid hE0
 clear hE0
 obtain ⟨E1, hE1⟩ : ∃ a : E4, a = ordE X1 Y1 X2 Y2 := ⟨_, rfl⟩
 have HE1 := Lib.hid hE1
 clear hE1
 obtain ⟨E2, hE2⟩ : ∃ a : E4, a = ordE X2 Y2 (2 * x + 1) (2 * y + 1) := ⟨_, rfl⟩
 have HE2 := Lib.hid hE2
 clear hE2
 go_enter Tryz.func62, Tryz.ntmps62
 go_wp2_with fail
 refine (corners_any x y k _ ((hs.alloc _).alloc _) x1 x2 y1 y2 k1 k2).mono ?_
 rintro e w1 ⟨he, hb1⟩
 rw [← HX1.out, ← HY1.out, ← HX2.out, ← HY2.out] at he
 subst he
 have k_t_1 : w1.heap[w.heap.size]? = some (.cells #[.int .i64 x, .int .i64 y, .int .i64 k] 44 (0, 0)) := blk_below (blk_alloc (new_blk (.cells #[.int .i64 x, .int .i64 y, .int .i64 k] 44) (by first | rfl | (simp; done) | (simp; omega))) _) hb1 (by first | (simp; done) | (simp; omega))
 have k_r_1 : w1.heap[w.heap.size + 1]? = some (.cells #[.int .i64 0, .int .i64 0, .int .i64 0, .int .i64 0, .int .i64 0, .int .i64 0, .int .i64 0, .int .i64 0, .int .i64 0, .int .i64 0, .int .i64 0, .int .i64 0] 126 (0, 0)) := blk_below (new_blk (.cells #[.int .i64 0, .int .i64 0, .int .i64 0, .int .i64 0, .int .i64 0, .int .i64 0, .int .i64 0, .int .i64 0, .int .i64 0, .int .i64 0, .int .i64 0, .int .i64 0] 126) (by first | rfl | (simp; done) | (simp; omega))) hb1 (by first | (simp; done) | (simp; omega))
 have hw_1 : Below w.heap.size w w1 := stay_b (ba (ba (Below.refl _ _) _) _) hb1
 have hs_1 := ((hs.alloc _).alloc _).below hb1
 clear hb1
 have c_t_0 := cell_of_blk k_t_1 0
 have c_t_1 := cell_of_blk k_t_1 1
 have c_t_2 := cell_of_blk k_t_1 2
 simp only [List.getElem?_toArray, List.getElem?_cons_zero, List.getElem?_cons_succ] at c_t_0 c_t_1 c_t_2
 have f_t := frozen_of_blk k_t_1
 have s_t := blk_lt k_t_1
 have c_r_0 := cell_of_blk k_r_1 0
 have c_r_1 := cell_of_blk k_r_1 1
 have c_r_2 := cell_of_blk k_r_1 2
 have c_r_3 := cell_of_blk k_r_1 3
 have c_r_4 := cell_of_blk k_r_1 4
 have c_r_5 := cell_of_blk k_r_1 5
 have c_r_6 := cell_of_blk k_r_1 6
 have c_r_7 := cell_of_blk k_r_1 7
 have c_r_8 := cell_of_blk k_r_1 8
 have c_r_9 := cell_of_blk k_r_1 9
 have c_r_10 := cell_of_blk k_r_1 10
 have c_r_11 := cell_of_blk k_r_1 11
 simp only [List.getElem?_toArray, List.getElem?_cons_zero, List.getElem?_cons_succ] at c_r_0 c_r_1 c_r_2 c_r_3 c_r_4 c_r_5 c_r_6 c_r_7 c_r_8 c_r_9 c_r_10 c_r_11
 have f_r := frozen_of_blk k_r_1
 have s_r := blk_lt k_r_1
 go_wp2_with fail
 have hkc : ((w1.alloc (.cells #[.int .i64 (2 * x + 1), .int .i64 (2 * y + 1), .int .i64 X1, .int .i64 Y1, .int .i64 X2, .int .i64 Y2] 123)).drew).heap[w1.heap.size]? = some (.cells #[.int .i64 (2 * x + 1), .int .i64 (2 * y + 1), .int .i64 X1, .int .i64 Y1, .int .i64 X2, .int .i64 Y2] 123 (0, 0)) := heap_alloc_new w1 _
 have kr : ((w1.alloc (.cells #[.int .i64 (2 * x + 1), .int .i64 (2 * y + 1), .int .i64 X1, .int .i64 Y1, .int .i64 X2, .int .i64 Y2] 123)).drew).heap[w.heap.size + 1]? = some (.cells #[.int .i64 0, .int .i64 0, .int .i64 0, .int .i64 0, .int .i64 0, .int .i64 0, .int .i64 0, .int .i64 0, .int .i64 0, .int .i64 0, .int .i64 0, .int .i64 0] 126 (0, 0)) := blk_alloc k_r_1 _
 have hne : w.heap.size + 1 ≠ w1.heap.size := by omega
 have hge : w.heap.size ≤ w.heap.size + 1 := by omega
 have hb0 : Below w.heap.size w ((w1.alloc (.cells #[.int .i64 (2 * x + 1), .int .i64 (2 * y + 1), .int .i64 X1, .int .i64 Y1, .int .i64 X2, .int .i64 Y2] 123)).drew) := (ba hw_1 _).drew
 have d0 := cell_of_blk hkc 0
 have d1 := cell_of_blk hkc 1
 have d2 := cell_of_blk hkc 2
 have d3 := cell_of_blk hkc 3
 have d4 := cell_of_blk hkc 4
 have d5 := cell_of_blk hkc 5
 simp only [List.getElem?_toArray, List.getElem?_cons_zero, List.getElem?_cons_succ] at d0 d1 d2 d3 d4 d5
 clear hkc k_r_1 k_t_1 c_t_0 c_t_1 c_t_2 f_t s_t c_r_0 c_r_1 c_r_2 c_r_3 c_r_4 c_r_5 c_r_6 c_r_7 c_r_8 c_r_9 c_r_10 c_r_11 f_r s_r hw_1 hs_1
 have hS0 := And.intro d0 (And.intro d1 (And.intro d2 (And.intro d3 (And.intro d4 (And.intro d5 hb0)))))
 clear d0 d1 d2 d3 d4 d5 hb0
 go_region_held3 (fun w' => w'.cell? ⟨w1.heap.size, 0, none⟩ = some (.int .i64 (2 * x + 1)) ∧ w'.cell? ⟨w1.heap.size, 1, none⟩ = some (.int .i64 (2 * y + 1)) ∧ w'.cell? ⟨w1.heap.size, 2, none⟩ = some (.int .i64 (X1)) ∧ w'.cell? ⟨w1.heap.size, 3, none⟩ = some (.int .i64 (Y1)) ∧ w'.cell? ⟨w1.heap.size, 4, none⟩ = some (.int .i64 (X2)) ∧ w'.cell? ⟨w1.heap.size, 5, none⟩ = some (.int .i64 (Y2)) ∧ Below w.heap.size w w')
  (first
   | with_reducible exact hS0
   | (go_split_ands; with_reducible exact ⟨far12 ‹_› hne _ _ _ _ _ _ _ _ _ _ _ _, far12 ‹_› hne _ _ _ _ _ _ _ _ _ _ _ _, far12 ‹_› hne _ _ _ _ _ _ _ _ _ _ _ _, far12 ‹_› hne _ _ _ _ _ _ _ _ _ _ _ _, far12 ‹_› hne _ _ _ _ _ _ _ _ _ _ _ _, far12 ‹_› hne _ _ _ _ _ _ _ _ _ _ _ _, set12_below ‹_› _ hge _ _ _ _ _ _ _ _ _ _ _ _⟩)
   | (go_split_ands; with_reducible exact ⟨sd ‹_› hbc, sd ‹_› hbc, sd ‹_› hbc, sd ‹_› hbc, sd ‹_› hbc, sd ‹_› hbc, stay_b ‹_› hbc⟩))
  (first
    | ((with_reducible refine (tileEdge_any (2 * x + 1) (2 * y + 1) X1 Y1 _).mono ?_); rintro e wc ⟨he, hbc⟩; rw [← HE0.out] at he; subst he; have kr := blk_below kr hbc (blk_lt kr); have zf := frozen_of_blk kr; have z0 := cell_of_blk kr 0; have z1 := cell_of_blk kr 1; have z2 := cell_of_blk kr 2; have z3 := cell_of_blk kr 3; have z4 := cell_of_blk kr 4; have z5 := cell_of_blk kr 5; have z6 := cell_of_blk kr 6; have z7 := cell_of_blk kr 7; have z8 := cell_of_blk kr 8; have z9 := cell_of_blk kr 9; have z10 := cell_of_blk kr 10; have z11 := cell_of_blk kr 11; simp only [List.getElem?_toArray, List.getElem?_cons_zero, List.getElem?_cons_succ] at z0 z1 z2 z3 z4 z5 z6 z7 z8 z9 z10 z11)
    | ((with_reducible refine (tileEdge_any X1 Y1 X2 Y2 _).mono ?_); rintro e wc ⟨he, hbc⟩; rw [← HE1.out] at he; subst he; have kr := blk_below kr hbc (blk_lt kr); have zf := frozen_of_blk kr; have z0 := cell_of_blk kr 0; have z1 := cell_of_blk kr 1; have z2 := cell_of_blk kr 2; have z3 := cell_of_blk kr 3; have z4 := cell_of_blk kr 4; have z5 := cell_of_blk kr 5; have z6 := cell_of_blk kr 6; have z7 := cell_of_blk kr 7; have z8 := cell_of_blk kr 8; have z9 := cell_of_blk kr 9; have z10 := cell_of_blk kr 10; have z11 := cell_of_blk kr 11; simp only [List.getElem?_toArray, List.getElem?_cons_zero, List.getElem?_cons_succ] at z0 z1 z2 z3 z4 z5 z6 z7 z8 z9 z10 z11)
    | ((with_reducible refine (tileEdge_any X2 Y2 (2 * x + 1) (2 * y + 1) _).mono ?_); rintro e wc ⟨he, hbc⟩; rw [← HE2.out] at he; subst he; have kr := blk_below kr hbc (blk_lt kr); have zf := frozen_of_blk kr; have z0 := cell_of_blk kr 0; have z1 := cell_of_blk kr 1; have z2 := cell_of_blk kr 2; have z3 := cell_of_blk kr 3; have z4 := cell_of_blk kr 4; have z5 := cell_of_blk kr 5; have z6 := cell_of_blk kr 6; have z7 := cell_of_blk kr 7; have z8 := cell_of_blk kr 8; have z9 := cell_of_blk kr 9; have z10 := cell_of_blk kr 10; have z11 := cell_of_blk kr 11; simp only [List.getElem?_toArray, List.getElem?_cons_zero, List.getElem?_cons_succ] at z0 z1 z2 z3 z4 z5 z6 z7 z8 z9 z10 z11))
 rename_i hH
 obtain ⟨_, _, _, _, _, _, hend⟩ := hH
 go_wp2
 exact bodyPost_ret (v := agg3E E0 E1 E2) (by simp [results, Tryz.results62, go_sem, z0, z1, z2, z3, z4, z5, z6, z7, z8, z9, z10, z11]) rfl ⟨by rw [HE0.out, HE1.out, HE2.out, HX1.out, HX2.out, HY1.out, HY2.out]; rfl, hend⟩
set_option maxRecDepth 100000 in
set_option maxHeartbeats 3200000 in
theorem cornersOf_wide (x y k : Int) (w : World) (x1 : -2000000 ≤ x) (x2 : x ≤ 2000000) (y1 : -2000000 ≤ y) (y2 : y ≤ 2000000) (k1 : 0 ≤ k) (k2 : k ≤ 3) :
  Calls Tryz.prog 50 #[.agg #[.int .i64 x, .int .i64 y, .int .i64 k]] w fun e w' => ThreeP w' e (2 * x + 1) (2 * y + 1) (cornX x k) (cornY y k) (cornX x (k + 1)) (cornY y (k + 1)) ∧ Below w.heap.size w w' := by
 have hk : k = 0 ∨ k = 1 ∨ k = 2 ∨ k = 3 := by omega
 rcases hk with rfl | rfl | rfl | rfl
 ·have e1 : cornX x 0 = 2 * x := by simp [cornX, stepX]; try omega
  have e2 : cornY y 0 = 2 * y := by simp [cornY, stepY]; try omega
  have e3 : cornX x (0 + 1) = 2 * x + 2 := by simp [cornX, stepX]; try omega
  have e4 : cornY y (0 + 1) = 2 * y := by simp [cornY, stepY]; try omega
  rw [e1, e2, e3, e4]
  clear e1 e2 e3 e4
  go_enter Tryz.func50, Tryz.ntmps50
  go_wp2_with fail
  go_quiet (fail)
  go_wp2
  go_ret
  refine ⟨⟨_, rfl, ?_⟩, ?_⟩
  ·exact new_blk _ (by simp)
  ·exact ba (ba (ba (ba (ba (ba (below_drewN (ba (Below.refl _ _) _) _) _) _) _) _) _) _
 ·have e1 : cornX x 1 = 2 * x + 2 := by simp [cornX, stepX]; try omega
  have e2 : cornY y 1 = 2 * y := by simp [cornY, stepY]; try omega
  have e3 : cornX x (1 + 1) = 2 * x + 2 := by simp [cornX, stepX]; try omega
  have e4 : cornY y (1 + 1) = 2 * y + 2 := by simp [cornY, stepY]; try omega
  rw [e1, e2, e3, e4]
  clear e1 e2 e3 e4
  go_enter Tryz.func50, Tryz.ntmps50
  go_wp2_with fail
  go_quiet (fail)
  go_wp2
  go_ret
  refine ⟨⟨_, rfl, ?_⟩, ?_⟩
  ·exact new_blk _ (by simp)
  ·exact ba (ba (ba (ba (ba (ba (below_drewN (ba (Below.refl _ _) _) _) _) _) _) _) _) _
 ·have e1 : cornX x 2 = 2 * x + 2 := by simp [cornX, stepX]; try omega
  have e2 : cornY y 2 = 2 * y + 2 := by simp [cornY, stepY]; try omega
  have e3 : cornX x (2 + 1) = 2 * x := by simp [cornX, stepX]; try omega
  have e4 : cornY y (2 + 1) = 2 * y + 2 := by simp [cornY, stepY]; try omega
  rw [e1, e2, e3, e4]
  clear e1 e2 e3 e4
  go_enter Tryz.func50, Tryz.ntmps50
  go_wp2_with fail
  go_quiet (fail)
  go_wp2
  go_ret
  refine ⟨⟨_, rfl, ?_⟩, ?_⟩
  ·exact new_blk _ (by simp)
  ·exact ba (ba (ba (ba (ba (ba (below_drewN (ba (Below.refl _ _) _) _) _) _) _) _) _) _
 ·have e1 : cornX x 3 = 2 * x := by simp [cornX, stepX]; try omega
  have e2 : cornY y 3 = 2 * y + 2 := by simp [cornY, stepY]; try omega
  have e3 : cornX x (3 + 1) = 2 * x := by simp [cornX, stepX]; try omega
  have e4 : cornY y (3 + 1) = 2 * y := by simp [cornY, stepY]; try omega
  rw [e1, e2, e3, e4]
  clear e1 e2 e3 e4
  go_enter Tryz.func50, Tryz.ntmps50
  go_wp2_with fail
  go_quiet (fail)
  go_wp2
  go_ret
  refine ⟨⟨_, rfl, ?_⟩, ?_⟩
  ·exact new_blk _ (by simp)
  ·exact ba (ba (ba (ba (ba (ba (below_drewN (ba (Below.refl _ _) _) _) _) _) _) _) _) _
set_option maxRecDepth 100000 in
set_option maxHeartbeats 6400000 in
theorem edgesOf_any (x y k : Int) (w : World) (x1 : -2000000 ≤ x) (x2 : x ≤ 2000000) (y1 : -2000000 ≤ y) (y2 : y ≤ 2000000) (k1 : 0 ≤ k) (k2 : k ≤ 3) :
  Calls Tryz.prog 43 #[aggT x y k] w fun e w' => ThreeE w' e (edgeT x y k 0) (edgeT x y k 1) (edgeT x y k 2) ∧ Below w.heap.size w w' := by
 obtain ⟨X1, hX1⟩ : ∃ a : Int, a = cornX x k := ⟨_, rfl⟩
 have HX1 := Lib.hid hX1
 clear hX1
 obtain ⟨Y1, hY1⟩ : ∃ a : Int, a = cornY y k := ⟨_, rfl⟩
 have HY1 := Lib.hid hY1
 clear hY1
 obtain ⟨X2, hX2⟩ : ∃ a : Int, a = cornX x (k + 1) := ⟨_, rfl⟩
 have HX2 := Lib.hid hX2
 clear hX2
 obtain ⟨Y2, hY2⟩ : ∃ a : Int, a = cornY y (k + 1) := ⟨_, rfl⟩
 have HY2 := Lib.hid hY2
 clear hY2
 obtain ⟨E0, hE0⟩ : ∃ a : E4, a = ordE (2 * x + 1) (2 * y + 1) X1 Y1 := ⟨_, rfl⟩
 have HE0 := Lib.hid hE0
 clear hE0
 obtain ⟨E1, hE1⟩ : ∃ a : E4, a = ordE X1 Y1 X2 Y2 := ⟨_, rfl⟩
 have HE1 := Lib.hid hE1
 clear hE1
 obtain ⟨E2, hE2⟩ : ∃ a : E4, a = ordE X2 Y2 (2 * x + 1) (2 * y + 1) := ⟨_, rfl⟩
 have HE2 := Lib.hid hE2
 clear hE2
 go_enter Tryz.func43, Tryz.ntmps43
 go_wp2_with fail
 refine (cornersOf_wide x y k _ x1 x2 y1 y2 k1 k2).mono ?_
 rintro e w1 ⟨⟨g, he, hg⟩, hb1⟩
 subst he
 rw [← HX1.out, ← HY1.out, ← HX2.out, ← HY2.out] at hg
 have k_t_1 : w1.heap[w.heap.size]? = some (.cells #[.int .i64 x, .int .i64 y, .int .i64 k] 44 (0, 0)) := blk_below (new_blk (.cells #[.int .i64 x, .int .i64 y, .int .i64 k] 44) (by first | rfl | (simp; done) | (simp; omega))) hb1 (by first | (simp; done) | (simp; omega))
 have hw_1 : Below w.heap.size w w1 := stay_b (ba (Below.refl _ _) _) hb1
 clear hb1
 have c_t_0 := cell_of_blk k_t_1 0
 have c_t_1 := cell_of_blk k_t_1 1
 have c_t_2 := cell_of_blk k_t_1 2
 simp only [List.getElem?_toArray, List.getElem?_cons_zero, List.getElem?_cons_succ] at c_t_0 c_t_1 c_t_2
 have f_t := frozen_of_blk k_t_1
 have s_t := blk_lt k_t_1
 go_wp2_with fail
 have hkc : w1.drew.heap[g]? = some (.cells #[.int .i64 (2 * x + 1), .int .i64 (2 * y + 1), .int .i64 X1, .int .i64 Y1, .int .i64 X2, .int .i64 Y2] 98 (0, 0)) := hg
 have hb0 : Below w.heap.size w w1.drew := hw_1.drew
 have d0 := cell_of_blk hkc 0
 have d1 := cell_of_blk hkc 1
 have d2 := cell_of_blk hkc 2
 have d3 := cell_of_blk hkc 3
 have d4 := cell_of_blk hkc 4
 have d5 := cell_of_blk hkc 5
 simp only [List.getElem?_toArray, List.getElem?_cons_zero, List.getElem?_cons_succ] at d0 d1 d2 d3 d4 d5
 have hgl := blk_lt hg
 clear hkc hg k_t_1 c_t_0 c_t_1 c_t_2 f_t s_t hw_1
 have hS0 := And.intro d0 (And.intro d1 (And.intro d2 (And.intro d3 (And.intro d4 (And.intro d5 hb0)))))
 clear d0 d1 d2 d3 d4 d5 hb0
 go_region_held3 (fun w' => w'.cell? ⟨g, 0, none⟩ = some (.int .i64 (2 * x + 1)) ∧ w'.cell? ⟨g, 1, none⟩ = some (.int .i64 (2 * y + 1)) ∧ w'.cell? ⟨g, 2, none⟩ = some (.int .i64 (X1)) ∧ w'.cell? ⟨g, 3, none⟩ = some (.int .i64 (Y1)) ∧ w'.cell? ⟨g, 4, none⟩ = some (.int .i64 (X2)) ∧ w'.cell? ⟨g, 5, none⟩ = some (.int .i64 (Y2)) ∧ Below w.heap.size w w')
  (first
   | with_reducible exact hS0
   | (go_split_ands; with_reducible exact ⟨al_c ‹_› _, al_c ‹_› _, al_c ‹_› _, al_c ‹_› _, al_c ‹_› _, al_c ‹_› _, ba ‹_› _⟩)
   | (go_split_ands; with_reducible exact ⟨sd ‹_› hbc, sd ‹_› hbc, sd ‹_› hbc, sd ‹_› hbc, sd ‹_› hbc, sd ‹_› hbc, stay_b ‹_› hbc⟩))
  (first
    | ((with_reducible refine (refEdge_any (2 * x + 1) (2 * y + 1) X1 Y1 _).mono ?_); rintro e wc ⟨he, hbc⟩; rw [← HE0.out] at he; subst he)
    | ((with_reducible refine (refEdge_any X1 Y1 X2 Y2 _).mono ?_); rintro e wc ⟨he, hbc⟩; rw [← HE1.out] at he; subst he)
    | ((with_reducible refine (refEdge_any X2 Y2 (2 * x + 1) (2 * y + 1) _).mono ?_); rintro e wc ⟨he, hbc⟩; rw [← HE2.out] at he; subst he))
 rename_i hH
 obtain ⟨_, _, _, _, _, _, hend⟩ := hH
 go_wp2
 go_ret
 refine ⟨?_, hend⟩
 rw [show edgeT x y k 0 = E0 by rw [HE0.out, HX1.out, HY1.out]; rfl, show edgeT x y k 1 = E1 by rw [HE1.out, HX1.out, HY1.out, HX2.out, HY2.out]; rfl, show edgeT x y k 2 = E2 by rw [HE2.out, HX2.out, HY2.out]; rfl]
 exact ⟨_, rfl, new_blk _ rfl⟩
end
section
section
open Go.RowKit
def eqL : List (Int × Int) → Bool
 | [] => true
 | (a, b) :: l => (a == b) && eqL l
theorem eqP (a0 a1 b0 b1 : Int) (w : World) : (binOp .eql 98 (.agg #[.int .i64 a0, .int .i64 a1]) (.agg #[.int .i64 b0, .int .i64 b1])).run Tryz.prog w = .ok (.bool (eqL [(a0, b0), (a1, b1)])) w := by
 simp [go_sem, eqL]
 repeat (first | rfl | (split <;> simp_all))
theorem eqE (a0 a1 a2 a3 b0 b1 b2 b3 : Int) (w : World) : (binOp .eql 100 (.agg #[.int .i64 a0, .int .i64 a1, .int .i64 a2, .int .i64 a3]) (.agg #[.int .i64 b0, .int .i64 b1, .int .i64 b2, .int .i64 b3])).run Tryz.prog w = .ok (.bool (eqL [(a0, b0), (a1, b1), (a2, b2), (a3, b3)])) w := by
 simp [go_sem, eqL]
 repeat (first | rfl | (split <;> simp_all))
theorem eqT (a0 a1 a2 b0 b1 b2 : Int) (w : World) : (binOp .eql 44 (.agg #[.int .i64 a0, .int .i64 a1, .int .i64 a2]) (.agg #[.int .i64 b0, .int .i64 b1, .int .i64 b2])).run Tryz.prog w = .ok (.bool (eqL [(a0, b0), (a1, b1), (a2, b2)])) w := by
 simp [go_sem, eqL]
 repeat (first | rfl | (split <;> simp_all))
theorem neT (a0 a1 a2 b0 b1 b2 : Int) (w : World) : (binOp .neq 44 (.agg #[.int .i64 a0, .int .i64 a1, .int .i64 a2]) (.agg #[.int .i64 b0, .int .i64 b1, .int .i64 b2])).run Tryz.prog w = .ok (.bool (!(eqL [(a0, b0), (a1, b1), (a2, b2)]))) w := by
 simp [go_sem, eqL]
 repeat (first | rfl | (split <;> simp_all))
end
section
open Go.RowKit
def eqE4 (a b : E4) : Bool := eqL [(a.1, b.1), (a.2.1, b.2.1), (a.2.2.1, b.2.2.1), (a.2.2.2, b.2.2.2)]
theorem eqE4_iff (a b : E4) : eqE4 a b = true ↔ a = b := by
 obtain ⟨a1, a2, a3, a4⟩ := a
 obtain ⟨b1, b2, b3, b4⟩ := b
 simp [eqE4, eqL]
def hasE (x y k : Int) (m : E4) : Bool := eqE4 (edgeT x y k 0) m || eqE4 (edgeT x y k 1) m || eqE4 (edgeT x y k 2) m
def idxE (a b c m : E4) : Int := if eqE4 m a then 0 else if eqE4 m b then 1 else if eqE4 m c then 2 else -1
theorem qE (a b : E4) (w : World) : (binOp .eql 100 (aggE a) (aggE b)).run Tryz.prog w = .ok (.bool (eqE4 a b)) w := eqE ..
set_option maxRecDepth 100000 in
set_option maxHeartbeats 3200000 in
theorem has_0 (x y k : Int) (m : E4) (w : World) (x1 : -2000000 ≤ x) (x2 : x ≤ 2000000) (y1 : -2000000 ≤ y) (y2 : y ≤ 2000000) (k1 : 0 ≤ k) (k2 : k ≤ 3) (q0 : eqE4 (edgeT x y k 0) m = true) :
  Calls Tryz.prog 72 #[aggT x y k, aggE m] w fun e w' => e = .returned (.bool (true)) ∧ Below w.heap.size w w' := by
 obtain ⟨E0, hE0⟩ : ∃ a : E4, a = edgeT x y k 0 := ⟨_, rfl⟩
 have HE0 := Lib.hid hE0
 clear hE0
 obtain ⟨E1, hE1⟩ : ∃ a : E4, a = edgeT x y k 1 := ⟨_, rfl⟩
 have HE1 := Lib.hid hE1
 clear hE1
 obtain ⟨E2, hE2⟩ : ∃ a : E4, a = edgeT x y k 2 := ⟨_, rfl⟩
 have HE2 := Lib.hid hE2
 clear hE2
 rw [← HE0.out] at q0
 have Q0 := Lib.hid q0
 clear q0
 go_enter Tryz.func72, Tryz.ntmps72
 go_wp2_with fail
 refine (edgesOf_any x y k _ x1 x2 y1 y2 k1 k2).mono ?_
 rintro e w1 ⟨⟨g, he, hg⟩, hb1⟩
 subst he
 rw [← HE0.out, ← HE1.out, ← HE2.out] at hg
 have k_t_1 : w1.heap[w.heap.size]? = some (.cells #[.int .i64 x, .int .i64 y, .int .i64 k] 44 (0, 0)) := blk_below (blk_alloc (new_blk (.cells #[.int .i64 x, .int .i64 y, .int .i64 k] 44) (by first | rfl | (simp; done) | (simp; omega))) _) hb1 (by first | (simp; done) | (simp; omega))
 have k_e_1 : w1.heap[w.heap.size + 1]? = some (.cells #[.int .i64 (m.1), .int .i64 (m.2.1), .int .i64 (m.2.2.1), .int .i64 (m.2.2.2)] 100 (0, 0)) := blk_below (new_blk (.cells #[.int .i64 (m.1), .int .i64 (m.2.1), .int .i64 (m.2.2.1), .int .i64 (m.2.2.2)] 100) (by first | rfl | (simp; done) | (simp; omega))) hb1 (by first | (simp; done) | (simp; omega))
 have hw_1 : Below w.heap.size w w1 := stay_b (ba (ba (Below.refl _ _) _) _) hb1
 clear hb1
 have c_t_0 := cell_of_blk k_t_1 0
 have c_t_1 := cell_of_blk k_t_1 1
 have c_t_2 := cell_of_blk k_t_1 2
 simp only [List.getElem?_toArray, List.getElem?_cons_zero, List.getElem?_cons_succ] at c_t_0 c_t_1 c_t_2
 have f_t := frozen_of_blk k_t_1
 have s_t := blk_lt k_t_1
 have c_e_0 := cell_of_blk k_e_1 0
 have c_e_1 := cell_of_blk k_e_1 1
 have c_e_2 := cell_of_blk k_e_1 2
 have c_e_3 := cell_of_blk k_e_1 3
 simp only [List.getElem?_toArray, List.getElem?_cons_zero, List.getElem?_cons_succ] at c_e_0 c_e_1 c_e_2 c_e_3
 have f_e := frozen_of_blk k_e_1
 have s_e := blk_lt k_e_1
 have d0 := cell_of_blk hg 0
 have d1 := cell_of_blk hg 1
 have d2 := cell_of_blk hg 2
 have d3 := cell_of_blk hg 3
 have d4 := cell_of_blk hg 4
 have d5 := cell_of_blk hg 5
 have d6 := cell_of_blk hg 6
 have d7 := cell_of_blk hg 7
 have d8 := cell_of_blk hg 8
 have d9 := cell_of_blk hg 9
 have d10 := cell_of_blk hg 10
 have d11 := cell_of_blk hg 11
 simp only [List.getElem?_toArray, List.getElem?_cons_zero, List.getElem?_cons_succ] at d0 d1 d2 d3 d4 d5 d6 d7 d8 d9 d10 d11
 clear hg k_t_1 k_e_1
 have r0 : ∀ w : World, (binOp .eql 100 (aggE E0) (aggE m)).run Tryz.prog w = .ok (.bool true) w := fun w => by rw [qE, Q0.out]
 go_wp2_with fail
 go_quiet (fail)
 go_wp2
 go_ret
 exact ⟨rfl, below_drewN hw_1 _⟩
set_option maxRecDepth 100000 in
set_option maxHeartbeats 3200000 in
theorem has_1 (x y k : Int) (m : E4) (w : World) (x1 : -2000000 ≤ x) (x2 : x ≤ 2000000) (y1 : -2000000 ≤ y) (y2 : y ≤ 2000000) (k1 : 0 ≤ k) (k2 : k ≤ 3) (q0 : eqE4 (edgeT x y k 0) m = false) (q1 : eqE4 (edgeT x y k 1) m = true) :
  Calls Tryz.prog 72 #[aggT x y k, aggE m] w fun e w' => e = .returned (.bool (true)) ∧ Below w.heap.size w w' := by
 obtain ⟨E0, hE0⟩ : ∃ a : E4, a = edgeT x y k 0 := ⟨_, rfl⟩
 have HE0 := Lib.hid hE0
 clear hE0
 obtain ⟨E1, hE1⟩ : ∃ a : E4, a = edgeT x y k 1 := ⟨_, rfl⟩
 have HE1 := Lib.hid hE1
 clear hE1
 obtain ⟨E2, hE2⟩ : ∃ a : E4, a = edgeT x y k 2 := ⟨_, rfl⟩
 have HE2 := Lib.hid hE2
 clear hE2
 rw [← HE0.out] at q0
 rw [← HE1.out] at q1
 have Q0 := Lib.hid q0
 clear q0
 have Q1 := Lib.hid q1
 clear q1
 go_enter Tryz.func72, Tryz.ntmps72
 go_wp2_with fail
 refine (edgesOf_any x y k _ x1 x2 y1 y2 k1 k2).mono ?_
 rintro e w1 ⟨⟨g, he, hg⟩, hb1⟩
 subst he
 rw [← HE0.out, ← HE1.out, ← HE2.out] at hg
 have k_t_1 : w1.heap[w.heap.size]? = some (.cells #[.int .i64 x, .int .i64 y, .int .i64 k] 44 (0, 0)) := blk_below (blk_alloc (new_blk (.cells #[.int .i64 x, .int .i64 y, .int .i64 k] 44) (by first | rfl | (simp; done) | (simp; omega))) _) hb1 (by first | (simp; done) | (simp; omega))
 have k_e_1 : w1.heap[w.heap.size + 1]? = some (.cells #[.int .i64 (m.1), .int .i64 (m.2.1), .int .i64 (m.2.2.1), .int .i64 (m.2.2.2)] 100 (0, 0)) := blk_below (new_blk (.cells #[.int .i64 (m.1), .int .i64 (m.2.1), .int .i64 (m.2.2.1), .int .i64 (m.2.2.2)] 100) (by first | rfl | (simp; done) | (simp; omega))) hb1 (by first | (simp; done) | (simp; omega))
 have hw_1 : Below w.heap.size w w1 := stay_b (ba (ba (Below.refl _ _) _) _) hb1
 clear hb1
 have c_t_0 := cell_of_blk k_t_1 0
 have c_t_1 := cell_of_blk k_t_1 1
 have c_t_2 := cell_of_blk k_t_1 2
 simp only [List.getElem?_toArray, List.getElem?_cons_zero, List.getElem?_cons_succ] at c_t_0 c_t_1 c_t_2
 have f_t := frozen_of_blk k_t_1
 have s_t := blk_lt k_t_1
 have c_e_0 := cell_of_blk k_e_1 0
 have c_e_1 := cell_of_blk k_e_1 1
 have c_e_2 := cell_of_blk k_e_1 2
 have c_e_3 := cell_of_blk k_e_1 3
 simp only [List.getElem?_toArray, List.getElem?_cons_zero, List.getElem?_cons_succ] at c_e_0 c_e_1 c_e_2 c_e_3
 have f_e := frozen_of_blk k_e_1
 have s_e := blk_lt k_e_1
 have d0 := cell_of_blk hg 0
 have d1 := cell_of_blk hg 1
 have d2 := cell_of_blk hg 2
 have d3 := cell_of_blk hg 3
 have d4 := cell_of_blk hg 4
 have d5 := cell_of_blk hg 5
 have d6 := cell_of_blk hg 6
 have d7 := cell_of_blk hg 7
 have d8 := cell_of_blk hg 8
 have d9 := cell_of_blk hg 9
 have d10 := cell_of_blk hg 10
 have d11 := cell_of_blk hg 11
 simp only [List.getElem?_toArray, List.getElem?_cons_zero, List.getElem?_cons_succ] at d0 d1 d2 d3 d4 d5 d6 d7 d8 d9 d10 d11
 clear hg k_t_1 k_e_1
 have r0 : ∀ w : World, (binOp .eql 100 (aggE E0) (aggE m)).run Tryz.prog w = .ok (.bool false) w := fun w => by rw [qE, Q0.out]
 have r1 : ∀ w : World, (binOp .eql 100 (aggE E1) (aggE m)).run Tryz.prog w = .ok (.bool true) w := fun w => by rw [qE, Q1.out]
 go_wp2_with fail
 go_quiet (fail)
 go_wp2
 go_ret
 exact ⟨rfl, below_drewN hw_1 _⟩
set_option maxRecDepth 100000 in
set_option maxHeartbeats 3200000 in
theorem has_2 (x y k : Int) (m : E4) (w : World) (x1 : -2000000 ≤ x) (x2 : x ≤ 2000000) (y1 : -2000000 ≤ y) (y2 : y ≤ 2000000) (k1 : 0 ≤ k) (k2 : k ≤ 3) (q0 : eqE4 (edgeT x y k 0) m = false) (q1 : eqE4 (edgeT x y k 1) m = false) :
  Calls Tryz.prog 72 #[aggT x y k, aggE m] w fun e w' => e = .returned (.bool (eqE4 (edgeT x y k 2) m)) ∧ Below w.heap.size w w' := by
 obtain ⟨E0, hE0⟩ : ∃ a : E4, a = edgeT x y k 0 := ⟨_, rfl⟩
 have HE0 := Lib.hid hE0
 clear hE0
 obtain ⟨E1, hE1⟩ : ∃ a : E4, a = edgeT x y k 1 := ⟨_, rfl⟩
 have HE1 := Lib.hid hE1
 clear hE1
 obtain ⟨E2, hE2⟩ : ∃ a : E4, a = edgeT x y k 2 := ⟨_, rfl⟩
 have HE2 := Lib.hid hE2
 clear hE2
 rw [← HE0.out] at q0
 rw [← HE1.out] at q1
 rw [show eqE4 (edgeT x y k 2) m = eqE4 E2 m by rw [HE2.out]]
 have Q0 := Lib.hid q0
 clear q0
 have Q1 := Lib.hid q1
 clear q1
 go_enter Tryz.func72, Tryz.ntmps72
 go_wp2_with fail
 refine (edgesOf_any x y k _ x1 x2 y1 y2 k1 k2).mono ?_
 rintro e w1 ⟨⟨g, he, hg⟩, hb1⟩
 subst he
 rw [← HE0.out, ← HE1.out, ← HE2.out] at hg
 have k_t_1 : w1.heap[w.heap.size]? = some (.cells #[.int .i64 x, .int .i64 y, .int .i64 k] 44 (0, 0)) := blk_below (blk_alloc (new_blk (.cells #[.int .i64 x, .int .i64 y, .int .i64 k] 44) (by first | rfl | (simp; done) | (simp; omega))) _) hb1 (by first | (simp; done) | (simp; omega))
 have k_e_1 : w1.heap[w.heap.size + 1]? = some (.cells #[.int .i64 (m.1), .int .i64 (m.2.1), .int .i64 (m.2.2.1), .int .i64 (m.2.2.2)] 100 (0, 0)) := blk_below (new_blk (.cells #[.int .i64 (m.1), .int .i64 (m.2.1), .int .i64 (m.2.2.1), .int .i64 (m.2.2.2)] 100) (by first | rfl | (simp; done) | (simp; omega))) hb1 (by first | (simp; done) | (simp; omega))
 have hw_1 : Below w.heap.size w w1 := stay_b (ba (ba (Below.refl _ _) _) _) hb1
 clear hb1
 have c_t_0 := cell_of_blk k_t_1 0
 have c_t_1 := cell_of_blk k_t_1 1
 have c_t_2 := cell_of_blk k_t_1 2
 simp only [List.getElem?_toArray, List.getElem?_cons_zero, List.getElem?_cons_succ] at c_t_0 c_t_1 c_t_2
 have f_t := frozen_of_blk k_t_1
 have s_t := blk_lt k_t_1
 have c_e_0 := cell_of_blk k_e_1 0
 have c_e_1 := cell_of_blk k_e_1 1
 have c_e_2 := cell_of_blk k_e_1 2
 have c_e_3 := cell_of_blk k_e_1 3
 simp only [List.getElem?_toArray, List.getElem?_cons_zero, List.getElem?_cons_succ] at c_e_0 c_e_1 c_e_2 c_e_3
 have f_e := frozen_of_blk k_e_1
 have s_e := blk_lt k_e_1
 have d0 := cell_of_blk hg 0
 have d1 := cell_of_blk hg 1
 have d2 := cell_of_blk hg 2
 have d3 := cell_of_blk hg 3
 have d4 := cell_of_blk hg 4
 have d5 := cell_of_blk hg 5
 have d6 := cell_of_blk hg 6
 have d7 := cell_of_blk hg 7
 have d8 := cell_of_blk hg 8
 have d9 := cell_of_blk hg 9
 have d10 := cell_of_blk hg 10
 have d11 := cell_of_blk hg 11
 simp only [List.getElem?_toArray, List.getElem?_cons_zero, List.getElem?_cons_succ] at d0 d1 d2 d3 d4 d5 d6 d7 d8 d9 d10 d11
 clear hg k_t_1 k_e_1
 have r0 : ∀ w : World, (binOp .eql 100 (aggE E0) (aggE m)).run Tryz.prog w = .ok (.bool false) w := fun w => by rw [qE, Q0.out]
 have r1 : ∀ w : World, (binOp .eql 100 (aggE E1) (aggE m)).run Tryz.prog w = .ok (.bool false) w := fun w => by rw [qE, Q1.out]
 have r2 : ∀ w : World, (binOp .eql 100 (aggE E2) (aggE m)).run Tryz.prog w = .ok (.bool (eqE4 E2 m)) w := fun w => qE ..
 go_wp2_with fail
 go_quiet (fail)
 go_wp2
 go_ret
 exact ⟨rfl, below_drewN hw_1 _⟩
theorem has_any (x y k : Int) (m : E4) (w : World) (x1 : -2000000 ≤ x) (x2 : x ≤ 2000000) (y1 : -2000000 ≤ y) (y2 : y ≤ 2000000) (k1 : 0 ≤ k) (k2 : k ≤ 3) :
  Calls Tryz.prog 72 #[aggT x y k, aggE m] w fun e w' => e = .returned (.bool (hasE x y k m)) ∧ Below w.heap.size w w' := by
 unfold hasE
 cases q0 : eqE4 (edgeT x y k 0) m
 ·cases q1 : eqE4 (edgeT x y k 1) m
  ·exact has_2 x y k m w x1 x2 y1 y2 k1 k2 q0 q1
  ·exact has_1 x y k m w x1 x2 y1 y2 k1 k2 q0 q1
 ·exact has_0 x y k m w x1 x2 y1 y2 k1 k2 q0
end
section
open Go.RowKit
set_option maxRecDepth 100000 in
set_option maxHeartbeats 3200000 in
theorem index3_any (a b c m : E4) (g : Nat) (w : World) (k_l_0 : w.heap[g]? = some (.cells #[.int .i64 (a.1), .int .i64 (a.2.1), .int .i64 (a.2.2.1), .int .i64 (a.2.2.2), .int .i64 (b.1), .int .i64 (b.2.1), .int .i64 (b.2.2.1), .int .i64 (b.2.2.2), .int .i64 (c.1), .int .i64 (c.2.1), .int .i64 (c.2.2.1), .int .i64 (c.2.2.2)] 126 (0, 0))) :
  Calls Tryz.prog 79 #[.slice (some ⟨g, 0, none⟩) 3 3, aggE m] w fun e w' => e = .returned (.int .i64 (idxE a b c m)) ∧ Below w.heap.size w w' := by
 obtain ⟨R, hR⟩ : ∃ R, R = idxE a b c m := ⟨_, rfl⟩
 rw [← hR]
 have HR : Hid ((eqE4 m a = true → R = 0) ∧ (eqE4 m a = false → eqE4 m b = true → R = 1) ∧ (eqE4 m a = false → eqE4 m b = false → eqE4 m c = true → R = 2) ∧ (eqE4 m a = false → eqE4 m b = false → eqE4 m c = false → R = -1)) := Lib.hid (by rw [hR]; refine ⟨?_, ?_, ?_, ?_⟩ <;> intros <;> simp [idxE, *])
 clear hR
 have hgl := blk_lt k_l_0
 have c0 := cell_of_blk k_l_0 0
 have c1 := cell_of_blk k_l_0 1
 have c2 := cell_of_blk k_l_0 2
 have c3 := cell_of_blk k_l_0 3
 have c4 := cell_of_blk k_l_0 4
 have c5 := cell_of_blk k_l_0 5
 have c6 := cell_of_blk k_l_0 6
 have c7 := cell_of_blk k_l_0 7
 have c8 := cell_of_blk k_l_0 8
 have c9 := cell_of_blk k_l_0 9
 have c10 := cell_of_blk k_l_0 10
 have c11 := cell_of_blk k_l_0 11
 simp only [List.getElem?_toArray, List.getElem?_cons_zero, List.getElem?_cons_succ] at c0 c1 c2 c3 c4 c5 c6 c7 c8 c9 c10 c11
 have c0 := al_c c0 (.cells #[.int .i64 (m.1), .int .i64 (m.2.1), .int .i64 (m.2.2.1), .int .i64 (m.2.2.2)] 100)
 have c1 := al_c c1 (.cells #[.int .i64 (m.1), .int .i64 (m.2.1), .int .i64 (m.2.2.1), .int .i64 (m.2.2.2)] 100)
 have c2 := al_c c2 (.cells #[.int .i64 (m.1), .int .i64 (m.2.1), .int .i64 (m.2.2.1), .int .i64 (m.2.2.2)] 100)
 have c3 := al_c c3 (.cells #[.int .i64 (m.1), .int .i64 (m.2.1), .int .i64 (m.2.2.1), .int .i64 (m.2.2.2)] 100)
 have c4 := al_c c4 (.cells #[.int .i64 (m.1), .int .i64 (m.2.1), .int .i64 (m.2.2.1), .int .i64 (m.2.2.2)] 100)
 have c5 := al_c c5 (.cells #[.int .i64 (m.1), .int .i64 (m.2.1), .int .i64 (m.2.2.1), .int .i64 (m.2.2.2)] 100)
 have c6 := al_c c6 (.cells #[.int .i64 (m.1), .int .i64 (m.2.1), .int .i64 (m.2.2.1), .int .i64 (m.2.2.2)] 100)
 have c7 := al_c c7 (.cells #[.int .i64 (m.1), .int .i64 (m.2.1), .int .i64 (m.2.2.1), .int .i64 (m.2.2.2)] 100)
 have c8 := al_c c8 (.cells #[.int .i64 (m.1), .int .i64 (m.2.1), .int .i64 (m.2.2.1), .int .i64 (m.2.2.2)] 100)
 have c9 := al_c c9 (.cells #[.int .i64 (m.1), .int .i64 (m.2.1), .int .i64 (m.2.2.1), .int .i64 (m.2.2.2)] 100)
 have c10 := al_c c10 (.cells #[.int .i64 (m.1), .int .i64 (m.2.1), .int .i64 (m.2.2.1), .int .i64 (m.2.2.2)] 100)
 have c11 := al_c c11 (.cells #[.int .i64 (m.1), .int .i64 (m.2.1), .int .i64 (m.2.2.1), .int .i64 (m.2.2.2)] 100)
 clear k_l_0
 have hb0 : Below w.heap.size w (w.alloc (.cells #[.int .i64 (m.1), .int .i64 (m.2.1), .int .i64 (m.2.2.1), .int .i64 (m.2.2.2)] 100)) := ba (Below.refl _ _) _
 have ke := heap_alloc_new w (.cells #[.int .i64 (m.1), .int .i64 (m.2.1), .int .i64 (m.2.2.1), .int .i64 (m.2.2.2)] 100)
 have e0 := cell_of_blk ke 0
 have e1 := cell_of_blk ke 1
 have e2 := cell_of_blk ke 2
 have e3 := cell_of_blk ke 3
 simp only [List.getElem?_toArray, List.getElem?_cons_zero, List.getElem?_cons_succ] at e0 e1 e2 e3
 clear ke
 have hge : w.heap.size ≤ w.heap.size := Nat.le_refl _
 go_enter Tryz.func79, Tryz.ntmps79
 go_wp2
 go_loopw [8] (fun i wr => ∃ n : Nat, n ≤ 3 ∧ i = .int .i64 n ∧ (0 < n → eqE4 m a = false) ∧ (1 < n → eqE4 m b = false) ∧ (2 < n → eqE4 m c = false) ∧ Below (w.alloc (.cells #[.int .i64 (m.1), .int .i64 (m.2.1), .int .i64 (m.2.2.1), .int .i64 (m.2.2.2)] 100)).heap.size (w.alloc (.cells #[.int .i64 (m.1), .int .i64 (m.2.1), .int .i64 (m.2.2.1), .int .i64 (m.2.2.2)] 100)) wr) (fun i _ => 3 - (intOf i).toNat)
 case atStart => exact ⟨0, by omega, rfl, by omega, by omega, by omega, Below.refl _ _⟩
 case round =>
  obtain ⟨n, hn, rfl, g0, g1, g2, hbel⟩ := hrel
  have c0 := sd c0 hbel
  have c1 := sd c1 hbel
  have c2 := sd c2 hbel
  have c3 := sd c3 hbel
  have c4 := sd c4 hbel
  have c5 := sd c5 hbel
  have c6 := sd c6 hbel
  have c7 := sd c7 hbel
  have c8 := sd c8 hbel
  have c9 := sd c9 hbel
  have c10 := sd c10 hbel
  have c11 := sd c11 hbel
  have e0 := sd e0 hbel
  have e1 := sd e1 hbel
  have e2 := sd e2 hbel
  have e3 := sd e3 hbel
  have hend : Below w.heap.size w wr := hb0.trans (hbel.mono hb0.size)
  have hn4 : n = 0 ∨ n = 1 ∨ n = 2 ∨ n = 3 := by omega
  rcases hn4 with rfl | rfl | rfl | rfl
  ·have G0 := Lib.hid g0
   have G1 := Lib.hid g1
   have G2 := Lib.hid g2
   clear g0 g1 g2
   rcases Bool.eq_false_or_eq_true (eqE4 m a) with q | q
   ·have Q := Lib.hid q
    clear q
    have r : ∀ w : World, (binOp .eql 100 (aggE m) (aggE a)).run Tryz.prog w = .ok (.bool true) w := fun w => by rw [qE, Q.out]
    go_wp2_with fail
    go_quiet (fail)
    go_wp2
    go_ret
    exact ⟨by rw [HR.out.1 Q.out]; rfl, below_drewN hend _⟩
   ·have Q := Lib.hid q
    clear q
    have r : ∀ w : World, (binOp .eql 100 (aggE m) (aggE a)).run Tryz.prog w = .ok (.bool false) w := fun w => by rw [qE, Q.out]
    go_wp2_with fail
    go_quiet (fail)
    go_wp2
    go_roundw
    case rel => exact ⟨1, by omega, rfl, (fun _ => Q.out), (fun h => absurd h (by omega)), (fun h => absurd h (by omega)), below_drewN hbel _⟩
    case measure => simp [intOf]
  ·have G0 := Lib.hid g0
   have G1 := Lib.hid g1
   have G2 := Lib.hid g2
   clear g0 g1 g2
   rcases Bool.eq_false_or_eq_true (eqE4 m b) with q | q
   ·have Q := Lib.hid q
    clear q
    have r : ∀ w : World, (binOp .eql 100 (aggE m) (aggE b)).run Tryz.prog w = .ok (.bool true) w := fun w => by rw [qE, Q.out]
    go_wp2_with fail
    go_quiet (fail)
    go_wp2
    go_ret
    exact ⟨by rw [HR.out.2.1 (G0.out (by omega)) Q.out]; rfl, below_drewN hend _⟩
   ·have Q := Lib.hid q
    clear q
    have r : ∀ w : World, (binOp .eql 100 (aggE m) (aggE b)).run Tryz.prog w = .ok (.bool false) w := fun w => by rw [qE, Q.out]
    go_wp2_with fail
    go_quiet (fail)
    go_wp2
    go_roundw
    case rel => exact ⟨2, by omega, rfl, (fun _ => G0.out (by omega)), (fun _ => Q.out), (fun h => absurd h (by omega)), below_drewN hbel _⟩
    case measure => simp [intOf]
  ·have G0 := Lib.hid g0
   have G1 := Lib.hid g1
   have G2 := Lib.hid g2
   clear g0 g1 g2
   rcases Bool.eq_false_or_eq_true (eqE4 m c) with q | q
   ·have Q := Lib.hid q
    clear q
    have r : ∀ w : World, (binOp .eql 100 (aggE m) (aggE c)).run Tryz.prog w = .ok (.bool true) w := fun w => by rw [qE, Q.out]
    go_wp2_with fail
    go_quiet (fail)
    go_wp2
    go_ret
    exact ⟨by rw [HR.out.2.2.1 (G0.out (by omega)) (G1.out (by omega)) Q.out]; rfl, below_drewN hend _⟩
   ·have Q := Lib.hid q
    clear q
    have r : ∀ w : World, (binOp .eql 100 (aggE m) (aggE c)).run Tryz.prog w = .ok (.bool false) w := fun w => by rw [qE, Q.out]
    go_wp2_with fail
    go_quiet (fail)
    go_wp2
    go_roundw
    case rel => exact ⟨3, by omega, rfl, (fun _ => G0.out (by omega)), (fun _ => G1.out (by omega)), (fun _ => Q.out), below_drewN hbel _⟩
    case measure => simp [intOf]
  ·have HL : Hid (R = -1) := Lib.hid (HR.out.2.2.2 (g0 (by omega)) (g1 (by omega)) (g2 (by omega)))
   clear g0 g1 g2
   go_wp2
   go_ret
   exact ⟨by rw [HL.out]; rfl, hend⟩
end
end
end Go.Proofs.YtpkjekedgodccaaGreatDoor
