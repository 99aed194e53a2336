/- The corners of a triangle: the program's Corners. The corners by the document. Edges of two points, in both layers. -/
import Derived.Test.YtpkjekedgodccaaGreatDoorK01
import Derived.Deep.RegionWith
namespace Go.Proofs.YtpkjekedgodccaaGreatDoor
set_option linter.unusedSimpArgs false
set_option linter.unusedVariables false
section
open Go.RowKit
def cw (w : World) (x y k : Int) : World := ((w.alloc (.cells #[.int .i64 x, .int .i64 y, .int .i64 k] 44)).alloc (.cells #[.int .i64 0, .int .i64 0, .int .i64 0, .int .i64 0, .int .i64 0, .int .i64 0] 123)).alloc (.cells #[.int .i64 (2 * x + 1), .int .i64 (2 * y + 1)] 98)
theorem cw_res (w : World) (x y k : Int) : (cw w x y k).heap[w.heap.size + 1]? = some (.cells #[.int .i64 0, .int .i64 0, .int .i64 0, .int .i64 0, .int .i64 0, .int .i64 0] 123 (0, 0)) := by
 have e := heap_alloc_new (w.alloc (.cells #[.int .i64 x, .int .i64 y, .int .i64 k] 44)) (.cells #[.int .i64 0, .int .i64 0, .int .i64 0, .int .i64 0, .int .i64 0, .int .i64 0] 123)
 rw [World.size_alloc] at e
 exact blk_alloc e _
theorem cw_mid (w : World) (x y k : Int) : (cw w x y k).heap[w.heap.size + 1 + 1]? = some (.cells #[.int .i64 (2 * x + 1), .int .i64 (2 * y + 1)] 98 (0, 0)) := by
 have e := heap_alloc_new ((w.alloc (.cells #[.int .i64 x, .int .i64 y, .int .i64 k] 44)).alloc (.cells #[.int .i64 0, .int .i64 0, .int .i64 0, .int .i64 0, .int .i64 0, .int .i64 0] 123)) (.cells #[.int .i64 (2 * x + 1), .int .i64 (2 * y + 1)] 98)
 rw [World.size_alloc, World.size_alloc] at e
 exact e
theorem cw_tri (w : World) (x y k : Int) : (cw w x y k).heap[w.heap.size]? = some (.cells #[.int .i64 x, .int .i64 y, .int .i64 k] 44 (0, 0)) := blk_alloc (blk_alloc (heap_alloc_new w _) _) _
theorem cw_cell (w : World) (x y k : Int) (i : Nat) : (cw w x y k).drew.cell? ⟨w.heap.size + 1 + 1, i, none⟩ = #[Value.int .i64 (2 * x + 1), .int .i64 (2 * y + 1)][i]? := cell_of_blk (cw_mid w x y k) i
theorem cw_below (w : World) (x y k : Int) : Below w.heap.size w (cw w x y k).drew := ((((Below.refl _ _).alloc (Nat.le_refl _) _).alloc (by simp) _).alloc (by simp; omega) _).drew
theorem set6_below {w w1 : World} (h : Below w.heap.size w w1) (g : Nat) (hg : w.heap.size ≤ g) (a b c d e f : Value) : Below w.heap.size w ((((((w1.setCell ⟨g, 0, none⟩ a).setCell ⟨g, 1, none⟩ b).setCell ⟨g, 2, none⟩ c).setCell ⟨g, 3, none⟩ d).setCell ⟨g, 4, none⟩ e).setCell ⟨g, 5, none⟩ f) :=
 (((((h.setCell hg a).setCell hg b).setCell hg c).setCell hg d).setCell hg e).setCell hg f
theorem two_below {w u v z : World} (h : Below w.heap.size w u) (h1 : Below u.heap.size u v) (h2 : Below v.heap.size v z) : Below w.heap.size w z := stay_b (stay_b h h1) h2
theorem corner1_enter (args : Array Value) (wx : World) : (callFunc 82 args).run Tryz.prog wx = .ok (.enter 82 args) wx := by kernel_rfl
set_option maxRecDepth 100000 in
set_option maxHeartbeats 1600000 in
theorem corners_any (x y k : Int) (w : World) (hs : Steps w) (x1 : -1000000 ≤ x) (x2 : x ≤ 1000000) (y1 : -1000000 ≤ y) (y2 : y ≤ 1000000) (k1 : 0 ≤ k) (k2 : k ≤ 3) :
  Calls Tryz.prog 59 #[.agg #[.int .i64 x, .int .i64 y, .int .i64 k]] w fun e w' => e = .returned (.agg #[.int .i64 (2 * x + 1), .int .i64 (2 * y + 1), .int .i64 (cornX x k), .int .i64 (cornY y k), .int .i64 (cornX x (k + 1)), .int .i64 (cornY y (k + 1))]) ∧ Below w.heap.size w w' := by
 have hlt := hs.lt
 have hent := corner1_enter
 have hmf : ∀ (fn : Fn) (first cap : Array Value) (w : World), (Instr.makeFunc fn first cap).run Tryz.prog w = .ok (.func fn first cap) w := fun _ _ _ _ => rfl
 go_enter Tryz.func59, Tryz.ntmps59
 go_wp2_with fail
 have hsW : Steps (cw w x y k) := ((hs.alloc _).alloc _).alloc _
 have hbW : Below (cw w x y k).heap.size (cw w x y k) (cw w x y k).drew := (Below.refl _ _).drew
 have hfz : ∀ i, (cw w x y k).drew.frozen? ⟨w.heap.size + 1, i, none⟩ = false := fun i => frozen_of_blk (cw_res w x y k) i
 have hz0 : (cw w x y k).drew.heap[w.heap.size + 1]? = _ := cw_res w x y k
 have hk0 : (cw w x y k).drew.cell? ⟨w.heap.size, 2, none⟩ = some (.int .i64 k) := cell_of_blk (cw_tri w x y k) 2
 have hm0 := cw_cell w x y k 0
 have hm1 := cw_cell w x y k 1
 simp only [List.getElem?_toArray, List.getElem?_cons_zero, List.getElem?_cons_succ] at hm0 hm1
 unfold cw at hfz hm0 hm1 hz0 hk0
 have hbW2 : Below (cw w x y k).heap.size (cw w x y k) (((w.alloc (.cells #[.int .i64 x, .int .i64 y, .int .i64 k] 44)).alloc (.cells #[.int .i64 0, .int .i64 0, .int .i64 0, .int .i64 0, .int .i64 0, .int .i64 0] 123)).alloc (.cells #[.int .i64 (2 * x + 1), .int .i64 (2 * y + 1)] 98)).drew := hbW
 have hwk : IntKind.i64.wrap (k + 1) = k + 1 := IntWalk.i64_in _ (by omega)
 go_region_with (first
  | ((with_reducible refine (corner1_any (k) (2 * x + 1) (2 * y + 1) (w.heap.size + 1 + 1) _ (hsW.below hbW2) hm0 hm1 (by omega) (by omega) (by omega) (by omega)).mono ?_); rintro e wc ⟨rfl, hbc⟩; have hk2 := sd hk0 hbc; have hm2 := sd hm0 hbc; have hm3 := sd hm1 hbc)
  | ((with_reducible refine (corner1_any (k + 1) (2 * x + 1) (2 * y + 1) (w.heap.size + 1 + 1) _ (hsW.below (stay_b hbW2 hbc)) (sd hm0 hbc) (sd hm1 hbc) (by omega) (by omega) (by omega) (by omega)).mono ?_); rintro e wd ⟨rfl, hbd⟩; have hzr := blk_below (blk_below hz0 hbc (blk_lt hz0)) hbd (blk_lt (blk_below hz0 hbc (blk_lt hz0))); have hm4 := sd (stay_c hm0 hbc (Nat.le_refl _)) hbd; have hm5 := sd (stay_c hm1 hbc (Nat.le_refl _)) hbd; have z0 := cell_of_blk hzr 0; have z1 := cell_of_blk hzr 1; have z2 := cell_of_blk hzr 2; have z3 := cell_of_blk hzr 3; have z4 := cell_of_blk hzr 4; have z5 := cell_of_blk hzr 5; have zf := frozen_of_blk hzr; simp only [List.getElem?_toArray, List.getElem?_cons_zero, List.getElem?_cons_succ] at z0 z1 z2 z3 z4 z5; clear hzr))
 all_goals
  have hend := two_below (cw_below w x y k) hbc hbd
  clear hbW hbW2 hfz hm0 hm1 hm2 hm3 hm4 hm5 hk0 hk2 hz0 hbc hbd hsW
  go_wp2
  exact bodyPost_ret (v := .agg #[.int .i64 (2 * x + 1), .int .i64 (2 * y + 1), .int .i64 (2 * x + 1 + stepX (k % 4)), .int .i64 (2 * y + 1 + stepY (k % 4)), .int .i64 (2 * x + 1 + stepX ((k + 1) % 4)), .int .i64 (2 * y + 1 + stepY ((k + 1) % 4))]) (by simp [results, Tryz.results59, go_sem, z0, z1, z2, z3, z4, z5]) rfl ⟨rfl, set6_below hend _ (by omega) _ _ _ _ _ _⟩
end
section
open Go.RowKit
theorem new_blk {W : World} {n : Nat} (o : Obj) (h : n = W.heap.size) : (W.alloc o).heap[n]? = some o := by subst h; exact heap_alloc_new W o
theorem ba {w W : World} (h : Below w.heap.size w W) (o : Obj) : Below w.heap.size w (W.alloc o) := h.alloc h.size o
def ThreeP (w : World) (e : Ending) (a b c d p q : Int) : Prop := ∃ g, e = .returned (.slice (some ⟨g, 0, none⟩) 3 3) ∧ w.heap[g]? = some (.cells #[.int .i64 a, .int .i64 b, .int .i64 c, .int .i64 d, .int .i64 p, .int .i64 q] 98 (0, 0))
set_option maxRecDepth 100000 in
set_option maxHeartbeats 3200000 in
theorem cornersOf_any (x y k : Int) (w : World) (x1 : -1000000 ≤ x) (x2 : x ≤ 1000000) (y1 : -1000000 ≤ y) (y2 : y ≤ 1000000) (k1 : 0 ≤ k) (k2 : k ≤ 3) :
  Calls Tryz.prog 50 #[.agg #[.int .i64 x, .int .i64 y, .int .i64 k]] w fun e w' => ThreeP w' e (2 * x + 1) (2 * y + 1) (cornX x k) (cornY y k) (cornX x (k + 1)) (cornY y (k + 1)) ∧ Below w.heap.size w w' := by
 have hk : k = 0 ∨ k = 1 ∨ k = 2 ∨ k = 3 := by omega
 rcases hk with rfl | rfl | rfl | rfl
 ·have e1 : cornX x 0 = 2 * x := by simp [cornX, stepX]; try omega
  have e2 : cornY y 0 = 2 * y := by simp [cornY, stepY]; try omega
  have e3 : cornX x (0 + 1) = 2 * x + 2 := by simp [cornX, stepX]; try omega
  have e4 : cornY y (0 + 1) = 2 * y := by simp [cornY, stepY]; try omega
  rw [e1, e2, e3, e4]
  clear e1 e2 e3 e4
  go_enter Tryz.func50, Tryz.ntmps50
  go_wp2_with fail
  go_quiet (fail)
  go_wp2
  go_ret
  refine ⟨⟨_, rfl, ?_⟩, ?_⟩
  ·exact new_blk _ (by simp)
  ·exact ba (ba (ba (ba (ba (ba (below_drewN (ba (Below.refl _ _) _) _) _) _) _) _) _) _
 ·have e1 : cornX x 1 = 2 * x + 2 := by simp [cornX, stepX]; try omega
  have e2 : cornY y 1 = 2 * y := by simp [cornY, stepY]; try omega
  have e3 : cornX x (1 + 1) = 2 * x + 2 := by simp [cornX, stepX]; try omega
  have e4 : cornY y (1 + 1) = 2 * y + 2 := by simp [cornY, stepY]; try omega
  rw [e1, e2, e3, e4]
  clear e1 e2 e3 e4
  go_enter Tryz.func50, Tryz.ntmps50
  go_wp2_with fail
  go_quiet (fail)
  go_wp2
  go_ret
  refine ⟨⟨_, rfl, ?_⟩, ?_⟩
  ·exact new_blk _ (by simp)
  ·exact ba (ba (ba (ba (ba (ba (below_drewN (ba (Below.refl _ _) _) _) _) _) _) _) _) _
 ·have e1 : cornX x 2 = 2 * x + 2 := by simp [cornX, stepX]; try omega
  have e2 : cornY y 2 = 2 * y + 2 := by simp [cornY, stepY]; try omega
  have e3 : cornX x (2 + 1) = 2 * x := by simp [cornX, stepX]; try omega
  have e4 : cornY y (2 + 1) = 2 * y + 2 := by simp [cornY, stepY]; try omega
  rw [e1, e2, e3, e4]
  clear e1 e2 e3 e4
  go_enter Tryz.func50, Tryz.ntmps50
  go_wp2_with fail
  go_quiet (fail)
  go_wp2
  go_ret
  refine ⟨⟨_, rfl, ?_⟩, ?_⟩
  ·exact new_blk _ (by simp)
  ·exact ba (ba (ba (ba (ba (ba (below_drewN (ba (Below.refl _ _) _) _) _) _) _) _) _) _
 ·have e1 : cornX x 3 = 2 * x := by simp [cornX, stepX]; try omega
  have e2 : cornY y 3 = 2 * y + 2 := by simp [cornY, stepY]; try omega
  have e3 : cornX x (3 + 1) = 2 * x := by simp [cornX, stepX]; try omega
  have e4 : cornY y (3 + 1) = 2 * y := by simp [cornY, stepY]; try omega
  rw [e1, e2, e3, e4]
  clear e1 e2 e3 e4
  go_enter Tryz.func50, Tryz.ntmps50
  go_wp2_with fail
  go_quiet (fail)
  go_wp2
  go_ret
  refine ⟨⟨_, rfl, ?_⟩, ?_⟩
  ·exact new_blk _ (by simp)
  ·exact ba (ba (ba (ba (ba (ba (below_drewN (ba (Below.refl _ _) _) _) _) _) _) _) _) _
end
section
open Go.RowKit
abbrev E4 := Int × Int × Int × Int
abbrev aggP (a b : Int) : Value := .agg #[.int .i64 a, .int .i64 b]
abbrev aggE (m : E4) : Value := .agg #[.int .i64 m.1, .int .i64 m.2.1, .int .i64 m.2.2.1, .int .i64 m.2.2.2]
def lessB (a b c d : Int) : Bool := decide (a < c) || (decide (a = c) && decide (b < d))
def ordE (a b c d : Int) : E4 := if lessB c d a b then (c, d, a, b) else (a, b, c, d)
theorem set2_below {w w1 : World} (h : Below w.heap.size w w1) (g : Nat) (hg : w.heap.size ≤ g) (a b : Value) : Below w.heap.size w ((w1.setCell ⟨g, 0, none⟩ a).setCell ⟨g, 1, none⟩ b) := (h.setCell hg a).setCell hg b
theorem set4_below {w w1 : World} (h : Below w.heap.size w w1) (g : Nat) (hg : w.heap.size ≤ g) (a b c d : Value) : Below w.heap.size w ((((w1.setCell ⟨g, 0, none⟩ a).setCell ⟨g, 1, none⟩ b).setCell ⟨g, 2, none⟩ c).setCell ⟨g, 3, none⟩ d) := (((h.setCell hg a).setCell hg b).setCell hg c).setCell hg d
theorem pts_below (w : World) (o o' o'' : Obj) : Below w.heap.size w (((w.alloc o).alloc o').alloc o'') := ba (ba (ba (Below.refl _ _) _) _) _
set_option maxRecDepth 100000 in
set_option maxHeartbeats 1600000 in
theorem less_any (a b c d : Int) (w : World) : Calls Tryz.prog 71 #[aggP a b, aggP c d] w fun e w' => e = .returned (.bool (lessB a b c d)) ∧ Below w.heap.size w w' := by
 have hb : Below w.heap.size w ((w.alloc (.cells #[.int .i64 a, .int .i64 b] 98)).alloc (.cells #[.int .i64 c, .int .i64 d] 98)) := ba (ba (Below.refl _ _) _) _
 by_cases c0 : a < c
 ·go_enter Tryz.func71, Tryz.ntmps71
  go_wp2
  go_ret
  exact ⟨by simp [lessB, c0], hb⟩
 by_cases c1 : a = c
 ·subst c1
  by_cases c2 : b < d
  ·go_enter Tryz.func71, Tryz.ntmps71
   go_wp2
   go_ret
   exact ⟨by simp [lessB, c2], hb⟩
  ·go_enter Tryz.func71, Tryz.ntmps71
   go_wp2
   go_ret
   exact ⟨by simp [lessB]; try omega, hb⟩
 ·go_enter Tryz.func71, Tryz.ntmps71
  go_wp2
  go_ret
  exact ⟨by simp [lessB, c1]; try omega, hb⟩
set_option maxRecDepth 100000 in
set_option maxHeartbeats 1600000 in
theorem refEdge_any (a b c d : Int) (w : World) : Calls Tryz.prog 74 #[aggP a b, aggP c d] w fun e w' => e = .returned (aggE (ordE a b c d)) ∧ Below w.heap.size w w' := by
 cases hl : lessB c d a b
 ·have HE : Hid (ordE a b c d = (a, b, c, d)) := Lib.hid (by simp [ordE, hl])
  have HL := Lib.hid hl
  clear hl
  go_enter Tryz.func74, Tryz.ntmps74
  go_wp2_with fail
  refine (less_any c d a b _).mono ?_
  rintro e w1 ⟨rfl, hb1⟩
  rw [HL.out]
  have e1 := heap_alloc_new w (.cells #[.int .i64 a, .int .i64 b] 98)
  have e2 := heap_alloc_new (w.alloc (.cells #[.int .i64 a, .int .i64 b] 98)) (.cells #[.int .i64 c, .int .i64 d] 98)
  rw [World.size_alloc] at e2
  have hb0 := pts_below w (.cells #[.int .i64 a, .int .i64 b] 98) (.cells #[.int .i64 c, .int .i64 d] 98) (.cells #[.int .i64 0, .int .i64 0, .int .i64 0, .int .i64 0] 100)
  have e3 := heap_alloc_new ((w.alloc (.cells #[.int .i64 a, .int .i64 b] 98)).alloc (.cells #[.int .i64 c, .int .i64 d] 98)) (.cells #[.int .i64 0, .int .i64 0, .int .i64 0, .int .i64 0] 100)
  rw [World.size_alloc, World.size_alloc] at e3
  have k1 := blk_below (blk_alloc (blk_alloc e1 _) (.cells #[.int .i64 0, .int .i64 0, .int .i64 0, .int .i64 0] 100)) hb1 (by first | (simp; done) | (simp; omega))
  have k2 := blk_below (blk_alloc e2 (.cells #[.int .i64 0, .int .i64 0, .int .i64 0, .int .i64 0] 100)) hb1 (by first | (simp; done) | (simp; omega))
  have k3 := blk_below e3 hb1 (by first | (simp; done) | (simp; omega))
  have hw1 : Below w.heap.size w w1 := stay_b hb0 hb1
  clear e1 e2 e3 hb0 hb1
  have p0 := cell_of_blk k1 0
  have p1 := cell_of_blk k1 1
  have q0 := cell_of_blk k2 0
  have q1 := cell_of_blk k2 1
  simp only [List.getElem?_toArray, List.getElem?_cons_zero, List.getElem?_cons_succ] at p0 p1 q0 q1
  have s1 := blk_lt k1
  have s2 := blk_lt k2
  have s3 := blk_lt k3
  have f3 := frozen_of_blk k3
  have z0 := cell_of_blk k3 0
  have z1 := cell_of_blk k3 1
  have z2 := cell_of_blk k3 2
  have z3 := cell_of_blk k3 3
  simp only [List.getElem?_toArray, List.getElem?_cons_zero, List.getElem?_cons_succ] at z0 z1 z2 z3
  go_wp2
  refine bodyPost_ret (v := aggE (a, b, c, d)) (by simp [results, Tryz.results74, go_sem, z0, z1, z2, z3]) rfl ⟨by rw [HE.out], ?_⟩
  exact set4_below hw1 _ (by omega) _ _ _ _
 ·have HE : Hid (ordE a b c d = (c, d, a, b)) := Lib.hid (by simp [ordE, hl])
  have HL := Lib.hid hl
  clear hl
  go_enter Tryz.func74, Tryz.ntmps74
  go_wp2_with fail
  refine (less_any c d a b _).mono ?_
  rintro e w1 ⟨rfl, hb1⟩
  rw [HL.out]
  have e1 := heap_alloc_new w (.cells #[.int .i64 a, .int .i64 b] 98)
  have e2 := heap_alloc_new (w.alloc (.cells #[.int .i64 a, .int .i64 b] 98)) (.cells #[.int .i64 c, .int .i64 d] 98)
  rw [World.size_alloc] at e2
  have hb0 := pts_below w (.cells #[.int .i64 a, .int .i64 b] 98) (.cells #[.int .i64 c, .int .i64 d] 98) (.cells #[.int .i64 0, .int .i64 0, .int .i64 0, .int .i64 0] 100)
  have e3 := heap_alloc_new ((w.alloc (.cells #[.int .i64 a, .int .i64 b] 98)).alloc (.cells #[.int .i64 c, .int .i64 d] 98)) (.cells #[.int .i64 0, .int .i64 0, .int .i64 0, .int .i64 0] 100)
  rw [World.size_alloc, World.size_alloc] at e3
  have k1 := blk_below (blk_alloc (blk_alloc e1 _) (.cells #[.int .i64 0, .int .i64 0, .int .i64 0, .int .i64 0] 100)) hb1 (by first | (simp; done) | (simp; omega))
  have k2 := blk_below (blk_alloc e2 (.cells #[.int .i64 0, .int .i64 0, .int .i64 0, .int .i64 0] 100)) hb1 (by first | (simp; done) | (simp; omega))
  have k3 := blk_below e3 hb1 (by first | (simp; done) | (simp; omega))
  have hw1 : Below w.heap.size w w1 := stay_b hb0 hb1
  clear e1 e2 e3 hb0 hb1
  have p0 := cell_of_blk k1 0
  have p1 := cell_of_blk k1 1
  have q0 := cell_of_blk k2 0
  have q1 := cell_of_blk k2 1
  simp only [List.getElem?_toArray, List.getElem?_cons_zero, List.getElem?_cons_succ] at p0 p1 q0 q1
  have s1 := blk_lt k1
  have s2 := blk_lt k2
  have s3 := blk_lt k3
  have f3 := frozen_of_blk k3
  have z0 := cell_of_blk k3 0
  have z1 := cell_of_blk k3 1
  have z2 := cell_of_blk k3 2
  have z3 := cell_of_blk k3 3
  simp only [List.getElem?_toArray, List.getElem?_cons_zero, List.getElem?_cons_succ] at z0 z1 z2 z3
  go_wp2
  refine bodyPost_ret (v := aggE (c, d, a, b)) (by simp [results, Tryz.results74, go_sem, z0, z1, z2, z3]) rfl ⟨by rw [HE.out], ?_⟩
  exact set4_below hw1 _ (by omega) _ _ _ _
set_option maxRecDepth 100000 in
set_option maxHeartbeats 1600000 in
theorem tileEdge_any (a b c d : Int) (w : World) : Calls Tryz.prog 84 #[aggP a b, aggP c d] w fun e w' => e = .returned (aggE (ordE a b c d)) ∧ Below w.heap.size w w' := by
 by_cases c0 : c < a
 ·have HE : Hid (ordE a b c d = (c, d, a, b)) := Lib.hid (by simp [ordE, lessB, c0]; try omega)
  go_enter Tryz.func84, Tryz.ntmps84
  go_wp2
  refine bodyPost_ret (v := aggE (c, d, a, b)) (by simp [results, Tryz.results84, go_sem]) rfl ⟨by rw [HE.out], ?_⟩
  exact pts_below w _ _ _
 by_cases c1 : a = c
 ·subst c1
  by_cases c2 : d < b
  ·have HE : Hid (ordE a b a d = (a, d, a, b)) := Lib.hid (by simp [ordE, lessB, c2]; try omega)
   go_enter Tryz.func84, Tryz.ntmps84
   go_wp2
   refine bodyPost_ret (v := aggE (a, d, a, b)) (by simp [results, Tryz.results84, go_sem]) rfl ⟨by rw [HE.out], ?_⟩
   exact pts_below w _ _ _
  ·have HE : Hid (ordE a b a d = (a, b, a, d)) := Lib.hid (by simp [ordE, lessB]; try omega)
   go_enter Tryz.func84, Tryz.ntmps84
   go_wp2
   refine bodyPost_ret (v := aggE (a, b, a, d)) (by simp [results, Tryz.results84, go_sem]) rfl ⟨by rw [HE.out], ?_⟩
   exact pts_below w _ _ _
 ·have HE : Hid (ordE a b c d = (a, b, c, d)) := Lib.hid (by simp [ordE, lessB]; try omega)
  go_enter Tryz.func84, Tryz.ntmps84
  go_wp2
  refine bodyPost_ret (v := aggE (a, b, c, d)) (by simp [results, Tryz.results84, go_sem]) rfl ⟨by rw [HE.out], ?_⟩
  exact pts_below w _ _ _
end
end Go.Proofs.YtpkjekedgodccaaGreatDoor
