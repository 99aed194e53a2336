/- Edges of two points, in both layers. Printed by gen_gr16.py. -/
import Derived.Test.YtoienokpchbglaaDoorGr10
namespace Go.Proofs.YtoienokpchbglaaDoor
open Go.RowKit

abbrev E4 := Int × Int × Int × Int
abbrev aggP (a b : Int) : Value := .agg #[.int .i64 a, .int .i64 b]
abbrev aggE (m : E4) : Value := .agg #[.int .i64 m.1, .int .i64 m.2.1, .int .i64 m.2.2.1, .int .i64 m.2.2.2]
def lessB (a b c d : Int) : Bool := decide (a < c) || (decide (a = c) && decide (b < d))
def ordE (a b c d : Int) : E4 := if lessB c d a b then (c, d, a, b) else (a, b, c, d)
theorem set2_below {w w1 : World} (h : Below w.heap.size w w1) (g : Nat) (hg : w.heap.size ≤ g) (a b : Value) : Below w.heap.size w ((w1.setCell ⟨g, 0, none⟩ a).setCell ⟨g, 1, none⟩ b) := (h.setCell hg a).setCell hg b
theorem set4_below {w w1 : World} (h : Below w.heap.size w w1) (g : Nat) (hg : w.heap.size ≤ g) (a b c d : Value) : Below w.heap.size w ((((w1.setCell ⟨g, 0, none⟩ a).setCell ⟨g, 1, none⟩ b).setCell ⟨g, 2, none⟩ c).setCell ⟨g, 3, none⟩ d) := (((h.setCell hg a).setCell hg b).setCell hg c).setCell hg d
theorem pts_below (w : World) (o o' o'' : Obj) : Below w.heap.size w (((w.alloc o).alloc o').alloc o'') := ba (ba (ba (Below.refl _ _) _) _) _

set_option maxRecDepth 100000 in
set_option maxHeartbeats 1600000 in
theorem less_any (a b c d : Int) (w : World) : Calls Tryd.prog 67 #[aggP a b, aggP c d] w fun e w' => e = .returned (.bool (lessB a b c d)) ∧ Below w.heap.size w w' := by
  have hb : Below w.heap.size w ((w.alloc (.cells #[.int .i64 a, .int .i64 b] 49)).alloc (.cells #[.int .i64 c, .int .i64 d] 49)) := ba (ba (Below.refl _ _) _) _
  by_cases c0 : a < c
  · go_enter Tryd.func67, Tryd.ntmps67
    go_wp2
    go_ret
    exact ⟨by simp [lessB, c0], hb⟩
  by_cases c1 : a = c
  · subst c1
    by_cases c2 : b < d
    · go_enter Tryd.func67, Tryd.ntmps67
      go_wp2
      go_ret
      exact ⟨by simp [lessB, c2], hb⟩
    · go_enter Tryd.func67, Tryd.ntmps67
      go_wp2
      go_ret
      exact ⟨by simp [lessB]; try omega, hb⟩
  · go_enter Tryd.func67, Tryd.ntmps67
    go_wp2
    go_ret
    exact ⟨by simp [lessB, c1]; try omega, hb⟩

set_option maxRecDepth 100000 in
set_option maxHeartbeats 1600000 in
theorem refEdge_any (a b c d : Int) (w : World) : Calls Tryd.prog 48 #[aggP a b, aggP c d] w fun e w' => e = .returned (aggE (ordE a b c d)) ∧ Below w.heap.size w w' := by
  cases hl : lessB c d a b
  · have HE : Hid (ordE a b c d = (a, b, c, d)) := Lib.hid (by simp [ordE, hl])
    have HL := Lib.hid hl
    clear hl
    go_enter Tryd.func48, Tryd.ntmps48
    go_wp2_with fail
    refine (less_any c d a b _).mono ?_
    rintro e w1 ⟨rfl, hb1⟩
    rw [HL.out]
    have e1 := heap_alloc_new w (.cells #[.int .i64 a, .int .i64 b] 49)
    have e2 := heap_alloc_new (w.alloc (.cells #[.int .i64 a, .int .i64 b] 49)) (.cells #[.int .i64 c, .int .i64 d] 49)
    rw [World.size_alloc] at e2
    have hb0 := pts_below w (.cells #[.int .i64 a, .int .i64 b] 49) (.cells #[.int .i64 c, .int .i64 d] 49) (.cells #[.int .i64 0, .int .i64 0, .int .i64 0, .int .i64 0] 86)
    have e3 := heap_alloc_new ((w.alloc (.cells #[.int .i64 a, .int .i64 b] 49)).alloc (.cells #[.int .i64 c, .int .i64 d] 49)) (.cells #[.int .i64 0, .int .i64 0, .int .i64 0, .int .i64 0] 86)
    rw [World.size_alloc, World.size_alloc] at e3
    have k1 := blk_below (blk_alloc (blk_alloc e1 _) (.cells #[.int .i64 0, .int .i64 0, .int .i64 0, .int .i64 0] 86)) hb1 (by first | (simp; done) | (simp; omega))
    have k2 := blk_below (blk_alloc e2 (.cells #[.int .i64 0, .int .i64 0, .int .i64 0, .int .i64 0] 86)) hb1 (by first | (simp; done) | (simp; omega))
    have k3 := blk_below e3 hb1 (by first | (simp; done) | (simp; omega))
    have hw1 : Below w.heap.size w w1 := stay_b hb0 hb1
    clear e1 e2 e3 hb0 hb1
    have p0 := cell_of_blk k1 0
    have p1 := cell_of_blk k1 1
    have q0 := cell_of_blk k2 0
    have q1 := cell_of_blk k2 1
    simp only [List.getElem?_toArray, List.getElem?_cons_zero, List.getElem?_cons_succ] at p0 p1 q0 q1
    have s1 := blk_lt k1
    have s2 := blk_lt k2
    have s3 := blk_lt k3
    have f3 := frozen_of_blk k3
    have z0 := cell_of_blk k3 0
    have z1 := cell_of_blk k3 1
    have z2 := cell_of_blk k3 2
    have z3 := cell_of_blk k3 3
    simp only [List.getElem?_toArray, List.getElem?_cons_zero, List.getElem?_cons_succ] at z0 z1 z2 z3
    go_wp2
    refine bodyPost_ret (v := aggE (a, b, c, d)) (by simp [results, Tryd.results48, go_sem, z0, z1, z2, z3]) rfl ⟨by rw [HE.out], ?_⟩
    exact set4_below hw1 _ (by omega) _ _ _ _
  · have HE : Hid (ordE a b c d = (c, d, a, b)) := Lib.hid (by simp [ordE, hl])
    have HL := Lib.hid hl
    clear hl
    go_enter Tryd.func48, Tryd.ntmps48
    go_wp2_with fail
    refine (less_any c d a b _).mono ?_
    rintro e w1 ⟨rfl, hb1⟩
    rw [HL.out]
    have e1 := heap_alloc_new w (.cells #[.int .i64 a, .int .i64 b] 49)
    have e2 := heap_alloc_new (w.alloc (.cells #[.int .i64 a, .int .i64 b] 49)) (.cells #[.int .i64 c, .int .i64 d] 49)
    rw [World.size_alloc] at e2
    have hb0 := pts_below w (.cells #[.int .i64 a, .int .i64 b] 49) (.cells #[.int .i64 c, .int .i64 d] 49) (.cells #[.int .i64 0, .int .i64 0, .int .i64 0, .int .i64 0] 86)
    have e3 := heap_alloc_new ((w.alloc (.cells #[.int .i64 a, .int .i64 b] 49)).alloc (.cells #[.int .i64 c, .int .i64 d] 49)) (.cells #[.int .i64 0, .int .i64 0, .int .i64 0, .int .i64 0] 86)
    rw [World.size_alloc, World.size_alloc] at e3
    have k1 := blk_below (blk_alloc (blk_alloc e1 _) (.cells #[.int .i64 0, .int .i64 0, .int .i64 0, .int .i64 0] 86)) hb1 (by first | (simp; done) | (simp; omega))
    have k2 := blk_below (blk_alloc e2 (.cells #[.int .i64 0, .int .i64 0, .int .i64 0, .int .i64 0] 86)) hb1 (by first | (simp; done) | (simp; omega))
    have k3 := blk_below e3 hb1 (by first | (simp; done) | (simp; omega))
    have hw1 : Below w.heap.size w w1 := stay_b hb0 hb1
    clear e1 e2 e3 hb0 hb1
    have p0 := cell_of_blk k1 0
    have p1 := cell_of_blk k1 1
    have q0 := cell_of_blk k2 0
    have q1 := cell_of_blk k2 1
    simp only [List.getElem?_toArray, List.getElem?_cons_zero, List.getElem?_cons_succ] at p0 p1 q0 q1
    have s1 := blk_lt k1
    have s2 := blk_lt k2
    have s3 := blk_lt k3
    have f3 := frozen_of_blk k3
    have z0 := cell_of_blk k3 0
    have z1 := cell_of_blk k3 1
    have z2 := cell_of_blk k3 2
    have z3 := cell_of_blk k3 3
    simp only [List.getElem?_toArray, List.getElem?_cons_zero, List.getElem?_cons_succ] at z0 z1 z2 z3
    go_wp2
    refine bodyPost_ret (v := aggE (c, d, a, b)) (by simp [results, Tryd.results48, go_sem, z0, z1, z2, z3]) rfl ⟨by rw [HE.out], ?_⟩
    exact set4_below hw1 _ (by omega) _ _ _ _
set_option maxRecDepth 100000 in
set_option maxHeartbeats 1600000 in
theorem tileEdge_any (a b c d : Int) (w : World) : Calls Tryd.prog 71 #[aggP a b, aggP c d] w fun e w' => e = .returned (aggE (ordE a b c d)) ∧ Below w.heap.size w w' := by
  by_cases c0 : c < a
  · have HE : Hid (ordE a b c d = (c, d, a, b)) := Lib.hid (by simp [ordE, lessB, c0]; try omega)
    go_enter Tryd.func71, Tryd.ntmps71
    go_wp2
    refine bodyPost_ret (v := aggE (c, d, a, b)) (by simp [results, Tryd.results71, go_sem]) rfl ⟨by rw [HE.out], ?_⟩
    exact pts_below w _ _ _
  by_cases c1 : a = c
  · subst c1
    by_cases c2 : d < b
    · have HE : Hid (ordE a b a d = (a, d, a, b)) := Lib.hid (by simp [ordE, lessB, c2]; try omega)
      go_enter Tryd.func71, Tryd.ntmps71
      go_wp2
      refine bodyPost_ret (v := aggE (a, d, a, b)) (by simp [results, Tryd.results71, go_sem]) rfl ⟨by rw [HE.out], ?_⟩
      exact pts_below w _ _ _
    · have HE : Hid (ordE a b a d = (a, b, a, d)) := Lib.hid (by simp [ordE, lessB]; try omega)
      go_enter Tryd.func71, Tryd.ntmps71
      go_wp2
      refine bodyPost_ret (v := aggE (a, b, a, d)) (by simp [results, Tryd.results71, go_sem]) rfl ⟨by rw [HE.out], ?_⟩
      exact pts_below w _ _ _
  · have HE : Hid (ordE a b c d = (a, b, c, d)) := Lib.hid (by simp [ordE, lessB]; try omega)
    go_enter Tryd.func71, Tryd.ntmps71
    go_wp2
    refine bodyPost_ret (v := aggE (a, b, c, d)) (by simp [results, Tryd.results71, go_sem]) rfl ⟨by rw [HE.out], ?_⟩
    exact pts_below w _ _ _
end Go.Proofs.YtoienokpchbglaaDoor
