/- The corners of a triangle. Printed by gen_gr1.py. -/
import Derived.Test.YthfhkmgegkhljaaDoorGr0
import Derived.Deep.RegionHeld3
namespace Go.Proofs.YthfhkmgegkhljaaDoor
open Go.RowKit

/-- The listed table of steps, as the walks read it. -/
structure Steps (w : World) : Prop where
  a0 : w.cell? ⟨0, 0, none⟩ = some (.int .i64 (-1))
  a1 : w.cell? ⟨0, 1, none⟩ = some (.int .i64 (-1))
  b0 : w.cell? ⟨0, 2, none⟩ = some (.int .i64 1)
  b1 : w.cell? ⟨0, 3, none⟩ = some (.int .i64 (-1))
  c0 : w.cell? ⟨0, 4, none⟩ = some (.int .i64 1)
  c1 : w.cell? ⟨0, 5, none⟩ = some (.int .i64 1)
  d0 : w.cell? ⟨0, 6, none⟩ = some (.int .i64 (-1))
  d1 : w.cell? ⟨0, 7, none⟩ = some (.int .i64 1)
theorem Steps.lt {w : World} (h : Steps w) : 0 < w.heap.size := World.block_lt_of_cell? w _ h.a0
theorem Steps.keep {B : Nat} {w w' : World} (h : Steps w) (hb : Below B w w') (hB : w.heap.size ≤ B) : Steps w' :=
  ⟨stay_c h.a0 hb hB, stay_c h.a1 hb hB, stay_c h.b0 hb hB, stay_c h.b1 hb hB, stay_c h.c0 hb hB, stay_c h.c1 hb hB, stay_c h.d0 hb hB, stay_c h.d1 hb hB⟩
theorem Steps.below {w w' : World} (h : Steps w) (hb : Below w.heap.size w w') : Steps w' := h.keep hb (Nat.le_refl _)
theorem Steps.alloc {w : World} (h : Steps w) (o : Obj) : Steps (w.alloc o) := h.below (below_new w o)
def stepX (j : Int) : Int := if j = 1 then 1 else if j = 2 then 1 else -1
def stepY (j : Int) : Int := if j = 2 then 1 else if j = 3 then 1 else -1
/-- A corner of the number k (counted round), from the middle on. -/
def cornX (x k : Int) : Int := 2 * x + 1 + stepX (k % 4)
def cornY (y k : Int) : Int := 2 * y + 1 + stepY (k % 4)

theorem step_below {w : World} (o o' : Obj) : Below w.heap.size w ((w.alloc o).alloc o') := ((Below.refl _ _).alloc (Nat.le_refl _) _).alloc (by simp) _
set_option maxRecDepth 100000 in
set_option maxHeartbeats 1600000 in
theorem corner1_any (k mx my : Int) (g : Nat) (w : World) (hs : Steps w) (c0 : w.cell? ⟨g, 0, none⟩ = some (.int .i64 mx)) (c1 : w.cell? ⟨g, 1, none⟩ = some (.int .i64 my))
    (x1 : -3000000 ≤ mx) (x2 : mx ≤ 3000000) (y1 : -3000000 ≤ my) (y2 : my ≤ 3000000) :
    Calls Tryd.prog 63 #[.int .i64 k, .pointer (some ⟨g, 0, none⟩)] w fun e w' => e = .returned (.agg #[.int .i64 (mx + stepX (k % 4)), .int .i64 (my + stepY (k % 4))]) ∧ Below w.heap.size w w' := by
  have hg : g < w.heap.size := World.block_lt_of_cell? w _ c0
  have hlt := hs.lt
  have hm : k % 4 = 0 ∨ k % 4 = 1 ∨ k % 4 = 2 ∨ k % 4 = 3 := by omega
  rcases hm with hm | hm | hm | hm
  · have hbit : bits .and .i64 k 3 = 0 := by rw [and3, hm]
    have HM := Lib.hid hm
    clear hm
    have t0 := hs.a0
    have t1 := hs.a1
    go_enter Tryd.func63, Tryd.ntmps63
    go_wp2
    refine bodyPost_ret (v := .agg #[.int .i64 (mx + (-1)), .int .i64 (my + (-1))]) (by simp [results, Tryd.results63, go_sem]) rfl ⟨by rw [HM.out]; rfl, ?_⟩
    exact step_below _ _
  · have hbit : bits .and .i64 k 3 = 1 := by rw [and3, hm]
    have HM := Lib.hid hm
    clear hm
    have t0 := hs.b0
    have t1 := hs.b1
    go_enter Tryd.func63, Tryd.ntmps63
    go_wp2
    refine bodyPost_ret (v := .agg #[.int .i64 (mx + 1), .int .i64 (my + (-1))]) (by simp [results, Tryd.results63, go_sem]) rfl ⟨by rw [HM.out]; rfl, ?_⟩
    exact step_below _ _
  · have hbit : bits .and .i64 k 3 = 2 := by rw [and3, hm]
    have HM := Lib.hid hm
    clear hm
    have t0 := hs.c0
    have t1 := hs.c1
    go_enter Tryd.func63, Tryd.ntmps63
    go_wp2
    refine bodyPost_ret (v := .agg #[.int .i64 (mx + 1), .int .i64 (my + 1)]) (by simp [results, Tryd.results63, go_sem]) rfl ⟨by rw [HM.out]; rfl, ?_⟩
    exact step_below _ _
  · have hbit : bits .and .i64 k 3 = 3 := by rw [and3, hm]
    have HM := Lib.hid hm
    clear hm
    have t0 := hs.d0
    have t1 := hs.d1
    go_enter Tryd.func63, Tryd.ntmps63
    go_wp2
    refine bodyPost_ret (v := .agg #[.int .i64 (mx + (-1)), .int .i64 (my + 1)]) (by simp [results, Tryd.results63, go_sem]) rfl ⟨by rw [HM.out]; rfl, ?_⟩
    exact step_below _ _
end Go.Proofs.YthfhkmgegkhljaaDoor
