/- The corners by the document. Printed by gen_gr10.py. -/
import Derived.Test.YtoienokpchbglaaDoorGr2
namespace Go.Proofs.YtoienokpchbglaaDoor
open Go.RowKit

theorem new_blk {W : World} {n : Nat} (o : Obj) (h : n = W.heap.size) : (W.alloc o).heap[n]? = some o := by subst h; exact heap_alloc_new W o
theorem ba {w W : World} (h : Below w.heap.size w W) (o : Obj) : Below w.heap.size w (W.alloc o) := h.alloc h.size o
/-- A slice of three points, read out. -/
def ThreeP (w : World) (e : Ending) (a b c d p q : Int) : Prop := ∃ g, e = .returned (.slice (some ⟨g, 0, none⟩) 3 3) ∧ w.heap[g]? = some (.cells #[.int .i64 a, .int .i64 b, .int .i64 c, .int .i64 d, .int .i64 p, .int .i64 q] 49 (0, 0))

set_option maxRecDepth 100000 in
set_option maxHeartbeats 3200000 in
theorem cornersOf_any (x y k : Int) (w : World) (x1 : -1000000 ≤ x) (x2 : x ≤ 1000000) (y1 : -1000000 ≤ y) (y2 : y ≤ 1000000) (k1 : 0 ≤ k) (k2 : k ≤ 3) :
    Calls Tryd.prog 46 #[.agg #[.int .i64 x, .int .i64 y, .int .i64 k]] w fun e w' => ThreeP w' e (2 * x + 1) (2 * y + 1) (cornX x k) (cornY y k) (cornX x (k + 1)) (cornY y (k + 1)) ∧ Below w.heap.size w w' := by
  have hk : k = 0 ∨ k = 1 ∨ k = 2 ∨ k = 3 := by omega
  rcases hk with rfl | rfl | rfl | rfl
  · have e1 : cornX x 0 = 2 * x := by simp [cornX, stepX]; try omega
    have e2 : cornY y 0 = 2 * y := by simp [cornY, stepY]; try omega
    have e3 : cornX x (0 + 1) = 2 * x + 2 := by simp [cornX, stepX]; try omega
    have e4 : cornY y (0 + 1) = 2 * y := by simp [cornY, stepY]; try omega
    rw [e1, e2, e3, e4]
    clear e1 e2 e3 e4
    go_enter Tryd.func46, Tryd.ntmps46
    go_wp2_with fail
    go_quiet (fail)
    go_wp2
    go_ret
    refine ⟨⟨_, rfl, ?_⟩, ?_⟩
    · exact new_blk _ (by simp)
    · exact ba (ba (ba (ba (ba (ba (below_drewN (ba (Below.refl _ _) _) _) _) _) _) _) _) _
  · have e1 : cornX x 1 = 2 * x + 2 := by simp [cornX, stepX]; try omega
    have e2 : cornY y 1 = 2 * y := by simp [cornY, stepY]; try omega
    have e3 : cornX x (1 + 1) = 2 * x + 2 := by simp [cornX, stepX]; try omega
    have e4 : cornY y (1 + 1) = 2 * y + 2 := by simp [cornY, stepY]; try omega
    rw [e1, e2, e3, e4]
    clear e1 e2 e3 e4
    go_enter Tryd.func46, Tryd.ntmps46
    go_wp2_with fail
    go_quiet (fail)
    go_wp2
    go_ret
    refine ⟨⟨_, rfl, ?_⟩, ?_⟩
    · exact new_blk _ (by simp)
    · exact ba (ba (ba (ba (ba (ba (below_drewN (ba (Below.refl _ _) _) _) _) _) _) _) _) _
  · have e1 : cornX x 2 = 2 * x + 2 := by simp [cornX, stepX]; try omega
    have e2 : cornY y 2 = 2 * y + 2 := by simp [cornY, stepY]; try omega
    have e3 : cornX x (2 + 1) = 2 * x := by simp [cornX, stepX]; try omega
    have e4 : cornY y (2 + 1) = 2 * y + 2 := by simp [cornY, stepY]; try omega
    rw [e1, e2, e3, e4]
    clear e1 e2 e3 e4
    go_enter Tryd.func46, Tryd.ntmps46
    go_wp2_with fail
    go_quiet (fail)
    go_wp2
    go_ret
    refine ⟨⟨_, rfl, ?_⟩, ?_⟩
    · exact new_blk _ (by simp)
    · exact ba (ba (ba (ba (ba (ba (below_drewN (ba (Below.refl _ _) _) _) _) _) _) _) _) _
  · have e1 : cornX x 3 = 2 * x := by simp [cornX, stepX]; try omega
    have e2 : cornY y 3 = 2 * y + 2 := by simp [cornY, stepY]; try omega
    have e3 : cornX x (3 + 1) = 2 * x := by simp [cornX, stepX]; try omega
    have e4 : cornY y (3 + 1) = 2 * y := by simp [cornY, stepY]; try omega
    rw [e1, e2, e3, e4]
    clear e1 e2 e3 e4
    go_enter Tryd.func46, Tryd.ntmps46
    go_wp2_with fail
    go_quiet (fail)
    go_wp2
    go_ret
    refine ⟨⟨_, rfl, ?_⟩, ?_⟩
    · exact new_blk _ (by simp)
    · exact ba (ba (ba (ba (ba (ba (below_drewN (ba (Below.refl _ _) _) _) _) _) _) _) _) _
end Go.Proofs.YtoienokpchbglaaDoor
