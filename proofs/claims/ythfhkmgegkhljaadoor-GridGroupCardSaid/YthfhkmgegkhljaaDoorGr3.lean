/- Values along a line's direction; the side of a line. Printed by gen_gr3.py. -/
import Derived.Test.YthfhkmgegkhljaaDoorGr1
namespace Go.Proofs.YthfhkmgegkhljaaDoor
open Go.RowKit

/-- The value of a point along a direction. -/
def valB (v x y : Int) : Int := if v = 0 then x else if v = 1 then y else if v = 2 then x + y else x - y
theorem valB_bd {v x y M : Int} (x1 : -M ≤ x) (x2 : x ≤ M) (y1 : -M ≤ y) (y2 : y ≤ M) : -(2 * M) ≤ valB v x y ∧ valB v x y ≤ 2 * M := by
  unfold valB; split <;> (try split) <;> (try split) <;> omega

set_option maxHeartbeats 800000 in
theorem value_any (v x y : Int) (w : World) (x1 : -4000000 ≤ x) (x2 : x ≤ 4000000) (y1 : -4000000 ≤ y) (y2 : y ≤ 4000000) :
    Calls Tryd.prog 66 #[.int .i64 v, .agg #[.int .i64 x, .int .i64 y]] w fun e w' => e = .returned (.int .i64 (valB v x y)) ∧ Below w.heap.size w w' := by
  have hb := below_new w (.cells #[.int .i64 x, .int .i64 y] 25)
  by_cases h0 : v = 0
  · subst h0
    go_enter Tryd.func66, Tryd.ntmps66
    go_wp2
    go_ret
    exact ⟨by simp [valB], hb⟩
  by_cases h1 : v = 1
  · subst h1
    go_enter Tryd.func66, Tryd.ntmps66
    go_wp2
    go_ret
    exact ⟨by simp [valB], hb⟩
  by_cases h2 : v = 2
  · subst h2
    go_enter Tryd.func66, Tryd.ntmps66
    go_wp2
    go_ret
    exact ⟨by simp [valB], hb⟩
  have b0 : (v == 0) = false := by simpa using h0
  have b1 : (v == 1) = false := by simpa using h1
  have b2 : (v == 2) = false := by simpa using h2
  have HV : Hid (valB v x y = x - y) := Lib.hid (by simp [valB, h0, h1, h2])
  clear h0 h1 h2
  go_enter Tryd.func66, Tryd.ntmps66
  go_wp2
  go_ret
  exact ⟨by rw [HV.out]; rfl, hb⟩

set_option maxHeartbeats 800000 in
theorem valueOf_any (v x y : Int) (w : World) (x1 : -4000000 ≤ x) (x2 : x ≤ 4000000) (y1 : -4000000 ≤ y) (y2 : y ≤ 4000000) :
    Calls Tryd.prog 51 #[.int .i64 v, .agg #[.int .i64 x, .int .i64 y]] w fun e w' => e = .returned (.int .i64 (valB v x y)) ∧ Below w.heap.size w w' := by
  have hb := below_new w (.cells #[.int .i64 x, .int .i64 y] 25)
  by_cases h0 : v = 0
  · subst h0
    go_enter Tryd.func51, Tryd.ntmps51
    go_wp2
    go_ret
    exact ⟨by simp [valB], hb⟩
  by_cases h1 : v = 1
  · subst h1
    go_enter Tryd.func51, Tryd.ntmps51
    go_wp2
    go_ret
    exact ⟨by simp [valB], hb⟩
  by_cases h2 : v = 2
  · subst h2
    go_enter Tryd.func51, Tryd.ntmps51
    go_wp2
    go_ret
    exact ⟨by simp [valB], hb⟩
  have b0 : (v == 0) = false := by simpa using h0
  have b1 : (v == 1) = false := by simpa using h1
  have b2 : (v == 2) = false := by simpa using h2
  have HV : Hid (valB v x y = x - y) := Lib.hid (by simp [valB, h0, h1, h2])
  clear h0 h1 h2
  go_enter Tryd.func51, Tryd.ntmps51
  go_wp2
  go_ret
  exact ⟨by rw [HV.out]; rfl, hb⟩

end Go.Proofs.YthfhkmgegkhljaaDoor
