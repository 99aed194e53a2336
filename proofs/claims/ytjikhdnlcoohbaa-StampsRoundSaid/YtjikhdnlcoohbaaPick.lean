/- The walks of the leaf functions of the axiom laws: what they compute. -/
import Derived.Test.YtjikhdnlcoohbaaKit
namespace Go.Proofs.Ytjikhdnlcoohbaa
set_option linter.unusedSimpArgs false
set_option linter.unusedVariables false
open Go.RowKit

def pick (n k : Int) : Int := if n < 0 then (-(n + 1)).tmod k else n.tmod k

theorem pick_lo (n k : Int) (h : 1 ≤ k) : 0 ≤ pick n k := by
  unfold pick; split
  · exact Int.tmod_nonneg _ (by omega)
  · exact Int.tmod_nonneg _ (by omega)
theorem pick_hi (n k : Int) (h : 1 ≤ k) : pick n k < k := by
  unfold pick; split <;> exact Int.tmod_lt_of_pos _ (by omega)

set_option maxHeartbeats 400000 in
theorem picked_any (n k : Int) (w : World) (h1 : -9223372036854775808 ≤ n) (h2 : n ≤ 9223372036854775807) (h3 : 1 ≤ k) :
    Calls Try.prog 19 #[.int .i64 n, .int .i64 k] w fun e w' => e = .returned (.int .i64 (pick n k)) ∧ w = w' := by
  by_cases hn : n < 0
  · go_enter Try.func19, Try.ntmps19
    go_wp2
    go_ret
    exact ⟨by simp [pick, hn, Int.neg_tmod], rfl⟩
  · go_enter Try.func19, Try.ntmps19
    go_wp2
    go_ret
    exact ⟨by simp [pick, show ¬ n < 0 from by omega, Int.tmod_eq_emod_of_nonneg (show 0 ≤ n from by omega)], rfl⟩
end Go.Proofs.Ytjikhdnlcoohbaa
