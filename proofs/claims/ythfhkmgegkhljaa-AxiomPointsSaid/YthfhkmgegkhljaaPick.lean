/- The walks of the leaf functions of the axiom laws: what they compute. -/
import Derived.Test.YthfhkmgegkhljaaKit
namespace Go.Proofs.Ythfhkmgegkhljaa
open Go.RowKit

def pick (n k : Int) : Int := if n < 0 then (-(n + 1)).tmod k else n.tmod k

theorem pick_lo (n k : Int) (h : 1 ≤ k) : 0 ≤ pick n k := by
  unfold pick; split
  · exact Int.tmod_nonneg _ (by omega)
  · exact Int.tmod_nonneg _ (by omega)
theorem pick_hi (n k : Int) (h : 1 ≤ k) : pick n k < k := by
  unfold pick; split <;> exact Int.tmod_lt_of_pos _ (by omega)

set_option maxHeartbeats 400000 in
theorem picked_any (n k : Int) (w : World) (h1 : -9223372036854775808 ≤ n) (h2 : n ≤ 9223372036854775807) (h3 : 1 ≤ k) :
    Calls Try.prog 32 #[.int .i64 n, .int .i64 k] w fun e w' => e = .returned (.int .i64 (pick n k)) ∧ w = w' := by
  by_cases hn : n < 0
  · go_enter Try.func32, Try.ntmps32
    go_wp2
    go_ret
    exact ⟨by simp [pick, hn, Int.neg_tmod], rfl⟩
  · go_enter Try.func32, Try.ntmps32
    go_wp2
    go_ret
    exact ⟨by simp [pick, show ¬ n < 0 from by omega, Int.tmod_eq_emod_of_nonneg (show 0 ≤ n from by omega)], rfl⟩

theorem gcd_step (x y : Int) : Int.gcd y (x.tmod y) = Int.gcd x y := by
  simp only [Int.gcd, Int.natAbs_tmod]
  rw [Nat.gcd_comm x.natAbs, Nat.gcd_rec y.natAbs x.natAbs, Nat.gcd_comm]

set_option maxHeartbeats 400000 in
theorem divisor_any (a b : Int) (w : World) (h1 : -4611686018427387904 ≤ a) (h2 : a ≤ 4611686018427387904) (h3 : -4611686018427387904 ≤ b) (h4 : b ≤ 4611686018427387904) :
    Calls Try.prog 49 #[.int .i64 a, .int .i64 b] w fun e w' => e = .returned (.int .i64 (Int.gcd a b)) ∧ ∃ n, w' = w.drewN n := by
  go_enter Try.func49, Try.ntmps49
  go_wp2
  go_loopw [0, 1] (fun u v wr => ∃ x y : Int, u = .int .i64 x ∧ v = .int .i64 y ∧ -4611686018427387904 ≤ x ∧ x ≤ 4611686018427387904 ∧ -4611686018427387904 ≤ y ∧ y ≤ 4611686018427387904 ∧ Int.gcd x y = Int.gcd a b ∧ ∃ n, wr = w.drewN n) (fun _ v _ => (intOf v).natAbs)
  case atStart => exact ⟨a, b, rfl, rfl, h1, h2, h3, h4, rfl, 0, rfl⟩
  case round =>
    obtain ⟨x, y, rfl, rfl, x1, x2, y1, y2, hg, n, rfl⟩ := hrel
    by_cases hy : y = 0
    · subst hy
      have hgx : (x.natAbs : Int) = (Int.gcd a b : Int) := by rw [← hg, Int.gcd_zero_right]
      have HG := Lib.hid hgx
      clear hg hgx
      go_wp2
      all_goals
        go_ret
        exact ⟨ret_int (by rw [← HG.out]; omega), n, rfl⟩
    · have hb : (y != 0) = true := by rw [bne_iff_ne]; exact hy
      have HG := Lib.hid hg
      clear hg
      go_wp2
      go_quiet (fail)
      go_wp2
      go_roundw
      case rel =>
        have hlt := Int.natAbs_tmod x y
        have hmod : (x.natAbs % y.natAbs) < y.natAbs := Nat.mod_lt _ (by omega)
        exact ⟨y, x.tmod y, rfl, rfl, y1, y2, by omega, by omega, by rw [gcd_step, HG.out], n + nq, World.drewN_drewN _ _ _⟩
      case measure =>
        have hlt := Int.natAbs_tmod x y
        have hmod : (x.natAbs % y.natAbs) < y.natAbs := Nat.mod_lt _ (by omega)
        simp [intOf]; omega
end Go.Proofs.Ythfhkmgegkhljaa
