/- The walk of StampsList. -/
import Derived.Test.YtjikhdnlcoohbaaOd3
namespace Go.Proofs.Ytjikhdnlcoohbaa
set_option linter.unusedSimpArgs false
set_option linter.unusedVariables false
open Go.RowKit St
set_option maxRecDepth 100000 in
set_option maxHeartbeats 1600000 in
theorem list_walk (n : Int) (w : World) :
    Calls Try.prog 4 #[.int .i64 n] w fun e w' => e = .returned (.bool true) ∧ Below w.heap.size w w' := by
  by_cases hn : n < 1 ∨ 8 < n
  · have CA := Lib.hid (all_err n hn w)
    rcases hn with hn | hn
    · go_enter Try.func4, Try.ntmps4
      go_wp2_with (go_at_call 15; refine CA.out.mono ?_; rintro e w1 ⟨rfl, rfl⟩)
      go_ret
      exact ⟨rfl, Below.refl _ _⟩
    · have h1 : ¬ n < 1 := by omega
      go_enter Try.func4, Try.ntmps4
      go_wp2_with (go_at_call 15; refine CA.out.mono ?_; rintro e w1 ⟨rfl, rfl⟩)
      go_ret
      exact ⟨rfl, Below.refl _ _⟩
  · obtain ⟨N, rfl⟩ : ∃ N : Nat, n = N := ⟨n.toNat, by omega⟩
    have h1 : 1 ≤ N := by omega
    have h8 : N ≤ 8 := by omega
    have g1 : ¬ ((N : Int) < 1) := by omega
    have g2 : ¬ (8 < (N : Int)) := by omega
    have cA := all_ok N h1 h8 w
    have cO := fun (w1 : World) => ordersOf_any N h8 h1 N 0 (by omega) none 0 [] w1 Rd.nil (fun _ => rfl) (by simp) (by simp)
    have hL := partO_len h8 N []
    have hbd : (ordersOf N N []).length ≤ 16777216 := Nat.le_trans hL.1 (Nat.le_trans (Nat.pow_le_pow_right (by decide) h8) (by decide))
    obtain ⟨L, hLL⟩ : ∃ L, L = ordersOf N N [] := ⟨_, rfl⟩
    rw [← hLL] at cA cO hbd
    have hbig : L.length ≤ 9223372036854775807 := by omega
    have CA := Lib.hid cA
    have CO := Lib.hid cO
    clear cA cO hL hn hLL
    go_enter Try.func4, Try.ntmps4
    go_wp2_with (first
      | (go_at_call 15; refine CA.out.mono ?_; rintro e w1 ⟨v1, vals1, rfl, hown1, hrow1, hb1⟩; obtain ⟨A1, c1, hv1⟩ := own_sl hown1; subst hv1)
      | (go_at_call 17; refine (CO.out _).mono ?_; rintro e w2 ⟨v2, vals2, rfl, hown2, hrow2, hb2⟩; obtain ⟨A2, c2, hv2⟩ := own_sl hown2; subst hv2; have cS := sameRows_any A1 A2 L.length L.length c1 c2 N w.heap.size w1.heap.size h8 L L vals1 vals2 w2 ((Rd.of_own hown1).below hb2) (Rd.of_own hown2) (rows_keep hrow1 hb2) hrow2 hbig hbig)
      | (go_at_call 16; refine cS.mono ?_; rintro e w3 ⟨rfl, hb3⟩))
    go_ret
    exact ⟨ret_bool (by simp), stay_b (stay_b hb1 hb2) hb3⟩
end Go.Proofs.Ytjikhdnlcoohbaa
