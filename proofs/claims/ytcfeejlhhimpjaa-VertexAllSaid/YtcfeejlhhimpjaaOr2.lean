/- The document's words on orders of sectors: kindsOf, goodOrder. -/
import Derived.Test.YtcfeejlhhimpjaaOr1
namespace Go.Proofs.Ytcfeejlhhimpjaa
set_option linter.unusedSimpArgs false
set_option linter.unusedVariables false
open Go.RowKit Vx Vo

theorem pv_int {n j : Nat} (hn : n ≤ 8) (hj : j < n) : IntKind.i64.wrap ((j : Int) + n) = j + n ∧ IntKind.i64.wrap ((j : Int) + n - 1) = j + n - 1 ∧ ((j : Int) + n - 1).tmod n = pv n j ∧ IntKind.i64.wrap (pv n j : Int) = pv n j ∧ pv n j < n := by
  have hp := pv_lt (n := n) (j := j) (by omega)
  refine ⟨IntWalk.i64_in _ (by omega), IntWalk.i64_in _ (by omega), ?_, IntWalk.i64_in _ (by omega), hp⟩
  rw [show ((j : Int) + n - 1) = ((j + n - 1 : Nat) : Int) by omega, ← Int.ofNat_tmod]
  rfl
theorem Rd.at_fn {w : World} {b off n : Nat} {xs : List Int} (h : Rd w 1 (some ⟨b, off, none⟩) n (vis xs)) {k : Nat} (hk : k < n) : w.cell? ⟨b, off + k, none⟩ = some (.int .i64 (fn xs k)) := by
  obtain ⟨b', off', z, hA, _, hz, hc⟩ := h.int hk
  simp only [Option.some.injEq, Addr.mk.injEq, and_true] at hA
  obtain ⟨rfl, rfl⟩ := hA
  rw [fn_at hz]
  exact hc
set_option maxHeartbeats 1600000 in
theorem kindsOf_any (b off n c : Nat) (hs : List Int) (w : World) (h : Rd w 1 (some ⟨b, off, none⟩) n (vis hs)) (hn : n ≤ 8) :
    Calls Try.prog 31 #[.slice (some ⟨b, off, none⟩) n c] w fun e w' => e = .returned (.int .i64 (knum (fn hs) n n : Nat)) ∧ ∃ q, w' = w.drewN q := by
  have HR := Lib.hid h
  clear h
  go_enter Try.func31, Try.ntmps31
  go_wp2
  go_loopw [4, 5] (fun m i wr => ∃ k q : Nat, k ≤ n ∧ i = .int .i64 k ∧ m = .int .i64 (knum (fn hs) n k : Nat) ∧ wr = w.drewN q) (fun _ i _ => n - (intOf i).toNat)
  case atStart => exact ⟨0, 0, by omega, rfl, rfl, rfl⟩
  case round =>
    obtain ⟨k, q, hk, rfl, rfl, rfl⟩ := hrel
    by_cases hkn : k < n
    · obtain ⟨v1, v2, v3, v4, v5⟩ := pv_int hn hkn
      have c1 := HR.out.at_fn hkn
      have c2 := HR.out.at_fn v5
      have hnz : ((n : Int) == 0) = false := by simp; omega
      have hn0 : ¬ (n = 0) := by omega
      have hst : knum (fn hs) n (k + 1) = 2 * knum (fn hs) n k + (if bitK (fn hs) n k = true then 1 else 0) := rfl
      have hbk : bitK (fn hs) n k = (decide (fn hs (pv n k) < fn hs k) == decide (pv n k % 2 = 0)) := rfl
      have hlt := knum_lt (fn hs) n k
      have hp := pow_le8 (Nat.le_of_lt hkn) hn
      generalize fn hs k = z1 at c1 hbk
      generalize fn hs (pv n k) = z2 at c2 hbk
      generalize pv n k = p at *
      generalize bitK (fn hs) n k = B at *
      obtain ⟨M, hM⟩ : ∃ M, M = knum (fn hs) n k := ⟨_, rfl⟩
      rw [← hM] at hst hlt ⊢
      have hM2 : M ≤ 256 := by omega
      have HST := Lib.hid hst
      have HB := Lib.hid hbk
      clear hst hbk hlt hp hM
      have fin1 : ∀ m : Nat, m = 2 * M + 1 → (Value.int .i64 (2 * (M : Int) + 1)) = .int .i64 (m : Nat) := fun m hm => congrArg (Value.int .i64) (by omega)
      have fin0 : ∀ m : Nat, m = 2 * M → (Value.int .i64 (2 * (M : Int))) = .int .i64 (m : Nat) := fun m hm => congrArg (Value.int .i64) (by omega)
      have F1 := Lib.hid fin1
      have F0 := Lib.hid fin0
      clear fin1 fin0
      by_cases d : z2 < z1
      · have dd : decide (z2 < z1) = true := by simp [d]
        by_cases par : p % 2 = 0
        · have par2 : (p : Int) % 2 = 0 := by omega
          have hB : B = true := by rw [HB.out, dd]; simp [par]
          have HB2 := Lib.hid hB
          clear hB par
          go_wp2_with fail
          go_quiet (fail)
          go_wp2
          go_roundw
          case rel => exact ⟨k + 1, _, by omega, by go_num, F1.out _ (by rw [HST.out, if_pos HB2.out]), rfl⟩
          case measure => simp [intOf]; omega
        · have par2 : (p : Int) % 2 = 1 := by omega
          have hB : ¬ B = true := by rw [HB.out, dd]; simp [par]
          have HB2 := Lib.hid hB
          clear hB par
          go_wp2_with fail
          go_quiet (fail)
          go_wp2
          go_roundw
          case rel => exact ⟨k + 1, _, by omega, by go_num, F0.out _ (by rw [HST.out, if_neg HB2.out]; rfl), rfl⟩
          case measure => simp [intOf]; omega
      · have dd : decide (z2 < z1) = false := decide_eq_false d
        by_cases par : p % 2 = 0
        · have par2 : (p : Int) % 2 = 0 := by omega
          have hB : ¬ B = true := by rw [HB.out, dd]; simp [par]
          have HB2 := Lib.hid hB
          clear hB par
          go_wp2_with fail
          go_quiet (fail)
          go_wp2
          go_roundw
          case rel => exact ⟨k + 1, _, by omega, by go_num, F0.out _ (by rw [HST.out, if_neg HB2.out]; rfl), rfl⟩
          case measure => simp [intOf]; omega
        · have par2 : (p : Int) % 2 = 1 := by omega
          have hB : B = true := by rw [HB.out, dd]; simp [par]
          have HB2 := Lib.hid hB
          clear hB par
          go_wp2_with fail
          go_quiet (fail)
          go_wp2
          go_roundw
          case rel => exact ⟨k + 1, _, by omega, by go_num, F1.out _ (by rw [HST.out, if_pos HB2.out]), rfl⟩
          case measure => simp [intOf]; omega
    · obtain rfl : k = n := by omega
      go_wp2
      go_ret
      exact ⟨rfl, q, rfl⟩
end Go.Proofs.Ytcfeejlhhimpjaa
