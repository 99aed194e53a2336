/- OrderMay, OrderGood. -/
import Derived.Test.YtjikhdnlcoohbaaSt7
namespace Go.Proofs.Ytjikhdnlcoohbaa
set_option linter.unusedSimpArgs false
set_option linter.unusedVariables false
open Go.RowKit St

theorem chk_miss {os : List Int} (h : ¬ (os.length < 1 ∨ 8 < os.length)) {s : Nat} (hs : s < os.length) (hm : ((s : Int) + 1) ∉ os) : chkE os = 1 := by
  unfold chkE
  rw [if_neg h, if_neg]
  intro e
  exact hm ((perm_iff rfl).1 ((sorted_iff (srt_perm os) (srt_le os)).1 e) s hs)
theorem chk_all {os : List Int} (h : ¬ (os.length < 1 ∨ 8 < os.length)) (ha : ∀ s : Nat, s < os.length → ((s : Int) + 1) ∈ os) : chkE os = 0 :=
  chk_zero.2 ⟨by omega, by omega, (perm_iff rfl).2 ha⟩
set_option maxRecDepth 100000 in
set_option maxHeartbeats 1600000 in
theorem orderMay_any (A : Option Addr) (n c : Nat) (os : List Int) (w : World) (h : Rd w 1 A n (vis os)) :
    Calls Try.prog 11 #[.slice A n c] w fun e w' => e = .returned (.int .i64 (chkE os)) ∧ Below w.heap.size w w' := by
  have hlen := h.ints_len
  obtain ⟨E, hE⟩ : ∃ E, E = chkE os := ⟨_, rfl⟩
  rw [← hE]
  by_cases hs : os.length < 1 ∨ 8 < os.length
  · rw [chk_size hs] at hE
    subst hE
    rw [hlen] at hs
    rcases hs with hs | hs
    all_goals
      go_enter Try.func11, Try.ntmps11
      go_wp2_with fail
      go_ret
      exact ⟨rfl, Below.refl _ _⟩
  · have hs8 : n ≤ 8 := by omega
    have hs1 : 1 ≤ n := by omega
    have cW := fun s => within_any A n c os s w h (by omega)
    have CW := Lib.hid cW
    have HS := Lib.hid hs
    have HL := Lib.hid hlen
    have HE := Lib.hid hE
    clear cW hs hlen hE h
    go_enter Try.func11, Try.ntmps11
    go_wp2_with fail
    go_loopw [4] (fun i wr => ∃ k : Nat, k ≤ n ∧ i = .int .i64 ((k : Int) + 1) ∧ (∀ j : Nat, j < k → ((j : Int) + 1) ∈ os) ∧ wr = w) (fun i _ => n + 1 - (intOf i).toNat)
    case atStart => exact ⟨0, by omega, rfl, fun j hj => by omega, rfl⟩
    case round =>
      obtain ⟨k, hk, rfl, hall, rfl⟩ := hrel
      have HA := Lib.hid hall
      clear hall
      by_cases hkn : k < n
      · by_cases hm : ((k : Int) + 1) ∈ os
        · have hd : decide (((k : Int) + 1) ∈ os) = true := decide_eq_true hm
          have hc := CW.out ((k : Int) + 1)
          rw [hd] at hc
          have HC := Lib.hid hc
          have HM := Lib.hid hm
          clear hd hc hm
          have hle : (k : Int) + 1 ≤ (n : Int) := by omega
          go_wp2_with (go_at_call 26; refine HC.out.mono ?_; rintro e w1 ⟨rfl, rfl⟩)
          go_roundw
          case rel =>
            refine ⟨k + 1, by omega, by go_num, fun j hj => ?_, trivial⟩
            by_cases hjk : j = k
            · subst hjk
              exact HM.out
            · exact HA.out j (by omega)
          case measure => simp [intOf]; omega
        · have hd : decide (((k : Int) + 1) ∈ os) = false := decide_eq_false hm
          have hc := CW.out ((k : Int) + 1)
          rw [hd] at hc
          have HC := Lib.hid hc
          have HE1 := HE.out.trans (chk_miss HS.out (by rw [HL.out]; exact hkn) hm)
          subst HE1
          clear hd hc hm
          have hle : (k : Int) + 1 ≤ (n : Int) := by omega
          go_wp2_with (go_at_call 26; refine HC.out.mono ?_; rintro e w1 ⟨rfl, rfl⟩)
          go_ret
          exact ⟨rfl, Below.refl _ _⟩
      · obtain rfl : k = n := by omega
        have HE1 := HE.out.trans (chk_all HS.out (by rw [HL.out]; exact HA.out))
        subst HE1
        go_wp2_with fail
        go_ret
        exact ⟨rfl, Below.refl _ _⟩
theorem goodR_no {h : Nat → Int} {n i k : Nat} (hi : 0 < i) (hk : k < n) (hik : i < k) (hp : i % 2 = k % 2) (hb : pairOk h i k = false) : goodR h n = false := by
  cases hg : goodR h n with
  | false => rfl
  | true =>
    unfold goodR at hg
    simp only [List.all_eq_true, List.mem_range, Bool.or_eq_true, Bool.not_eq_true', decide_eq_false_iff_not] at hg
    rcases hg i (by omega) k hk with h1 | h1
    · exact absurd ⟨hi, hik, hp⟩ h1
    · rw [h1] at hb; cases hb
theorem goodR_yes {h : Nat → Int} {n : Nat} (ha : ∀ i k, 0 < i → i < k → k < n → i % 2 = k % 2 → pairOk h i k = true) : goodR h n = true := by
  unfold goodR
  simp only [List.all_eq_true, List.mem_range, Bool.or_eq_true, Bool.not_eq_true', decide_eq_false_iff_not]
  intro i hi k hk
  by_cases hc : 0 < i ∧ i < k ∧ i % 2 = k % 2
  · exact .inr (ha i k hc.1 hc.2.1 hk hc.2.2)
  · exact .inl hc
end Go.Proofs.Ytjikhdnlcoohbaa
