/- Straights in form: the program's and the reference's. -/
import Derived.Test.YthfhkmgegkhljaaAx3
import Derived.Test.YthfhkmgegkhljaaPick
import Derived.BigRegion
namespace Go.Proofs.Ythfhkmgegkhljaa
open Go.RowKit

def gcd3 (a b c : Int) : Int := (Int.gcd ((Int.gcd a b : Nat) : Int) c : Nat)
def lowS (a b : Int) : Bool := decide (a < 0) || ((a == 0) && decide (b < 0))
/-- A straight in form. -/
def formS (a b c : Int) : V3 := if lowS a b then (-(a.tdiv (gcd3 a b c)), -(b.tdiv (gcd3 a b c)), -(c.tdiv (gcd3 a b c))) else (a.tdiv (gcd3 a b c), b.tdiv (gcd3 a b c), c.tdiv (gcd3 a b c))
theorem gcd3_pos {a b c : Int} (h : a ≠ 0 ∨ b ≠ 0) : 1 ≤ gcd3 a b c := by
  unfold gcd3
  have h1 : 0 < Int.gcd a b := by
    rcases h with h | h
    · exact Int.gcd_pos_of_ne_zero_left b h
    · exact Int.gcd_pos_of_ne_zero_right a h
  have h2 : 0 < Int.gcd ((Int.gcd a b : Nat) : Int) c := Int.gcd_pos_of_ne_zero_left c (by omega)
  omega
theorem gcd_le (a b M : Int) (h1 : -M ≤ a) (h2 : a ≤ M) (h3 : -M ≤ b) (h4 : b ≤ M) : ((Int.gcd a b : Nat) : Int) ≤ M := by
  by_cases ha : a = 0
  · subst ha; rw [Int.gcd_zero_left]; omega
  · have : Int.gcd a b ≤ a.natAbs := Nat.le_of_dvd (by omega) (Nat.gcd_dvd_left _ _)
    omega
theorem gcd3_le {a b c : Int} (M : Int) (h1 : -M ≤ a) (h2 : a ≤ M) (h3 : -M ≤ b) (h4 : b ≤ M) (h5 : -M ≤ c) (h6 : c ≤ M) : gcd3 a b c ≤ M :=
  gcd_le _ _ M (by have := gcd_le a b M h1 h2 h3 h4; omega) (gcd_le a b M h1 h2 h3 h4) h5 h6
theorem tdiv_bd {a d M : Int} (hd : 1 ≤ d) (h1 : -M ≤ a) (h2 : a ≤ M) : -M ≤ a.tdiv d ∧ a.tdiv d ≤ M := by
  have h : (a.tdiv d).natAbs = a.natAbs / d.natAbs := Int.natAbs_tdiv a d
  have h2 : a.natAbs / d.natAbs ≤ a.natAbs := Nat.div_le_self _ _
  omega
abbrev aggS (l : V3) : Value := .agg #[.int .i64 l.1, .int .i64 l.2.1, .int .i64 l.2.2]

theorem form_below (w : World) (o : Obj) (k : Nat) (x y z : Value) : Below w.heap.size w (((((w.alloc o).drewN k).setCell ⟨w.heap.size, 0, none⟩ x).setCell ⟨w.heap.size, 1, none⟩ y).setCell ⟨w.heap.size, 2, none⟩ z) :=
  (((below_drewN ((Below.refl _ _).alloc (Nat.le_refl _) o) k).setCell (Nat.le_refl _) x).setCell (Nat.le_refl _) y).setCell (Nat.le_refl _) z

set_option maxRecDepth 100000 in
set_option maxHeartbeats 1600000 in
theorem form_any (a b c : Int) (w : World) (h0 : a ≠ 0 ∨ b ≠ 0) (a1 : -1000000000000000 ≤ a) (a2 : a ≤ 1000000000000000) (b1 : -1000000000000000 ≤ b) (b2 : b ≤ 1000000000000000) (c1 : -1000000000000000 ≤ c) (c2 : c ≤ 1000000000000000) :
    Calls Try.prog 37 #[.int .i64 a, .int .i64 b, .int .i64 c] w fun e w' => e = .returned (aggS (formS a b c)) ∧ Below w.heap.size w w' := by
  have hg1 := gcd3_pos (c := c) h0
  have hg2 := gcd3_le (a := a) (b := b) (c := c) 1000000000000000 a1 a2 b1 b2 c1 c2
  have hgg := gcd_le a b 1000000000000000 a1 a2 b1 b2
  have hgg0 : 0 ≤ ((Int.gcd a b : Nat) : Int) := by omega
  obtain ⟨g, hg⟩ : ∃ g, g = gcd3 a b c := ⟨_, rfl⟩
  rw [← hg] at hg1 hg2
  have HG := Lib.hid hg
  have H0 := Lib.hid h0
  clear hg h0
  cases hl : lowS a b
  · have HLo := Lib.hid hl
    have hfin : Hid (formS a b c = (a.tdiv g, b.tdiv g, c.tdiv g)) := Lib.hid (by unfold formS; rw [HLo.out, HG.out]; rfl)
    have na : ¬ a < 0 := by intro h; rw [lowS] at hl; simp [h] at hl
    have nb : a = 0 → ¬ b < 0 := by intro h h'; rw [lowS] at hl; simp [h, h'] at hl
    clear hl
    go_enter Try.func37, Try.ntmps37
    go_wp2_with fail
    refine (divisor_any a b _ (by omega) (by omega) (by omega) (by omega)).mono ?_
    rintro e w1 ⟨rfl, k1, rfl⟩
    go_wp2_with fail
    refine (divisor_any _ c _ (by omega) (by omega) (by omega) (by omega)).mono ?_
    rintro e w1 ⟨rfl, k2, rfl⟩
    rw [show ((Int.gcd ((Int.gcd a b : Nat) : Int) c : Nat) : Int) = g from HG.out.symm]
    have hg0 : (g == 0) = false := by rw [beq_eq_false_iff_ne]; omega
    by_cases ha : a = 0
    · subst ha
      have nb' := nb rfl
      clear nb
      go_wp2
      go_region
      all_goals
        go_wp2
        refine bodyPost_ret (v := aggS ((0 : Int).tdiv g, b.tdiv g, c.tdiv g)) (by simp [results, Try.results37, go_sem, Int.tdiv_eq_ediv_of_nonneg nb']) rfl ⟨by rw [hfin.out], ?_⟩
        exact form_below _ _ _ _ _ _
    · have ha0 : (a == 0) = false := by simpa using ha
      clear nb
      go_wp2
      go_region
      all_goals
        go_wp2
        refine bodyPost_ret (v := aggS (a / g, b.tdiv g, c.tdiv g)) (by simp [results, Try.results37, go_sem]) rfl ⟨by rw [hfin.out, Int.tdiv_eq_ediv_of_nonneg na], ?_⟩
        exact form_below _ _ _ _ _ _
  · have HLo := Lib.hid hl
    have hfin : Hid (formS a b c = (-(a.tdiv g), -(b.tdiv g), -(c.tdiv g))) := Lib.hid (by unfold formS; rw [HLo.out, HG.out]; rfl)
    have na : a < 0 ∨ (a = 0 ∧ b < 0) := by
      unfold lowS at hl
      simp at hl
      exact hl
    clear hl
    go_enter Try.func37, Try.ntmps37
    go_wp2_with fail
    refine (divisor_any a b _ (by omega) (by omega) (by omega) (by omega)).mono ?_
    rintro e w1 ⟨rfl, k1, rfl⟩
    go_wp2_with fail
    refine (divisor_any _ c _ (by omega) (by omega) (by omega) (by omega)).mono ?_
    rintro e w1 ⟨rfl, k2, rfl⟩
    rw [show ((Int.gcd ((Int.gcd a b : Nat) : Int) c : Nat) : Int) = g from HG.out.symm]
    have hg0 : (-g == 0) = false := by rw [beq_eq_false_iff_ne]; omega
    obtain ⟨ta1, ta2⟩ := tdiv_bd hg1 a1 a2
    obtain ⟨tb1, tb2⟩ := tdiv_bd hg1 b1 b2
    obtain ⟨tc1, tc2⟩ := tdiv_bd hg1 c1 c2
    rcases na with na | ⟨ha, nb⟩
    · go_wp2
      go_region
      all_goals
        go_wp2
        refine bodyPost_ret (v := aggS (-(a.tdiv g), -(b.tdiv g), -(c.tdiv g))) (by simp [results, Try.results37, go_sem]) rfl ⟨by rw [hfin.out], ?_⟩
        exact form_below _ _ _ _ _ _
    · subst ha
      go_wp2
      go_region
      all_goals
        go_wp2
        refine bodyPost_ret (v := aggS (-((0 : Int).tdiv g), -(b.tdiv g), -(c.tdiv g))) (by simp [results, Try.results37, go_sem]) rfl ⟨by rw [hfin.out], ?_⟩
        exact form_below _ _ _ _ _ _

theorem gcd3_dvd (a b c : Int) : gcd3 a b c ∣ a ∧ gcd3 a b c ∣ b ∧ gcd3 a b c ∣ c := by
  have h1 : gcd3 a b c ∣ ((Int.gcd a b : Nat) : Int) := Int.gcd_dvd_left _ _
  exact ⟨Int.dvd_trans h1 (Int.gcd_dvd_left _ _), Int.dvd_trans h1 (Int.gcd_dvd_right _ _), Int.gcd_dvd_right _ _⟩
theorem sign_of {a A g : Int} (hg : 1 ≤ g) (h : A * g = a) : (a < 0 ↔ A < 0) ∧ (a = 0 ↔ A = 0) := by
  subst h
  refine ⟨⟨fun h => ?_, fun h => ?_⟩, ⟨fun h => ?_, fun h => ?_⟩⟩
  · rcases Int.lt_or_le A 0 with h1 | h1
    · exact h1
    · have := Int.mul_nonneg h1 (show 0 ≤ g by omega); omega
  · exact Int.mul_neg_of_neg_of_pos h (by omega)
  · rcases Int.mul_eq_zero.1 h with h1 | h1
    · exact h1
    · omega
  · subst h; simp

theorem inform_below (w : World) (o : Obj) (k : Nat) (x y z : Value) : Below w.heap.size w ((((((w.alloc o)).drewN k).setCell ⟨w.heap.size, 0, none⟩ x).setCell ⟨w.heap.size, 1, none⟩ y).setCell ⟨w.heap.size, 2, none⟩ z) := form_below w o k x y z

set_option maxRecDepth 100000 in
set_option maxHeartbeats 1600000 in
theorem inForm_any (a b c : Int) (w : World) (h0 : a ≠ 0 ∨ b ≠ 0) (a1 : -1000000000000000 ≤ a) (a2 : a ≤ 1000000000000000) (b1 : -1000000000000000 ≤ b) (b2 : b ≤ 1000000000000000) (c1 : -1000000000000000 ≤ c) (c2 : c ≤ 1000000000000000) :
    Calls Try.prog 40 #[.int .i64 a, .int .i64 b, .int .i64 c] w fun e w' => e = .returned (aggS (formS a b c)) ∧ Below w.heap.size w w' := by
  have hg1 := gcd3_pos (c := c) h0
  have hg2 := gcd3_le (a := a) (b := b) (c := c) 1000000000000000 a1 a2 b1 b2 c1 c2
  have hgg := gcd_le a b 1000000000000000 a1 a2 b1 b2
  have hgg0 : 0 ≤ ((Int.gcd a b : Nat) : Int) := by omega
  have hdv := gcd3_dvd a b c
  obtain ⟨g, hg⟩ : ∃ g, g = gcd3 a b c := ⟨_, rfl⟩
  rw [← hg] at hg1 hg2 hdv
  obtain ⟨A, hA⟩ : ∃ A, A = a.tdiv g := ⟨_, rfl⟩
  obtain ⟨B, hB⟩ : ∃ B, B = b.tdiv g := ⟨_, rfl⟩
  obtain ⟨C, hC⟩ : ∃ C, C = c.tdiv g := ⟨_, rfl⟩
  obtain ⟨ta1, ta2⟩ := tdiv_bd hg1 a1 a2
  obtain ⟨tb1, tb2⟩ := tdiv_bd hg1 b1 b2
  obtain ⟨tc1, tc2⟩ := tdiv_bd hg1 c1 c2
  have sA := sign_of (a := a) (A := A) hg1 (by rw [hA]; exact Int.tdiv_mul_cancel hdv.1)
  have sB := sign_of (a := b) (A := B) hg1 (by rw [hB]; exact Int.tdiv_mul_cancel hdv.2.1)
  rw [← hA] at ta1 ta2
  rw [← hB] at tb1 tb2
  rw [← hC] at tc1 tc2
  have rA := hA.symm
  have rB := hB.symm
  have rC := hC.symm
  have HG := Lib.hid hg
  have H0 := Lib.hid h0
  have hg0 : (g == 0) = false := by rw [beq_eq_false_iff_ne]; omega
  have hfin : Hid (formS a b c = if lowS A B then (-A, -B, -C) else (A, B, C)) := Lib.hid (by
    have hlow : lowS a b = lowS A B := by
      unfold lowS
      rw [show decide (a < 0) = decide (A < 0) from decide_eq_decide.2 sA.1, show decide (b < 0) = decide (B < 0) from decide_eq_decide.2 sB.1]
      rw [show (a == 0) = (A == 0) from by rw [Bool.eq_iff_iff, beq_iff_eq, beq_iff_eq]; exact sA.2]
    unfold formS
    rw [hlow, ← hg, ← hA, ← hB, ← hC])
  clear hg h0 hdv hA hB hC sA sB
  go_enter Try.func40, Try.ntmps40
  go_wp2_with fail
  refine (common_any a b _ (by omega) (by omega) (by omega) (by omega)).mono ?_
  rintro e w1 ⟨rfl, rfl⟩
  go_wp2_with fail
  refine (common_any _ c _ (by omega) (by omega) (by omega) (by omega)).mono ?_
  rintro e w1 ⟨rfl, rfl⟩
  rw [show ((Int.gcd ((Int.gcd a b : Nat) : Int) c : Nat) : Int) = g from HG.out.symm]
  go_wp2
  go_quiet (fail)
  by_cases hAn : A < 0
  · have HF : Hid (lowS A B = true) := Lib.hid (by simp [lowS, hAn])
    go_wp2
    refine bodyPost_ret (v := aggS (-A, -B, -C)) (by simp [results, Try.results40, go_sem]) rfl ⟨by rw [hfin.out, HF.out]; rfl, ?_⟩
    exact form_below _ _ _ _ _ _
  · by_cases hAz : A = 0
    · by_cases hBn : B < 0
      · have HF : Hid (lowS A B = true) := Lib.hid (by simp [lowS, hAz, hBn])
        have hAz' : (A == 0) = true := by simpa using hAz
        have HZ := Lib.hid hAz
        clear hAz
        go_wp2
        refine bodyPost_ret (v := aggS (-A, -B, -C)) (by simp [results, Try.results40, go_sem]) rfl ⟨by rw [hfin.out, HF.out]; rfl, ?_⟩
        exact form_below _ _ _ _ _ _
      · have HF : Hid (lowS A B = false) := Lib.hid (by simp [lowS, hAz]; omega)
        have hAz' : (A == 0) = true := by simpa using hAz
        have HZ := Lib.hid hAz
        clear hAz
        go_wp2
        refine bodyPost_ret (v := aggS (A, B, C)) (by simp [results, Try.results40, go_sem]) rfl ⟨by rw [hfin.out, HF.out]; rfl, ?_⟩
        exact form_below _ _ _ _ _ _
    · have HF : Hid (lowS A B = false) := Lib.hid (by simp [lowS, hAz, hAn] <;> omega)
      have hAz' : (A == 0) = false := by simpa using hAz
      have HZ := Lib.hid hAz
      clear hAz
      go_wp2
      refine bodyPost_ret (v := aggS (A, B, C)) (by simp [results, Try.results40, go_sem]) rfl ⟨by rw [hfin.out, HF.out]; rfl, ?_⟩
      exact form_below _ _ _ _ _ _
end Go.Proofs.Ythfhkmgegkhljaa
