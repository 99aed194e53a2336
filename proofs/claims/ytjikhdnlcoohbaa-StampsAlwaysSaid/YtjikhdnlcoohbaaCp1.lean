/- slices.Compare of two rows of numbers. -/
import Derived.Test.YtjikhdnlcoohbaaSt11
namespace Go.Proofs.Ytjikhdnlcoohbaa
set_option linter.unusedSimpArgs false
set_option linter.unusedVariables false
open Go.RowKit St

def cmpI (x y : Int) : Int := if x < y then -1 else if y < x then 1 else 0
def cmpL : List Int → List Int → Int
  | [], [] => 0
  | [], _ :: _ => -1
  | _ :: _, [] => 1
  | x :: xs, y :: ys => if x < y then -1 else if y < x then 1 else cmpL xs ys
theorem cmp_any (x y : Int) (w : World) :
    Calls Try.prog 43 #[.int .i64 x, .int .i64 y] w fun e w' => e = .returned (.int .i64 (cmpI x y)) ∧ w = w' := by
  by_cases h1 : x < y
  · have e : cmpI x y = -1 := by simp [cmpI, h1]
    rw [e]
    clear e
    go_enter Try.func43, Try.ntmps43
    go_wp2
    go_ret
    exact ⟨rfl, rfl⟩
  · by_cases h2 : y < x
    · have e : cmpI x y = 1 := by simp [cmpI, h1, h2]
      rw [e]
      clear e
      go_enter Try.func43, Try.ntmps43
      go_wp2
      go_ret
      exact ⟨rfl, rfl⟩
    · have e : cmpI x y = 0 := by simp [cmpI, h1, h2]
      rw [e]
      clear e
      go_enter Try.func43, Try.ntmps43
      go_wp2
      go_ret
      exact ⟨rfl, rfl⟩
theorem cmpL_at {xs ys : List Int} {k : Nat} {x y : Int} (hx : xs[k]? = some x) (hy : ys[k]? = some y) : cmpL (xs.drop k) (ys.drop k) = if cmpI x y ≠ 0 then cmpI x y else cmpL (xs.drop (k + 1)) (ys.drop (k + 1)) := by
  obtain ⟨h1, rfl⟩ := List.getElem?_eq_some_iff.1 hx
  obtain ⟨h2, rfl⟩ := List.getElem?_eq_some_iff.1 hy
  rw [List.drop_eq_getElem_cons h1, List.drop_eq_getElem_cons h2]
  simp only [cmpL, cmpI]
  by_cases a : xs[k] < ys[k]
  · simp [a]
  · by_cases b : ys[k] < xs[k]
    · simp [a, b]
    · simp [a, b]
theorem cmpL_long {xs ys : List Int} {k : Nat} (h1 : k < xs.length) (h2 : ys.length ≤ k) : cmpL (xs.drop k) (ys.drop k) = 1 := by
  rw [List.drop_eq_getElem_cons h1, List.drop_of_length_le h2]
  rfl
theorem cmpL_end {xs ys : List Int} {k : Nat} (h1 : xs.length = k) (h2 : ys.length = k) : cmpL (xs.drop k) (ys.drop k) = 0 := by
  rw [List.drop_of_length_le (by omega), List.drop_of_length_le (by omega)]
  rfl
set_option maxRecDepth 100000 in
set_option maxHeartbeats 1600000 in
/-- rows of one length -/
theorem compare_any (A B : Option Addr) (n c d : Nat) (xs ys : List Int) (w : World) (hx : Rd w 1 A n (vis xs)) (hy : Rd w 1 B n (vis ys)) (hn : n ≤ 1000) :
    Calls Try.prog 31 #[.slice A n c, .slice B n d] w fun e w' => e = .returned (.int .i64 (cmpL xs ys)) ∧ w = w' := by
  have hxl := hx.ints_len
  have hyl := hy.ints_len
  obtain ⟨R, hR⟩ : ∃ R, R = cmpL xs ys := ⟨_, rfl⟩
  rw [← hR]
  have hR0 : R = cmpL (xs.drop 0) (ys.drop 0) := hR
  have HR := Lib.hid hR0
  have HX := Lib.hid hx
  have HY := Lib.hid hy
  have HXL := Lib.hid hxl
  have HYL := Lib.hid hyl
  clear hR hR0 hx hy hxl hyl
  go_enter Try.func31, Try.ntmps31
  go_wp2_with fail
  go_loopw [11] (fun i wr => ∃ k : Nat, k ≤ n ∧ i = .int .i64 k ∧ Hid (R = cmpL (xs.drop k) (ys.drop k)) ∧ wr = w) (fun i _ => n - (intOf i).toNat)
  case atStart => exact ⟨0, by omega, rfl, HR, rfl⟩
  case round =>
    obtain ⟨k, hk, rfl, HK, rfl⟩ := hrel
    by_cases hkn : k < n
    · obtain ⟨b1, o1, x, hA, _, hz1, c1⟩ := HX.out.int hkn
      obtain ⟨b2, o2, y, hB, _, hz2, c2⟩ := HY.out.int hkn
      subst hA
      subst hB
      have hat := HK.out.trans (cmpL_at hz1 hz2)
      have HAT := Lib.hid hat
      clear hz1 hz2 hat
      rcases hc : cmpI x y with (_ | m) | m
      · -- equal
        have HN := HAT.out
        rw [hc] at HN
        have HN2 := Lib.hid HN
        clear HN
        go_wp2_with (go_at_call 43; refine (cmp_any _ _ _).mono ?_; rintro e w1 ⟨rfl, rfl⟩; rw [hc])
        go_roundw
        case rel => exact ⟨k + 1, by omega, by go_num, Lib.hid (by simpa using HN2.out), trivial⟩
        case measure => simp [intOf]; omega
      all_goals
        have HN := HAT.out
        rw [hc, if_pos (by first | (intro h; cases h) | decide)] at HN
        subst HN
        go_wp2_with (go_at_call 43; refine (cmp_any _ _ _).mono ?_; rintro e w1 ⟨rfl, rfl⟩; rw [hc])
        go_ret
        exact ⟨rfl, rfl⟩
    · obtain rfl : k = n := by omega
      have HE := HK.out.trans (cmpL_end HXL.out HYL.out)
      subst HE
      go_wp2_with fail
      go_ret
      exact ⟨rfl, rfl⟩
end Go.Proofs.Ytjikhdnlcoohbaa
