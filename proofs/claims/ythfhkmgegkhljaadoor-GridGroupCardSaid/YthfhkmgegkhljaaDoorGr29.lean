/- What maps may be, by the document: at every map. Printed by gen_gr29.py. -/
import Derived.Test.YthfhkmgegkhljaaDoorGr28
namespace Go.Proofs.YthfhkmgegkhljaaDoor
set_option linter.unusedSimpArgs false
set_option linter.unusedVariables false
open Go.RowKit

set_option maxRecDepth 100000 in
set_option maxHeartbeats 6400000 in
theorem refMap_not (a b c d e f : Int) (w : World) (hn : turnedB a b c d = false) : Calls Tryd.prog 21 #[aggM (a, b, c, d, e, f)] w fun r w' => r = .returned (.bool false) ∧ Below w.heap.size w w' := by
  have HN := Lib.hid hn
  clear hn
  have hb := below_new w (.cells #[.int .i64 a, .int .i64 b, .int .i64 c, .int .i64 d, .int .i64 e, .int .i64 f] 51)
  by_cases ha0 : a = 1
  · subst ha0
    by_cases hb0 : b = 0
    · subst hb0
      by_cases hc0 : c = 0
      · subst hc0
        by_cases hd0 : d = 1
        · subst hd0
          exact absurd HN.out (by simp [turnedB, oneB])
        by_cases hd1 : d = -1
        · subst hd1
          exact absurd HN.out (by simp [turnedB, oneB])
        clear HN
        go_enter Tryd.func21, Tryd.ntmps21
        go_wp2
        go_ret
        exact ⟨rfl, hb⟩
      clear HN
      go_enter Tryd.func21, Tryd.ntmps21
      go_wp2
      go_ret
      exact ⟨rfl, hb⟩
    clear HN
    go_enter Tryd.func21, Tryd.ntmps21
    go_wp2
    go_ret
    exact ⟨rfl, hb⟩
  by_cases ha1 : a = -1
  · subst ha1
    by_cases hb0 : b = 0
    · subst hb0
      by_cases hc0 : c = 0
      · subst hc0
        by_cases hd0 : d = 1
        · subst hd0
          exact absurd HN.out (by simp [turnedB, oneB])
        by_cases hd1 : d = -1
        · subst hd1
          exact absurd HN.out (by simp [turnedB, oneB])
        clear HN
        go_enter Tryd.func21, Tryd.ntmps21
        go_wp2
        go_ret
        exact ⟨rfl, hb⟩
      clear HN
      go_enter Tryd.func21, Tryd.ntmps21
      go_wp2
      go_ret
      exact ⟨rfl, hb⟩
    clear HN
    go_enter Tryd.func21, Tryd.ntmps21
    go_wp2
    go_ret
    exact ⟨rfl, hb⟩
  by_cases ha2 : a = 0
  · subst ha2
    by_cases hb0 : b = 1
    · subst hb0
      by_cases hc0 : c = 1
      · subst hc0
        by_cases hd0 : d = 0
        · subst hd0
          exact absurd HN.out (by simp [turnedB, oneB])
        clear HN
        go_enter Tryd.func21, Tryd.ntmps21
        go_wp2
        go_ret
        exact ⟨rfl, hb⟩
      by_cases hc1 : c = -1
      · subst hc1
        by_cases hd0 : d = 0
        · subst hd0
          exact absurd HN.out (by simp [turnedB, oneB])
        clear HN
        go_enter Tryd.func21, Tryd.ntmps21
        go_wp2
        go_ret
        exact ⟨rfl, hb⟩
      clear HN
      go_enter Tryd.func21, Tryd.ntmps21
      go_wp2
      go_ret
      exact ⟨rfl, hb⟩
    by_cases hb1 : b = -1
    · subst hb1
      by_cases hc0 : c = 1
      · subst hc0
        by_cases hd0 : d = 0
        · subst hd0
          exact absurd HN.out (by simp [turnedB, oneB])
        clear HN
        go_enter Tryd.func21, Tryd.ntmps21
        go_wp2
        go_ret
        exact ⟨rfl, hb⟩
      by_cases hc1 : c = -1
      · subst hc1
        by_cases hd0 : d = 0
        · subst hd0
          exact absurd HN.out (by simp [turnedB, oneB])
        clear HN
        go_enter Tryd.func21, Tryd.ntmps21
        go_wp2
        go_ret
        exact ⟨rfl, hb⟩
      clear HN
      go_enter Tryd.func21, Tryd.ntmps21
      go_wp2
      go_ret
      exact ⟨rfl, hb⟩
    clear HN
    go_enter Tryd.func21, Tryd.ntmps21
    go_wp2
    go_ret
    exact ⟨rfl, hb⟩
  clear HN
  go_enter Tryd.func21, Tryd.ntmps21
  go_wp2
  go_ret
  exact ⟨rfl, hb⟩
theorem one_ways {a b : Int} (h : oneB a b = true) : (a = 1 ∨ a = -1) ∧ b = 0 := by simpa [oneB] using h
theorem turned_ways {a b c d : Int} (h : turnedB a b c d = true) : (a = 1 ∧ b = 0 ∧ c = 0 ∧ d = 1) ∨ (a = -1 ∧ b = 0 ∧ c = 0 ∧ d = 1) ∨ (a = 1 ∧ b = 0 ∧ c = 0 ∧ d = -1) ∨ (a = -1 ∧ b = 0 ∧ c = 0 ∧ d = -1) ∨
    (a = 0 ∧ b = 1 ∧ c = 1 ∧ d = 0) ∨ (a = 0 ∧ b = -1 ∧ c = 1 ∧ d = 0) ∨ (a = 0 ∧ b = 1 ∧ c = -1 ∧ d = 0) ∨ (a = 0 ∧ b = -1 ∧ c = -1 ∧ d = 0) := by
  simp only [turnedB, Bool.or_eq_true, Bool.and_eq_true] at h
  rcases h with ⟨h1, h2⟩ | ⟨h1, h2⟩
  · obtain ⟨h3, rfl⟩ := one_ways h1
    obtain ⟨h4, rfl⟩ := one_ways h2
    rcases h3 with rfl | rfl <;> rcases h4 with rfl | rfl <;> simp
  · obtain ⟨h3, rfl⟩ := one_ways h1
    obtain ⟨h4, rfl⟩ := one_ways h2
    rcases h3 with rfl | rfl <;> rcases h4 with rfl | rfl <;> simp
/-- The document's MapMay at every map. -/
theorem refMap_any (m : V6) (w : World) : Calls Tryd.prog 21 #[aggM m] w fun r w' => r = .returned (.bool (mapMayB m)) ∧ Below w.heap.size w w' := by
  obtain ⟨a, b, c, d, e, f⟩ := m
  cases hn : turnedB a b c d
  · rw [show mapMayB (a, b, c, d, e, f) = false by simp only [mapMayB, hn, Bool.false_and]]
    exact refMap_not a b c d e f w hn
  · rcases turned_ways hn with ⟨rfl, rfl, rfl, rfl⟩ | ⟨rfl, rfl, rfl, rfl⟩ | ⟨rfl, rfl, rfl, rfl⟩ | ⟨rfl, rfl, rfl, rfl⟩ | ⟨rfl, rfl, rfl, rfl⟩ | ⟨rfl, rfl, rfl, rfl⟩ | ⟨rfl, rfl, rfl, rfl⟩ | ⟨rfl, rfl, rfl, rfl⟩
    · exact refMap_q e f w
    · exact refMap_m e f w
    · exact refMap_n e f w
    · exact refMap_r e f w
    · exact refMap_p e f w
    · exact refMap_t e f w
    · exact refMap_s e f w
    · exact refMap_o e f w
end Go.Proofs.YthfhkmgegkhljaaDoor
