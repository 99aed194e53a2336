/- The mirror at a line: the program's and the document's. Printed by gen_gr4.py. -/
import Derived.Test.YthfhkmgegkhljaaDoorGr0
namespace Go.Proofs.YthfhkmgegkhljaaDoor
open Go.RowKit

abbrev V6 := Int × Int × Int × Int × Int × Int
abbrev aggM (m : V6) : Value := .agg #[.int .i64 m.1, .int .i64 m.2.1, .int .i64 m.2.2.1, .int .i64 m.2.2.2.1, .int .i64 m.2.2.2.2.1, .int .i64 m.2.2.2.2.2]
/-- The mirror at a line. -/
def mirB (v c : Int) : V6 := if v = 0 then (-1, 0, 0, 1, 2 * c, 0) else if v = 1 then (1, 0, 0, -1, 0, 2 * c) else if v = 2 then (0, -1, -1, 0, c, c) else (0, 1, 1, 0, c, -c)
def mw (w : World) (v c : Int) : World := (w.alloc (.cells #[.int .i64 v, .int .i64 c] 47)).alloc (.cells #[.int .i64 0, .int .i64 0, .int .i64 0, .int .i64 0, .int .i64 0, .int .i64 0] 51)

set_option maxRecDepth 100000 in
set_option maxHeartbeats 1600000 in
theorem mirror_any (v c : Int) (w : World) (c1 : -1000000 ≤ c) (c2 : c ≤ 1000000) :
    Calls Tryd.prog 50 #[.agg #[.int .i64 v, .int .i64 c]] w fun e w' => e = .returned (aggM (mirB v c)) ∧ Below w.heap.size w w' := by
  by_cases h0 : v = 0
  · subst h0
    go_enter Tryd.func50, Tryd.ntmps50
    go_wp2
    refine bodyPost_ret (v := aggM (-1, 0, 0, 1, 2 * c, 0)) (by simp [results, Tryd.results50, go_sem]) rfl ⟨by simp [mirB], ?_⟩
    exact ((Below.refl _ _).alloc (Nat.le_refl _) _).alloc (by simp) _
  by_cases h1 : v = 1
  · subst h1
    go_enter Tryd.func50, Tryd.ntmps50
    go_wp2
    refine bodyPost_ret (v := aggM (1, 0, 0, -1, 0, 2 * c)) (by simp [results, Tryd.results50, go_sem]) rfl ⟨by simp [mirB], ?_⟩
    exact ((Below.refl _ _).alloc (Nat.le_refl _) _).alloc (by simp) _
  by_cases h2 : v = 2
  · subst h2
    go_enter Tryd.func50, Tryd.ntmps50
    go_wp2
    refine bodyPost_ret (v := aggM (0, -1, -1, 0, c, c)) (by simp [results, Tryd.results50, go_sem]) rfl ⟨by simp [mirB], ?_⟩
    exact ((Below.refl _ _).alloc (Nat.le_refl _) _).alloc (by simp) _
  have b0 : (v == 0) = false := by simpa using h0
  have b1 : (v == 1) = false := by simpa using h1
  have b2 : (v == 2) = false := by simpa using h2
  have HV : Hid (mirB v c = (0, 1, 1, 0, c, -c)) := Lib.hid (by simp [mirB, h0, h1, h2])
  clear h0 h1 h2
  go_enter Tryd.func50, Tryd.ntmps50
  go_wp2
  refine bodyPost_ret (v := aggM (0, 1, 1, 0, c, -c)) (by simp [results, Tryd.results50, go_sem]) rfl ⟨by rw [HV.out], ?_⟩
  exact ((Below.refl _ _).alloc (Nat.le_refl _) _).alloc (by simp) _

set_option maxRecDepth 100000 in
set_option maxHeartbeats 1600000 in
theorem mirrorOf_any (v c : Int) (w : World) (c1 : -1000000 ≤ c) (c2 : c ≤ 1000000) :
    Calls Tryd.prog 20 #[.agg #[.int .i64 v, .int .i64 c]] w fun e w' => e = .returned (aggM (mirB v c)) ∧ Below w.heap.size w w' := by
  by_cases h0 : v = 0
  · subst h0
    go_enter Tryd.func20, Tryd.ntmps20
    go_wp2
    refine bodyPost_ret (v := aggM (-1, 0, 0, 1, 2 * c, 0)) (by simp [results, Tryd.results20, go_sem]) rfl ⟨by simp [mirB], ?_⟩
    exact ((Below.refl _ _).alloc (Nat.le_refl _) _).alloc (by simp) _
  by_cases h1 : v = 1
  · subst h1
    go_enter Tryd.func20, Tryd.ntmps20
    go_wp2
    refine bodyPost_ret (v := aggM (1, 0, 0, -1, 0, 2 * c)) (by simp [results, Tryd.results20, go_sem]) rfl ⟨by simp [mirB], ?_⟩
    exact ((Below.refl _ _).alloc (Nat.le_refl _) _).alloc (by simp) _
  by_cases h2 : v = 2
  · subst h2
    go_enter Tryd.func20, Tryd.ntmps20
    go_wp2
    refine bodyPost_ret (v := aggM (0, -1, -1, 0, c, c)) (by simp [results, Tryd.results20, go_sem]) rfl ⟨by simp [mirB], ?_⟩
    exact ((Below.refl _ _).alloc (Nat.le_refl _) _).alloc (by simp) _
  have b0 : (v == 0) = false := by simpa using h0
  have b1 : (v == 1) = false := by simpa using h1
  have b2 : (v == 2) = false := by simpa using h2
  have HV : Hid (mirB v c = (0, 1, 1, 0, c, -c)) := Lib.hid (by simp [mirB, h0, h1, h2])
  clear h0 h1 h2
  go_enter Tryd.func20, Tryd.ntmps20
  go_wp2
  refine bodyPost_ret (v := aggM (0, 1, 1, 0, c, -c)) (by simp [results, Tryd.results20, go_sem]) rfl ⟨by rw [HV.out], ?_⟩
  exact ((Below.refl _ _).alloc (Nat.le_refl _) _).alloc (by simp) _

end Go.Proofs.YthfhkmgegkhljaaDoor
