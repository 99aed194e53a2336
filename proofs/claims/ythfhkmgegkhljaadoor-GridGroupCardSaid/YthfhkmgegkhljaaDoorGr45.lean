/- picked, nearTri, nearLine; beside at a neighbour. Printed by gen_gr45.py. -/
import Derived.Test.YthfhkmgegkhljaaDoorGr44
import Derived.Test.YthfhkmgegkhljaaDoorGr25
namespace Go.Proofs.YthfhkmgegkhljaaDoor
set_option linter.unusedSimpArgs false
set_option linter.unusedVariables false
open Go.RowKit

def pickB (n m : Int) : Int := (if n < 0 then -(n + 1) else n).tmod m
theorem pick_rng {n m : Int} (hm : 0 < m) : 0 ≤ pickB n m ∧ pickB n m < m := by
  unfold pickB
  split
  · exact ⟨Int.tmod_nonneg _ (by omega), Int.tmod_lt_of_pos _ hm⟩
  · exact ⟨Int.tmod_nonneg _ (by omega), Int.tmod_lt_of_pos _ hm⟩
set_option maxHeartbeats 1600000 in
theorem picked_any (n m : Int) (w : World) (n1 : -9223372036854775808 ≤ n) (n2 : n ≤ 9223372036854775807) (m1 : 0 < m) (m2 : m ≤ 1000000) : Calls Tryd.prog 61 #[.int .i64 n, .int .i64 m] w fun e w' => e = .returned (.int .i64 (pickB n m)) ∧ w = w' := by
  have hr := pick_rng (n := n) m1
  obtain ⟨R, hR⟩ : ∃ R, R = pickB n m := ⟨_, rfl⟩
  rw [← hR] at hr ⊢
  have hm0 : m ≠ 0 := by omega
  have hm1 : (m == 0) = false := by simp [hm0]
  by_cases h : n < 0
  · have h1 : IntKind.i64.wrap (n + 1) = n + 1 := IntWalk.i64_in _ (by omega)
    have h2 : IntKind.i64.wrap (-(n + 1)) = -(n + 1) := IntWalk.i64_in _ (by omega)
    have h3 : (-(n + 1)).tmod m = R := by rw [hR, pickB, if_pos h]
    have h4 : IntKind.i64.wrap R = R := IntWalk.i64_in _ (by omega)
    clear hR
    go_enter Tryd.func61, Tryd.ntmps61
    go_wp2
    go_ret
    exact ⟨rfl, rfl⟩
  · have h3 : n.tmod m = R := by rw [hR, pickB, if_neg h]
    have h4 : IntKind.i64.wrap R = R := IntWalk.i64_in _ (by omega)
    clear hR
    go_enter Tryd.func61, Tryd.ntmps61
    go_wp2
    go_ret
    exact ⟨rfl, rfl⟩

set_option maxRecDepth 100000 in
set_option maxHeartbeats 1600000 in
theorem nearTri_any (x y k : Int) (w : World) (x1 : -9223372036854775808 ≤ x) (x2 : x ≤ 9223372036854775807) (y1 : -9223372036854775808 ≤ y) (y2 : y ≤ 9223372036854775807) (k1 : -9223372036854775808 ≤ k) (k2 : k ≤ 9223372036854775807) :
    Calls Tryd.prog 28 #[.int .i64 x, .int .i64 y, .int .i64 k] w fun e w' => e = .returned (.agg #[.int .i64 (pickB x 2001 - 1000), .int .i64 (pickB y 2001 - 1000), .int .i64 (pickB k 4)]) ∧ Below w.heap.size w w' := by
  obtain ⟨R0, hR0⟩ : ∃ R, R = pickB x 2001 := ⟨_, rfl⟩
  have r0 := pick_rng (n := x) (m := 2001) (by decide)
  have c0 := fun w => picked_any x 2001 w x1 x2 (by decide) (by decide)
  rw [← hR0] at r0
  simp only [← hR0] at c0
  have C0 := Lib.hid c0
  have HR0 := Lib.hid hR0
  clear c0 hR0
  obtain ⟨R1, hR1⟩ : ∃ R, R = pickB y 2001 := ⟨_, rfl⟩
  have r1 := pick_rng (n := y) (m := 2001) (by decide)
  have c1 := fun w => picked_any y 2001 w y1 y2 (by decide) (by decide)
  rw [← hR1] at r1
  simp only [← hR1] at c1
  have C1 := Lib.hid c1
  have HR1 := Lib.hid hR1
  clear c1 hR1
  obtain ⟨R2, hR2⟩ : ∃ R, R = pickB k 4 := ⟨_, rfl⟩
  have r2 := pick_rng (n := k) (m := 4) (by decide)
  have c2 := fun w => picked_any k 4 w k1 k2 (by decide) (by decide)
  rw [← hR2] at r2
  simp only [← hR2] at c2
  have C2 := Lib.hid c2
  have HR2 := Lib.hid hR2
  clear c2 hR2
  go_enter Tryd.func28, Tryd.ntmps28
  go_wp2_with fail
  refine (C0.out _).mono ?_
  rintro e w1 ⟨rfl, rfl⟩
  go_wp2_with fail
  refine (C1.out _).mono ?_
  rintro e w2 ⟨rfl, rfl⟩
  go_wp2_with fail
  refine (C2.out _).mono ?_
  rintro e w3 ⟨rfl, rfl⟩
  go_wp2
  exact bodyPost_ret (v := .agg #[.int .i64 (R0 - 1000), .int .i64 (R1 - 1000), .int .i64 R2]) (by simp [results, Tryd.results28, go_sem]) rfl ⟨by rw [HR0.out, HR1.out, HR2.out], ba (Below.refl _ _) _⟩
set_option maxRecDepth 100000 in
set_option maxHeartbeats 1600000 in
theorem nearLine_any (v c : Int) (w : World) (v1 : -9223372036854775808 ≤ v) (v2 : v ≤ 9223372036854775807) (c1 : -9223372036854775808 ≤ c) (c2 : c ≤ 9223372036854775807) :
    Calls Tryd.prog 29 #[.int .i64 v, .int .i64 c] w fun e w' => e = .returned (.agg #[.int .i64 (pickB v 4), .int .i64 (2 * (pickB c 2001 - 1000))]) ∧ Below w.heap.size w w' := by
  obtain ⟨R0, hR0⟩ : ∃ R, R = pickB v 4 := ⟨_, rfl⟩
  have r0 := pick_rng (n := v) (m := 4) (by decide)
  have c0 := fun w => picked_any v 4 w v1 v2 (by decide) (by decide)
  rw [← hR0] at r0
  simp only [← hR0] at c0
  have C0 := Lib.hid c0
  have HR0 := Lib.hid hR0
  clear c0 hR0
  obtain ⟨R1, hR1⟩ : ∃ R, R = pickB c 2001 := ⟨_, rfl⟩
  have r1 := pick_rng (n := c) (m := 2001) (by decide)
  have c1 := fun w => picked_any c 2001 w c1 c2 (by decide) (by decide)
  rw [← hR1] at r1
  simp only [← hR1] at c1
  have C1 := Lib.hid c1
  have HR1 := Lib.hid hR1
  clear c1 hR1
  go_enter Tryd.func29, Tryd.ntmps29
  go_wp2_with fail
  refine (C0.out _).mono ?_
  rintro e w1 ⟨rfl, rfl⟩
  go_wp2_with fail
  refine (C1.out _).mono ?_
  rintro e w2 ⟨rfl, rfl⟩
  go_wp2
  exact bodyPost_ret (v := .agg #[.int .i64 R0, .int .i64 (2 * (R1 - 1000))]) (by simp [results, Tryd.results29, go_sem]) rfl ⟨by rw [HR0.out, HR1.out], ba (Below.refl _ _) _⟩
end Go.Proofs.YthfhkmgegkhljaaDoor
