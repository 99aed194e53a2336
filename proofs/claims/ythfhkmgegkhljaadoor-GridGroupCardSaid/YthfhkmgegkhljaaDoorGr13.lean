/- What maps may be, by the document: at a map that is turned. Printed by gen_gr13.py. -/
import Derived.Test.YthfhkmgegkhljaaDoorGr5
namespace Go.Proofs.YthfhkmgegkhljaaDoor
open Go.RowKit

set_option maxRecDepth 100000 in
set_option maxHeartbeats 6400000 in
theorem refMap_m (e f : Int) (w : World) : Calls Tryd.prog 21 #[aggM ((-1), 0, 0, 1, e, f)] w fun r w' => r = .returned (.bool (mapMayB ((-1), 0, 0, 1, e, f))) ∧ Below w.heap.size w w' := by
  have hb := below_new w (.cells #[.int .i64 (-1), .int .i64 0, .int .i64 0, .int .i64 1, .int .i64 e, .int .i64 f] 51)
  have hbe := tmod2 e
  have hbf := tmod2 f
  cases he : (decide (-1000000 ≤ e) && decide (e ≤ 1000000))
  · have E0 := Lib.hid he
    have he1 : inN e = false := he
    have HR : Hid (mapMayB ((-1), 0, 0, 1, e, f) = false) := Lib.hid (by simp only [mapMayB, tailB, he1, Bool.false_and, Bool.and_false])
    clear he he1
    go_enter Tryd.func21, Tryd.ntmps21
    go_wp2_with fail
    refine (inB_any e (-1000000) 1000000 _).mono ?_
    rintro r w0 ⟨rfl, rfl⟩
    rw [E0.out]
    go_wp2
    go_ret
    exact ⟨by rw [HR.out]; rfl, hb⟩
  have E0 := Lib.hid he
  have he1 : inN e = true := he
  cases hf : (decide (-1000000 ≤ f) && decide (f ≤ 1000000))
  · have F0 := Lib.hid hf
    have hf1 : inN f = false := hf
    have HR : Hid (mapMayB ((-1), 0, 0, 1, e, f) = false) := Lib.hid (by simp only [mapMayB, tailB, hf1, Bool.false_and, Bool.and_false])
    clear he he1 hf hf1
    go_enter Tryd.func21, Tryd.ntmps21
    go_wp2_with fail
    refine (inB_any e (-1000000) 1000000 _).mono ?_
    rintro r w0 ⟨rfl, rfl⟩
    rw [E0.out]
    go_wp2_with fail
    refine (inB_any f (-1000000) 1000000 _).mono ?_
    rintro r w1 ⟨rfl, rfl⟩
    rw [F0.out]
    go_wp2
    go_ret
    exact ⟨by rw [HR.out]; rfl, hb⟩
  have F0 := Lib.hid hf
  have hf1 : inN f = true := hf
  cases h2 : decide (e % 2 = 0)
  · have HR : Hid (mapMayB ((-1), 0, 0, 1, e, f) = false) := Lib.hid (by simp only [mapMayB, tailB, h2, Bool.false_and, Bool.and_false])
    clear he he1 hf hf1
    go_enter Tryd.func21, Tryd.ntmps21
    go_wp2_with fail
    refine (inB_any e (-1000000) 1000000 _).mono ?_
    rintro r w0 ⟨rfl, rfl⟩
    rw [E0.out]
    go_wp2_with fail
    refine (inB_any f (-1000000) 1000000 _).mono ?_
    rintro r w1 ⟨rfl, rfl⟩
    rw [F0.out]
    go_wp2
    go_ret
    exact ⟨by rw [HR.out]; rfl, hb⟩
  cases h3 : decide (f % 2 = 0)
  · have HR : Hid (mapMayB ((-1), 0, 0, 1, e, f) = false) := Lib.hid (by simp only [mapMayB, tailB, h3, Bool.false_and, Bool.and_false])
    clear he he1 hf hf1
    go_enter Tryd.func21, Tryd.ntmps21
    go_wp2_with fail
    refine (inB_any e (-1000000) 1000000 _).mono ?_
    rintro r w0 ⟨rfl, rfl⟩
    rw [E0.out]
    go_wp2_with fail
    refine (inB_any f (-1000000) 1000000 _).mono ?_
    rintro r w1 ⟨rfl, rfl⟩
    rw [F0.out]
    go_wp2
    go_ret
    exact ⟨by rw [HR.out]; rfl, hb⟩
  have HR : Hid (mapMayB ((-1), 0, 0, 1, e, f) = true) := Lib.hid (by simp only [mapMayB, tailB, he1, hf1, h2, h3]; rfl)
  clear he he1 hf hf1
  go_enter Tryd.func21, Tryd.ntmps21
  go_wp2_with fail
  refine (inB_any e (-1000000) 1000000 _).mono ?_
  rintro r w0 ⟨rfl, rfl⟩
  rw [E0.out]
  go_wp2_with fail
  refine (inB_any f (-1000000) 1000000 _).mono ?_
  rintro r w1 ⟨rfl, rfl⟩
  rw [F0.out]
  go_wp2
  go_ret
  exact ⟨by rw [HR.out]; rfl, hb⟩

set_option maxRecDepth 100000 in
set_option maxHeartbeats 6400000 in
theorem refMap_n (e f : Int) (w : World) : Calls Tryd.prog 21 #[aggM (1, 0, 0, (-1), e, f)] w fun r w' => r = .returned (.bool (mapMayB (1, 0, 0, (-1), e, f))) ∧ Below w.heap.size w w' := by
  have hb := below_new w (.cells #[.int .i64 1, .int .i64 0, .int .i64 0, .int .i64 (-1), .int .i64 e, .int .i64 f] 51)
  have hbe := tmod2 e
  have hbf := tmod2 f
  cases he : (decide (-1000000 ≤ e) && decide (e ≤ 1000000))
  · have E0 := Lib.hid he
    have he1 : inN e = false := he
    have HR : Hid (mapMayB (1, 0, 0, (-1), e, f) = false) := Lib.hid (by simp only [mapMayB, tailB, he1, Bool.false_and, Bool.and_false])
    clear he he1
    go_enter Tryd.func21, Tryd.ntmps21
    go_wp2_with fail
    refine (inB_any e (-1000000) 1000000 _).mono ?_
    rintro r w0 ⟨rfl, rfl⟩
    rw [E0.out]
    go_wp2
    go_ret
    exact ⟨by rw [HR.out]; rfl, hb⟩
  have E0 := Lib.hid he
  have he1 : inN e = true := he
  cases hf : (decide (-1000000 ≤ f) && decide (f ≤ 1000000))
  · have F0 := Lib.hid hf
    have hf1 : inN f = false := hf
    have HR : Hid (mapMayB (1, 0, 0, (-1), e, f) = false) := Lib.hid (by simp only [mapMayB, tailB, hf1, Bool.false_and, Bool.and_false])
    clear he he1 hf hf1
    go_enter Tryd.func21, Tryd.ntmps21
    go_wp2_with fail
    refine (inB_any e (-1000000) 1000000 _).mono ?_
    rintro r w0 ⟨rfl, rfl⟩
    rw [E0.out]
    go_wp2_with fail
    refine (inB_any f (-1000000) 1000000 _).mono ?_
    rintro r w1 ⟨rfl, rfl⟩
    rw [F0.out]
    go_wp2
    go_ret
    exact ⟨by rw [HR.out]; rfl, hb⟩
  have F0 := Lib.hid hf
  have hf1 : inN f = true := hf
  cases h2 : decide (e % 2 = 0)
  · have HR : Hid (mapMayB (1, 0, 0, (-1), e, f) = false) := Lib.hid (by simp only [mapMayB, tailB, h2, Bool.false_and, Bool.and_false])
    clear he he1 hf hf1
    go_enter Tryd.func21, Tryd.ntmps21
    go_wp2_with fail
    refine (inB_any e (-1000000) 1000000 _).mono ?_
    rintro r w0 ⟨rfl, rfl⟩
    rw [E0.out]
    go_wp2_with fail
    refine (inB_any f (-1000000) 1000000 _).mono ?_
    rintro r w1 ⟨rfl, rfl⟩
    rw [F0.out]
    go_wp2
    go_ret
    exact ⟨by rw [HR.out]; rfl, hb⟩
  cases h3 : decide (f % 2 = 0)
  · have HR : Hid (mapMayB (1, 0, 0, (-1), e, f) = false) := Lib.hid (by simp only [mapMayB, tailB, h3, Bool.false_and, Bool.and_false])
    clear he he1 hf hf1
    go_enter Tryd.func21, Tryd.ntmps21
    go_wp2_with fail
    refine (inB_any e (-1000000) 1000000 _).mono ?_
    rintro r w0 ⟨rfl, rfl⟩
    rw [E0.out]
    go_wp2_with fail
    refine (inB_any f (-1000000) 1000000 _).mono ?_
    rintro r w1 ⟨rfl, rfl⟩
    rw [F0.out]
    go_wp2
    go_ret
    exact ⟨by rw [HR.out]; rfl, hb⟩
  have HR : Hid (mapMayB (1, 0, 0, (-1), e, f) = true) := Lib.hid (by simp only [mapMayB, tailB, he1, hf1, h2, h3]; rfl)
  clear he he1 hf hf1
  go_enter Tryd.func21, Tryd.ntmps21
  go_wp2_with fail
  refine (inB_any e (-1000000) 1000000 _).mono ?_
  rintro r w0 ⟨rfl, rfl⟩
  rw [E0.out]
  go_wp2_with fail
  refine (inB_any f (-1000000) 1000000 _).mono ?_
  rintro r w1 ⟨rfl, rfl⟩
  rw [F0.out]
  go_wp2
  go_ret
  exact ⟨by rw [HR.out]; rfl, hb⟩

set_option maxRecDepth 100000 in
set_option maxHeartbeats 6400000 in
theorem refMap_o (e f : Int) (w : World) : Calls Tryd.prog 21 #[aggM (0, (-1), (-1), 0, e, f)] w fun r w' => r = .returned (.bool (mapMayB (0, (-1), (-1), 0, e, f))) ∧ Below w.heap.size w w' := by
  have hb := below_new w (.cells #[.int .i64 0, .int .i64 (-1), .int .i64 (-1), .int .i64 0, .int .i64 e, .int .i64 f] 51)
  have hbe := tmod2 e
  have hbf := tmod2 f
  cases he : (decide (-1000000 ≤ e) && decide (e ≤ 1000000))
  · have E0 := Lib.hid he
    have he1 : inN e = false := he
    have HR : Hid (mapMayB (0, (-1), (-1), 0, e, f) = false) := Lib.hid (by simp only [mapMayB, tailB, he1, Bool.false_and, Bool.and_false])
    clear he he1
    go_enter Tryd.func21, Tryd.ntmps21
    go_wp2_with fail
    refine (inB_any e (-1000000) 1000000 _).mono ?_
    rintro r w0 ⟨rfl, rfl⟩
    rw [E0.out]
    go_wp2
    go_ret
    exact ⟨by rw [HR.out]; rfl, hb⟩
  have E0 := Lib.hid he
  have he1 : inN e = true := he
  cases hf : (decide (-1000000 ≤ f) && decide (f ≤ 1000000))
  · have F0 := Lib.hid hf
    have hf1 : inN f = false := hf
    have HR : Hid (mapMayB (0, (-1), (-1), 0, e, f) = false) := Lib.hid (by simp only [mapMayB, tailB, hf1, Bool.false_and, Bool.and_false])
    clear he he1 hf hf1
    go_enter Tryd.func21, Tryd.ntmps21
    go_wp2_with fail
    refine (inB_any e (-1000000) 1000000 _).mono ?_
    rintro r w0 ⟨rfl, rfl⟩
    rw [E0.out]
    go_wp2_with fail
    refine (inB_any f (-1000000) 1000000 _).mono ?_
    rintro r w1 ⟨rfl, rfl⟩
    rw [F0.out]
    go_wp2
    go_ret
    exact ⟨by rw [HR.out]; rfl, hb⟩
  have F0 := Lib.hid hf
  have hf1 : inN f = true := hf
  cases h2 : decide (e % 2 = 0)
  · have HR : Hid (mapMayB (0, (-1), (-1), 0, e, f) = false) := Lib.hid (by simp only [mapMayB, tailB, h2, Bool.false_and, Bool.and_false])
    clear he he1 hf hf1
    go_enter Tryd.func21, Tryd.ntmps21
    go_wp2_with fail
    refine (inB_any e (-1000000) 1000000 _).mono ?_
    rintro r w0 ⟨rfl, rfl⟩
    rw [E0.out]
    go_wp2_with fail
    refine (inB_any f (-1000000) 1000000 _).mono ?_
    rintro r w1 ⟨rfl, rfl⟩
    rw [F0.out]
    go_wp2
    go_ret
    exact ⟨by rw [HR.out]; rfl, hb⟩
  cases h3 : decide (f % 2 = 0)
  · have HR : Hid (mapMayB (0, (-1), (-1), 0, e, f) = false) := Lib.hid (by simp only [mapMayB, tailB, h3, Bool.false_and, Bool.and_false])
    clear he he1 hf hf1
    go_enter Tryd.func21, Tryd.ntmps21
    go_wp2_with fail
    refine (inB_any e (-1000000) 1000000 _).mono ?_
    rintro r w0 ⟨rfl, rfl⟩
    rw [E0.out]
    go_wp2_with fail
    refine (inB_any f (-1000000) 1000000 _).mono ?_
    rintro r w1 ⟨rfl, rfl⟩
    rw [F0.out]
    go_wp2
    go_ret
    exact ⟨by rw [HR.out]; rfl, hb⟩
  have HR : Hid (mapMayB (0, (-1), (-1), 0, e, f) = true) := Lib.hid (by simp only [mapMayB, tailB, he1, hf1, h2, h3]; rfl)
  clear he he1 hf hf1
  go_enter Tryd.func21, Tryd.ntmps21
  go_wp2_with fail
  refine (inB_any e (-1000000) 1000000 _).mono ?_
  rintro r w0 ⟨rfl, rfl⟩
  rw [E0.out]
  go_wp2_with fail
  refine (inB_any f (-1000000) 1000000 _).mono ?_
  rintro r w1 ⟨rfl, rfl⟩
  rw [F0.out]
  go_wp2
  go_ret
  exact ⟨by rw [HR.out]; rfl, hb⟩

set_option maxRecDepth 100000 in
set_option maxHeartbeats 6400000 in
theorem refMap_p (e f : Int) (w : World) : Calls Tryd.prog 21 #[aggM (0, 1, 1, 0, e, f)] w fun r w' => r = .returned (.bool (mapMayB (0, 1, 1, 0, e, f))) ∧ Below w.heap.size w w' := by
  have hb := below_new w (.cells #[.int .i64 0, .int .i64 1, .int .i64 1, .int .i64 0, .int .i64 e, .int .i64 f] 51)
  have hbe := tmod2 e
  have hbf := tmod2 f
  cases he : (decide (-1000000 ≤ e) && decide (e ≤ 1000000))
  · have E0 := Lib.hid he
    have he1 : inN e = false := he
    have HR : Hid (mapMayB (0, 1, 1, 0, e, f) = false) := Lib.hid (by simp only [mapMayB, tailB, he1, Bool.false_and, Bool.and_false])
    clear he he1
    go_enter Tryd.func21, Tryd.ntmps21
    go_wp2_with fail
    refine (inB_any e (-1000000) 1000000 _).mono ?_
    rintro r w0 ⟨rfl, rfl⟩
    rw [E0.out]
    go_wp2
    go_ret
    exact ⟨by rw [HR.out]; rfl, hb⟩
  have E0 := Lib.hid he
  have he1 : inN e = true := he
  cases hf : (decide (-1000000 ≤ f) && decide (f ≤ 1000000))
  · have F0 := Lib.hid hf
    have hf1 : inN f = false := hf
    have HR : Hid (mapMayB (0, 1, 1, 0, e, f) = false) := Lib.hid (by simp only [mapMayB, tailB, hf1, Bool.false_and, Bool.and_false])
    clear he he1 hf hf1
    go_enter Tryd.func21, Tryd.ntmps21
    go_wp2_with fail
    refine (inB_any e (-1000000) 1000000 _).mono ?_
    rintro r w0 ⟨rfl, rfl⟩
    rw [E0.out]
    go_wp2_with fail
    refine (inB_any f (-1000000) 1000000 _).mono ?_
    rintro r w1 ⟨rfl, rfl⟩
    rw [F0.out]
    go_wp2
    go_ret
    exact ⟨by rw [HR.out]; rfl, hb⟩
  have F0 := Lib.hid hf
  have hf1 : inN f = true := hf
  cases h2 : decide (e % 2 = 0)
  · have HR : Hid (mapMayB (0, 1, 1, 0, e, f) = false) := Lib.hid (by simp only [mapMayB, tailB, h2, Bool.false_and, Bool.and_false])
    clear he he1 hf hf1
    go_enter Tryd.func21, Tryd.ntmps21
    go_wp2_with fail
    refine (inB_any e (-1000000) 1000000 _).mono ?_
    rintro r w0 ⟨rfl, rfl⟩
    rw [E0.out]
    go_wp2_with fail
    refine (inB_any f (-1000000) 1000000 _).mono ?_
    rintro r w1 ⟨rfl, rfl⟩
    rw [F0.out]
    go_wp2
    go_ret
    exact ⟨by rw [HR.out]; rfl, hb⟩
  cases h3 : decide (f % 2 = 0)
  · have HR : Hid (mapMayB (0, 1, 1, 0, e, f) = false) := Lib.hid (by simp only [mapMayB, tailB, h3, Bool.false_and, Bool.and_false])
    clear he he1 hf hf1
    go_enter Tryd.func21, Tryd.ntmps21
    go_wp2_with fail
    refine (inB_any e (-1000000) 1000000 _).mono ?_
    rintro r w0 ⟨rfl, rfl⟩
    rw [E0.out]
    go_wp2_with fail
    refine (inB_any f (-1000000) 1000000 _).mono ?_
    rintro r w1 ⟨rfl, rfl⟩
    rw [F0.out]
    go_wp2
    go_ret
    exact ⟨by rw [HR.out]; rfl, hb⟩
  have HR : Hid (mapMayB (0, 1, 1, 0, e, f) = true) := Lib.hid (by simp only [mapMayB, tailB, he1, hf1, h2, h3]; rfl)
  clear he he1 hf hf1
  go_enter Tryd.func21, Tryd.ntmps21
  go_wp2_with fail
  refine (inB_any e (-1000000) 1000000 _).mono ?_
  rintro r w0 ⟨rfl, rfl⟩
  rw [E0.out]
  go_wp2_with fail
  refine (inB_any f (-1000000) 1000000 _).mono ?_
  rintro r w1 ⟨rfl, rfl⟩
  rw [F0.out]
  go_wp2
  go_ret
  exact ⟨by rw [HR.out]; rfl, hb⟩

/-- The document's MapMay at the mirrors. -/
theorem refMap_mir (v c : Int) (w : World) : Calls Tryd.prog 21 #[aggM (mirB v c)] w fun r w' => r = .returned (.bool (mapMayB (mirB v c))) ∧ Below w.heap.size w w' := by
  unfold mirB
  split
  · exact refMap_m _ _ w
  split
  · exact refMap_n _ _ w
  split
  · exact refMap_o _ _ w
  · exact refMap_p _ _ w
end Go.Proofs.YthfhkmgegkhljaaDoor
