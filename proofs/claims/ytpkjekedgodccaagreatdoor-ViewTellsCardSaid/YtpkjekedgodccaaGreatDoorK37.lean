/- What maps may be: the document's MapMay (taken over).. What maps may be: the document's MapMay (taken over).. -/
import Derived.Test.YtpkjekedgodccaaGreatDoorK20
import Derived.Test.YtpkjekedgodccaaGreatDoorK36
namespace Go.Proofs.YtpkjekedgodccaaGreatDoor
set_option linter.unusedSimpArgs false
set_option linter.unusedVariables false
section
open Go.RowKit Go.Maps
set_option maxRecDepth 100000 in
set_option maxHeartbeats 6400000 in
theorem refMap_q (e f : Int) (w : World) : Calls Tryz.prog 41 #[aggM (1, 0, 0, 1, e, f)] w fun r w' => r = .returned (.bool (mapMayB (1, 0, 0, 1, e, f))) ∧ Below w.heap.size w w' := by
 have hb := below_new w (.cells #[.int .i64 1, .int .i64 0, .int .i64 0, .int .i64 1, .int .i64 e, .int .i64 f] 63)
 have hbe := tmod2 e
 have hbf := tmod2 f
 cases he : (decide (-1000000 ≤ e) && decide (e ≤ 1000000))
 ·have E0 := Lib.hid he
  have he1 : inN e = false := he
  have HR : Hid (mapMayB (1, 0, 0, 1, e, f) = false) := Lib.hid (by simp only [mapMayB, tailB, he1, Bool.false_and, Bool.and_false])
  clear he he1
  go_enter Tryz.func41, Tryz.ntmps41
  go_wp2_with fail
  refine (inB_any e (-1000000) 1000000 _).mono ?_
  rintro r w0 ⟨rfl, rfl⟩
  rw [E0.out]
  go_wp2
  go_ret
  exact ⟨by rw [HR.out]; rfl, hb⟩
 have E0 := Lib.hid he
 have he1 : inN e = true := he
 cases hf : (decide (-1000000 ≤ f) && decide (f ≤ 1000000))
 ·have F0 := Lib.hid hf
  have hf1 : inN f = false := hf
  have HR : Hid (mapMayB (1, 0, 0, 1, e, f) = false) := Lib.hid (by simp only [mapMayB, tailB, hf1, Bool.false_and, Bool.and_false])
  clear he he1 hf hf1
  go_enter Tryz.func41, Tryz.ntmps41
  go_wp2_with fail
  refine (inB_any e (-1000000) 1000000 _).mono ?_
  rintro r w0 ⟨rfl, rfl⟩
  rw [E0.out]
  go_wp2_with fail
  refine (inB_any f (-1000000) 1000000 _).mono ?_
  rintro r w1 ⟨rfl, rfl⟩
  rw [F0.out]
  go_wp2
  go_ret
  exact ⟨by rw [HR.out]; rfl, hb⟩
 have F0 := Lib.hid hf
 have hf1 : inN f = true := hf
 cases h2 : decide (e % 2 = 0)
 ·have HR : Hid (mapMayB (1, 0, 0, 1, e, f) = false) := Lib.hid (by simp only [mapMayB, tailB, h2, Bool.false_and, Bool.and_false])
  clear he he1 hf hf1
  go_enter Tryz.func41, Tryz.ntmps41
  go_wp2_with fail
  refine (inB_any e (-1000000) 1000000 _).mono ?_
  rintro r w0 ⟨rfl, rfl⟩
  rw [E0.out]
  go_wp2_with fail
  refine (inB_any f (-1000000) 1000000 _).mono ?_
  rintro r w1 ⟨rfl, rfl⟩
  rw [F0.out]
  go_wp2
  go_ret
  exact ⟨by rw [HR.out]; rfl, hb⟩
 cases h3 : decide (f % 2 = 0)
 ·have HR : Hid (mapMayB (1, 0, 0, 1, e, f) = false) := Lib.hid (by simp only [mapMayB, tailB, h3, Bool.false_and, Bool.and_false])
  clear he he1 hf hf1
  go_enter Tryz.func41, Tryz.ntmps41
  go_wp2_with fail
  refine (inB_any e (-1000000) 1000000 _).mono ?_
  rintro r w0 ⟨rfl, rfl⟩
  rw [E0.out]
  go_wp2_with fail
  refine (inB_any f (-1000000) 1000000 _).mono ?_
  rintro r w1 ⟨rfl, rfl⟩
  rw [F0.out]
  go_wp2
  go_ret
  exact ⟨by rw [HR.out]; rfl, hb⟩
 have HR : Hid (mapMayB (1, 0, 0, 1, e, f) = true) := Lib.hid (by simp only [mapMayB, tailB, he1, hf1, h2, h3]; rfl)
 clear he he1 hf hf1
 go_enter Tryz.func41, Tryz.ntmps41
 go_wp2_with fail
 refine (inB_any e (-1000000) 1000000 _).mono ?_
 rintro r w0 ⟨rfl, rfl⟩
 rw [E0.out]
 go_wp2_with fail
 refine (inB_any f (-1000000) 1000000 _).mono ?_
 rintro r w1 ⟨rfl, rfl⟩
 rw [F0.out]
 go_wp2
 go_ret
 exact ⟨by rw [HR.out]; rfl, hb⟩
set_option maxRecDepth 100000 in
set_option maxHeartbeats 6400000 in
theorem refMap_r (e f : Int) (w : World) : Calls Tryz.prog 41 #[aggM ((-1), 0, 0, (-1), e, f)] w fun r w' => r = .returned (.bool (mapMayB ((-1), 0, 0, (-1), e, f))) ∧ Below w.heap.size w w' := by
 have hb := below_new w (.cells #[.int .i64 (-1), .int .i64 0, .int .i64 0, .int .i64 (-1), .int .i64 e, .int .i64 f] 63)
 have hbe := tmod2 e
 have hbf := tmod2 f
 cases he : (decide (-1000000 ≤ e) && decide (e ≤ 1000000))
 ·have E0 := Lib.hid he
  have he1 : inN e = false := he
  have HR : Hid (mapMayB ((-1), 0, 0, (-1), e, f) = false) := Lib.hid (by simp only [mapMayB, tailB, he1, Bool.false_and, Bool.and_false])
  clear he he1
  go_enter Tryz.func41, Tryz.ntmps41
  go_wp2_with fail
  refine (inB_any e (-1000000) 1000000 _).mono ?_
  rintro r w0 ⟨rfl, rfl⟩
  rw [E0.out]
  go_wp2
  go_ret
  exact ⟨by rw [HR.out]; rfl, hb⟩
 have E0 := Lib.hid he
 have he1 : inN e = true := he
 cases hf : (decide (-1000000 ≤ f) && decide (f ≤ 1000000))
 ·have F0 := Lib.hid hf
  have hf1 : inN f = false := hf
  have HR : Hid (mapMayB ((-1), 0, 0, (-1), e, f) = false) := Lib.hid (by simp only [mapMayB, tailB, hf1, Bool.false_and, Bool.and_false])
  clear he he1 hf hf1
  go_enter Tryz.func41, Tryz.ntmps41
  go_wp2_with fail
  refine (inB_any e (-1000000) 1000000 _).mono ?_
  rintro r w0 ⟨rfl, rfl⟩
  rw [E0.out]
  go_wp2_with fail
  refine (inB_any f (-1000000) 1000000 _).mono ?_
  rintro r w1 ⟨rfl, rfl⟩
  rw [F0.out]
  go_wp2
  go_ret
  exact ⟨by rw [HR.out]; rfl, hb⟩
 have F0 := Lib.hid hf
 have hf1 : inN f = true := hf
 cases h2 : decide (e % 2 = 0)
 ·have HR : Hid (mapMayB ((-1), 0, 0, (-1), e, f) = false) := Lib.hid (by simp only [mapMayB, tailB, h2, Bool.false_and, Bool.and_false])
  clear he he1 hf hf1
  go_enter Tryz.func41, Tryz.ntmps41
  go_wp2_with fail
  refine (inB_any e (-1000000) 1000000 _).mono ?_
  rintro r w0 ⟨rfl, rfl⟩
  rw [E0.out]
  go_wp2_with fail
  refine (inB_any f (-1000000) 1000000 _).mono ?_
  rintro r w1 ⟨rfl, rfl⟩
  rw [F0.out]
  go_wp2
  go_ret
  exact ⟨by rw [HR.out]; rfl, hb⟩
 cases h3 : decide (f % 2 = 0)
 ·have HR : Hid (mapMayB ((-1), 0, 0, (-1), e, f) = false) := Lib.hid (by simp only [mapMayB, tailB, h3, Bool.false_and, Bool.and_false])
  clear he he1 hf hf1
  go_enter Tryz.func41, Tryz.ntmps41
  go_wp2_with fail
  refine (inB_any e (-1000000) 1000000 _).mono ?_
  rintro r w0 ⟨rfl, rfl⟩
  rw [E0.out]
  go_wp2_with fail
  refine (inB_any f (-1000000) 1000000 _).mono ?_
  rintro r w1 ⟨rfl, rfl⟩
  rw [F0.out]
  go_wp2
  go_ret
  exact ⟨by rw [HR.out]; rfl, hb⟩
 have HR : Hid (mapMayB ((-1), 0, 0, (-1), e, f) = true) := Lib.hid (by simp only [mapMayB, tailB, he1, hf1, h2, h3]; rfl)
 clear he he1 hf hf1
 go_enter Tryz.func41, Tryz.ntmps41
 go_wp2_with fail
 refine (inB_any e (-1000000) 1000000 _).mono ?_
 rintro r w0 ⟨rfl, rfl⟩
 rw [E0.out]
 go_wp2_with fail
 refine (inB_any f (-1000000) 1000000 _).mono ?_
 rintro r w1 ⟨rfl, rfl⟩
 rw [F0.out]
 go_wp2
 go_ret
 exact ⟨by rw [HR.out]; rfl, hb⟩
set_option maxRecDepth 100000 in
set_option maxHeartbeats 6400000 in
theorem refMap_s (e f : Int) (w : World) : Calls Tryz.prog 41 #[aggM (0, 1, (-1), 0, e, f)] w fun r w' => r = .returned (.bool (mapMayB (0, 1, (-1), 0, e, f))) ∧ Below w.heap.size w w' := by
 have hb := below_new w (.cells #[.int .i64 0, .int .i64 1, .int .i64 (-1), .int .i64 0, .int .i64 e, .int .i64 f] 63)
 have hbe := tmod2 e
 have hbf := tmod2 f
 cases he : (decide (-1000000 ≤ e) && decide (e ≤ 1000000))
 ·have E0 := Lib.hid he
  have he1 : inN e = false := he
  have HR : Hid (mapMayB (0, 1, (-1), 0, e, f) = false) := Lib.hid (by simp only [mapMayB, tailB, he1, Bool.false_and, Bool.and_false])
  clear he he1
  go_enter Tryz.func41, Tryz.ntmps41
  go_wp2_with fail
  refine (inB_any e (-1000000) 1000000 _).mono ?_
  rintro r w0 ⟨rfl, rfl⟩
  rw [E0.out]
  go_wp2
  go_ret
  exact ⟨by rw [HR.out]; rfl, hb⟩
 have E0 := Lib.hid he
 have he1 : inN e = true := he
 cases hf : (decide (-1000000 ≤ f) && decide (f ≤ 1000000))
 ·have F0 := Lib.hid hf
  have hf1 : inN f = false := hf
  have HR : Hid (mapMayB (0, 1, (-1), 0, e, f) = false) := Lib.hid (by simp only [mapMayB, tailB, hf1, Bool.false_and, Bool.and_false])
  clear he he1 hf hf1
  go_enter Tryz.func41, Tryz.ntmps41
  go_wp2_with fail
  refine (inB_any e (-1000000) 1000000 _).mono ?_
  rintro r w0 ⟨rfl, rfl⟩
  rw [E0.out]
  go_wp2_with fail
  refine (inB_any f (-1000000) 1000000 _).mono ?_
  rintro r w1 ⟨rfl, rfl⟩
  rw [F0.out]
  go_wp2
  go_ret
  exact ⟨by rw [HR.out]; rfl, hb⟩
 have F0 := Lib.hid hf
 have hf1 : inN f = true := hf
 cases h2 : decide (e % 2 = 0)
 ·have HR : Hid (mapMayB (0, 1, (-1), 0, e, f) = false) := Lib.hid (by simp only [mapMayB, tailB, h2, Bool.false_and, Bool.and_false])
  clear he he1 hf hf1
  go_enter Tryz.func41, Tryz.ntmps41
  go_wp2_with fail
  refine (inB_any e (-1000000) 1000000 _).mono ?_
  rintro r w0 ⟨rfl, rfl⟩
  rw [E0.out]
  go_wp2_with fail
  refine (inB_any f (-1000000) 1000000 _).mono ?_
  rintro r w1 ⟨rfl, rfl⟩
  rw [F0.out]
  go_wp2
  go_ret
  exact ⟨by rw [HR.out]; rfl, hb⟩
 cases h3 : decide (f % 2 = 0)
 ·have HR : Hid (mapMayB (0, 1, (-1), 0, e, f) = false) := Lib.hid (by simp only [mapMayB, tailB, h3, Bool.false_and, Bool.and_false])
  clear he he1 hf hf1
  go_enter Tryz.func41, Tryz.ntmps41
  go_wp2_with fail
  refine (inB_any e (-1000000) 1000000 _).mono ?_
  rintro r w0 ⟨rfl, rfl⟩
  rw [E0.out]
  go_wp2_with fail
  refine (inB_any f (-1000000) 1000000 _).mono ?_
  rintro r w1 ⟨rfl, rfl⟩
  rw [F0.out]
  go_wp2
  go_ret
  exact ⟨by rw [HR.out]; rfl, hb⟩
 have HR : Hid (mapMayB (0, 1, (-1), 0, e, f) = true) := Lib.hid (by simp only [mapMayB, tailB, he1, hf1, h2, h3]; rfl)
 clear he he1 hf hf1
 go_enter Tryz.func41, Tryz.ntmps41
 go_wp2_with fail
 refine (inB_any e (-1000000) 1000000 _).mono ?_
 rintro r w0 ⟨rfl, rfl⟩
 rw [E0.out]
 go_wp2_with fail
 refine (inB_any f (-1000000) 1000000 _).mono ?_
 rintro r w1 ⟨rfl, rfl⟩
 rw [F0.out]
 go_wp2
 go_ret
 exact ⟨by rw [HR.out]; rfl, hb⟩
set_option maxRecDepth 100000 in
set_option maxHeartbeats 6400000 in
theorem refMap_t (e f : Int) (w : World) : Calls Tryz.prog 41 #[aggM (0, (-1), 1, 0, e, f)] w fun r w' => r = .returned (.bool (mapMayB (0, (-1), 1, 0, e, f))) ∧ Below w.heap.size w w' := by
 have hb := below_new w (.cells #[.int .i64 0, .int .i64 (-1), .int .i64 1, .int .i64 0, .int .i64 e, .int .i64 f] 63)
 have hbe := tmod2 e
 have hbf := tmod2 f
 cases he : (decide (-1000000 ≤ e) && decide (e ≤ 1000000))
 ·have E0 := Lib.hid he
  have he1 : inN e = false := he
  have HR : Hid (mapMayB (0, (-1), 1, 0, e, f) = false) := Lib.hid (by simp only [mapMayB, tailB, he1, Bool.false_and, Bool.and_false])
  clear he he1
  go_enter Tryz.func41, Tryz.ntmps41
  go_wp2_with fail
  refine (inB_any e (-1000000) 1000000 _).mono ?_
  rintro r w0 ⟨rfl, rfl⟩
  rw [E0.out]
  go_wp2
  go_ret
  exact ⟨by rw [HR.out]; rfl, hb⟩
 have E0 := Lib.hid he
 have he1 : inN e = true := he
 cases hf : (decide (-1000000 ≤ f) && decide (f ≤ 1000000))
 ·have F0 := Lib.hid hf
  have hf1 : inN f = false := hf
  have HR : Hid (mapMayB (0, (-1), 1, 0, e, f) = false) := Lib.hid (by simp only [mapMayB, tailB, hf1, Bool.false_and, Bool.and_false])
  clear he he1 hf hf1
  go_enter Tryz.func41, Tryz.ntmps41
  go_wp2_with fail
  refine (inB_any e (-1000000) 1000000 _).mono ?_
  rintro r w0 ⟨rfl, rfl⟩
  rw [E0.out]
  go_wp2_with fail
  refine (inB_any f (-1000000) 1000000 _).mono ?_
  rintro r w1 ⟨rfl, rfl⟩
  rw [F0.out]
  go_wp2
  go_ret
  exact ⟨by rw [HR.out]; rfl, hb⟩
 have F0 := Lib.hid hf
 have hf1 : inN f = true := hf
 cases h2 : decide (e % 2 = 0)
 ·have HR : Hid (mapMayB (0, (-1), 1, 0, e, f) = false) := Lib.hid (by simp only [mapMayB, tailB, h2, Bool.false_and, Bool.and_false])
  clear he he1 hf hf1
  go_enter Tryz.func41, Tryz.ntmps41
  go_wp2_with fail
  refine (inB_any e (-1000000) 1000000 _).mono ?_
  rintro r w0 ⟨rfl, rfl⟩
  rw [E0.out]
  go_wp2_with fail
  refine (inB_any f (-1000000) 1000000 _).mono ?_
  rintro r w1 ⟨rfl, rfl⟩
  rw [F0.out]
  go_wp2
  go_ret
  exact ⟨by rw [HR.out]; rfl, hb⟩
 cases h3 : decide (f % 2 = 0)
 ·have HR : Hid (mapMayB (0, (-1), 1, 0, e, f) = false) := Lib.hid (by simp only [mapMayB, tailB, h3, Bool.false_and, Bool.and_false])
  clear he he1 hf hf1
  go_enter Tryz.func41, Tryz.ntmps41
  go_wp2_with fail
  refine (inB_any e (-1000000) 1000000 _).mono ?_
  rintro r w0 ⟨rfl, rfl⟩
  rw [E0.out]
  go_wp2_with fail
  refine (inB_any f (-1000000) 1000000 _).mono ?_
  rintro r w1 ⟨rfl, rfl⟩
  rw [F0.out]
  go_wp2
  go_ret
  exact ⟨by rw [HR.out]; rfl, hb⟩
 have HR : Hid (mapMayB (0, (-1), 1, 0, e, f) = true) := Lib.hid (by simp only [mapMayB, tailB, he1, hf1, h2, h3]; rfl)
 clear he he1 hf hf1
 go_enter Tryz.func41, Tryz.ntmps41
 go_wp2_with fail
 refine (inB_any e (-1000000) 1000000 _).mono ?_
 rintro r w0 ⟨rfl, rfl⟩
 rw [E0.out]
 go_wp2_with fail
 refine (inB_any f (-1000000) 1000000 _).mono ?_
 rintro r w1 ⟨rfl, rfl⟩
 rw [F0.out]
 go_wp2
 go_ret
 exact ⟨by rw [HR.out]; rfl, hb⟩
end
section
open Go.RowKit Go.Maps
set_option maxRecDepth 100000 in
set_option maxHeartbeats 6400000 in
theorem refMap_not (a b c d e f : Int) (w : World) (hn : turnedB a b c d = false) : Calls Tryz.prog 41 #[aggM (a, b, c, d, e, f)] w fun r w' => r = .returned (.bool false) ∧ Below w.heap.size w w' := by
 have HN := Lib.hid hn
 clear hn
 have hb := below_new w (.cells #[.int .i64 a, .int .i64 b, .int .i64 c, .int .i64 d, .int .i64 e, .int .i64 f] 63)
 by_cases ha0 : a = 1
 ·subst ha0
  by_cases hb0 : b = 0
  ·subst hb0
   by_cases hc0 : c = 0
   ·subst hc0
    by_cases hd0 : d = 1
    ·subst hd0
     exact absurd HN.out (by simp [turnedB, oneB])
    by_cases hd1 : d = -1
    ·subst hd1
     exact absurd HN.out (by simp [turnedB, oneB])
    clear HN
    go_enter Tryz.func41, Tryz.ntmps41
    go_wp2
    go_ret
    exact ⟨rfl, hb⟩
   clear HN
   go_enter Tryz.func41, Tryz.ntmps41
   go_wp2
   go_ret
   exact ⟨rfl, hb⟩
  clear HN
  go_enter Tryz.func41, Tryz.ntmps41
  go_wp2
  go_ret
  exact ⟨rfl, hb⟩
 by_cases ha1 : a = -1
 ·subst ha1
  by_cases hb0 : b = 0
  ·subst hb0
   by_cases hc0 : c = 0
   ·subst hc0
    by_cases hd0 : d = 1
    ·subst hd0
     exact absurd HN.out (by simp [turnedB, oneB])
    by_cases hd1 : d = -1
    ·subst hd1
     exact absurd HN.out (by simp [turnedB, oneB])
    clear HN
    go_enter Tryz.func41, Tryz.ntmps41
    go_wp2
    go_ret
    exact ⟨rfl, hb⟩
   clear HN
   go_enter Tryz.func41, Tryz.ntmps41
   go_wp2
   go_ret
   exact ⟨rfl, hb⟩
  clear HN
  go_enter Tryz.func41, Tryz.ntmps41
  go_wp2
  go_ret
  exact ⟨rfl, hb⟩
 by_cases ha2 : a = 0
 ·subst ha2
  by_cases hb0 : b = 1
  ·subst hb0
   by_cases hc0 : c = 1
   ·subst hc0
    by_cases hd0 : d = 0
    ·subst hd0
     exact absurd HN.out (by simp [turnedB, oneB])
    clear HN
    go_enter Tryz.func41, Tryz.ntmps41
    go_wp2
    go_ret
    exact ⟨rfl, hb⟩
   by_cases hc1 : c = -1
   ·subst hc1
    by_cases hd0 : d = 0
    ·subst hd0
     exact absurd HN.out (by simp [turnedB, oneB])
    clear HN
    go_enter Tryz.func41, Tryz.ntmps41
    go_wp2
    go_ret
    exact ⟨rfl, hb⟩
   clear HN
   go_enter Tryz.func41, Tryz.ntmps41
   go_wp2
   go_ret
   exact ⟨rfl, hb⟩
  by_cases hb1 : b = -1
  ·subst hb1
   by_cases hc0 : c = 1
   ·subst hc0
    by_cases hd0 : d = 0
    ·subst hd0
     exact absurd HN.out (by simp [turnedB, oneB])
    clear HN
    go_enter Tryz.func41, Tryz.ntmps41
    go_wp2
    go_ret
    exact ⟨rfl, hb⟩
   by_cases hc1 : c = -1
   ·subst hc1
    by_cases hd0 : d = 0
    ·subst hd0
     exact absurd HN.out (by simp [turnedB, oneB])
    clear HN
    go_enter Tryz.func41, Tryz.ntmps41
    go_wp2
    go_ret
    exact ⟨rfl, hb⟩
   clear HN
   go_enter Tryz.func41, Tryz.ntmps41
   go_wp2
   go_ret
   exact ⟨rfl, hb⟩
  clear HN
  go_enter Tryz.func41, Tryz.ntmps41
  go_wp2
  go_ret
  exact ⟨rfl, hb⟩
 clear HN
 go_enter Tryz.func41, Tryz.ntmps41
 go_wp2
 go_ret
 exact ⟨rfl, hb⟩
theorem refMap_any (m : V6) (w : World) : Calls Tryz.prog 41 #[aggM m] w fun r w' => r = .returned (.bool (mapMayB m)) ∧ Below w.heap.size w w' := by
 obtain ⟨a, b, c, d, e, f⟩ := m
 cases hn : turnedB a b c d
 ·rw [show mapMayB (a, b, c, d, e, f) = false by simp only [mapMayB, hn, Bool.false_and]]
  exact refMap_not a b c d e f w hn
 ·rcases turned_ways hn with ⟨rfl, rfl, rfl, rfl⟩ | ⟨rfl, rfl, rfl, rfl⟩ | ⟨rfl, rfl, rfl, rfl⟩ | ⟨rfl, rfl, rfl, rfl⟩ | ⟨rfl, rfl, rfl, rfl⟩ | ⟨rfl, rfl, rfl, rfl⟩ | ⟨rfl, rfl, rfl, rfl⟩ | ⟨rfl, rfl, rfl, rfl⟩
  ·exact refMap_q e f w
  ·exact refMap_m e f w
  ·exact refMap_n e f w
  ·exact refMap_r e f w
  ·exact refMap_p e f w
  ·exact refMap_t e f w
  ·exact refMap_s e f w
  ·exact refMap_o e f w
end
end Go.Proofs.YtpkjekedgodccaaGreatDoor
