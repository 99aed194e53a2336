/- What maps may be: the program's MapMay (taken over from the door seat).. -/
import Derived.Test.YtpkjekedgodccaaGreatDoorK20
namespace Go.Proofs.YtpkjekedgodccaaGreatDoor
set_option linter.unusedSimpArgs false
set_option linter.unusedVariables false
section
open Go.RowKit Go.Maps
set_option maxHeartbeats 400000 in
theorem one_any (a b : Int) (w : World) : Calls Tryz.prog 57 #[.int .i64 a, .int .i64 b] w fun e w' => e = .returned (.bool (oneB a b)) ∧ w = w' := by
 by_cases h1 : a = 1
 ·subst h1
  go_enter Tryz.func57, Tryz.ntmps57
  go_wp2
  go_ret
  exact ⟨by simp [oneB], rfl⟩
 by_cases h2 : a = -1
 ·subst h2
  go_enter Tryz.func57, Tryz.ntmps57
  go_wp2
  go_ret
  exact ⟨by simp [oneB], rfl⟩
 have b1 : (a == 1) = false := by simpa using h1
 have b2 : (a == -1) = false := by simpa using h2
 have HO : Hid (oneB a b = false) := Lib.hid (by simp [oneB, b1, b2])
 clear h1 h2
 go_enter Tryz.func57, Tryz.ntmps57
 go_wp2
 go_ret
 exact ⟨by rw [HO.out]; rfl, rfl⟩
theorem one_enter (args : Array Value) (wx : World) : (callFunc 57 args).run Tryz.prog wx = .ok (.enter 57 args) wx := by kernel_rfl
set_option maxRecDepth 100000 in
set_option maxHeartbeats 6400000 in
theorem mapMay_any (a b c d e f : Int) (w : World) : Calls Tryz.prog 25 #[aggM (a, b, c, d, e, f)] w fun r w' => r = .returned (.bool (mapMayB (a, b, c, d, e, f))) ∧ Below w.heap.size w w' := by
 have hb := below_new w (.cells #[.int .i64 a, .int .i64 b, .int .i64 c, .int .i64 d, .int .i64 e, .int .i64 f] 63)
 have hent := one_enter
 have hbe := and1 e
 have hbf := and1 f
 cases o0 : oneB a b
 ·have O0 := Lib.hid o0
  cases o2 : oneB b a
  ·have O2 := Lib.hid o2
   have HR : Hid (mapMayB (a, b, c, d, e, f) = false) := Lib.hid (by simp [mapMayB, turnedB, tailB, o0, o2])
   clear o0 o2
   go_enter Tryz.func25, Tryz.ntmps25
   go_wp2_with fail
   refine (one_any a b _).mono ?_
   rintro r w0 ⟨rfl, rfl⟩
   rw [O0.out]
   go_wp2_with fail
   refine (one_any b a _).mono ?_
   rintro r w1 ⟨rfl, rfl⟩
   rw [O2.out]
   go_wp2
   go_ret
   exact ⟨by rw [HR.out]; rfl, hb⟩
  ·have O2 := Lib.hid o2
   cases o3 : oneB c d
   ·have O3 := Lib.hid o3
    have HR : Hid (mapMayB (a, b, c, d, e, f) = false) := Lib.hid (by simp [mapMayB, turnedB, tailB, o0, o2, o3])
    clear o0 o2 o3
    go_enter Tryz.func25, Tryz.ntmps25
    go_wp2_with fail
    refine (one_any a b _).mono ?_
    rintro r w0 ⟨rfl, rfl⟩
    rw [O0.out]
    go_wp2_with fail
    refine (one_any b a _).mono ?_
    rintro r w1 ⟨rfl, rfl⟩
    rw [O2.out]
    go_wp2_with fail
    refine (one_any c d _).mono ?_
    rintro r w2 ⟨rfl, rfl⟩
    rw [O3.out]
    go_wp2
    go_ret
    exact ⟨by rw [HR.out]; rfl, hb⟩
   ·have O3 := Lib.hid o3
    cases he : inN e
    ·have E0 := Lib.hid he
     have HR : Hid (mapMayB (a, b, c, d, e, f) = false) := Lib.hid (by simp [mapMayB, turnedB, tailB, o0, o2, o3, he])
     clear o0 o2 o3 he
     go_enter Tryz.func25, Tryz.ntmps25
     go_wp2_with fail
     refine (one_any a b _).mono ?_
     rintro r w0 ⟨rfl, rfl⟩
     rw [O0.out]
     go_wp2_with fail
     refine (one_any b a _).mono ?_
     rintro r w1 ⟨rfl, rfl⟩
     rw [O2.out]
     go_wp2_with fail
     refine (one_any c d _).mono ?_
     rintro r w2 ⟨rfl, rfl⟩
     rw [O3.out]
     go_wp2_with fail
     refine (in_any e _).mono ?_
     rintro r w3 ⟨rfl, rfl⟩
     rw [E0.out]
     go_wp2
     go_ret
     exact ⟨by rw [HR.out]; rfl, hb⟩
    have E0 := Lib.hid he
    cases hf : inN f
    ·have F0 := Lib.hid hf
     have HR : Hid (mapMayB (a, b, c, d, e, f) = false) := Lib.hid (by simp [mapMayB, turnedB, tailB, o0, o2, o3, hf])
     clear o0 o2 o3 he hf
     go_enter Tryz.func25, Tryz.ntmps25
     go_wp2_with fail
     refine (one_any a b _).mono ?_
     rintro r w0 ⟨rfl, rfl⟩
     rw [O0.out]
     go_wp2_with fail
     refine (one_any b a _).mono ?_
     rintro r w1 ⟨rfl, rfl⟩
     rw [O2.out]
     go_wp2_with fail
     refine (one_any c d _).mono ?_
     rintro r w2 ⟨rfl, rfl⟩
     rw [O3.out]
     go_wp2_with fail
     refine (in_any e _).mono ?_
     rintro r w3 ⟨rfl, rfl⟩
     rw [E0.out]
     go_wp2_with fail
     refine (in_any f _).mono ?_
     rintro r w4 ⟨rfl, rfl⟩
     rw [F0.out]
     go_wp2
     go_ret
     exact ⟨by rw [HR.out]; rfl, hb⟩
    have F0 := Lib.hid hf
    cases h2 : (e % 2 == 0)
    ·have g2 : ¬ e % 2 = 0 := by simpa using h2
     have HR : Hid (mapMayB (a, b, c, d, e, f) = false) := Lib.hid (by simp [mapMayB, turnedB, tailB, o0, o2, o3, he, hf, g2])
     clear o0 o2 o3 he hf g2
     go_enter Tryz.func25, Tryz.ntmps25
     go_wp2_with fail
     refine (one_any a b _).mono ?_
     rintro r w0 ⟨rfl, rfl⟩
     rw [O0.out]
     go_wp2_with fail
     refine (one_any b a _).mono ?_
     rintro r w1 ⟨rfl, rfl⟩
     rw [O2.out]
     go_wp2_with fail
     refine (one_any c d _).mono ?_
     rintro r w2 ⟨rfl, rfl⟩
     rw [O3.out]
     go_wp2_with fail
     refine (in_any e _).mono ?_
     rintro r w3 ⟨rfl, rfl⟩
     rw [E0.out]
     go_wp2_with fail
     refine (in_any f _).mono ?_
     rintro r w4 ⟨rfl, rfl⟩
     rw [F0.out]
     go_wp2
     go_ret
     exact ⟨by rw [HR.out]; rfl, hb⟩
    have g2 : e % 2 = 0 := by simpa using h2
    cases h3 : (f % 2 == 0)
    ·have g3 : ¬ f % 2 = 0 := by simpa using h3
     have HR : Hid (mapMayB (a, b, c, d, e, f) = false) := Lib.hid (by simp [mapMayB, turnedB, tailB, o0, o2, o3, he, hf, g2, g3])
     clear o0 o2 o3 he hf g2 g3
     go_enter Tryz.func25, Tryz.ntmps25
     go_wp2_with fail
     refine (one_any a b _).mono ?_
     rintro r w0 ⟨rfl, rfl⟩
     rw [O0.out]
     go_wp2_with fail
     refine (one_any b a _).mono ?_
     rintro r w1 ⟨rfl, rfl⟩
     rw [O2.out]
     go_wp2_with fail
     refine (one_any c d _).mono ?_
     rintro r w2 ⟨rfl, rfl⟩
     rw [O3.out]
     go_wp2_with fail
     refine (in_any e _).mono ?_
     rintro r w3 ⟨rfl, rfl⟩
     rw [E0.out]
     go_wp2_with fail
     refine (in_any f _).mono ?_
     rintro r w4 ⟨rfl, rfl⟩
     rw [F0.out]
     go_wp2
     go_ret
     exact ⟨by rw [HR.out]; rfl, hb⟩
    have g3 : f % 2 = 0 := by simpa using h3
    have HR : Hid (mapMayB (a, b, c, d, e, f) = true) := Lib.hid (by simp [mapMayB, turnedB, tailB, o0, o2, o3, he, hf, g2, g3])
    clear o0 o2 o3 he hf g2 g3
    go_enter Tryz.func25, Tryz.ntmps25
    go_wp2_with fail
    refine (one_any a b _).mono ?_
    rintro r w0 ⟨rfl, rfl⟩
    rw [O0.out]
    go_wp2_with fail
    refine (one_any b a _).mono ?_
    rintro r w1 ⟨rfl, rfl⟩
    rw [O2.out]
    go_wp2_with fail
    refine (one_any c d _).mono ?_
    rintro r w2 ⟨rfl, rfl⟩
    rw [O3.out]
    go_wp2_with fail
    refine (in_any e _).mono ?_
    rintro r w3 ⟨rfl, rfl⟩
    rw [E0.out]
    go_wp2_with fail
    refine (in_any f _).mono ?_
    rintro r w4 ⟨rfl, rfl⟩
    rw [F0.out]
    go_wp2
    go_ret
    exact ⟨by rw [HR.out]; rfl, hb⟩
 ·have O0 := Lib.hid o0
  cases o1 : oneB d c
  ·have O1 := Lib.hid o1
   cases o2 : oneB b a
   ·have O2 := Lib.hid o2
    have HR : Hid (mapMayB (a, b, c, d, e, f) = false) := Lib.hid (by simp [mapMayB, turnedB, tailB, o0, o1, o2])
    clear o0 o1 o2
    go_enter Tryz.func25, Tryz.ntmps25
    go_wp2_with fail
    refine (one_any a b _).mono ?_
    rintro r w0 ⟨rfl, rfl⟩
    rw [O0.out]
    go_wp2_with fail
    refine (one_any d c _).mono ?_
    rintro r w1 ⟨rfl, rfl⟩
    rw [O1.out]
    go_wp2_with fail
    refine (one_any b a _).mono ?_
    rintro r w2 ⟨rfl, rfl⟩
    rw [O2.out]
    go_wp2
    go_ret
    exact ⟨by rw [HR.out]; rfl, hb⟩
   ·have O2 := Lib.hid o2
    cases o3 : oneB c d
    ·have O3 := Lib.hid o3
     have HR : Hid (mapMayB (a, b, c, d, e, f) = false) := Lib.hid (by simp [mapMayB, turnedB, tailB, o0, o1, o2, o3])
     clear o0 o1 o2 o3
     go_enter Tryz.func25, Tryz.ntmps25
     go_wp2_with fail
     refine (one_any a b _).mono ?_
     rintro r w0 ⟨rfl, rfl⟩
     rw [O0.out]
     go_wp2_with fail
     refine (one_any d c _).mono ?_
     rintro r w1 ⟨rfl, rfl⟩
     rw [O1.out]
     go_wp2_with fail
     refine (one_any b a _).mono ?_
     rintro r w2 ⟨rfl, rfl⟩
     rw [O2.out]
     go_wp2_with fail
     refine (one_any c d _).mono ?_
     rintro r w3 ⟨rfl, rfl⟩
     rw [O3.out]
     go_wp2
     go_ret
     exact ⟨by rw [HR.out]; rfl, hb⟩
    ·have O3 := Lib.hid o3
     cases he : inN e
     ·have E0 := Lib.hid he
      have HR : Hid (mapMayB (a, b, c, d, e, f) = false) := Lib.hid (by simp [mapMayB, turnedB, tailB, o0, o1, o2, o3, he])
      clear o0 o1 o2 o3 he
      go_enter Tryz.func25, Tryz.ntmps25
      go_wp2_with fail
      refine (one_any a b _).mono ?_
      rintro r w0 ⟨rfl, rfl⟩
      rw [O0.out]
      go_wp2_with fail
      refine (one_any d c _).mono ?_
      rintro r w1 ⟨rfl, rfl⟩
      rw [O1.out]
      go_wp2_with fail
      refine (one_any b a _).mono ?_
      rintro r w2 ⟨rfl, rfl⟩
      rw [O2.out]
      go_wp2_with fail
      refine (one_any c d _).mono ?_
      rintro r w3 ⟨rfl, rfl⟩
      rw [O3.out]
      go_wp2_with fail
      refine (in_any e _).mono ?_
      rintro r w4 ⟨rfl, rfl⟩
      rw [E0.out]
      go_wp2
      go_ret
      exact ⟨by rw [HR.out]; rfl, hb⟩
     have E0 := Lib.hid he
     cases hf : inN f
     ·have F0 := Lib.hid hf
      have HR : Hid (mapMayB (a, b, c, d, e, f) = false) := Lib.hid (by simp [mapMayB, turnedB, tailB, o0, o1, o2, o3, hf])
      clear o0 o1 o2 o3 he hf
      go_enter Tryz.func25, Tryz.ntmps25
      go_wp2_with fail
      refine (one_any a b _).mono ?_
      rintro r w0 ⟨rfl, rfl⟩
      rw [O0.out]
      go_wp2_with fail
      refine (one_any d c _).mono ?_
      rintro r w1 ⟨rfl, rfl⟩
      rw [O1.out]
      go_wp2_with fail
      refine (one_any b a _).mono ?_
      rintro r w2 ⟨rfl, rfl⟩
      rw [O2.out]
      go_wp2_with fail
      refine (one_any c d _).mono ?_
      rintro r w3 ⟨rfl, rfl⟩
      rw [O3.out]
      go_wp2_with fail
      refine (in_any e _).mono ?_
      rintro r w4 ⟨rfl, rfl⟩
      rw [E0.out]
      go_wp2_with fail
      refine (in_any f _).mono ?_
      rintro r w5 ⟨rfl, rfl⟩
      rw [F0.out]
      go_wp2
      go_ret
      exact ⟨by rw [HR.out]; rfl, hb⟩
     have F0 := Lib.hid hf
     cases h2 : (e % 2 == 0)
     ·have g2 : ¬ e % 2 = 0 := by simpa using h2
      have HR : Hid (mapMayB (a, b, c, d, e, f) = false) := Lib.hid (by simp [mapMayB, turnedB, tailB, o0, o1, o2, o3, he, hf, g2])
      clear o0 o1 o2 o3 he hf g2
      go_enter Tryz.func25, Tryz.ntmps25
      go_wp2_with fail
      refine (one_any a b _).mono ?_
      rintro r w0 ⟨rfl, rfl⟩
      rw [O0.out]
      go_wp2_with fail
      refine (one_any d c _).mono ?_
      rintro r w1 ⟨rfl, rfl⟩
      rw [O1.out]
      go_wp2_with fail
      refine (one_any b a _).mono ?_
      rintro r w2 ⟨rfl, rfl⟩
      rw [O2.out]
      go_wp2_with fail
      refine (one_any c d _).mono ?_
      rintro r w3 ⟨rfl, rfl⟩
      rw [O3.out]
      go_wp2_with fail
      refine (in_any e _).mono ?_
      rintro r w4 ⟨rfl, rfl⟩
      rw [E0.out]
      go_wp2_with fail
      refine (in_any f _).mono ?_
      rintro r w5 ⟨rfl, rfl⟩
      rw [F0.out]
      go_wp2
      go_ret
      exact ⟨by rw [HR.out]; rfl, hb⟩
     have g2 : e % 2 = 0 := by simpa using h2
     cases h3 : (f % 2 == 0)
     ·have g3 : ¬ f % 2 = 0 := by simpa using h3
      have HR : Hid (mapMayB (a, b, c, d, e, f) = false) := Lib.hid (by simp [mapMayB, turnedB, tailB, o0, o1, o2, o3, he, hf, g2, g3])
      clear o0 o1 o2 o3 he hf g2 g3
      go_enter Tryz.func25, Tryz.ntmps25
      go_wp2_with fail
      refine (one_any a b _).mono ?_
      rintro r w0 ⟨rfl, rfl⟩
      rw [O0.out]
      go_wp2_with fail
      refine (one_any d c _).mono ?_
      rintro r w1 ⟨rfl, rfl⟩
      rw [O1.out]
      go_wp2_with fail
      refine (one_any b a _).mono ?_
      rintro r w2 ⟨rfl, rfl⟩
      rw [O2.out]
      go_wp2_with fail
      refine (one_any c d _).mono ?_
      rintro r w3 ⟨rfl, rfl⟩
      rw [O3.out]
      go_wp2_with fail
      refine (in_any e _).mono ?_
      rintro r w4 ⟨rfl, rfl⟩
      rw [E0.out]
      go_wp2_with fail
      refine (in_any f _).mono ?_
      rintro r w5 ⟨rfl, rfl⟩
      rw [F0.out]
      go_wp2
      go_ret
      exact ⟨by rw [HR.out]; rfl, hb⟩
     have g3 : f % 2 = 0 := by simpa using h3
     have HR : Hid (mapMayB (a, b, c, d, e, f) = true) := Lib.hid (by simp [mapMayB, turnedB, tailB, o0, o1, o2, o3, he, hf, g2, g3])
     clear o0 o1 o2 o3 he hf g2 g3
     go_enter Tryz.func25, Tryz.ntmps25
     go_wp2_with fail
     refine (one_any a b _).mono ?_
     rintro r w0 ⟨rfl, rfl⟩
     rw [O0.out]
     go_wp2_with fail
     refine (one_any d c _).mono ?_
     rintro r w1 ⟨rfl, rfl⟩
     rw [O1.out]
     go_wp2_with fail
     refine (one_any b a _).mono ?_
     rintro r w2 ⟨rfl, rfl⟩
     rw [O2.out]
     go_wp2_with fail
     refine (one_any c d _).mono ?_
     rintro r w3 ⟨rfl, rfl⟩
     rw [O3.out]
     go_wp2_with fail
     refine (in_any e _).mono ?_
     rintro r w4 ⟨rfl, rfl⟩
     rw [E0.out]
     go_wp2_with fail
     refine (in_any f _).mono ?_
     rintro r w5 ⟨rfl, rfl⟩
     rw [F0.out]
     go_wp2
     go_ret
     exact ⟨by rw [HR.out]; rfl, hb⟩
  ·have O1 := Lib.hid o1
   cases he : inN e
   ·have E0 := Lib.hid he
    have HR : Hid (mapMayB (a, b, c, d, e, f) = false) := Lib.hid (by simp [mapMayB, turnedB, tailB, o0, o1, he])
    clear o0 o1 he
    go_enter Tryz.func25, Tryz.ntmps25
    go_wp2_with fail
    refine (one_any a b _).mono ?_
    rintro r w0 ⟨rfl, rfl⟩
    rw [O0.out]
    go_wp2_with fail
    refine (one_any d c _).mono ?_
    rintro r w1 ⟨rfl, rfl⟩
    rw [O1.out]
    go_wp2_with fail
    refine (in_any e _).mono ?_
    rintro r w2 ⟨rfl, rfl⟩
    rw [E0.out]
    go_wp2
    go_ret
    exact ⟨by rw [HR.out]; rfl, hb⟩
   have E0 := Lib.hid he
   cases hf : inN f
   ·have F0 := Lib.hid hf
    have HR : Hid (mapMayB (a, b, c, d, e, f) = false) := Lib.hid (by simp [mapMayB, turnedB, tailB, o0, o1, hf])
    clear o0 o1 he hf
    go_enter Tryz.func25, Tryz.ntmps25
    go_wp2_with fail
    refine (one_any a b _).mono ?_
    rintro r w0 ⟨rfl, rfl⟩
    rw [O0.out]
    go_wp2_with fail
    refine (one_any d c _).mono ?_
    rintro r w1 ⟨rfl, rfl⟩
    rw [O1.out]
    go_wp2_with fail
    refine (in_any e _).mono ?_
    rintro r w2 ⟨rfl, rfl⟩
    rw [E0.out]
    go_wp2_with fail
    refine (in_any f _).mono ?_
    rintro r w3 ⟨rfl, rfl⟩
    rw [F0.out]
    go_wp2
    go_ret
    exact ⟨by rw [HR.out]; rfl, hb⟩
   have F0 := Lib.hid hf
   cases h2 : (e % 2 == 0)
   ·have g2 : ¬ e % 2 = 0 := by simpa using h2
    have HR : Hid (mapMayB (a, b, c, d, e, f) = false) := Lib.hid (by simp [mapMayB, turnedB, tailB, o0, o1, he, hf, g2])
    clear o0 o1 he hf g2
    go_enter Tryz.func25, Tryz.ntmps25
    go_wp2_with fail
    refine (one_any a b _).mono ?_
    rintro r w0 ⟨rfl, rfl⟩
    rw [O0.out]
    go_wp2_with fail
    refine (one_any d c _).mono ?_
    rintro r w1 ⟨rfl, rfl⟩
    rw [O1.out]
    go_wp2_with fail
    refine (in_any e _).mono ?_
    rintro r w2 ⟨rfl, rfl⟩
    rw [E0.out]
    go_wp2_with fail
    refine (in_any f _).mono ?_
    rintro r w3 ⟨rfl, rfl⟩
    rw [F0.out]
    go_wp2
    go_ret
    exact ⟨by rw [HR.out]; rfl, hb⟩
   have g2 : e % 2 = 0 := by simpa using h2
   cases h3 : (f % 2 == 0)
   ·have g3 : ¬ f % 2 = 0 := by simpa using h3
    have HR : Hid (mapMayB (a, b, c, d, e, f) = false) := Lib.hid (by simp [mapMayB, turnedB, tailB, o0, o1, he, hf, g2, g3])
    clear o0 o1 he hf g2 g3
    go_enter Tryz.func25, Tryz.ntmps25
    go_wp2_with fail
    refine (one_any a b _).mono ?_
    rintro r w0 ⟨rfl, rfl⟩
    rw [O0.out]
    go_wp2_with fail
    refine (one_any d c _).mono ?_
    rintro r w1 ⟨rfl, rfl⟩
    rw [O1.out]
    go_wp2_with fail
    refine (in_any e _).mono ?_
    rintro r w2 ⟨rfl, rfl⟩
    rw [E0.out]
    go_wp2_with fail
    refine (in_any f _).mono ?_
    rintro r w3 ⟨rfl, rfl⟩
    rw [F0.out]
    go_wp2
    go_ret
    exact ⟨by rw [HR.out]; rfl, hb⟩
   have g3 : f % 2 = 0 := by simpa using h3
   have HR : Hid (mapMayB (a, b, c, d, e, f) = true) := Lib.hid (by simp [mapMayB, turnedB, tailB, o0, o1, he, hf, g2, g3])
   clear o0 o1 he hf g2 g3
   go_enter Tryz.func25, Tryz.ntmps25
   go_wp2_with fail
   refine (one_any a b _).mono ?_
   rintro r w0 ⟨rfl, rfl⟩
   rw [O0.out]
   go_wp2_with fail
   refine (one_any d c _).mono ?_
   rintro r w1 ⟨rfl, rfl⟩
   rw [O1.out]
   go_wp2_with fail
   refine (in_any e _).mono ?_
   rintro r w2 ⟨rfl, rfl⟩
   rw [E0.out]
   go_wp2_with fail
   refine (in_any f _).mono ?_
   rintro r w3 ⟨rfl, rfl⟩
   rw [F0.out]
   go_wp2
   go_ret
   exact ⟨by rw [HR.out]; rfl, hb⟩
end
end Go.Proofs.YtpkjekedgodccaaGreatDoor
