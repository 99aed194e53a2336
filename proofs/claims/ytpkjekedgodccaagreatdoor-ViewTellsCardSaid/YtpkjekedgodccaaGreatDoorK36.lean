/- view.Picture.. What maps may be: the document's MapMay (taken over).. -/
import Derived.Test.YtpkjekedgodccaaGreatDoorK35
import Derived.Test.YtpkjekedgodccaaGreatDoorK20
namespace Go.Proofs.YtpkjekedgodccaaGreatDoor
set_option linter.unusedSimpArgs false
set_option linter.unusedVariables false
section
open Go.RowKit Go.Maps
def picA (l : List Sn) : List UInt8 := picT l (loX l l.length) (hiY l l.length) (hiX l l.length - loX l l.length + 1).toNat (hiY l l.length - loY l l.length + 1).toNat
def PicP (l : List Sn) : Prop := 0 < l.length ∧ l.length ≤ 1000 ∧ PlcD l ∧ ∀ s ∈ l, (-1000000 ≤ s.1.1 ∧ s.1.1 ≤ 1000000) ∧ (-1000000 ≤ s.1.2.1 ∧ s.1.2.1 ≤ 1000000)
set_option maxRecDepth 100000 in
set_option maxHeartbeats 6400000 in
theorem viewPic_any (W H : Int) (Am Ac Ap As : Option Addr) (nm cm nc cc np cp ns cS : Nat) (mask : List Int) (cs : List C5) (ms : List V6) (sts : List Stk) (w : World) (hs : Steps w) (hm : Rd w 1 Am nm (vis mask)) (hc : Rd w 5 Ac nc (ccs cs)) (hp : Rd w 6 Ap np (mcs ms)) (hst : StkR w As ns sts) (hnm : nm ≤ 140737488351232) (hnc : nc ≤ 140737488351232) (hnp : np ≤ 140737488351232)
 (hP : stateB W H mask cs ms sts = true → PicP (tops (trisL W.toNat mask) ms sts)) :
  Calls Tryz.prog 7 #[.agg #[.int .i64 W, .int .i64 H, .slice Am nm cm, .slice Ac nc cc, .slice Ap np cp, .slice As ns cS]] w fun e w' => Below w.heap.size w w' ∧ ((stateB W H mask cs ms sts = false ∧ e = .returned (.tuple #[.string ⟨#[]⟩, .int .i64 10])) ∨ (stateB W H mask cs ms sts = true ∧ e = .returned (.tuple #[.string ⟨(picA (tops (trisL W.toNat mask) ms sts)).toArray⟩, .int .i64 0]))) := by
 have kb0 := heap_alloc_new w (.cells #[.int .i64 W, .int .i64 H, .slice Am nm cm, .slice Ac nc cc, .slice Ap np cp, .slice As ns cS] 29)
 have hb0 := below_new w (.cells #[.int .i64 W, .int .i64 H, .slice Am nm cm, .slice Ac nc cc, .slice Ap np cp, .slice As ns cS] 29)
 have a0 := cell_of_blk kb0 0
 have a1 := cell_of_blk kb0 1
 have a2 := cell_of_blk kb0 2
 have a3 := cell_of_blk kb0 3
 have a4 := cell_of_blk kb0 4
 have a5 := cell_of_blk kb0 5
 simp only [List.getElem?_toArray, List.getElem?_cons_zero, List.getElem?_cons_succ] at a0 a1 a2 a3 a4 a5
 have hsz0 : w.heap.size ≤ (w.alloc (.cells #[.int .i64 W, .int .i64 H, .slice Am nm cm, .slice Ac nc cc, .slice Ap np cp, .slice As ns cS] 29)).heap.size := hb0.size
 have cO := viewTop_any W H Am Ac Ap As nm cm nc cc np cp ns cS mask cs ms sts (w.alloc (.cells #[.int .i64 W, .int .i64 H, .slice Am nm cm, .slice Ac nc cc, .slice Ap np cp, .slice As ns cS] 29)) (hs.below hb0) (hm.below hb0) (hc.below hb0) (hp.below hb0) (hst.below hb0) hnm hnc hnp
 have CO := Lib.hid cO
 have HP := Lib.hid hP
 have HB0 := Lib.hid hb0
 clear cO hs hm hc hp hst hb0 kb0 hP
 go_enter Tryz.func7, Tryz.ntmps7
 go_wp2_with fail
 generalize w.alloc (.cells #[.int .i64 W, .int .i64 H, .slice Am nm cm, .slice Ac nc cc, .slice Ap np cp, .slice As ns cS] 29) = w0 at a0 a1 a2 a3 a4 a5 HB0 CO hsz0 ⊢
 refine CO.out.mono ?_
 rintro e w2 ⟨hb2, ⟨hF, rfl⟩ | ⟨hT, v, rfl, hrow⟩⟩
 ·have HF := Lib.hid hF
  have HB2 := Lib.hid hb2
  clear hF hb2 CO a0 a1 a2 a3 a4 a5 HP
  go_wp2
  exact bodyPost_ret (v := .tuple #[.string ⟨#[]⟩, .int .i64 10]) (by simp [results, Tryz.results7, go_sem]) rfl ⟨HB0.out.trans (HB2.out.mono hsz0), .inl ⟨HF.out, rfl⟩⟩
 ·obtain ⟨A, c, hv, _, _⟩ := own_slice hrow
  subst hv
  have hpp := HP.out hT
  have hln : sts.length = (tops (trisL W.toNat mask) ms sts).length := (tops_len _ _ _).symm
  have cD := draw_any A sts.length c (tops (trisL W.toNat mask) ms sts) w2 (Rd.of_own hrow) hln hpp.1 hpp.2.1 hpp.2.2.1 hpp.2.2.2
  rw [show picT (tops (trisL W.toNat mask) ms sts) _ _ _ _ = picA (tops (trisL W.toNat mask) ms sts) from rfl] at cD
  have CD := Lib.hid cD
  have HT := Lib.hid hT
  have HB2 := Lib.hid (HB0.out.trans (hb2.mono hsz0))
  have hsz2 := HB2.out.size
  clear cD hT hb2 hpp hln hrow CO HP a0 a1 a2 a3 a4 a5
  go_wp2_with fail
  refine CD.out.mono ?_
  rintro e w3 ⟨rfl, hb3⟩
  have HB3 := Lib.hid (HB2.out.trans (hb3.mono hsz2))
  clear hb3 CD
  go_wp2
  exact bodyPost_ret (v := .tuple #[.string ⟨(picA (tops (trisL W.toNat mask) ms sts)).toArray⟩, .int .i64 0]) (by simp [results, Tryz.results7, go_sem]) rfl ⟨HB3.out, .inr ⟨HT.out, rfl⟩⟩
end
section
open Go.RowKit Go.Maps
set_option maxRecDepth 100000 in
set_option maxHeartbeats 6400000 in
theorem refMap_m (e f : Int) (w : World) : Calls Tryz.prog 41 #[aggM ((-1), 0, 0, 1, e, f)] w fun r w' => r = .returned (.bool (mapMayB ((-1), 0, 0, 1, e, f))) ∧ Below w.heap.size w w' := by
 have hb := below_new w (.cells #[.int .i64 (-1), .int .i64 0, .int .i64 0, .int .i64 1, .int .i64 e, .int .i64 f] 63)
 have hbe := tmod2 e
 have hbf := tmod2 f
 cases he : (decide (-1000000 ≤ e) && decide (e ≤ 1000000))
 ·have E0 := Lib.hid he
  have he1 : inN e = false := he
  have HR : Hid (mapMayB ((-1), 0, 0, 1, e, f) = false) := Lib.hid (by simp only [mapMayB, tailB, he1, Bool.false_and, Bool.and_false])
  clear he he1
  go_enter Tryz.func41, Tryz.ntmps41
  go_wp2_with fail
  refine (inB_any e (-1000000) 1000000 _).mono ?_
  rintro r w0 ⟨rfl, rfl⟩
  rw [E0.out]
  go_wp2
  go_ret
  exact ⟨by rw [HR.out]; rfl, hb⟩
 have E0 := Lib.hid he
 have he1 : inN e = true := he
 cases hf : (decide (-1000000 ≤ f) && decide (f ≤ 1000000))
 ·have F0 := Lib.hid hf
  have hf1 : inN f = false := hf
  have HR : Hid (mapMayB ((-1), 0, 0, 1, e, f) = false) := Lib.hid (by simp only [mapMayB, tailB, hf1, Bool.false_and, Bool.and_false])
  clear he he1 hf hf1
  go_enter Tryz.func41, Tryz.ntmps41
  go_wp2_with fail
  refine (inB_any e (-1000000) 1000000 _).mono ?_
  rintro r w0 ⟨rfl, rfl⟩
  rw [E0.out]
  go_wp2_with fail
  refine (inB_any f (-1000000) 1000000 _).mono ?_
  rintro r w1 ⟨rfl, rfl⟩
  rw [F0.out]
  go_wp2
  go_ret
  exact ⟨by rw [HR.out]; rfl, hb⟩
 have F0 := Lib.hid hf
 have hf1 : inN f = true := hf
 cases h2 : decide (e % 2 = 0)
 ·have HR : Hid (mapMayB ((-1), 0, 0, 1, e, f) = false) := Lib.hid (by simp only [mapMayB, tailB, h2, Bool.false_and, Bool.and_false])
  clear he he1 hf hf1
  go_enter Tryz.func41, Tryz.ntmps41
  go_wp2_with fail
  refine (inB_any e (-1000000) 1000000 _).mono ?_
  rintro r w0 ⟨rfl, rfl⟩
  rw [E0.out]
  go_wp2_with fail
  refine (inB_any f (-1000000) 1000000 _).mono ?_
  rintro r w1 ⟨rfl, rfl⟩
  rw [F0.out]
  go_wp2
  go_ret
  exact ⟨by rw [HR.out]; rfl, hb⟩
 cases h3 : decide (f % 2 = 0)
 ·have HR : Hid (mapMayB ((-1), 0, 0, 1, e, f) = false) := Lib.hid (by simp only [mapMayB, tailB, h3, Bool.false_and, Bool.and_false])
  clear he he1 hf hf1
  go_enter Tryz.func41, Tryz.ntmps41
  go_wp2_with fail
  refine (inB_any e (-1000000) 1000000 _).mono ?_
  rintro r w0 ⟨rfl, rfl⟩
  rw [E0.out]
  go_wp2_with fail
  refine (inB_any f (-1000000) 1000000 _).mono ?_
  rintro r w1 ⟨rfl, rfl⟩
  rw [F0.out]
  go_wp2
  go_ret
  exact ⟨by rw [HR.out]; rfl, hb⟩
 have HR : Hid (mapMayB ((-1), 0, 0, 1, e, f) = true) := Lib.hid (by simp only [mapMayB, tailB, he1, hf1, h2, h3]; rfl)
 clear he he1 hf hf1
 go_enter Tryz.func41, Tryz.ntmps41
 go_wp2_with fail
 refine (inB_any e (-1000000) 1000000 _).mono ?_
 rintro r w0 ⟨rfl, rfl⟩
 rw [E0.out]
 go_wp2_with fail
 refine (inB_any f (-1000000) 1000000 _).mono ?_
 rintro r w1 ⟨rfl, rfl⟩
 rw [F0.out]
 go_wp2
 go_ret
 exact ⟨by rw [HR.out]; rfl, hb⟩
set_option maxRecDepth 100000 in
set_option maxHeartbeats 6400000 in
theorem refMap_n (e f : Int) (w : World) : Calls Tryz.prog 41 #[aggM (1, 0, 0, (-1), e, f)] w fun r w' => r = .returned (.bool (mapMayB (1, 0, 0, (-1), e, f))) ∧ Below w.heap.size w w' := by
 have hb := below_new w (.cells #[.int .i64 1, .int .i64 0, .int .i64 0, .int .i64 (-1), .int .i64 e, .int .i64 f] 63)
 have hbe := tmod2 e
 have hbf := tmod2 f
 cases he : (decide (-1000000 ≤ e) && decide (e ≤ 1000000))
 ·have E0 := Lib.hid he
  have he1 : inN e = false := he
  have HR : Hid (mapMayB (1, 0, 0, (-1), e, f) = false) := Lib.hid (by simp only [mapMayB, tailB, he1, Bool.false_and, Bool.and_false])
  clear he he1
  go_enter Tryz.func41, Tryz.ntmps41
  go_wp2_with fail
  refine (inB_any e (-1000000) 1000000 _).mono ?_
  rintro r w0 ⟨rfl, rfl⟩
  rw [E0.out]
  go_wp2
  go_ret
  exact ⟨by rw [HR.out]; rfl, hb⟩
 have E0 := Lib.hid he
 have he1 : inN e = true := he
 cases hf : (decide (-1000000 ≤ f) && decide (f ≤ 1000000))
 ·have F0 := Lib.hid hf
  have hf1 : inN f = false := hf
  have HR : Hid (mapMayB (1, 0, 0, (-1), e, f) = false) := Lib.hid (by simp only [mapMayB, tailB, hf1, Bool.false_and, Bool.and_false])
  clear he he1 hf hf1
  go_enter Tryz.func41, Tryz.ntmps41
  go_wp2_with fail
  refine (inB_any e (-1000000) 1000000 _).mono ?_
  rintro r w0 ⟨rfl, rfl⟩
  rw [E0.out]
  go_wp2_with fail
  refine (inB_any f (-1000000) 1000000 _).mono ?_
  rintro r w1 ⟨rfl, rfl⟩
  rw [F0.out]
  go_wp2
  go_ret
  exact ⟨by rw [HR.out]; rfl, hb⟩
 have F0 := Lib.hid hf
 have hf1 : inN f = true := hf
 cases h2 : decide (e % 2 = 0)
 ·have HR : Hid (mapMayB (1, 0, 0, (-1), e, f) = false) := Lib.hid (by simp only [mapMayB, tailB, h2, Bool.false_and, Bool.and_false])
  clear he he1 hf hf1
  go_enter Tryz.func41, Tryz.ntmps41
  go_wp2_with fail
  refine (inB_any e (-1000000) 1000000 _).mono ?_
  rintro r w0 ⟨rfl, rfl⟩
  rw [E0.out]
  go_wp2_with fail
  refine (inB_any f (-1000000) 1000000 _).mono ?_
  rintro r w1 ⟨rfl, rfl⟩
  rw [F0.out]
  go_wp2
  go_ret
  exact ⟨by rw [HR.out]; rfl, hb⟩
 cases h3 : decide (f % 2 = 0)
 ·have HR : Hid (mapMayB (1, 0, 0, (-1), e, f) = false) := Lib.hid (by simp only [mapMayB, tailB, h3, Bool.false_and, Bool.and_false])
  clear he he1 hf hf1
  go_enter Tryz.func41, Tryz.ntmps41
  go_wp2_with fail
  refine (inB_any e (-1000000) 1000000 _).mono ?_
  rintro r w0 ⟨rfl, rfl⟩
  rw [E0.out]
  go_wp2_with fail
  refine (inB_any f (-1000000) 1000000 _).mono ?_
  rintro r w1 ⟨rfl, rfl⟩
  rw [F0.out]
  go_wp2
  go_ret
  exact ⟨by rw [HR.out]; rfl, hb⟩
 have HR : Hid (mapMayB (1, 0, 0, (-1), e, f) = true) := Lib.hid (by simp only [mapMayB, tailB, he1, hf1, h2, h3]; rfl)
 clear he he1 hf hf1
 go_enter Tryz.func41, Tryz.ntmps41
 go_wp2_with fail
 refine (inB_any e (-1000000) 1000000 _).mono ?_
 rintro r w0 ⟨rfl, rfl⟩
 rw [E0.out]
 go_wp2_with fail
 refine (inB_any f (-1000000) 1000000 _).mono ?_
 rintro r w1 ⟨rfl, rfl⟩
 rw [F0.out]
 go_wp2
 go_ret
 exact ⟨by rw [HR.out]; rfl, hb⟩
set_option maxRecDepth 100000 in
set_option maxHeartbeats 6400000 in
theorem refMap_o (e f : Int) (w : World) : Calls Tryz.prog 41 #[aggM (0, (-1), (-1), 0, e, f)] w fun r w' => r = .returned (.bool (mapMayB (0, (-1), (-1), 0, e, f))) ∧ Below w.heap.size w w' := by
 have hb := below_new w (.cells #[.int .i64 0, .int .i64 (-1), .int .i64 (-1), .int .i64 0, .int .i64 e, .int .i64 f] 63)
 have hbe := tmod2 e
 have hbf := tmod2 f
 cases he : (decide (-1000000 ≤ e) && decide (e ≤ 1000000))
 ·have E0 := Lib.hid he
  have he1 : inN e = false := he
  have HR : Hid (mapMayB (0, (-1), (-1), 0, e, f) = false) := Lib.hid (by simp only [mapMayB, tailB, he1, Bool.false_and, Bool.and_false])
  clear he he1
  go_enter Tryz.func41, Tryz.ntmps41
  go_wp2_with fail
  refine (inB_any e (-1000000) 1000000 _).mono ?_
  rintro r w0 ⟨rfl, rfl⟩
  rw [E0.out]
  go_wp2
  go_ret
  exact ⟨by rw [HR.out]; rfl, hb⟩
 have E0 := Lib.hid he
 have he1 : inN e = true := he
 cases hf : (decide (-1000000 ≤ f) && decide (f ≤ 1000000))
 ·have F0 := Lib.hid hf
  have hf1 : inN f = false := hf
  have HR : Hid (mapMayB (0, (-1), (-1), 0, e, f) = false) := Lib.hid (by simp only [mapMayB, tailB, hf1, Bool.false_and, Bool.and_false])
  clear he he1 hf hf1
  go_enter Tryz.func41, Tryz.ntmps41
  go_wp2_with fail
  refine (inB_any e (-1000000) 1000000 _).mono ?_
  rintro r w0 ⟨rfl, rfl⟩
  rw [E0.out]
  go_wp2_with fail
  refine (inB_any f (-1000000) 1000000 _).mono ?_
  rintro r w1 ⟨rfl, rfl⟩
  rw [F0.out]
  go_wp2
  go_ret
  exact ⟨by rw [HR.out]; rfl, hb⟩
 have F0 := Lib.hid hf
 have hf1 : inN f = true := hf
 cases h2 : decide (e % 2 = 0)
 ·have HR : Hid (mapMayB (0, (-1), (-1), 0, e, f) = false) := Lib.hid (by simp only [mapMayB, tailB, h2, Bool.false_and, Bool.and_false])
  clear he he1 hf hf1
  go_enter Tryz.func41, Tryz.ntmps41
  go_wp2_with fail
  refine (inB_any e (-1000000) 1000000 _).mono ?_
  rintro r w0 ⟨rfl, rfl⟩
  rw [E0.out]
  go_wp2_with fail
  refine (inB_any f (-1000000) 1000000 _).mono ?_
  rintro r w1 ⟨rfl, rfl⟩
  rw [F0.out]
  go_wp2
  go_ret
  exact ⟨by rw [HR.out]; rfl, hb⟩
 cases h3 : decide (f % 2 = 0)
 ·have HR : Hid (mapMayB (0, (-1), (-1), 0, e, f) = false) := Lib.hid (by simp only [mapMayB, tailB, h3, Bool.false_and, Bool.and_false])
  clear he he1 hf hf1
  go_enter Tryz.func41, Tryz.ntmps41
  go_wp2_with fail
  refine (inB_any e (-1000000) 1000000 _).mono ?_
  rintro r w0 ⟨rfl, rfl⟩
  rw [E0.out]
  go_wp2_with fail
  refine (inB_any f (-1000000) 1000000 _).mono ?_
  rintro r w1 ⟨rfl, rfl⟩
  rw [F0.out]
  go_wp2
  go_ret
  exact ⟨by rw [HR.out]; rfl, hb⟩
 have HR : Hid (mapMayB (0, (-1), (-1), 0, e, f) = true) := Lib.hid (by simp only [mapMayB, tailB, he1, hf1, h2, h3]; rfl)
 clear he he1 hf hf1
 go_enter Tryz.func41, Tryz.ntmps41
 go_wp2_with fail
 refine (inB_any e (-1000000) 1000000 _).mono ?_
 rintro r w0 ⟨rfl, rfl⟩
 rw [E0.out]
 go_wp2_with fail
 refine (inB_any f (-1000000) 1000000 _).mono ?_
 rintro r w1 ⟨rfl, rfl⟩
 rw [F0.out]
 go_wp2
 go_ret
 exact ⟨by rw [HR.out]; rfl, hb⟩
set_option maxRecDepth 100000 in
set_option maxHeartbeats 6400000 in
theorem refMap_p (e f : Int) (w : World) : Calls Tryz.prog 41 #[aggM (0, 1, 1, 0, e, f)] w fun r w' => r = .returned (.bool (mapMayB (0, 1, 1, 0, e, f))) ∧ Below w.heap.size w w' := by
 have hb := below_new w (.cells #[.int .i64 0, .int .i64 1, .int .i64 1, .int .i64 0, .int .i64 e, .int .i64 f] 63)
 have hbe := tmod2 e
 have hbf := tmod2 f
 cases he : (decide (-1000000 ≤ e) && decide (e ≤ 1000000))
 ·have E0 := Lib.hid he
  have he1 : inN e = false := he
  have HR : Hid (mapMayB (0, 1, 1, 0, e, f) = false) := Lib.hid (by simp only [mapMayB, tailB, he1, Bool.false_and, Bool.and_false])
  clear he he1
  go_enter Tryz.func41, Tryz.ntmps41
  go_wp2_with fail
  refine (inB_any e (-1000000) 1000000 _).mono ?_
  rintro r w0 ⟨rfl, rfl⟩
  rw [E0.out]
  go_wp2
  go_ret
  exact ⟨by rw [HR.out]; rfl, hb⟩
 have E0 := Lib.hid he
 have he1 : inN e = true := he
 cases hf : (decide (-1000000 ≤ f) && decide (f ≤ 1000000))
 ·have F0 := Lib.hid hf
  have hf1 : inN f = false := hf
  have HR : Hid (mapMayB (0, 1, 1, 0, e, f) = false) := Lib.hid (by simp only [mapMayB, tailB, hf1, Bool.false_and, Bool.and_false])
  clear he he1 hf hf1
  go_enter Tryz.func41, Tryz.ntmps41
  go_wp2_with fail
  refine (inB_any e (-1000000) 1000000 _).mono ?_
  rintro r w0 ⟨rfl, rfl⟩
  rw [E0.out]
  go_wp2_with fail
  refine (inB_any f (-1000000) 1000000 _).mono ?_
  rintro r w1 ⟨rfl, rfl⟩
  rw [F0.out]
  go_wp2
  go_ret
  exact ⟨by rw [HR.out]; rfl, hb⟩
 have F0 := Lib.hid hf
 have hf1 : inN f = true := hf
 cases h2 : decide (e % 2 = 0)
 ·have HR : Hid (mapMayB (0, 1, 1, 0, e, f) = false) := Lib.hid (by simp only [mapMayB, tailB, h2, Bool.false_and, Bool.and_false])
  clear he he1 hf hf1
  go_enter Tryz.func41, Tryz.ntmps41
  go_wp2_with fail
  refine (inB_any e (-1000000) 1000000 _).mono ?_
  rintro r w0 ⟨rfl, rfl⟩
  rw [E0.out]
  go_wp2_with fail
  refine (inB_any f (-1000000) 1000000 _).mono ?_
  rintro r w1 ⟨rfl, rfl⟩
  rw [F0.out]
  go_wp2
  go_ret
  exact ⟨by rw [HR.out]; rfl, hb⟩
 cases h3 : decide (f % 2 = 0)
 ·have HR : Hid (mapMayB (0, 1, 1, 0, e, f) = false) := Lib.hid (by simp only [mapMayB, tailB, h3, Bool.false_and, Bool.and_false])
  clear he he1 hf hf1
  go_enter Tryz.func41, Tryz.ntmps41
  go_wp2_with fail
  refine (inB_any e (-1000000) 1000000 _).mono ?_
  rintro r w0 ⟨rfl, rfl⟩
  rw [E0.out]
  go_wp2_with fail
  refine (inB_any f (-1000000) 1000000 _).mono ?_
  rintro r w1 ⟨rfl, rfl⟩
  rw [F0.out]
  go_wp2
  go_ret
  exact ⟨by rw [HR.out]; rfl, hb⟩
 have HR : Hid (mapMayB (0, 1, 1, 0, e, f) = true) := Lib.hid (by simp only [mapMayB, tailB, he1, hf1, h2, h3]; rfl)
 clear he he1 hf hf1
 go_enter Tryz.func41, Tryz.ntmps41
 go_wp2_with fail
 refine (inB_any e (-1000000) 1000000 _).mono ?_
 rintro r w0 ⟨rfl, rfl⟩
 rw [E0.out]
 go_wp2_with fail
 refine (inB_any f (-1000000) 1000000 _).mono ?_
 rintro r w1 ⟨rfl, rfl⟩
 rw [F0.out]
 go_wp2
 go_ret
 exact ⟨by rw [HR.out]; rfl, hb⟩
end
end Go.Proofs.YtpkjekedgodccaaGreatDoor
