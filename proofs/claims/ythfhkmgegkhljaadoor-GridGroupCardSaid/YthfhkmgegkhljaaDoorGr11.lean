/- grid.Mirror. Printed by gen_gr11.py. -/
import Derived.Test.YthfhkmgegkhljaaDoorGr9
namespace Go.Proofs.YthfhkmgegkhljaaDoor
open Go.RowKit

theorem lineB_bd {v c : Int} (h : lineMayB v c = true) : -1000000 ≤ c ∧ c ≤ 1000000 := by simp [lineMayB, inN] at h; omega
set_option maxRecDepth 100000 in
set_option maxHeartbeats 1600000 in
theorem mir1_any (v c : Int) (g : Nat) (w : World) (kl : w.heap[g]? = some (.cells #[.int .i64 v, .int .i64 c] 47 (0, 0))) (hl : lineMayB v c = true) :
    Calls Tryd.prog 49 #[.pointer (some ⟨g, 0, none⟩)] w fun e w' => e = .returned (aggM (mirB v c)) ∧ Below w.heap.size w w' := by
  obtain ⟨c1, c2⟩ := lineB_bd hl
  have l0 := cell_of_blk kl 0
  have l1 := cell_of_blk kl 1
  have lq := blk_lt kl
  simp only [List.getElem?_toArray, List.getElem?_cons_zero, List.getElem?_cons_succ] at l0 l1
  clear hl kl
  go_enter Tryd.func49, Tryd.ntmps49
  go_wp2_with fail
  refine (mirror_any v c _ c1 c2).mono ?_
  rintro e w1 ⟨he, hb1⟩
  obtain ⟨m, hm⟩ : ∃ m, m = mirB v c := ⟨_, rfl⟩
  rw [← hm] at he
  subst he
  have HM := Lib.hid hm
  clear hm
  have kz := blk_below (heap_alloc_new w (.cells #[.int .i64 0, .int .i64 0, .int .i64 0, .int .i64 0, .int .i64 0, .int .i64 0] 51)) hb1 (by simp)
  have z0 := cell_of_blk kz 0
  have z1 := cell_of_blk kz 1
  have z2 := cell_of_blk kz 2
  have z3 := cell_of_blk kz 3
  have z4 := cell_of_blk kz 4
  have z5 := cell_of_blk kz 5
  have zf := frozen_of_blk kz
  have zl := blk_lt kz
  simp only [List.getElem?_toArray, List.getElem?_cons_zero, List.getElem?_cons_succ] at z0 z1 z2 z3 z4 z5
  have hw1 : Below w.heap.size w w1 := stay_b (below_new w _) hb1
  clear kz hb1
  go_wp2
  exact bodyPost_ret (v := aggM m) (by simp [results, Tryd.results49, go_sem, z0, z1, z2, z3, z4, z5]) rfl ⟨by rw [HM.out], set6_below hw1 _ (by omega) _ _ _ _ _ _⟩

set_option maxRecDepth 100000 in
set_option maxHeartbeats 1600000 in
theorem gmir_noL (v c : Int) (w : World) (hl : lineMayB v c = false) :
    Calls Tryd.prog 17 #[.agg #[.int .i64 v, .int .i64 c]] w fun e w' => e = .returned (.tuple #[aggM M0, .int .i64 3]) ∧ Below w.heap.size w w' := by
  have HL := Lib.hid hl
  clear hl
  have hmf : ∀ (fn : Fn) (first cap : Array Value) (w : World), (Instr.makeFunc fn first cap).run Tryd.prog w = .ok (.func fn first cap) w := fun _ _ _ _ => rfl
  go_enter Tryd.func17, Tryd.ntmps17
  go_wp2_with fail
  refine (lineMay_any v c _).mono ?_
  rintro e w1 ⟨rfl, hb1⟩
  rw [HL.out]
  have kl := blk_below (mw_l w v c) hb1 (blk_lt (mw_l w v c))
  have kr := blk_below (mw_r w v c) hb1 (blk_lt (mw_r w v c))
  have hw1 : Below w.heap.size w w1 := stay_b (mw_below w v c) hb1
  clear hb1
  go_wp2_with fail
  refine (toldM_no _ _).mono ?_
  rintro e w2 ⟨rfl, hb2⟩
  have kr2 := blk_below kr hb2 (blk_lt kr)
  have hw2 := stay_b hw1 hb2
  clear kl kr hb2
  go_wp2_with fail
  refine (fits_err M0 3 _ (by decide)).mono ?_
  rintro e w3 ⟨rfl, hb3⟩
  have kz := blk_below kr2 hb3 (blk_lt kr2)
  have z0 := cell_of_blk kz 0
  have z1 := cell_of_blk kz 1
  have z2 := cell_of_blk kz 2
  have z3 := cell_of_blk kz 3
  have z4 := cell_of_blk kz 4
  have z5 := cell_of_blk kz 5
  have zf := frozen_of_blk kz
  have zl := blk_lt kz
  simp only [List.getElem?_toArray, List.getElem?_cons_zero, List.getElem?_cons_succ] at z0 z1 z2 z3 z4 z5
  have hw3 : Below w.heap.size w w3 := stay_b hw2 hb3
  clear kz hb3
  go_wp2
  exact bodyPost_ret (v := .tuple #[aggM M0, .int .i64 3]) (by simp [results, Tryd.results17, go_sem, M0, z0, z1, z2, z3, z4, z5]) rfl ⟨rfl, set6_below hw3 _ (by omega) _ _ _ _ _ _⟩

set_option maxRecDepth 100000 in
set_option maxHeartbeats 1600000 in
theorem gmir_noM (v c : Int) (w : World) (hl : lineMayB v c = true) (hm : mapMayB (mirB v c) = false) :
    Calls Tryd.prog 17 #[.agg #[.int .i64 v, .int .i64 c]] w fun e w' => e = .returned (.tuple #[aggM M0, .int .i64 2]) ∧ Below w.heap.size w w' := by
  have HL := Lib.hid hl
  have HK := Lib.hid hm
  clear hl hm
  have hmf : ∀ (fn : Fn) (first cap : Array Value) (w : World), (Instr.makeFunc fn first cap).run Tryd.prog w = .ok (.func fn first cap) w := fun _ _ _ _ => rfl
  go_enter Tryd.func17, Tryd.ntmps17
  go_wp2_with fail
  refine (lineMay_any v c _).mono ?_
  rintro e w1 ⟨rfl, hb1⟩
  rw [HL.out]
  have kl := blk_below (mw_l w v c) hb1 (blk_lt (mw_l w v c))
  have kr := blk_below (mw_r w v c) hb1 (blk_lt (mw_r w v c))
  have hw1 : Below w.heap.size w w1 := stay_b (mw_below w v c) hb1
  clear hb1
  go_wp2_with fail
  refine (toldM_ok _ _ (mirB v c) _ mir1_enter (mir1_any v c w.heap.size (zm w1) (blk_alloc kl _) HL.out)).mono ?_
  rintro e w2 ⟨he, hb2⟩
  obtain ⟨m, hm⟩ : ∃ m, m = mirB v c := ⟨_, rfl⟩
  rw [← hm] at he
  subst he
  have HM := Lib.hid hm
  clear hm
  have HW : Hid (mapMayB m = false) := Lib.hid (by rw [HM.out]; exact HK.out)
  have kr2 := blk_below kr hb2 (blk_lt kr)
  have hw2 := stay_b hw1 hb2
  clear kl kr hb2
  go_wp2_with fail
  refine (fits_no m _ HW.out).mono ?_
  rintro e w3 ⟨rfl, hb3⟩
  have kz := blk_below kr2 hb3 (blk_lt kr2)
  have z0 := cell_of_blk kz 0
  have z1 := cell_of_blk kz 1
  have z2 := cell_of_blk kz 2
  have z3 := cell_of_blk kz 3
  have z4 := cell_of_blk kz 4
  have z5 := cell_of_blk kz 5
  have zf := frozen_of_blk kz
  have zl := blk_lt kz
  simp only [List.getElem?_toArray, List.getElem?_cons_zero, List.getElem?_cons_succ] at z0 z1 z2 z3 z4 z5
  have hw3 : Below w.heap.size w w3 := stay_b hw2 hb3
  clear kz hb3
  go_wp2
  exact bodyPost_ret (v := .tuple #[aggM M0, .int .i64 2]) (by simp [results, Tryd.results17, go_sem, M0, z0, z1, z2, z3, z4, z5]) rfl ⟨rfl, set6_below hw3 _ (by omega) _ _ _ _ _ _⟩

set_option maxRecDepth 100000 in
set_option maxHeartbeats 1600000 in
theorem gmir_ok (v c : Int) (w : World) (hl : lineMayB v c = true) (hm : mapMayB (mirB v c) = true) :
    Calls Tryd.prog 17 #[.agg #[.int .i64 v, .int .i64 c]] w fun e w' => e = .returned (.tuple #[aggM (mirB v c), .int .i64 0]) ∧ Below w.heap.size w w' := by
  have HL := Lib.hid hl
  have HK := Lib.hid hm
  clear hl hm
  have hmf : ∀ (fn : Fn) (first cap : Array Value) (w : World), (Instr.makeFunc fn first cap).run Tryd.prog w = .ok (.func fn first cap) w := fun _ _ _ _ => rfl
  go_enter Tryd.func17, Tryd.ntmps17
  go_wp2_with fail
  refine (lineMay_any v c _).mono ?_
  rintro e w1 ⟨rfl, hb1⟩
  rw [HL.out]
  have kl := blk_below (mw_l w v c) hb1 (blk_lt (mw_l w v c))
  have kr := blk_below (mw_r w v c) hb1 (blk_lt (mw_r w v c))
  have hw1 : Below w.heap.size w w1 := stay_b (mw_below w v c) hb1
  clear hb1
  go_wp2_with fail
  refine (toldM_ok _ _ (mirB v c) _ mir1_enter (mir1_any v c w.heap.size (zm w1) (blk_alloc kl _) HL.out)).mono ?_
  rintro e w2 ⟨he, hb2⟩
  obtain ⟨m, hm⟩ : ∃ m, m = mirB v c := ⟨_, rfl⟩
  rw [← hm] at he
  subst he
  have HM := Lib.hid hm
  clear hm
  have HW : Hid (mapMayB m = true) := Lib.hid (by rw [HM.out]; exact HK.out)
  have kr2 := blk_below kr hb2 (blk_lt kr)
  have hw2 := stay_b hw1 hb2
  clear kl kr hb2
  go_wp2_with fail
  refine (fits_ok m _ HW.out).mono ?_
  rintro e w3 ⟨rfl, hb3⟩
  have kz := blk_below kr2 hb3 (blk_lt kr2)
  have z0 := cell_of_blk kz 0
  have z1 := cell_of_blk kz 1
  have z2 := cell_of_blk kz 2
  have z3 := cell_of_blk kz 3
  have z4 := cell_of_blk kz 4
  have z5 := cell_of_blk kz 5
  have zf := frozen_of_blk kz
  have zl := blk_lt kz
  simp only [List.getElem?_toArray, List.getElem?_cons_zero, List.getElem?_cons_succ] at z0 z1 z2 z3 z4 z5
  have hw3 : Below w.heap.size w w3 := stay_b hw2 hb3
  clear kz hb3
  go_wp2
  exact bodyPost_ret (v := .tuple #[aggM m, .int .i64 0]) (by simp [results, Tryd.results17, go_sem, M0, z0, z1, z2, z3, z4, z5]) rfl ⟨by rw [HM.out], set6_below hw3 _ (by omega) _ _ _ _ _ _⟩

end Go.Proofs.YthfhkmgegkhljaaDoor
