/- fits; grid.Mirror. Printed by gen_gr9.py. -/
import Derived.Test.YthfhkmgegkhljaaDoorGr5
import Derived.Test.YthfhkmgegkhljaaDoorGr6
namespace Go.Proofs.YthfhkmgegkhljaaDoor
open Go.RowKit

def M0 : V6 := (0, 0, 0, 0, 0, 0)
theorem mw_below (w : World) (v c : Int) : Below w.heap.size w (mw w v c) := ((Below.refl _ _).alloc (Nat.le_refl _) _).alloc (by simp) _
theorem mw_l (w : World) (v c : Int) : (mw w v c).heap[w.heap.size]? = some (.cells #[.int .i64 v, .int .i64 c] 47 (0, 0)) := blk_alloc (heap_alloc_new w _) _
theorem mw_r (w : World) (v c : Int) : (mw w v c).heap[w.heap.size + 1]? = some (.cells #[.int .i64 0, .int .i64 0, .int .i64 0, .int .i64 0, .int .i64 0, .int .i64 0] 51 (0, 0)) := by
  have e := heap_alloc_new (w.alloc (.cells #[.int .i64 v, .int .i64 c] 47)) (.cells #[.int .i64 0, .int .i64 0, .int .i64 0, .int .i64 0, .int .i64 0, .int .i64 0] 51)
  rw [World.size_alloc] at e
  exact e
def fw (w : World) (m : V6) : World := (w.alloc (.cells #[.int .i64 m.1, .int .i64 m.2.1, .int .i64 m.2.2.1, .int .i64 m.2.2.2.1, .int .i64 m.2.2.2.2.1, .int .i64 m.2.2.2.2.2] 51)).alloc (.cells #[.int .i64 0, .int .i64 0, .int .i64 0, .int .i64 0, .int .i64 0, .int .i64 0] 51)
theorem fw_below (w : World) (m : V6) : Below w.heap.size w (fw w m) := ((Below.refl _ _).alloc (Nat.le_refl _) _).alloc (by simp) _
theorem fw_m (w : World) (m : V6) : (fw w m).heap[w.heap.size]? = some (.cells #[.int .i64 m.1, .int .i64 m.2.1, .int .i64 m.2.2.1, .int .i64 m.2.2.2.1, .int .i64 m.2.2.2.2.1, .int .i64 m.2.2.2.2.2] 51 (0, 0)) := blk_alloc (heap_alloc_new w _) _
theorem fw_r (w : World) (m : V6) : (fw w m).heap[w.heap.size + 1]? = some (.cells #[.int .i64 0, .int .i64 0, .int .i64 0, .int .i64 0, .int .i64 0, .int .i64 0] 51 (0, 0)) := by
  have e := heap_alloc_new (w.alloc (.cells #[.int .i64 m.1, .int .i64 m.2.1, .int .i64 m.2.2.1, .int .i64 m.2.2.2.1, .int .i64 m.2.2.2.2.1, .int .i64 m.2.2.2.2.2] 51)) (.cells #[.int .i64 0, .int .i64 0, .int .i64 0, .int .i64 0, .int .i64 0, .int .i64 0] 51)
  rw [World.size_alloc] at e
  exact e

set_option maxRecDepth 100000 in
set_option maxHeartbeats 1600000 in
theorem fits_err (m : V6) (e : Int) (w : World) (he : (e == 0) = false) :
    Calls Tryd.prog 47 #[aggM m, .int .i64 e] w fun r w' => r = .returned (.tuple #[aggM m, .int .i64 e]) ∧ Below w.heap.size w w' := by
  go_enter Tryd.func47, Tryd.ntmps47
  go_wp2
  refine bodyPost_ret (v := .tuple #[aggM m, .int .i64 e]) (by simp [results, Tryd.results47, go_sem]) rfl ⟨rfl, ?_⟩
  exact ((Below.refl _ _).alloc (Nat.le_refl _) _).alloc (by simp) _
set_option maxRecDepth 100000 in
set_option maxHeartbeats 1600000 in
theorem fits_ok (m : V6) (w : World) (hm : mapMayB m = true) :
    Calls Tryd.prog 47 #[aggM m, .int .i64 0] w fun r w' => r = .returned (.tuple #[aggM m, .int .i64 0]) ∧ Below w.heap.size w w' := by
  have HM := Lib.hid hm
  clear hm
  go_enter Tryd.func47, Tryd.ntmps47
  go_wp2_with fail
  refine (mapMay_any m.1 m.2.1 m.2.2.1 m.2.2.2.1 m.2.2.2.2.1 m.2.2.2.2.2 _).mono ?_
  rintro r w1 ⟨he, hb1⟩
  rw [show mapMayB (m.1, m.2.1, m.2.2.1, m.2.2.2.1, m.2.2.2.2.1, m.2.2.2.2.2) = true from HM.out] at he
  subst he
  have km := blk_below (fw_m w m) hb1 (blk_lt (fw_m w m))
  have kz := blk_below (fw_r w m) hb1 (blk_lt (fw_r w m))
  have m0 := cell_of_blk km 0
  have m1 := cell_of_blk km 1
  have m2 := cell_of_blk km 2
  have m3 := cell_of_blk km 3
  have m4 := cell_of_blk km 4
  have m5 := cell_of_blk km 5
  have mf := frozen_of_blk km
  have ml := blk_lt km
  simp only [List.getElem?_toArray, List.getElem?_cons_zero, List.getElem?_cons_succ] at m0 m1 m2 m3 m4 m5
  have z0 := cell_of_blk kz 0
  have z1 := cell_of_blk kz 1
  have z2 := cell_of_blk kz 2
  have z3 := cell_of_blk kz 3
  have z4 := cell_of_blk kz 4
  have z5 := cell_of_blk kz 5
  have zf := frozen_of_blk kz
  have zl := blk_lt kz
  simp only [List.getElem?_toArray, List.getElem?_cons_zero, List.getElem?_cons_succ] at z0 z1 z2 z3 z4 z5
  have hw1 : Below w.heap.size w w1 := stay_b (fw_below w m) hb1
  clear km kz hb1
  go_wp2
  exact bodyPost_ret (v := .tuple #[aggM m, .int .i64 0]) (by simp [results, Tryd.results47, go_sem, M0, z0, z1, z2, z3, z4, z5]) rfl ⟨rfl, set6_below hw1 _ (by omega) _ _ _ _ _ _⟩
set_option maxRecDepth 100000 in
set_option maxHeartbeats 1600000 in
theorem fits_no (m : V6) (w : World) (hm : mapMayB m = false) :
    Calls Tryd.prog 47 #[aggM m, .int .i64 0] w fun r w' => r = .returned (.tuple #[aggM M0, .int .i64 2]) ∧ Below w.heap.size w w' := by
  have HM := Lib.hid hm
  clear hm
  go_enter Tryd.func47, Tryd.ntmps47
  go_wp2_with fail
  refine (mapMay_any m.1 m.2.1 m.2.2.1 m.2.2.2.1 m.2.2.2.2.1 m.2.2.2.2.2 _).mono ?_
  rintro r w1 ⟨he, hb1⟩
  rw [show mapMayB (m.1, m.2.1, m.2.2.1, m.2.2.2.1, m.2.2.2.2.1, m.2.2.2.2.2) = false from HM.out] at he
  subst he
  have km := blk_below (fw_m w m) hb1 (blk_lt (fw_m w m))
  have kz := blk_below (fw_r w m) hb1 (blk_lt (fw_r w m))
  have m0 := cell_of_blk km 0
  have m1 := cell_of_blk km 1
  have m2 := cell_of_blk km 2
  have m3 := cell_of_blk km 3
  have m4 := cell_of_blk km 4
  have m5 := cell_of_blk km 5
  have mf := frozen_of_blk km
  have ml := blk_lt km
  simp only [List.getElem?_toArray, List.getElem?_cons_zero, List.getElem?_cons_succ] at m0 m1 m2 m3 m4 m5
  have z0 := cell_of_blk kz 0
  have z1 := cell_of_blk kz 1
  have z2 := cell_of_blk kz 2
  have z3 := cell_of_blk kz 3
  have z4 := cell_of_blk kz 4
  have z5 := cell_of_blk kz 5
  have zf := frozen_of_blk kz
  have zl := blk_lt kz
  simp only [List.getElem?_toArray, List.getElem?_cons_zero, List.getElem?_cons_succ] at z0 z1 z2 z3 z4 z5
  have hw1 : Below w.heap.size w w1 := stay_b (fw_below w m) hb1
  clear km kz hb1
  go_wp2
  exact bodyPost_ret (v := .tuple #[aggM M0, .int .i64 2]) (by simp [results, Tryd.results47, go_sem, M0, z0, z1, z2, z3, z4, z5]) rfl ⟨rfl, set6_below hw1 _ (by omega) _ _ _ _ _ _⟩
theorem mir1_enter (args : Array Value) (wx : World) : (callFunc 49 args).run Tryd.prog wx = .ok (.enter 49 args) wx := by kernel_rfl
end Go.Proofs.YthfhkmgegkhljaaDoor
