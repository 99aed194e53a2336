/- grid.Side. Printed by gen_gr8.py. -/
import Derived.Test.YthfhkmgegkhljaaDoorGr7
import Derived.Test.YthfhkmgegkhljaaDoorGr6
namespace Go.Proofs.YthfhkmgegkhljaaDoor
open Go.RowKit

theorem boxes_t (w : World) (v c x y k : Int) : (boxes w v c x y k).heap[w.heap.size + 1]? = some (.cells #[.int .i64 x, .int .i64 y, .int .i64 k] 23 (0, 0)) := by
  have e := heap_alloc_new (w.alloc (.cells #[.int .i64 v, .int .i64 c] 47)) (.cells #[.int .i64 x, .int .i64 y, .int .i64 k] 23)
  rw [World.size_alloc] at e
  exact e
theorem lineMayB_bd {v c : Int} (h : lineMayB v c = true) : (0 ≤ v ∧ v ≤ 3) ∧ (-1000000 ≤ c ∧ c ≤ 1000000) ∧ c % 2 = 0 := by simp [lineMayB, inN] at h; omega
theorem triMayB_bd {x y k : Int} (h : triMayB x y k = true) : (-1000000 ≤ x ∧ x ≤ 1000000) ∧ (-1000000 ≤ y ∧ y ≤ 1000000) ∧ 0 ≤ k ∧ k ≤ 3 := by simp [triMayB, inN] at h; omega
theorem side1_enter (args : Array Value) (wx : World) : (callFunc 45 args).run Tryd.prog wx = .ok (.enter 45 args) wx := by kernel_rfl

set_option maxHeartbeats 800000 in
theorem side1_any (v c x y k : Int) (g : Nat) (w : World) (hs : Steps w) (kl : w.heap[g]? = some (.cells #[.int .i64 v, .int .i64 c] 47 (0, 0))) (kt : w.heap[g + 1]? = some (.cells #[.int .i64 x, .int .i64 y, .int .i64 k] 23 (0, 0)))
    (hl : lineMayB v c = true) (ht : triMayB x y k = true) :
    Calls Tryd.prog 45 #[.pointer (some ⟨g, 0, none⟩), .pointer (some ⟨g + 1, 0, none⟩)] w fun e w' => e = .returned (.int .i64 (sideB v c x y k)) ∧ Below w.heap.size w w' := by
  obtain ⟨⟨_, _⟩, ⟨c1, c2⟩, _⟩ := lineMayB_bd hl
  obtain ⟨⟨x1, x2⟩, ⟨y1, y2⟩, k1, k2⟩ := triMayB_bd ht
  have l0 := cell_of_blk kl 0
  have l1 := cell_of_blk kl 1
  have t0 := cell_of_blk kt 0
  have t1 := cell_of_blk kt 1
  have t2 := cell_of_blk kt 2
  simp only [List.getElem?_toArray, List.getElem?_cons_zero, List.getElem?_cons_succ] at l0 l1 t0 t1 t2
  clear hl ht kl kt
  go_enter Tryd.func45, Tryd.ntmps45
  go_wp2_with fail
  refine (side_any v c x y k _ hs c1 c2 x1 x2 y1 y2 k1 k2).mono ?_
  rintro e w1 ⟨rfl, hb1⟩
  go_wp2
  go_ret
  exact ⟨rfl, hb1⟩

set_option maxRecDepth 100000 in
set_option maxHeartbeats 1600000 in
theorem gside_noL (v c x y k : Int) (w : World) (hl : lineMayB v c = false) :
    Calls Tryd.prog 16 #[.agg #[.int .i64 v, .int .i64 c], .agg #[.int .i64 x, .int .i64 y, .int .i64 k]] w fun e w' => e = .returned (.tuple #[.int .i64 0, .int .i64 3]) ∧ Below w.heap.size w w' := by
  have HL := Lib.hid hl
  clear hl
  have hmf : ∀ (fn : Fn) (first cap : Array Value) (w : World), (Instr.makeFunc fn first cap).run Tryd.prog w = .ok (.func fn first cap) w := fun _ _ _ _ => rfl
  go_enter Tryd.func16, Tryd.ntmps16
  go_wp2_with fail
  refine (lineMay_any v c _).mono ?_
  rintro e w1 ⟨rfl, hb1⟩
  rw [HL.out]
  have kl := blk_below (boxes_l w v c x y k) hb1 (blk_lt (boxes_l w v c x y k))
  have kt := blk_below (boxes_t w v c x y k) hb1 (blk_lt (boxes_t w v c x y k))
  have t0 := cell_of_blk kt 0
  have t1 := cell_of_blk kt 1
  have t2 := cell_of_blk kt 2
  simp only [List.getElem?_toArray, List.getElem?_cons_zero, List.getElem?_cons_succ] at t0 t1 t2
  have hw1 : Below w.heap.size w w1 := stay_b (boxes_below w v c x y k) hb1
  go_wp2_with fail
  refine (toldI_no _ _).mono ?_
  rintro e w9 ⟨rfl, rfl⟩
  go_wp2
  go_ret2
  exact ⟨rfl, hw1⟩

set_option maxRecDepth 100000 in
set_option maxHeartbeats 1600000 in
theorem gside_noT (v c x y k : Int) (w : World) (hl : lineMayB v c = true) (ht : triMayB x y k = false) :
    Calls Tryd.prog 16 #[.agg #[.int .i64 v, .int .i64 c], .agg #[.int .i64 x, .int .i64 y, .int .i64 k]] w fun e w' => e = .returned (.tuple #[.int .i64 0, .int .i64 3]) ∧ Below w.heap.size w w' := by
  have HL := Lib.hid hl
  have HT := Lib.hid ht
  clear hl ht
  have hmf : ∀ (fn : Fn) (first cap : Array Value) (w : World), (Instr.makeFunc fn first cap).run Tryd.prog w = .ok (.func fn first cap) w := fun _ _ _ _ => rfl
  go_enter Tryd.func16, Tryd.ntmps16
  go_wp2_with fail
  refine (lineMay_any v c _).mono ?_
  rintro e w1 ⟨rfl, hb1⟩
  rw [HL.out]
  have kl := blk_below (boxes_l w v c x y k) hb1 (blk_lt (boxes_l w v c x y k))
  have kt := blk_below (boxes_t w v c x y k) hb1 (blk_lt (boxes_t w v c x y k))
  have t0 := cell_of_blk kt 0
  have t1 := cell_of_blk kt 1
  have t2 := cell_of_blk kt 2
  simp only [List.getElem?_toArray, List.getElem?_cons_zero, List.getElem?_cons_succ] at t0 t1 t2
  have hw1 : Below w.heap.size w w1 := stay_b (boxes_below w v c x y k) hb1
  go_wp2_with fail
  refine (triMay_any x y k _).mono ?_
  rintro e w2 ⟨rfl, hb2⟩
  rw [HT.out]
  have kl2 := blk_below kl hb2 (blk_lt kl)
  have kt2 := blk_below kt hb2 (blk_lt kt)
  have hw2 := stay_b hw1 hb2
  go_wp2_with fail
  refine (toldI_no _ _).mono ?_
  rintro e w9 ⟨rfl, rfl⟩
  go_wp2
  go_ret2
  exact ⟨rfl, hw2⟩

set_option maxRecDepth 100000 in
set_option maxHeartbeats 1600000 in
theorem gside_ok (v c x y k : Int) (w : World) (hs : Steps w) (hl : lineMayB v c = true) (ht : triMayB x y k = true) :
    Calls Tryd.prog 16 #[.agg #[.int .i64 v, .int .i64 c], .agg #[.int .i64 x, .int .i64 y, .int .i64 k]] w fun e w' => e = .returned (.tuple #[.int .i64 (sideB v c x y k), .int .i64 0]) ∧ Below w.heap.size w w' := by
  have HL := Lib.hid hl
  have HT := Lib.hid ht
  clear hl ht
  have hmf : ∀ (fn : Fn) (first cap : Array Value) (w : World), (Instr.makeFunc fn first cap).run Tryd.prog w = .ok (.func fn first cap) w := fun _ _ _ _ => rfl
  go_enter Tryd.func16, Tryd.ntmps16
  go_wp2_with fail
  refine (lineMay_any v c _).mono ?_
  rintro e w1 ⟨rfl, hb1⟩
  rw [HL.out]
  have kl := blk_below (boxes_l w v c x y k) hb1 (blk_lt (boxes_l w v c x y k))
  have kt := blk_below (boxes_t w v c x y k) hb1 (blk_lt (boxes_t w v c x y k))
  have t0 := cell_of_blk kt 0
  have t1 := cell_of_blk kt 1
  have t2 := cell_of_blk kt 2
  simp only [List.getElem?_toArray, List.getElem?_cons_zero, List.getElem?_cons_succ] at t0 t1 t2
  have hw1 : Below w.heap.size w w1 := stay_b (boxes_below w v c x y k) hb1
  go_wp2_with fail
  refine (triMay_any x y k _).mono ?_
  rintro e w2 ⟨rfl, hb2⟩
  rw [HT.out]
  have kl2 := blk_below kl hb2 (blk_lt kl)
  have kt2 := blk_below kt hb2 (blk_lt kt)
  have hw2 := stay_b hw1 hb2
  have hs2 := hs.below hw2
  go_wp2_with fail
  refine (toldI_ok _ _ _ _ _ side1_enter (side1_any v c x y k w.heap.size w2 hs2 kl2 kt2 HL.out HT.out)).mono ?_
  rintro e w3 ⟨rfl, hb3⟩
  go_wp2
  go_ret2
  exact ⟨rfl, stay_b hw2 hb3⟩

end Go.Proofs.YthfhkmgegkhljaaDoor
