/- tile.Next; grid.Across. Printed by gen_gr22.py. -/
import Derived.Test.YthfhkmgegkhljaaDoorGr21
namespace Go.Proofs.YthfhkmgegkhljaaDoor
open Go.RowKit

abbrev T3 := Int × Int × Int
abbrev aggT3 (t : T3) : Value := .agg #[.int .i64 t.1, .int .i64 t.2.1, .int .i64 t.2.2]
def nextT (x y k : Int) (i : Nat) : T3 := match i with
  | 0 => (x, y, (k + 3) % 4)
  | 1 => (x + (if k = 1 then 1 else if k = 3 then -1 else 0), y + (if k = 0 then -1 else if k = 2 then 1 else 0), (k + 2) % 4)
  | _ => (x, y, (k + 1) % 4)

theorem idx_0 (w : World) : (Instr.index 96 (.agg #[.int .i64 0, .int .i64 (-1), .int .i64 1, .int .i64 0, .int .i64 0, .int .i64 1, .int .i64 (-1), .int .i64 0]) (.int .i64 0)).run Tryd.prog w = .ok (.agg #[.int .i64 0, .int .i64 (-1)]) w := by first | rfl | kernel_rfl | simp [Instr.index, go_sem]
theorem idx_1 (w : World) : (Instr.index 96 (.agg #[.int .i64 0, .int .i64 (-1), .int .i64 1, .int .i64 0, .int .i64 0, .int .i64 1, .int .i64 (-1), .int .i64 0]) (.int .i64 1)).run Tryd.prog w = .ok (.agg #[.int .i64 1, .int .i64 0]) w := by first | rfl | kernel_rfl | simp [Instr.index, go_sem]
theorem idx_2 (w : World) : (Instr.index 96 (.agg #[.int .i64 0, .int .i64 (-1), .int .i64 1, .int .i64 0, .int .i64 0, .int .i64 1, .int .i64 (-1), .int .i64 0]) (.int .i64 2)).run Tryd.prog w = .ok (.agg #[.int .i64 0, .int .i64 1]) w := by first | rfl | kernel_rfl | simp [Instr.index, go_sem]
theorem idx_3 (w : World) : (Instr.index 96 (.agg #[.int .i64 0, .int .i64 (-1), .int .i64 1, .int .i64 0, .int .i64 0, .int .i64 1, .int .i64 (-1), .int .i64 0]) (.int .i64 3)).run Tryd.prog w = .ok (.agg #[.int .i64 (-1), .int .i64 0]) w := by first | rfl | kernel_rfl | simp [Instr.index, go_sem]
set_option maxRecDepth 100000 in
set_option maxHeartbeats 1600000 in
theorem next_00 (x y : Int) (w : World) (x1 : -1000000 ≤ x) (x2 : x ≤ 1000000) (y1 : -1000000 ≤ y) (y2 : y ≤ 1000000) :
    Calls Tryd.prog 39 #[aggT x y 0, .int .i64 0] w fun e w' => e = .returned (.agg #[.int .i64 x, .int .i64 y, .int .i64 3]) ∧ Below w.heap.size w w' := by
  have hx : bits .and .i64 (0 + 3) 3 = 3 := by rw [and3]; rfl
  have hx2 : bits .and .i64 3 3 = 3 := by rw [and3]; rfl
  go_enter Tryd.func39, Tryd.ntmps39
  go_wp2
  exact bodyPost_ret (v := .agg #[.int .i64 x, .int .i64 y, .int .i64 3]) (by simp [results, Tryd.results39, go_sem]) rfl ⟨rfl, ba (ba (Below.refl _ _) _) _⟩
set_option maxRecDepth 100000 in
set_option maxHeartbeats 1600000 in
theorem next_01 (x y : Int) (w : World) (x1 : -1000000 ≤ x) (x2 : x ≤ 1000000) (y1 : -1000000 ≤ y) (y2 : y ≤ 1000000) :
    Calls Tryd.prog 39 #[aggT x y 1, .int .i64 0] w fun e w' => e = .returned (.agg #[.int .i64 x, .int .i64 y, .int .i64 0]) ∧ Below w.heap.size w w' := by
  have hx : bits .and .i64 (1 + 3) 3 = 0 := by rw [and3]; rfl
  have hx2 : bits .and .i64 4 3 = 0 := by rw [and3]; rfl
  go_enter Tryd.func39, Tryd.ntmps39
  go_wp2
  exact bodyPost_ret (v := .agg #[.int .i64 x, .int .i64 y, .int .i64 0]) (by simp [results, Tryd.results39, go_sem]) rfl ⟨rfl, ba (ba (Below.refl _ _) _) _⟩
set_option maxRecDepth 100000 in
set_option maxHeartbeats 1600000 in
theorem next_02 (x y : Int) (w : World) (x1 : -1000000 ≤ x) (x2 : x ≤ 1000000) (y1 : -1000000 ≤ y) (y2 : y ≤ 1000000) :
    Calls Tryd.prog 39 #[aggT x y 2, .int .i64 0] w fun e w' => e = .returned (.agg #[.int .i64 x, .int .i64 y, .int .i64 1]) ∧ Below w.heap.size w w' := by
  have hx : bits .and .i64 (2 + 3) 3 = 1 := by rw [and3]; rfl
  have hx2 : bits .and .i64 5 3 = 1 := by rw [and3]; rfl
  go_enter Tryd.func39, Tryd.ntmps39
  go_wp2
  exact bodyPost_ret (v := .agg #[.int .i64 x, .int .i64 y, .int .i64 1]) (by simp [results, Tryd.results39, go_sem]) rfl ⟨rfl, ba (ba (Below.refl _ _) _) _⟩
set_option maxRecDepth 100000 in
set_option maxHeartbeats 1600000 in
theorem next_03 (x y : Int) (w : World) (x1 : -1000000 ≤ x) (x2 : x ≤ 1000000) (y1 : -1000000 ≤ y) (y2 : y ≤ 1000000) :
    Calls Tryd.prog 39 #[aggT x y 3, .int .i64 0] w fun e w' => e = .returned (.agg #[.int .i64 x, .int .i64 y, .int .i64 2]) ∧ Below w.heap.size w w' := by
  have hx : bits .and .i64 (3 + 3) 3 = 2 := by rw [and3]; rfl
  have hx2 : bits .and .i64 6 3 = 2 := by rw [and3]; rfl
  go_enter Tryd.func39, Tryd.ntmps39
  go_wp2
  exact bodyPost_ret (v := .agg #[.int .i64 x, .int .i64 y, .int .i64 2]) (by simp [results, Tryd.results39, go_sem]) rfl ⟨rfl, ba (ba (Below.refl _ _) _) _⟩
set_option maxRecDepth 100000 in
set_option maxHeartbeats 1600000 in
theorem next_10 (x y : Int) (w : World) (x1 : -1000000 ≤ x) (x2 : x ≤ 1000000) (y1 : -1000000 ≤ y) (y2 : y ≤ 1000000) :
    Calls Tryd.prog 39 #[aggT x y 0, .int .i64 1] w fun e w' => e = .returned (.agg #[.int .i64 x, .int .i64 (y + (-1)), .int .i64 2]) ∧ Below w.heap.size w w' := by
  have hi := idx_0
  have hx : bits .xor .i64 0 2 = 2 := by decide
  go_enter Tryd.func39, Tryd.ntmps39
  go_wp2
  exact bodyPost_ret (v := .agg #[.int .i64 x, .int .i64 (y + (-1)), .int .i64 2]) (by simp [results, Tryd.results39, go_sem]) rfl ⟨rfl, ba (ba (ba (Below.refl _ _) _) _) _⟩
set_option maxRecDepth 100000 in
set_option maxHeartbeats 1600000 in
theorem next_11 (x y : Int) (w : World) (x1 : -1000000 ≤ x) (x2 : x ≤ 1000000) (y1 : -1000000 ≤ y) (y2 : y ≤ 1000000) :
    Calls Tryd.prog 39 #[aggT x y 1, .int .i64 1] w fun e w' => e = .returned (.agg #[.int .i64 (x + 1), .int .i64 y, .int .i64 3]) ∧ Below w.heap.size w w' := by
  have hi := idx_1
  have hx : bits .xor .i64 1 2 = 3 := by decide
  go_enter Tryd.func39, Tryd.ntmps39
  go_wp2
  exact bodyPost_ret (v := .agg #[.int .i64 (x + 1), .int .i64 y, .int .i64 3]) (by simp [results, Tryd.results39, go_sem]) rfl ⟨rfl, ba (ba (ba (Below.refl _ _) _) _) _⟩
set_option maxRecDepth 100000 in
set_option maxHeartbeats 1600000 in
theorem next_12 (x y : Int) (w : World) (x1 : -1000000 ≤ x) (x2 : x ≤ 1000000) (y1 : -1000000 ≤ y) (y2 : y ≤ 1000000) :
    Calls Tryd.prog 39 #[aggT x y 2, .int .i64 1] w fun e w' => e = .returned (.agg #[.int .i64 x, .int .i64 (y + 1), .int .i64 0]) ∧ Below w.heap.size w w' := by
  have hi := idx_2
  have hx : bits .xor .i64 2 2 = 0 := by decide
  go_enter Tryd.func39, Tryd.ntmps39
  go_wp2
  exact bodyPost_ret (v := .agg #[.int .i64 x, .int .i64 (y + 1), .int .i64 0]) (by simp [results, Tryd.results39, go_sem]) rfl ⟨rfl, ba (ba (ba (Below.refl _ _) _) _) _⟩
set_option maxRecDepth 100000 in
set_option maxHeartbeats 1600000 in
theorem next_13 (x y : Int) (w : World) (x1 : -1000000 ≤ x) (x2 : x ≤ 1000000) (y1 : -1000000 ≤ y) (y2 : y ≤ 1000000) :
    Calls Tryd.prog 39 #[aggT x y 3, .int .i64 1] w fun e w' => e = .returned (.agg #[.int .i64 (x + (-1)), .int .i64 y, .int .i64 1]) ∧ Below w.heap.size w w' := by
  have hi := idx_3
  have hx : bits .xor .i64 3 2 = 1 := by decide
  go_enter Tryd.func39, Tryd.ntmps39
  go_wp2
  exact bodyPost_ret (v := .agg #[.int .i64 (x + (-1)), .int .i64 y, .int .i64 1]) (by simp [results, Tryd.results39, go_sem]) rfl ⟨rfl, ba (ba (ba (Below.refl _ _) _) _) _⟩
set_option maxRecDepth 100000 in
set_option maxHeartbeats 1600000 in
theorem next_20 (x y : Int) (w : World) (x1 : -1000000 ≤ x) (x2 : x ≤ 1000000) (y1 : -1000000 ≤ y) (y2 : y ≤ 1000000) :
    Calls Tryd.prog 39 #[aggT x y 0, .int .i64 2] w fun e w' => e = .returned (.agg #[.int .i64 x, .int .i64 y, .int .i64 1]) ∧ Below w.heap.size w w' := by
  have hx : bits .and .i64 (0 + 1) 3 = 1 := by rw [and3]; rfl
  have hx2 : bits .and .i64 1 3 = 1 := by rw [and3]; rfl
  go_enter Tryd.func39, Tryd.ntmps39
  go_wp2
  exact bodyPost_ret (v := .agg #[.int .i64 x, .int .i64 y, .int .i64 1]) (by simp [results, Tryd.results39, go_sem]) rfl ⟨rfl, ba (ba (Below.refl _ _) _) _⟩
set_option maxRecDepth 100000 in
set_option maxHeartbeats 1600000 in
theorem next_21 (x y : Int) (w : World) (x1 : -1000000 ≤ x) (x2 : x ≤ 1000000) (y1 : -1000000 ≤ y) (y2 : y ≤ 1000000) :
    Calls Tryd.prog 39 #[aggT x y 1, .int .i64 2] w fun e w' => e = .returned (.agg #[.int .i64 x, .int .i64 y, .int .i64 2]) ∧ Below w.heap.size w w' := by
  have hx : bits .and .i64 (1 + 1) 3 = 2 := by rw [and3]; rfl
  have hx2 : bits .and .i64 2 3 = 2 := by rw [and3]; rfl
  go_enter Tryd.func39, Tryd.ntmps39
  go_wp2
  exact bodyPost_ret (v := .agg #[.int .i64 x, .int .i64 y, .int .i64 2]) (by simp [results, Tryd.results39, go_sem]) rfl ⟨rfl, ba (ba (Below.refl _ _) _) _⟩
set_option maxRecDepth 100000 in
set_option maxHeartbeats 1600000 in
theorem next_22 (x y : Int) (w : World) (x1 : -1000000 ≤ x) (x2 : x ≤ 1000000) (y1 : -1000000 ≤ y) (y2 : y ≤ 1000000) :
    Calls Tryd.prog 39 #[aggT x y 2, .int .i64 2] w fun e w' => e = .returned (.agg #[.int .i64 x, .int .i64 y, .int .i64 3]) ∧ Below w.heap.size w w' := by
  have hx : bits .and .i64 (2 + 1) 3 = 3 := by rw [and3]; rfl
  have hx2 : bits .and .i64 3 3 = 3 := by rw [and3]; rfl
  go_enter Tryd.func39, Tryd.ntmps39
  go_wp2
  exact bodyPost_ret (v := .agg #[.int .i64 x, .int .i64 y, .int .i64 3]) (by simp [results, Tryd.results39, go_sem]) rfl ⟨rfl, ba (ba (Below.refl _ _) _) _⟩
set_option maxRecDepth 100000 in
set_option maxHeartbeats 1600000 in
theorem next_23 (x y : Int) (w : World) (x1 : -1000000 ≤ x) (x2 : x ≤ 1000000) (y1 : -1000000 ≤ y) (y2 : y ≤ 1000000) :
    Calls Tryd.prog 39 #[aggT x y 3, .int .i64 2] w fun e w' => e = .returned (.agg #[.int .i64 x, .int .i64 y, .int .i64 0]) ∧ Below w.heap.size w w' := by
  have hx : bits .and .i64 (3 + 1) 3 = 0 := by rw [and3]; rfl
  have hx2 : bits .and .i64 4 3 = 0 := by rw [and3]; rfl
  go_enter Tryd.func39, Tryd.ntmps39
  go_wp2
  exact bodyPost_ret (v := .agg #[.int .i64 x, .int .i64 y, .int .i64 0]) (by simp [results, Tryd.results39, go_sem]) rfl ⟨rfl, ba (ba (Below.refl _ _) _) _⟩
theorem next_any (x y k : Int) (i : Nat) (w : World) (hi : i < 3) (x1 : -1000000 ≤ x) (x2 : x ≤ 1000000) (y1 : -1000000 ≤ y) (y2 : y ≤ 1000000) (k1 : 0 ≤ k) (k2 : k ≤ 3) :
    Calls Tryd.prog 39 #[aggT x y k, .int .i64 i] w fun e w' => e = .returned (aggT3 (nextT x y k i)) ∧ Below w.heap.size w w' := by
  have hi' : i = 0 ∨ i = 1 ∨ i = 2 := by omega
  have hk : k = 0 ∨ k = 1 ∨ k = 2 ∨ k = 3 := by omega
  rcases hi' with rfl | rfl | rfl <;> rcases hk with rfl | rfl | rfl | rfl
  · exact (next_00 x y w x1 x2 y1 y2).mono fun e w' ⟨he, hb⟩ => ⟨by rw [he]; simp [nextT], hb⟩
  · exact (next_01 x y w x1 x2 y1 y2).mono fun e w' ⟨he, hb⟩ => ⟨by rw [he]; simp [nextT], hb⟩
  · exact (next_02 x y w x1 x2 y1 y2).mono fun e w' ⟨he, hb⟩ => ⟨by rw [he]; simp [nextT], hb⟩
  · exact (next_03 x y w x1 x2 y1 y2).mono fun e w' ⟨he, hb⟩ => ⟨by rw [he]; simp [nextT], hb⟩
  · exact (next_10 x y w x1 x2 y1 y2).mono fun e w' ⟨he, hb⟩ => ⟨by rw [he]; simp [nextT], hb⟩
  · exact (next_11 x y w x1 x2 y1 y2).mono fun e w' ⟨he, hb⟩ => ⟨by rw [he]; simp [nextT], hb⟩
  · exact (next_12 x y w x1 x2 y1 y2).mono fun e w' ⟨he, hb⟩ => ⟨by rw [he]; simp [nextT], hb⟩
  · exact (next_13 x y w x1 x2 y1 y2).mono fun e w' ⟨he, hb⟩ => ⟨by rw [he]; simp [nextT], hb⟩
  · exact (next_20 x y w x1 x2 y1 y2).mono fun e w' ⟨he, hb⟩ => ⟨by rw [he]; simp [nextT], hb⟩
  · exact (next_21 x y w x1 x2 y1 y2).mono fun e w' ⟨he, hb⟩ => ⟨by rw [he]; simp [nextT], hb⟩
  · exact (next_22 x y w x1 x2 y1 y2).mono fun e w' ⟨he, hb⟩ => ⟨by rw [he]; simp [nextT], hb⟩
  · exact (next_23 x y w x1 x2 y1 y2).mono fun e w' ⟨he, hb⟩ => ⟨by rw [he]; simp [nextT], hb⟩
theorem set3_below {w w1 : World} (h : Below w.heap.size w w1) (g : Nat) (hg : w.heap.size ≤ g) (a b c : Value) : Below w.heap.size w (((w1.setCell ⟨g, 0, none⟩ a).setCell ⟨g, 1, none⟩ b).setCell ⟨g, 2, none⟩ c) := ((h.setCell hg a).setCell hg b).setCell hg c

set_option maxRecDepth 100000 in
set_option maxHeartbeats 3200000 in
theorem across_noT (x y k : Int) (m : E4) (w : World) (ht : triMayB x y k = false) :
    Calls Tryd.prog 10 #[aggT x y k, aggE m] w fun e w' => e = .returned (.tuple #[.agg #[.int .i64 0, .int .i64 0, .int .i64 0], .int .i64 3]) ∧ Below w.heap.size w w' := by
  have HT := Lib.hid ht
  clear ht
  go_enter Tryd.func10, Tryd.ntmps10
  go_wp2_with fail
  refine (gedges_no x y k _ HT.out).mono ?_
  rintro e w1 ⟨rfl, hb1⟩
  have k_t_1 : w1.heap[w.heap.size]? = some (.cells #[.int .i64 x, .int .i64 y, .int .i64 k] 23 (0, 0)) := blk_below (blk_alloc (blk_alloc (new_blk (.cells #[.int .i64 x, .int .i64 y, .int .i64 k] 23) (by first | rfl | (simp; done) | (simp; omega))) _) _) hb1 (by first | (simp; done) | (simp; omega))
  have k_e_1 : w1.heap[w.heap.size + 1]? = some (.cells #[.int .i64 (m.1), .int .i64 (m.2.1), .int .i64 (m.2.2.1), .int .i64 (m.2.2.2)] 27 (0, 0)) := blk_below (blk_alloc (new_blk (.cells #[.int .i64 (m.1), .int .i64 (m.2.1), .int .i64 (m.2.2.1), .int .i64 (m.2.2.2)] 27) (by first | rfl | (simp; done) | (simp; omega))) _) hb1 (by first | (simp; done) | (simp; omega))
  have k_r_1 : w1.heap[w.heap.size + 1 + 1]? = some (.cells #[.int .i64 0, .int .i64 0, .int .i64 0] 23 (0, 0)) := blk_below (new_blk (.cells #[.int .i64 0, .int .i64 0, .int .i64 0] 23) (by first | rfl | (simp; done) | (simp; omega))) hb1 (by first | (simp; done) | (simp; omega))
  have hw_1 : Below w.heap.size w w1 := stay_b (ba (ba (ba (Below.refl _ _) _) _) _) hb1
  clear hb1
  have c_t_0 := cell_of_blk k_t_1 0
  have c_t_1 := cell_of_blk k_t_1 1
  have c_t_2 := cell_of_blk k_t_1 2
  simp only [List.getElem?_toArray, List.getElem?_cons_zero, List.getElem?_cons_succ] at c_t_0 c_t_1 c_t_2
  have f_t := frozen_of_blk k_t_1
  have s_t := blk_lt k_t_1
  have c_e_0 := cell_of_blk k_e_1 0
  have c_e_1 := cell_of_blk k_e_1 1
  have c_e_2 := cell_of_blk k_e_1 2
  have c_e_3 := cell_of_blk k_e_1 3
  simp only [List.getElem?_toArray, List.getElem?_cons_zero, List.getElem?_cons_succ] at c_e_0 c_e_1 c_e_2 c_e_3
  have f_e := frozen_of_blk k_e_1
  have s_e := blk_lt k_e_1
  have c_r_0 := cell_of_blk k_r_1 0
  have c_r_1 := cell_of_blk k_r_1 1
  have c_r_2 := cell_of_blk k_r_1 2
  simp only [List.getElem?_toArray, List.getElem?_cons_zero, List.getElem?_cons_succ] at c_r_0 c_r_1 c_r_2
  have f_r := frozen_of_blk k_r_1
  have s_r := blk_lt k_r_1
  go_wp2
  refine bodyPost_ret (v := .tuple #[.agg #[.int .i64 0, .int .i64 0, .int .i64 0], .int .i64 3]) (by simp [results, Tryd.results10, go_sem, c_r_0, c_r_1, c_r_2, World.cell?_alloc_lt, World.size_setCell, s_r]) rfl ⟨rfl, ?_⟩
  exact ba (set3_below hw_1 _ (by omega) _ _ _) _
set_option maxRecDepth 100000 in
set_option maxHeartbeats 3200000 in
theorem across_none (x y k : Int) (m : E4) (w : World) (hs : Steps w) (ht : triMayB x y k = true) (hi : idxE (edgeT x y k 0) (edgeT x y k 1) (edgeT x y k 2) m = -1) :
    Calls Tryd.prog 10 #[aggT x y k, aggE m] w fun e w' => e = .returned (.tuple #[.agg #[.int .i64 0, .int .i64 0, .int .i64 0], .int .i64 5]) ∧ Below w.heap.size w w' := by
  have HT := Lib.hid ht
  obtain ⟨⟨x1, x2⟩, ⟨y1, y2⟩, k1, k2⟩ := triMayB_bd ht
  obtain ⟨E0, hE0⟩ : ∃ a : E4, a = edgeT x y k 0 := ⟨_, rfl⟩
  have HE0 := Lib.hid hE0
  clear hE0
  obtain ⟨E1, hE1⟩ : ∃ a : E4, a = edgeT x y k 1 := ⟨_, rfl⟩
  have HE1 := Lib.hid hE1
  clear hE1
  obtain ⟨E2, hE2⟩ : ∃ a : E4, a = edgeT x y k 2 := ⟨_, rfl⟩
  have HE2 := Lib.hid hE2
  clear hE2
  rw [← HE0.out, ← HE1.out, ← HE2.out] at hi
  have HI := Lib.hid hi
  clear hi
  clear ht
  go_enter Tryd.func10, Tryd.ntmps10
  go_wp2_with fail
  refine (gedges_ok x y k _ (((hs.alloc _).alloc _).alloc _) HT.out).mono ?_
  rintro e w1 ⟨he, hb1⟩
  rw [← HE0.out, ← HE1.out, ← HE2.out] at he
  subst he
  have k_t_1 : w1.heap[w.heap.size]? = some (.cells #[.int .i64 x, .int .i64 y, .int .i64 k] 23 (0, 0)) := blk_below (blk_alloc (blk_alloc (new_blk (.cells #[.int .i64 x, .int .i64 y, .int .i64 k] 23) (by first | rfl | (simp; done) | (simp; omega))) _) _) hb1 (by first | (simp; done) | (simp; omega))
  have k_e_1 : w1.heap[w.heap.size + 1]? = some (.cells #[.int .i64 (m.1), .int .i64 (m.2.1), .int .i64 (m.2.2.1), .int .i64 (m.2.2.2)] 27 (0, 0)) := blk_below (blk_alloc (new_blk (.cells #[.int .i64 (m.1), .int .i64 (m.2.1), .int .i64 (m.2.2.1), .int .i64 (m.2.2.2)] 27) (by first | rfl | (simp; done) | (simp; omega))) _) hb1 (by first | (simp; done) | (simp; omega))
  have k_r_1 : w1.heap[w.heap.size + 1 + 1]? = some (.cells #[.int .i64 0, .int .i64 0, .int .i64 0] 23 (0, 0)) := blk_below (new_blk (.cells #[.int .i64 0, .int .i64 0, .int .i64 0] 23) (by first | rfl | (simp; done) | (simp; omega))) hb1 (by first | (simp; done) | (simp; omega))
  have hw_1 : Below w.heap.size w w1 := stay_b (ba (ba (ba (Below.refl _ _) _) _) _) hb1
  have hs_1 := (((hs.alloc _).alloc _).alloc _).below hb1
  clear hb1
  have c_t_0 := cell_of_blk k_t_1 0
  have c_t_1 := cell_of_blk k_t_1 1
  have c_t_2 := cell_of_blk k_t_1 2
  simp only [List.getElem?_toArray, List.getElem?_cons_zero, List.getElem?_cons_succ] at c_t_0 c_t_1 c_t_2
  have f_t := frozen_of_blk k_t_1
  have s_t := blk_lt k_t_1
  have c_e_0 := cell_of_blk k_e_1 0
  have c_e_1 := cell_of_blk k_e_1 1
  have c_e_2 := cell_of_blk k_e_1 2
  have c_e_3 := cell_of_blk k_e_1 3
  simp only [List.getElem?_toArray, List.getElem?_cons_zero, List.getElem?_cons_succ] at c_e_0 c_e_1 c_e_2 c_e_3
  have f_e := frozen_of_blk k_e_1
  have s_e := blk_lt k_e_1
  have c_r_0 := cell_of_blk k_r_1 0
  have c_r_1 := cell_of_blk k_r_1 1
  have c_r_2 := cell_of_blk k_r_1 2
  simp only [List.getElem?_toArray, List.getElem?_cons_zero, List.getElem?_cons_succ] at c_r_0 c_r_1 c_r_2
  have f_r := frozen_of_blk k_r_1
  have s_r := blk_lt k_r_1
  go_wp2_with fail
  have k_t_2 : (((w1.alloc (.cells #[.int .i64 (E0.1), .int .i64 (E0.2.1), .int .i64 (E0.2.2.1), .int .i64 (E0.2.2.2), .int .i64 (E1.1), .int .i64 (E1.2.1), .int .i64 (E1.2.2.1), .int .i64 (E1.2.2.2), .int .i64 (E2.1), .int .i64 (E2.2.1), .int .i64 (E2.2.2.1), .int .i64 (E2.2.2.2)] 32))).drew).heap[w.heap.size]? = some (.cells #[.int .i64 x, .int .i64 y, .int .i64 k] 23 (0, 0)) := (blk_alloc k_t_1 _)
  have k_e_2 : (((w1.alloc (.cells #[.int .i64 (E0.1), .int .i64 (E0.2.1), .int .i64 (E0.2.2.1), .int .i64 (E0.2.2.2), .int .i64 (E1.1), .int .i64 (E1.2.1), .int .i64 (E1.2.2.1), .int .i64 (E1.2.2.2), .int .i64 (E2.1), .int .i64 (E2.2.1), .int .i64 (E2.2.2.1), .int .i64 (E2.2.2.2)] 32))).drew).heap[w.heap.size + 1]? = some (.cells #[.int .i64 (m.1), .int .i64 (m.2.1), .int .i64 (m.2.2.1), .int .i64 (m.2.2.2)] 27 (0, 0)) := (blk_alloc k_e_1 _)
  have k_r_2 : (((w1.alloc (.cells #[.int .i64 (E0.1), .int .i64 (E0.2.1), .int .i64 (E0.2.2.1), .int .i64 (E0.2.2.2), .int .i64 (E1.1), .int .i64 (E1.2.1), .int .i64 (E1.2.2.1), .int .i64 (E1.2.2.2), .int .i64 (E2.1), .int .i64 (E2.2.1), .int .i64 (E2.2.2.1), .int .i64 (E2.2.2.2)] 32))).drew).heap[w.heap.size + 1 + 1]? = some (.cells #[.int .i64 0, .int .i64 0, .int .i64 0] 23 (0, 0)) := (blk_alloc k_r_1 _)
  have k_l_2 : (((w1.alloc (.cells #[.int .i64 (E0.1), .int .i64 (E0.2.1), .int .i64 (E0.2.2.1), .int .i64 (E0.2.2.2), .int .i64 (E1.1), .int .i64 (E1.2.1), .int .i64 (E1.2.2.1), .int .i64 (E1.2.2.2), .int .i64 (E2.1), .int .i64 (E2.2.1), .int .i64 (E2.2.2.1), .int .i64 (E2.2.2.2)] 32))).drew).heap[w1.heap.size]? = some (.cells #[.int .i64 (E0.1), .int .i64 (E0.2.1), .int .i64 (E0.2.2.1), .int .i64 (E0.2.2.2), .int .i64 (E1.1), .int .i64 (E1.2.1), .int .i64 (E1.2.2.1), .int .i64 (E1.2.2.2), .int .i64 (E2.1), .int .i64 (E2.2.1), .int .i64 (E2.2.2.1), .int .i64 (E2.2.2.2)] 32 (0, 0)) := (new_blk (.cells #[.int .i64 (E0.1), .int .i64 (E0.2.1), .int .i64 (E0.2.2.1), .int .i64 (E0.2.2.2), .int .i64 (E1.1), .int .i64 (E1.2.1), .int .i64 (E1.2.2.1), .int .i64 (E1.2.2.2), .int .i64 (E2.1), .int .i64 (E2.2.1), .int .i64 (E2.2.2.1), .int .i64 (E2.2.2.2)] 32) (by first | rfl | (simp; done) | (simp; omega)))
  have hw_2 : Below w.heap.size w (((w1.alloc (.cells #[.int .i64 (E0.1), .int .i64 (E0.2.1), .int .i64 (E0.2.2.1), .int .i64 (E0.2.2.2), .int .i64 (E1.1), .int .i64 (E1.2.1), .int .i64 (E1.2.2.1), .int .i64 (E1.2.2.2), .int .i64 (E2.1), .int .i64 (E2.2.1), .int .i64 (E2.2.2.1), .int .i64 (E2.2.2.2)] 32))).drew) := ((ba hw_1 _)).drew
  have hs_2 : Steps (((w1.alloc (.cells #[.int .i64 (E0.1), .int .i64 (E0.2.1), .int .i64 (E0.2.2.1), .int .i64 (E0.2.2.2), .int .i64 (E1.1), .int .i64 (E1.2.1), .int .i64 (E1.2.2.1), .int .i64 (E1.2.2.2), .int .i64 (E2.1), .int .i64 (E2.2.1), .int .i64 (E2.2.2.1), .int .i64 (E2.2.2.2)] 32))).drew) := ((hs_1.alloc _).below (Below.refl _ _).drew)
  clear c_t_0 c_t_1 c_t_2 f_t s_t c_e_0 c_e_1 c_e_2 c_e_3 f_e s_e c_r_0 c_r_1 c_r_2 f_r s_r k_t_1 k_e_1 k_r_1 hw_1
  have c_e_0 := cell_of_blk k_e_2 0
  have c_e_1 := cell_of_blk k_e_2 1
  have c_e_2 := cell_of_blk k_e_2 2
  have c_e_3 := cell_of_blk k_e_2 3
  simp only [List.getElem?_toArray, List.getElem?_cons_zero, List.getElem?_cons_succ] at c_e_0 c_e_1 c_e_2 c_e_3
  have f_e := frozen_of_blk k_e_2
  have s_e := blk_lt k_e_2
  have hS0 := And.intro c_e_0 (And.intro c_e_1 (And.intro c_e_2 (And.intro c_e_3 hw_2)))
  clear c_e_0 c_e_1 c_e_2 c_e_3 f_e s_e
  go_region_held3 (fun w' => w'.cell? ⟨w.heap.size + 1, 0, none⟩ = some (.int .i64 m.1) ∧ w'.cell? ⟨w.heap.size + 1, 1, none⟩ = some (.int .i64 m.2.1) ∧ w'.cell? ⟨w.heap.size + 1, 2, none⟩ = some (.int .i64 m.2.2.1) ∧ w'.cell? ⟨w.heap.size + 1, 3, none⟩ = some (.int .i64 m.2.2.2) ∧ Below w.heap.size w w')
    (first
      | with_reducible exact hS0
      | (go_split_ands; with_reducible exact ⟨stay_c ‹_› hbc (Nat.le_refl _), stay_c ‹_› hbc (Nat.le_refl _), stay_c ‹_› hbc (Nat.le_refl _), stay_c ‹_› hbc (Nat.le_refl _), stay_b ‹_› hbc⟩))
    (((with_reducible refine (index3_any E0 E1 E2 m w1.heap.size _ k_l_2).mono ?_); rintro e wc ⟨he, hbc⟩; rw [HI.out] at he; subst he; have kt := blk_below k_t_2 hbc (blk_lt k_t_2); have kr := blk_below k_r_2 hbc (blk_lt k_r_2)))
  rename_i hH
  obtain ⟨_, _, _, _, hend⟩ := hH
  clear hS0 k_t_2 k_e_2 k_l_2 k_r_2 hw_2 hs_2
  have t0 := cell_of_blk kt 0
  have r0 := cell_of_blk kr 0
  have t1 := cell_of_blk kt 1
  have r1 := cell_of_blk kr 1
  have t2 := cell_of_blk kt 2
  have r2 := cell_of_blk kr 2
  simp only [List.getElem?_toArray, List.getElem?_cons_zero, List.getElem?_cons_succ] at t0 t1 t2 r0 r1 r2
  have sr := blk_lt kr
  have fr := frozen_of_blk kr
  clear kt kr
  go_wp2
  refine bodyPost_ret (v := .tuple #[.agg #[.int .i64 0, .int .i64 0, .int .i64 0], .int .i64 5]) (by simp [results, Tryd.results10, go_sem, r0, r1, r2]) rfl ⟨rfl, ?_⟩
  exact set3_below hend _ (by omega) _ _ _
set_option maxRecDepth 100000 in
set_option maxHeartbeats 3200000 in
theorem across_at (x y k : Int) (m : E4) (w : World) (i : Nat) (hlt : i < 3) (hs : Steps w) (ht : triMayB x y k = true) (hi : idxE (edgeT x y k 0) (edgeT x y k 1) (edgeT x y k 2) m = i) :
    Calls Tryd.prog 10 #[aggT x y k, aggE m] w fun e w' => e = .returned (.tuple #[aggT3 (nextT x y k i), .int .i64 0]) ∧ Below w.heap.size w w' := by
  have HT := Lib.hid ht
  obtain ⟨⟨x1, x2⟩, ⟨y1, y2⟩, k1, k2⟩ := triMayB_bd ht
  obtain ⟨E0, hE0⟩ : ∃ a : E4, a = edgeT x y k 0 := ⟨_, rfl⟩
  have HE0 := Lib.hid hE0
  clear hE0
  obtain ⟨E1, hE1⟩ : ∃ a : E4, a = edgeT x y k 1 := ⟨_, rfl⟩
  have HE1 := Lib.hid hE1
  clear hE1
  obtain ⟨E2, hE2⟩ : ∃ a : E4, a = edgeT x y k 2 := ⟨_, rfl⟩
  have HE2 := Lib.hid hE2
  clear hE2
  rw [← HE0.out, ← HE1.out, ← HE2.out] at hi
  have HI := Lib.hid hi
  clear hi
  clear ht
  go_enter Tryd.func10, Tryd.ntmps10
  go_wp2_with fail
  refine (gedges_ok x y k _ (((hs.alloc _).alloc _).alloc _) HT.out).mono ?_
  rintro e w1 ⟨he, hb1⟩
  rw [← HE0.out, ← HE1.out, ← HE2.out] at he
  subst he
  have k_t_1 : w1.heap[w.heap.size]? = some (.cells #[.int .i64 x, .int .i64 y, .int .i64 k] 23 (0, 0)) := blk_below (blk_alloc (blk_alloc (new_blk (.cells #[.int .i64 x, .int .i64 y, .int .i64 k] 23) (by first | rfl | (simp; done) | (simp; omega))) _) _) hb1 (by first | (simp; done) | (simp; omega))
  have k_e_1 : w1.heap[w.heap.size + 1]? = some (.cells #[.int .i64 (m.1), .int .i64 (m.2.1), .int .i64 (m.2.2.1), .int .i64 (m.2.2.2)] 27 (0, 0)) := blk_below (blk_alloc (new_blk (.cells #[.int .i64 (m.1), .int .i64 (m.2.1), .int .i64 (m.2.2.1), .int .i64 (m.2.2.2)] 27) (by first | rfl | (simp; done) | (simp; omega))) _) hb1 (by first | (simp; done) | (simp; omega))
  have k_r_1 : w1.heap[w.heap.size + 1 + 1]? = some (.cells #[.int .i64 0, .int .i64 0, .int .i64 0] 23 (0, 0)) := blk_below (new_blk (.cells #[.int .i64 0, .int .i64 0, .int .i64 0] 23) (by first | rfl | (simp; done) | (simp; omega))) hb1 (by first | (simp; done) | (simp; omega))
  have hw_1 : Below w.heap.size w w1 := stay_b (ba (ba (ba (Below.refl _ _) _) _) _) hb1
  have hs_1 := (((hs.alloc _).alloc _).alloc _).below hb1
  clear hb1
  have c_t_0 := cell_of_blk k_t_1 0
  have c_t_1 := cell_of_blk k_t_1 1
  have c_t_2 := cell_of_blk k_t_1 2
  simp only [List.getElem?_toArray, List.getElem?_cons_zero, List.getElem?_cons_succ] at c_t_0 c_t_1 c_t_2
  have f_t := frozen_of_blk k_t_1
  have s_t := blk_lt k_t_1
  have c_e_0 := cell_of_blk k_e_1 0
  have c_e_1 := cell_of_blk k_e_1 1
  have c_e_2 := cell_of_blk k_e_1 2
  have c_e_3 := cell_of_blk k_e_1 3
  simp only [List.getElem?_toArray, List.getElem?_cons_zero, List.getElem?_cons_succ] at c_e_0 c_e_1 c_e_2 c_e_3
  have f_e := frozen_of_blk k_e_1
  have s_e := blk_lt k_e_1
  have c_r_0 := cell_of_blk k_r_1 0
  have c_r_1 := cell_of_blk k_r_1 1
  have c_r_2 := cell_of_blk k_r_1 2
  simp only [List.getElem?_toArray, List.getElem?_cons_zero, List.getElem?_cons_succ] at c_r_0 c_r_1 c_r_2
  have f_r := frozen_of_blk k_r_1
  have s_r := blk_lt k_r_1
  go_wp2_with fail
  have k_t_2 : (((w1.alloc (.cells #[.int .i64 (E0.1), .int .i64 (E0.2.1), .int .i64 (E0.2.2.1), .int .i64 (E0.2.2.2), .int .i64 (E1.1), .int .i64 (E1.2.1), .int .i64 (E1.2.2.1), .int .i64 (E1.2.2.2), .int .i64 (E2.1), .int .i64 (E2.2.1), .int .i64 (E2.2.2.1), .int .i64 (E2.2.2.2)] 32))).drew).heap[w.heap.size]? = some (.cells #[.int .i64 x, .int .i64 y, .int .i64 k] 23 (0, 0)) := (blk_alloc k_t_1 _)
  have k_e_2 : (((w1.alloc (.cells #[.int .i64 (E0.1), .int .i64 (E0.2.1), .int .i64 (E0.2.2.1), .int .i64 (E0.2.2.2), .int .i64 (E1.1), .int .i64 (E1.2.1), .int .i64 (E1.2.2.1), .int .i64 (E1.2.2.2), .int .i64 (E2.1), .int .i64 (E2.2.1), .int .i64 (E2.2.2.1), .int .i64 (E2.2.2.2)] 32))).drew).heap[w.heap.size + 1]? = some (.cells #[.int .i64 (m.1), .int .i64 (m.2.1), .int .i64 (m.2.2.1), .int .i64 (m.2.2.2)] 27 (0, 0)) := (blk_alloc k_e_1 _)
  have k_r_2 : (((w1.alloc (.cells #[.int .i64 (E0.1), .int .i64 (E0.2.1), .int .i64 (E0.2.2.1), .int .i64 (E0.2.2.2), .int .i64 (E1.1), .int .i64 (E1.2.1), .int .i64 (E1.2.2.1), .int .i64 (E1.2.2.2), .int .i64 (E2.1), .int .i64 (E2.2.1), .int .i64 (E2.2.2.1), .int .i64 (E2.2.2.2)] 32))).drew).heap[w.heap.size + 1 + 1]? = some (.cells #[.int .i64 0, .int .i64 0, .int .i64 0] 23 (0, 0)) := (blk_alloc k_r_1 _)
  have k_l_2 : (((w1.alloc (.cells #[.int .i64 (E0.1), .int .i64 (E0.2.1), .int .i64 (E0.2.2.1), .int .i64 (E0.2.2.2), .int .i64 (E1.1), .int .i64 (E1.2.1), .int .i64 (E1.2.2.1), .int .i64 (E1.2.2.2), .int .i64 (E2.1), .int .i64 (E2.2.1), .int .i64 (E2.2.2.1), .int .i64 (E2.2.2.2)] 32))).drew).heap[w1.heap.size]? = some (.cells #[.int .i64 (E0.1), .int .i64 (E0.2.1), .int .i64 (E0.2.2.1), .int .i64 (E0.2.2.2), .int .i64 (E1.1), .int .i64 (E1.2.1), .int .i64 (E1.2.2.1), .int .i64 (E1.2.2.2), .int .i64 (E2.1), .int .i64 (E2.2.1), .int .i64 (E2.2.2.1), .int .i64 (E2.2.2.2)] 32 (0, 0)) := (new_blk (.cells #[.int .i64 (E0.1), .int .i64 (E0.2.1), .int .i64 (E0.2.2.1), .int .i64 (E0.2.2.2), .int .i64 (E1.1), .int .i64 (E1.2.1), .int .i64 (E1.2.2.1), .int .i64 (E1.2.2.2), .int .i64 (E2.1), .int .i64 (E2.2.1), .int .i64 (E2.2.2.1), .int .i64 (E2.2.2.2)] 32) (by first | rfl | (simp; done) | (simp; omega)))
  have hw_2 : Below w.heap.size w (((w1.alloc (.cells #[.int .i64 (E0.1), .int .i64 (E0.2.1), .int .i64 (E0.2.2.1), .int .i64 (E0.2.2.2), .int .i64 (E1.1), .int .i64 (E1.2.1), .int .i64 (E1.2.2.1), .int .i64 (E1.2.2.2), .int .i64 (E2.1), .int .i64 (E2.2.1), .int .i64 (E2.2.2.1), .int .i64 (E2.2.2.2)] 32))).drew) := ((ba hw_1 _)).drew
  have hs_2 : Steps (((w1.alloc (.cells #[.int .i64 (E0.1), .int .i64 (E0.2.1), .int .i64 (E0.2.2.1), .int .i64 (E0.2.2.2), .int .i64 (E1.1), .int .i64 (E1.2.1), .int .i64 (E1.2.2.1), .int .i64 (E1.2.2.2), .int .i64 (E2.1), .int .i64 (E2.2.1), .int .i64 (E2.2.2.1), .int .i64 (E2.2.2.2)] 32))).drew) := ((hs_1.alloc _).below (Below.refl _ _).drew)
  clear c_t_0 c_t_1 c_t_2 f_t s_t c_e_0 c_e_1 c_e_2 c_e_3 f_e s_e c_r_0 c_r_1 c_r_2 f_r s_r k_t_1 k_e_1 k_r_1 hw_1
  have c_e_0 := cell_of_blk k_e_2 0
  have c_e_1 := cell_of_blk k_e_2 1
  have c_e_2 := cell_of_blk k_e_2 2
  have c_e_3 := cell_of_blk k_e_2 3
  simp only [List.getElem?_toArray, List.getElem?_cons_zero, List.getElem?_cons_succ] at c_e_0 c_e_1 c_e_2 c_e_3
  have f_e := frozen_of_blk k_e_2
  have s_e := blk_lt k_e_2
  have hS0 := And.intro c_e_0 (And.intro c_e_1 (And.intro c_e_2 (And.intro c_e_3 hw_2)))
  clear c_e_0 c_e_1 c_e_2 c_e_3 f_e s_e
  go_region_held3 (fun w' => w'.cell? ⟨w.heap.size + 1, 0, none⟩ = some (.int .i64 m.1) ∧ w'.cell? ⟨w.heap.size + 1, 1, none⟩ = some (.int .i64 m.2.1) ∧ w'.cell? ⟨w.heap.size + 1, 2, none⟩ = some (.int .i64 m.2.2.1) ∧ w'.cell? ⟨w.heap.size + 1, 3, none⟩ = some (.int .i64 m.2.2.2) ∧ Below w.heap.size w w')
    (first
      | with_reducible exact hS0
      | (go_split_ands; with_reducible exact ⟨stay_c ‹_› hbc (Nat.le_refl _), stay_c ‹_› hbc (Nat.le_refl _), stay_c ‹_› hbc (Nat.le_refl _), stay_c ‹_› hbc (Nat.le_refl _), stay_b ‹_› hbc⟩))
    (((with_reducible refine (index3_any E0 E1 E2 m w1.heap.size _ k_l_2).mono ?_); rintro e wc ⟨he, hbc⟩; rw [HI.out] at he; subst he; have kt := blk_below k_t_2 hbc (blk_lt k_t_2); have kr := blk_below k_r_2 hbc (blk_lt k_r_2)))
  rename_i hH
  obtain ⟨_, _, _, _, hend⟩ := hH
  clear hS0 k_t_2 k_e_2 k_l_2 k_r_2 hw_2 hs_2
  have t0 := cell_of_blk kt 0
  have r0 := cell_of_blk kr 0
  have t1 := cell_of_blk kt 1
  have r1 := cell_of_blk kr 1
  have t2 := cell_of_blk kt 2
  have r2 := cell_of_blk kr 2
  simp only [List.getElem?_toArray, List.getElem?_cons_zero, List.getElem?_cons_succ] at t0 t1 t2 r0 r1 r2
  have sr := blk_lt kr
  have fr := frozen_of_blk kr
  obtain ⟨u, hu⟩ : ∃ u, u = nextT x y k i := ⟨_, rfl⟩
  have HU := Lib.hid hu
  clear hu
  have hin : ¬ ((i : Int) < 0) := by omega
  go_wp2_with fail
  refine (next_any x y k i _ hlt x1 x2 y1 y2 k1 k2).mono ?_
  rintro e wd ⟨he, hbd⟩
  rw [← HU.out] at he
  subst he
  have kr := blk_below kr hbd (blk_lt kr)
  have hend := stay_b hend hbd
  clear r0 r1 r2 t0 t1 t2 sr fr
  have r0 := cell_of_blk kr 0
  have r1 := cell_of_blk kr 1
  have r2 := cell_of_blk kr 2
  simp only [List.getElem?_toArray, List.getElem?_cons_zero, List.getElem?_cons_succ] at r0 r1 r2
  have sr := blk_lt kr
  have fr := frozen_of_blk kr
  clear kr kt
  go_wp2
  refine bodyPost_ret (v := .tuple #[aggT3 u, .int .i64 0]) (by simp [results, Tryd.results10, go_sem, r0, r1, r2]) rfl ⟨by rw [HU.out], ?_⟩
  exact set3_below hend _ (by omega) _ _ _
end Go.Proofs.YthfhkmgegkhljaaDoor
