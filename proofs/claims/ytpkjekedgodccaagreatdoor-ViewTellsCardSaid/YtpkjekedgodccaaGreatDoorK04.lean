/- tile.Next; grid.Across. The document's AcrossOf. The plain law of GridTris: of all triangles near by just one other has a triangle's edge: the one that Next names.. -/
import Derived.Test.YtpkjekedgodccaaGreatDoorK03
namespace Go.Proofs.YtpkjekedgodccaaGreatDoor
set_option linter.unusedSimpArgs false
set_option linter.unusedVariables false
section
open Go.RowKit
abbrev T3 := Int × Int × Int
abbrev aggT3 (t : T3) : Value := .agg #[.int .i64 t.1, .int .i64 t.2.1, .int .i64 t.2.2]
def nextT (x y k : Int) (i : Nat) : T3 := match i with
 | 0 => (x, y, (k + 3) % 4)
 | 1 => (x + (if k = 1 then 1 else if k = 3 then -1 else 0), y + (if k = 0 then -1 else if k = 2 then 1 else 0), (k + 2) % 4)
 | _ => (x, y, (k + 1) % 4)
set_option maxRecDepth 100000 in
theorem idx_0 (w : World) : (Instr.index 149 (.agg #[.int .i64 0, .int .i64 (-1), .int .i64 1, .int .i64 0, .int .i64 0, .int .i64 1, .int .i64 (-1), .int .i64 0]) (.int .i64 0)).run Tryz.prog w = .ok (.agg #[.int .i64 0, .int .i64 (-1)]) w := by first | rfl | kernel_rfl | simp [Instr.index, go_sem]
set_option maxRecDepth 100000 in
theorem idx_1 (w : World) : (Instr.index 149 (.agg #[.int .i64 0, .int .i64 (-1), .int .i64 1, .int .i64 0, .int .i64 0, .int .i64 1, .int .i64 (-1), .int .i64 0]) (.int .i64 1)).run Tryz.prog w = .ok (.agg #[.int .i64 1, .int .i64 0]) w := by first | rfl | kernel_rfl | simp [Instr.index, go_sem]
set_option maxRecDepth 100000 in
theorem idx_2 (w : World) : (Instr.index 149 (.agg #[.int .i64 0, .int .i64 (-1), .int .i64 1, .int .i64 0, .int .i64 0, .int .i64 1, .int .i64 (-1), .int .i64 0]) (.int .i64 2)).run Tryz.prog w = .ok (.agg #[.int .i64 0, .int .i64 1]) w := by first | rfl | kernel_rfl | simp [Instr.index, go_sem]
set_option maxRecDepth 100000 in
theorem idx_3 (w : World) : (Instr.index 149 (.agg #[.int .i64 0, .int .i64 (-1), .int .i64 1, .int .i64 0, .int .i64 0, .int .i64 1, .int .i64 (-1), .int .i64 0]) (.int .i64 3)).run Tryz.prog w = .ok (.agg #[.int .i64 (-1), .int .i64 0]) w := by first | rfl | kernel_rfl | simp [Instr.index, go_sem]
set_option maxRecDepth 100000 in
set_option maxHeartbeats 1600000 in
theorem next_00 (x y : Int) (w : World) (x1 : -1000000 ≤ x) (x2 : x ≤ 1000000) (y1 : -1000000 ≤ y) (y2 : y ≤ 1000000) :
  Calls Tryz.prog 63 #[aggT x y 0, .int .i64 0] w fun e w' => e = .returned (.agg #[.int .i64 x, .int .i64 y, .int .i64 3]) ∧ Below w.heap.size w w' := by
 have hx : bits .and .i64 (0 + 3) 3 = 3 := by rw [and3]; rfl
 have hx2 : bits .and .i64 3 3 = 3 := by rw [and3]; rfl
 go_enter Tryz.func63, Tryz.ntmps63
 go_wp2
 exact bodyPost_ret (v := .agg #[.int .i64 x, .int .i64 y, .int .i64 3]) (by simp [results, Tryz.results63, go_sem]) rfl ⟨rfl, ba (ba (Below.refl _ _) _) _⟩
set_option maxRecDepth 100000 in
set_option maxHeartbeats 1600000 in
theorem next_01 (x y : Int) (w : World) (x1 : -1000000 ≤ x) (x2 : x ≤ 1000000) (y1 : -1000000 ≤ y) (y2 : y ≤ 1000000) :
  Calls Tryz.prog 63 #[aggT x y 1, .int .i64 0] w fun e w' => e = .returned (.agg #[.int .i64 x, .int .i64 y, .int .i64 0]) ∧ Below w.heap.size w w' := by
 have hx : bits .and .i64 (1 + 3) 3 = 0 := by rw [and3]; rfl
 have hx2 : bits .and .i64 4 3 = 0 := by rw [and3]; rfl
 go_enter Tryz.func63, Tryz.ntmps63
 go_wp2
 exact bodyPost_ret (v := .agg #[.int .i64 x, .int .i64 y, .int .i64 0]) (by simp [results, Tryz.results63, go_sem]) rfl ⟨rfl, ba (ba (Below.refl _ _) _) _⟩
set_option maxRecDepth 100000 in
set_option maxHeartbeats 1600000 in
theorem next_02 (x y : Int) (w : World) (x1 : -1000000 ≤ x) (x2 : x ≤ 1000000) (y1 : -1000000 ≤ y) (y2 : y ≤ 1000000) :
  Calls Tryz.prog 63 #[aggT x y 2, .int .i64 0] w fun e w' => e = .returned (.agg #[.int .i64 x, .int .i64 y, .int .i64 1]) ∧ Below w.heap.size w w' := by
 have hx : bits .and .i64 (2 + 3) 3 = 1 := by rw [and3]; rfl
 have hx2 : bits .and .i64 5 3 = 1 := by rw [and3]; rfl
 go_enter Tryz.func63, Tryz.ntmps63
 go_wp2
 exact bodyPost_ret (v := .agg #[.int .i64 x, .int .i64 y, .int .i64 1]) (by simp [results, Tryz.results63, go_sem]) rfl ⟨rfl, ba (ba (Below.refl _ _) _) _⟩
set_option maxRecDepth 100000 in
set_option maxHeartbeats 1600000 in
theorem next_03 (x y : Int) (w : World) (x1 : -1000000 ≤ x) (x2 : x ≤ 1000000) (y1 : -1000000 ≤ y) (y2 : y ≤ 1000000) :
  Calls Tryz.prog 63 #[aggT x y 3, .int .i64 0] w fun e w' => e = .returned (.agg #[.int .i64 x, .int .i64 y, .int .i64 2]) ∧ Below w.heap.size w w' := by
 have hx : bits .and .i64 (3 + 3) 3 = 2 := by rw [and3]; rfl
 have hx2 : bits .and .i64 6 3 = 2 := by rw [and3]; rfl
 go_enter Tryz.func63, Tryz.ntmps63
 go_wp2
 exact bodyPost_ret (v := .agg #[.int .i64 x, .int .i64 y, .int .i64 2]) (by simp [results, Tryz.results63, go_sem]) rfl ⟨rfl, ba (ba (Below.refl _ _) _) _⟩
set_option maxRecDepth 100000 in
set_option maxHeartbeats 1600000 in
theorem next_10 (x y : Int) (w : World) (x1 : -1000000 ≤ x) (x2 : x ≤ 1000000) (y1 : -1000000 ≤ y) (y2 : y ≤ 1000000) :
  Calls Tryz.prog 63 #[aggT x y 0, .int .i64 1] w fun e w' => e = .returned (.agg #[.int .i64 x, .int .i64 (y + (-1)), .int .i64 2]) ∧ Below w.heap.size w w' := by
 have hi := idx_0
 have hx : bits .xor .i64 0 2 = 2 := by decide
 go_enter Tryz.func63, Tryz.ntmps63
 go_wp2
 exact bodyPost_ret (v := .agg #[.int .i64 x, .int .i64 (y + (-1)), .int .i64 2]) (by simp [results, Tryz.results63, go_sem]) rfl ⟨rfl, ba (ba (ba (Below.refl _ _) _) _) _⟩
set_option maxRecDepth 100000 in
set_option maxHeartbeats 1600000 in
theorem next_11 (x y : Int) (w : World) (x1 : -1000000 ≤ x) (x2 : x ≤ 1000000) (y1 : -1000000 ≤ y) (y2 : y ≤ 1000000) :
  Calls Tryz.prog 63 #[aggT x y 1, .int .i64 1] w fun e w' => e = .returned (.agg #[.int .i64 (x + 1), .int .i64 y, .int .i64 3]) ∧ Below w.heap.size w w' := by
 have hi := idx_1
 have hx : bits .xor .i64 1 2 = 3 := by decide
 go_enter Tryz.func63, Tryz.ntmps63
 go_wp2
 exact bodyPost_ret (v := .agg #[.int .i64 (x + 1), .int .i64 y, .int .i64 3]) (by simp [results, Tryz.results63, go_sem]) rfl ⟨rfl, ba (ba (ba (Below.refl _ _) _) _) _⟩
set_option maxRecDepth 100000 in
set_option maxHeartbeats 1600000 in
theorem next_12 (x y : Int) (w : World) (x1 : -1000000 ≤ x) (x2 : x ≤ 1000000) (y1 : -1000000 ≤ y) (y2 : y ≤ 1000000) :
  Calls Tryz.prog 63 #[aggT x y 2, .int .i64 1] w fun e w' => e = .returned (.agg #[.int .i64 x, .int .i64 (y + 1), .int .i64 0]) ∧ Below w.heap.size w w' := by
 have hi := idx_2
 have hx : bits .xor .i64 2 2 = 0 := by decide
 go_enter Tryz.func63, Tryz.ntmps63
 go_wp2
 exact bodyPost_ret (v := .agg #[.int .i64 x, .int .i64 (y + 1), .int .i64 0]) (by simp [results, Tryz.results63, go_sem]) rfl ⟨rfl, ba (ba (ba (Below.refl _ _) _) _) _⟩
set_option maxRecDepth 100000 in
set_option maxHeartbeats 1600000 in
theorem next_13 (x y : Int) (w : World) (x1 : -1000000 ≤ x) (x2 : x ≤ 1000000) (y1 : -1000000 ≤ y) (y2 : y ≤ 1000000) :
  Calls Tryz.prog 63 #[aggT x y 3, .int .i64 1] w fun e w' => e = .returned (.agg #[.int .i64 (x + (-1)), .int .i64 y, .int .i64 1]) ∧ Below w.heap.size w w' := by
 have hi := idx_3
 have hx : bits .xor .i64 3 2 = 1 := by decide
 go_enter Tryz.func63, Tryz.ntmps63
 go_wp2
 exact bodyPost_ret (v := .agg #[.int .i64 (x + (-1)), .int .i64 y, .int .i64 1]) (by simp [results, Tryz.results63, go_sem]) rfl ⟨rfl, ba (ba (ba (Below.refl _ _) _) _) _⟩
set_option maxRecDepth 100000 in
set_option maxHeartbeats 1600000 in
theorem next_20 (x y : Int) (w : World) (x1 : -1000000 ≤ x) (x2 : x ≤ 1000000) (y1 : -1000000 ≤ y) (y2 : y ≤ 1000000) :
  Calls Tryz.prog 63 #[aggT x y 0, .int .i64 2] w fun e w' => e = .returned (.agg #[.int .i64 x, .int .i64 y, .int .i64 1]) ∧ Below w.heap.size w w' := by
 have hx : bits .and .i64 (0 + 1) 3 = 1 := by rw [and3]; rfl
 have hx2 : bits .and .i64 1 3 = 1 := by rw [and3]; rfl
 go_enter Tryz.func63, Tryz.ntmps63
 go_wp2
 exact bodyPost_ret (v := .agg #[.int .i64 x, .int .i64 y, .int .i64 1]) (by simp [results, Tryz.results63, go_sem]) rfl ⟨rfl, ba (ba (Below.refl _ _) _) _⟩
set_option maxRecDepth 100000 in
set_option maxHeartbeats 1600000 in
theorem next_21 (x y : Int) (w : World) (x1 : -1000000 ≤ x) (x2 : x ≤ 1000000) (y1 : -1000000 ≤ y) (y2 : y ≤ 1000000) :
  Calls Tryz.prog 63 #[aggT x y 1, .int .i64 2] w fun e w' => e = .returned (.agg #[.int .i64 x, .int .i64 y, .int .i64 2]) ∧ Below w.heap.size w w' := by
 have hx : bits .and .i64 (1 + 1) 3 = 2 := by rw [and3]; rfl
 have hx2 : bits .and .i64 2 3 = 2 := by rw [and3]; rfl
 go_enter Tryz.func63, Tryz.ntmps63
 go_wp2
 exact bodyPost_ret (v := .agg #[.int .i64 x, .int .i64 y, .int .i64 2]) (by simp [results, Tryz.results63, go_sem]) rfl ⟨rfl, ba (ba (Below.refl _ _) _) _⟩
set_option maxRecDepth 100000 in
set_option maxHeartbeats 1600000 in
theorem next_22 (x y : Int) (w : World) (x1 : -1000000 ≤ x) (x2 : x ≤ 1000000) (y1 : -1000000 ≤ y) (y2 : y ≤ 1000000) :
  Calls Tryz.prog 63 #[aggT x y 2, .int .i64 2] w fun e w' => e = .returned (.agg #[.int .i64 x, .int .i64 y, .int .i64 3]) ∧ Below w.heap.size w w' := by
 have hx : bits .and .i64 (2 + 1) 3 = 3 := by rw [and3]; rfl
 have hx2 : bits .and .i64 3 3 = 3 := by rw [and3]; rfl
 go_enter Tryz.func63, Tryz.ntmps63
 go_wp2
 exact bodyPost_ret (v := .agg #[.int .i64 x, .int .i64 y, .int .i64 3]) (by simp [results, Tryz.results63, go_sem]) rfl ⟨rfl, ba (ba (Below.refl _ _) _) _⟩
set_option maxRecDepth 100000 in
set_option maxHeartbeats 1600000 in
theorem next_23 (x y : Int) (w : World) (x1 : -1000000 ≤ x) (x2 : x ≤ 1000000) (y1 : -1000000 ≤ y) (y2 : y ≤ 1000000) :
  Calls Tryz.prog 63 #[aggT x y 3, .int .i64 2] w fun e w' => e = .returned (.agg #[.int .i64 x, .int .i64 y, .int .i64 0]) ∧ Below w.heap.size w w' := by
 have hx : bits .and .i64 (3 + 1) 3 = 0 := by rw [and3]; rfl
 have hx2 : bits .and .i64 4 3 = 0 := by rw [and3]; rfl
 go_enter Tryz.func63, Tryz.ntmps63
 go_wp2
 exact bodyPost_ret (v := .agg #[.int .i64 x, .int .i64 y, .int .i64 0]) (by simp [results, Tryz.results63, go_sem]) rfl ⟨rfl, ba (ba (Below.refl _ _) _) _⟩
theorem next_any (x y k : Int) (i : Nat) (w : World) (hi : i < 3) (x1 : -1000000 ≤ x) (x2 : x ≤ 1000000) (y1 : -1000000 ≤ y) (y2 : y ≤ 1000000) (k1 : 0 ≤ k) (k2 : k ≤ 3) :
  Calls Tryz.prog 63 #[aggT x y k, .int .i64 i] w fun e w' => e = .returned (aggT3 (nextT x y k i)) ∧ Below w.heap.size w w' := by
 have hi' : i = 0 ∨ i = 1 ∨ i = 2 := by omega
 have hk : k = 0 ∨ k = 1 ∨ k = 2 ∨ k = 3 := by omega
 rcases hi' with rfl | rfl | rfl <;> rcases hk with rfl | rfl | rfl | rfl
 ·exact (next_00 x y w x1 x2 y1 y2).mono fun e w' ⟨he, hb⟩ => ⟨by rw [he]; simp [nextT], hb⟩
 ·exact (next_01 x y w x1 x2 y1 y2).mono fun e w' ⟨he, hb⟩ => ⟨by rw [he]; simp [nextT], hb⟩
 ·exact (next_02 x y w x1 x2 y1 y2).mono fun e w' ⟨he, hb⟩ => ⟨by rw [he]; simp [nextT], hb⟩
 ·exact (next_03 x y w x1 x2 y1 y2).mono fun e w' ⟨he, hb⟩ => ⟨by rw [he]; simp [nextT], hb⟩
 ·exact (next_10 x y w x1 x2 y1 y2).mono fun e w' ⟨he, hb⟩ => ⟨by rw [he]; simp [nextT], hb⟩
 ·exact (next_11 x y w x1 x2 y1 y2).mono fun e w' ⟨he, hb⟩ => ⟨by rw [he]; simp [nextT], hb⟩
 ·exact (next_12 x y w x1 x2 y1 y2).mono fun e w' ⟨he, hb⟩ => ⟨by rw [he]; simp [nextT], hb⟩
 ·exact (next_13 x y w x1 x2 y1 y2).mono fun e w' ⟨he, hb⟩ => ⟨by rw [he]; simp [nextT], hb⟩
 ·exact (next_20 x y w x1 x2 y1 y2).mono fun e w' ⟨he, hb⟩ => ⟨by rw [he]; simp [nextT], hb⟩
 ·exact (next_21 x y w x1 x2 y1 y2).mono fun e w' ⟨he, hb⟩ => ⟨by rw [he]; simp [nextT], hb⟩
 ·exact (next_22 x y w x1 x2 y1 y2).mono fun e w' ⟨he, hb⟩ => ⟨by rw [he]; simp [nextT], hb⟩
 ·exact (next_23 x y w x1 x2 y1 y2).mono fun e w' ⟨he, hb⟩ => ⟨by rw [he]; simp [nextT], hb⟩
theorem set3_below {w w1 : World} (h : Below w.heap.size w w1) (g : Nat) (hg : w.heap.size ≤ g) (a b c : Value) : Below w.heap.size w (((w1.setCell ⟨g, 0, none⟩ a).setCell ⟨g, 1, none⟩ b).setCell ⟨g, 2, none⟩ c) := ((h.setCell hg a).setCell hg b).setCell hg c
end
section
open Go.RowKit
def eqT3 (a b : T3) : Bool := eqL [(a.1, b.1), (a.2.1, b.2.1), (a.2.2, b.2.2)]
def hitB (x y k : Int) (m : E4) (d f j : Int) : Bool := !(eqT3 (x + d, y + f, j) (x, y, k)) && hasE (x + d) (y + f) j m
set_option maxRecDepth 100000 in
set_option maxHeartbeats 3200000 in
theorem acrossOf_at (x y k : Int) (m : E4) (d0 f0 j0 : Int) (w : World) (x1 : -1000000 ≤ x) (x2 : x ≤ 1000000) (y1 : -1000000 ≤ y) (y2 : y ≤ 1000000) (k1 : 0 ≤ k) (k2 : k ≤ 3) (hq : hasE x y k m = true) (d1 : -1 ≤ d0) (d2 : d0 ≤ 1) (f1 : -1 ≤ f0) (f2 : f0 ≤ 1) (j1 : 0 ≤ j0) (j2 : j0 ≤ 3)
  (hhit : hitB x y k m d0 f0 j0 = true) (huni : ∀ d f j : Int, -1 ≤ d → d ≤ 1 → -1 ≤ f → f ≤ 1 → 0 ≤ j → j ≤ 3 → hitB x y k m d f j = true → d = d0 ∧ f = f0 ∧ j = j0) :
  Calls Tryz.prog 44 #[aggT x y k, aggE m] w fun e w' => e = .returned (.tuple #[.agg #[.int .i64 (x + d0), .int .i64 (y + f0), .int .i64 j0], .bool true]) ∧ Below w.heap.size w w' := by
 have HQ := Lib.hid hq
 have HU := Lib.hid huni
 have HH := Lib.hid hhit
 clear hq huni hhit
 go_enter Tryz.func44, Tryz.ntmps44
 go_wp2_with fail
 refine (has_any x y k m _ (by omega) (by omega) (by omega) (by omega) k1 k2).mono ?_
 rintro e w1 ⟨rfl, hb1⟩
 rw [HQ.out]
 have k_t_1 : w1.heap[w.heap.size]? = some (.cells #[.int .i64 x, .int .i64 y, .int .i64 k] 44 (0, 0)) := blk_below (blk_alloc (blk_alloc (new_blk (.cells #[.int .i64 x, .int .i64 y, .int .i64 k] 44) (by first | rfl | (simp; done) | (simp; omega))) _) _) hb1 (by first | (simp; done) | (simp; omega))
 have k_e_1 : w1.heap[w.heap.size + 1]? = some (.cells #[.int .i64 (m.1), .int .i64 (m.2.1), .int .i64 (m.2.2.1), .int .i64 (m.2.2.2)] 100 (0, 0)) := blk_below (blk_alloc (new_blk (.cells #[.int .i64 (m.1), .int .i64 (m.2.1), .int .i64 (m.2.2.1), .int .i64 (m.2.2.2)] 100) (by first | rfl | (simp; done) | (simp; omega))) _) hb1 (by first | (simp; done) | (simp; omega))
 have k_r_1 : w1.heap[w.heap.size + 1 + 1]? = some (.cells #[.int .i64 0, .int .i64 0, .int .i64 0] 44 (0, 0)) := blk_below (new_blk (.cells #[.int .i64 0, .int .i64 0, .int .i64 0] 44) (by first | rfl | (simp; done) | (simp; omega))) hb1 (by first | (simp; done) | (simp; omega))
 have hw_1 : Below w.heap.size w w1 := stay_b (ba (ba (ba (Below.refl _ _) _) _) _) hb1
 clear hb1
 have c_t_0 := cell_of_blk k_t_1 0
 have c_t_1 := cell_of_blk k_t_1 1
 have c_t_2 := cell_of_blk k_t_1 2
 simp only [List.getElem?_toArray, List.getElem?_cons_zero, List.getElem?_cons_succ] at c_t_0 c_t_1 c_t_2
 have f_t := frozen_of_blk k_t_1
 have s_t := blk_lt k_t_1
 have c_e_0 := cell_of_blk k_e_1 0
 have c_e_1 := cell_of_blk k_e_1 1
 have c_e_2 := cell_of_blk k_e_1 2
 have c_e_3 := cell_of_blk k_e_1 3
 simp only [List.getElem?_toArray, List.getElem?_cons_zero, List.getElem?_cons_succ] at c_e_0 c_e_1 c_e_2 c_e_3
 have f_e := frozen_of_blk k_e_1
 have s_e := blk_lt k_e_1
 have c_r_0 := cell_of_blk k_r_1 0
 have c_r_1 := cell_of_blk k_r_1 1
 have c_r_2 := cell_of_blk k_r_1 2
 simp only [List.getElem?_toArray, List.getElem?_cons_zero, List.getElem?_cons_succ] at c_r_0 c_r_1 c_r_2
 have f_r := frozen_of_blk k_r_1
 have s_r := blk_lt k_r_1
 clear c_t_0 c_t_1 c_t_2 f_t s_t c_e_0 c_e_1 c_e_2 c_e_3 f_e s_e c_r_0 c_r_1 c_r_2 f_r s_r
 go_wp2
 go_loopw [6] (fun i wr => ∃ d : Int, -1 ≤ d ∧ d ≤ d0 ∧ i = .int .i64 d ∧ Below w1.heap.size w1 wr) (fun i _ => (2 - intOf i).toNat)
 case atStart => exact ⟨-1, by omega, by omega, rfl, Below.refl _ _⟩
 case round =>
  obtain ⟨d, hd1, hd2, rfl, hbel⟩ := hrel
  have hd3 : d ≤ 1 := by omega
  go_wp2
  go_loopw [7] (fun i wr => ∃ f : Int, -1 ≤ f ∧ f ≤ 2 ∧ (d = d0 → f ≤ f0) ∧ i = .int .i64 f ∧ Below w1.heap.size w1 wr) (fun i _ => (2 - intOf i).toNat)
  case atStart => exact ⟨-1, by omega, by omega, fun _ => by omega, rfl, hbel⟩
  case round =>
   obtain ⟨f, hf1, hf2, hf3, rfl, hbel2⟩ := hrel
   have hend2 : Below w.heap.size w wr := hw_1.trans (hbel2.mono hw_1.size)
   by_cases hf : f ≤ 1
   ·go_wp2
    go_loopw [8] (fun i wr => ∃ j : Int, 0 ≤ j ∧ j ≤ 4 ∧ (d = d0 ∧ f = f0 → j ≤ j0) ∧ i = .int .i64 j ∧ Below w1.heap.size w1 wr) (fun i _ => (4 - intOf i).toNat)
    case atStart => exact ⟨0, by omega, by omega, fun _ => by omega, rfl, hbel2⟩
    case round =>
     obtain ⟨j, hj1, hj2, hj3, rfl, hbel3⟩ := hrel
     rename_i ws
     have kt := blk_below k_t_1 hbel3 (blk_lt k_t_1)
     have ke := blk_below k_e_1 hbel3 (blk_lt k_e_1)
     have kr := blk_below k_r_1 hbel3 (blk_lt k_r_1)
     have hend : Below w.heap.size w _ := hw_1.trans (hbel3.mono hw_1.size)
     by_cases hj : j ≤ 3
     ·have t0 := cell_of_blk kt 0
      have t1 := cell_of_blk kt 1
      have t2 := cell_of_blk kt 2
      have e0 := cell_of_blk ke 0
      have e1 := cell_of_blk ke 1
      have e2 := cell_of_blk ke 2
      have e3 := cell_of_blk ke 3
      simp only [List.getElem?_toArray, List.getElem?_cons_zero, List.getElem?_cons_succ] at t0 t1 t2 e0 e1 e2 e3
      have st := blk_lt kt
      have se := blk_lt ke
      have sr := blk_lt kr
      rcases Bool.eq_false_or_eq_true (eqT3 (x + d, y + f, j) (x, y, k)) with q | q
      ·have hn : ¬ (d = d0 ∧ f = f0 ∧ j = j0) := by
        rintro ⟨rfl, rfl, rfl⟩
        have := HH.out
        simp [hitB, q] at this
       have r : ∀ w : World, (binOp .neq 44 (.agg #[.int .i64 (x + d), .int .i64 (y + f), .int .i64 j]) (.agg #[.int .i64 x, .int .i64 y, .int .i64 k])).run Tryz.prog w = .ok (.bool false) w := fun w => by rw [neT]; have := q; simp only [eqT3] at this; rw [this]; rfl
       have Q := Lib.hid q
       clear q kt ke kr
       go_wp2
       go_roundw
       case rel => exact ⟨j + 1, by omega, by omega, by omega, rfl, ba hbel3 _⟩
       case measure => simp [intOf]; omega
      ·have r : ∀ w : World, (binOp .neq 44 (.agg #[.int .i64 (x + d), .int .i64 (y + f), .int .i64 j]) (.agg #[.int .i64 x, .int .i64 y, .int .i64 k])).run Tryz.prog w = .ok (.bool true) w := fun w => by rw [neT]; have := q; simp only [eqT3] at this; rw [this]; rfl
       rcases Bool.eq_false_or_eq_true (hasE (x + d) (y + f) j m) with p | p
       ·have HE := Lib.hid (HU.out d f j hd1 (by omega) hf1 hf hj1 hj (by simp [hitB, q, p]))
        have Q := Lib.hid q
        have P := Lib.hid p
        clear q p
        go_wp2_with fail
        refine (has_any (x + d) (y + f) j m _ (by omega) (by omega) (by omega) (by omega) hj1 hj).mono ?_
        rintro e wd ⟨rfl, hbd⟩
        rw [P.out]
        have ku := blk_below (new_blk (.cells #[.int .i64 (x + d), .int .i64 (y + f), .int .i64 j] 44) rfl) hbd (by simp)
        have kr2 := blk_below (blk_alloc kr _) hbd (blk_lt (blk_alloc kr _))
        have hend3 : Below w.heap.size w wd := stay_b (ba hend _) hbd
        clear t0 t1 t2 e0 e1 e2 e3 st se sr kt ke kr hbd hend hend2
        have u0 := cell_of_blk ku 0
        have u1 := cell_of_blk ku 1
        have u2 := cell_of_blk ku 2
        have r0 := cell_of_blk kr2 0
        have r1 := cell_of_blk kr2 1
        have r2 := cell_of_blk kr2 2
        simp only [List.getElem?_toArray, List.getElem?_cons_zero, List.getElem?_cons_succ] at u0 u1 u2 r0 r1 r2
        have su := blk_lt ku
        have sr := blk_lt kr2
        have fr := frozen_of_blk kr2
        clear ku kr2
        go_wp2
        refine bodyPost_ret (v := .tuple #[.agg #[.int .i64 (x + d), .int .i64 (y + f), .int .i64 j], .bool true]) (by simp [results, Tryz.results44, go_sem, r0, r1, r2]) rfl ⟨by rw [HE.out.1, HE.out.2.1, HE.out.2.2], ?_⟩
        exact set3_below hend3 _ (by omega) _ _ _
       ·have hn : ¬ (d = d0 ∧ f = f0 ∧ j = j0) := by
         rintro ⟨rfl, rfl, rfl⟩
         have := HH.out
         simp [hitB, q, p] at this
        have Q := Lib.hid q
        have P := Lib.hid p
        clear q p
        go_wp2_with fail
        refine (has_any (x + d) (y + f) j m _ (by omega) (by omega) (by omega) (by omega) hj1 hj).mono ?_
        rintro e wd ⟨rfl, hbd⟩
        rw [P.out]
        have hend3 := stay_b (ba hbel3 _) hbd
        clear t0 t1 t2 e0 e1 e2 e3 st se sr kt ke kr hbd hend hend2
        go_wp2
        go_roundw
        case rel => exact ⟨j + 1, by omega, by omega, by omega, rfl, hend3⟩
        case measure => simp [intOf]; omega
     ·have hn : ¬ (d = d0 ∧ f = f0) := fun h => by have := hj3 h; omega
      clear kt ke kr
      go_wp2
      go_roundw
      case rel => exact ⟨f + 1, by omega, by omega, by omega, rfl, hbel3⟩
      case measure => simp [intOf]; omega
   ·have hn : ¬ d = d0 := fun h => by have := hf3 h; omega
    go_wp2
    go_roundw
    case rel => exact ⟨d + 1, by omega, by omega, rfl, hbel2⟩
    case measure => simp [intOf]; omega
end
section
open Go.RowKit
def shiftE (a b : Int) (e : E4) : E4 := (e.1 + 2 * a, e.2.1 + 2 * b, e.2.2.1 + 2 * a, e.2.2.2 + 2 * b)
theorem shiftE_add (a b c d : Int) (e : E4) : shiftE (a + c) (b + d) e = shiftE a b (shiftE c d e) := by
 simp only [shiftE, Prod.mk.injEq]
 omega
theorem ordE_shift (x y a b c d : Int) : ordE (a + 2 * x) (b + 2 * y) (c + 2 * x) (d + 2 * y) = shiftE x y (ordE a b c d) := by
 have h : lessB (c + 2 * x) (d + 2 * y) (a + 2 * x) (b + 2 * y) = lessB c d a b := by
  have h1 : (c + 2 * x < a + 2 * x) ↔ c < a := by omega
  have h2 : (c + 2 * x = a + 2 * x) ↔ c = a := by omega
  have h3 : (d + 2 * y < b + 2 * y) ↔ d < b := by omega
  simp only [lessB, h1, h2, h3]
 unfold ordE
 rw [h]
 split <;> rfl
theorem edgeT_shift (x y k : Int) (i : Nat) : edgeT x y k i = shiftE x y (edgeT 0 0 k i) := by
 have c1 : ∀ j, cornX x j = cornX 0 j + 2 * x := fun j => by unfold cornX; omega
 have c2 : ∀ j, cornY y j = cornY 0 j + 2 * y := fun j => by unfold cornY; omega
 have c3 : 2 * x + 1 = (2 * 0 + 1) + 2 * x := by omega
 have c4 : 2 * y + 1 = (2 * 0 + 1) + 2 * y := by omega
 unfold edgeT
 split
 ·rw [c1, c2, c3, c4, ordE_shift]
 ·rw [c1, c2, c1 (k + 1), c2 (k + 1), ordE_shift]
 ·rw [c1, c2, c3, c4, ordE_shift]
theorem edgeT_add (x y d f j : Int) (i : Nat) : edgeT (x + d) (y + f) j i = shiftE x y (edgeT d f j i) := by
 rw [edgeT_shift (x + d), shiftE_add, ← edgeT_shift d]
theorem eqE4_shift (x y : Int) (a b : E4) : eqE4 (shiftE x y a) (shiftE x y b) = eqE4 a b := by
 rw [Bool.eq_iff_iff, eqE4_iff, eqE4_iff]
 obtain ⟨a1, a2, a3, a4⟩ := a
 obtain ⟨b1, b2, b3, b4⟩ := b
 simp only [shiftE, Prod.mk.injEq]
 omega
theorem hasE_shift (x y k d f j : Int) (i : Nat) : hasE (x + d) (y + f) j (edgeT x y k i) = hasE d f j (edgeT 0 0 k i) := by
 unfold hasE
 rw [edgeT_add, edgeT_add, edgeT_add, edgeT_shift x y k i, eqE4_shift, eqE4_shift, eqE4_shift]
theorem eqT3_shift (x y d f j k : Int) : eqT3 (x + d, y + f, j) (x, y, k) = eqT3 (0 + d, 0 + f, j) (0, 0, k) := by
 have h1 : (x + d = x) ↔ (0 + d = 0) := by omega
 have h2 : (y + f = y) ↔ (0 + f = 0) := by omega
 rw [Bool.eq_iff_iff]
 simp only [eqT3, eqL, Bool.and_true, Bool.and_eq_true, beq_iff_eq, h1, h2]
theorem hitB_shift (x y k d f j : Int) (i : Nat) : hitB x y k (edgeT x y k i) d f j = hitB 0 0 k (edgeT 0 0 k i) d f j := by
 unfold hitB
 rw [eqT3_shift, hasE_shift, Int.zero_add, Int.zero_add]
def ks4 : List Int := [0, 1, 2, 3]
def ds3 : List Int := [-1, 0, 1]
theorem tab_hit : (ks4.all fun k => [0, 1, 2].all fun i => ds3.all fun d => ds3.all fun f => ks4.all fun j => hitB 0 0 k (edgeT 0 0 k i) d f j == decide ((d, f, j) = nextT 0 0 k i)) = true := by kernel_rfl
theorem tab_rng : (ks4.all fun k => [0, 1, 2].all fun i => ds3.contains (nextT 0 0 k i).1 && ds3.contains (nextT 0 0 k i).2.1 && ks4.contains (nextT 0 0 k i).2.2) = true := by kernel_rfl
theorem mem_k {k : Int} (h1 : 0 ≤ k) (h2 : k ≤ 3) : k ∈ ks4 := by simp [ks4]; omega
theorem mem_d {d : Int} (h1 : -1 ≤ d) (h2 : d ≤ 1) : d ∈ ds3 := by simp [ds3]; omega
theorem mem_i {i : Nat} (h : i < 3) : i ∈ [0, 1, 2] := by simp; omega
theorem hit_law {k d f j : Int} {i : Nat} (k1 : 0 ≤ k) (k2 : k ≤ 3) (hi : i < 3) (d1 : -1 ≤ d) (d2 : d ≤ 1) (f1 : -1 ≤ f) (f2 : f ≤ 1) (j1 : 0 ≤ j) (j2 : j ≤ 3) (x y : Int) :
  hitB x y k (edgeT x y k i) d f j = decide ((d, f, j) = nextT 0 0 k i) := by
 rw [hitB_shift]
 have h := tab_hit
 simp only [List.all_eq_true, beq_iff_eq] at h
 exact h k (mem_k k1 k2) i (mem_i hi) d (mem_d d1 d2) f (mem_d f1 f2) j (mem_k j1 j2)
theorem rng_law {k : Int} {i : Nat} (k1 : 0 ≤ k) (k2 : k ≤ 3) (hi : i < 3) : (-1 ≤ (nextT 0 0 k i).1 ∧ (nextT 0 0 k i).1 ≤ 1) ∧ (-1 ≤ (nextT 0 0 k i).2.1 ∧ (nextT 0 0 k i).2.1 ≤ 1) ∧ 0 ≤ (nextT 0 0 k i).2.2 ∧ (nextT 0 0 k i).2.2 ≤ 3 := by
 have h := tab_rng
 simp only [List.all_eq_true] at h
 have := h k (mem_k k1 k2) i (mem_i hi)
 simp [ds3, ks4] at this
 omega
theorem next_shift (x y k : Int) (i : Nat) : nextT x y k i = (x + (nextT 0 0 k i).1, y + (nextT 0 0 k i).2.1, (nextT 0 0 k i).2.2) := by
 unfold nextT
 split <;> simp
theorem eqE4_comm (a b : E4) : eqE4 a b = eqE4 b a := by
 rw [Bool.eq_iff_iff, eqE4_iff, eqE4_iff]
 exact eq_comm
theorem has_self (x y k : Int) {i : Nat} (hi : i < 3) : hasE x y k (edgeT x y k i) = true := by
 have h : ∀ a : E4, eqE4 a a = true := fun a => (eqE4_iff a a).2 rfl
 have hi' : i = 0 ∨ i = 1 ∨ i = 2 := by omega
 rcases hi' with rfl | rfl | rfl <;> simp [hasE, h]
theorem idx_no {x y k : Int} {m : E4} (h : hasE x y k m = false) : idxE (edgeT x y k 0) (edgeT x y k 1) (edgeT x y k 2) m = -1 := by
 simp only [hasE, Bool.or_eq_false_iff] at h
 simp [idxE, eqE4_comm m, h.1.1, h.1.2, h.2]
theorem has_one {x y k : Int} {m : E4} (h : hasE x y k m = true) : ∃ i : Nat, i < 3 ∧ m = edgeT x y k i := by
 simp only [hasE, Bool.or_eq_true, eqE4_iff] at h
 rcases h with (h | h) | h
 ·exact ⟨0, by omega, h.symm⟩
 ·exact ⟨1, by omega, h.symm⟩
 ·exact ⟨2, by omega, h.symm⟩
theorem acrossOf_edge (x y k : Int) (i : Nat) (w : World) (hi : i < 3) (x1 : -1000000 ≤ x) (x2 : x ≤ 1000000) (y1 : -1000000 ≤ y) (y2 : y ≤ 1000000) (k1 : 0 ≤ k) (k2 : k ≤ 3) :
  Calls Tryz.prog 44 #[aggT x y k, aggE (edgeT x y k i)] w fun e w' => e = .returned (.tuple #[aggT3 (nextT x y k i), .bool true]) ∧ Below w.heap.size w w' := by
 obtain ⟨⟨d1, d2⟩, ⟨f1, f2⟩, j1, j2⟩ := rng_law k1 k2 hi
 rw [next_shift]
 exact acrossOf_at x y k (edgeT x y k i) _ _ _ w x1 x2 y1 y2 k1 k2 (has_self x y k hi) d1 d2 f1 f2 j1 j2 (by rw [hit_law k1 k2 hi d1 d2 f1 f2 j1 j2]; simp)
  (fun d f j a1 a2 b1 b2 c1 c2 h => by
   rw [hit_law k1 k2 hi a1 a2 b1 b2 c1 c2] at h
   have := of_decide_eq_true h
   rw [← this]
   exact ⟨rfl, rfl, rfl⟩)
end
end Go.Proofs.YtpkjekedgodccaaGreatDoor
