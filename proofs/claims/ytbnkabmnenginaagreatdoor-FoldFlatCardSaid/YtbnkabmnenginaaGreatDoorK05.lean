/- tile.Next; grid.Across. -/
import Derived.Test.YtbnkabmnenginaaGreatDoorK04
namespace Go.Proofs.YtbnkabmnenginaaGreatDoor
set_option linter.unusedSimpArgs false
set_option linter.unusedVariables false
section
open Go.RowKit
abbrev T3 := Int × Int × Int
abbrev aggT3 (t : T3) : Value := .agg #[.int .i64 t.1, .int .i64 t.2.1, .int .i64 t.2.2]
def nextT (x y k : Int) (i : Nat) : T3 := match i with
 | 0 => (x, y, (k + 3) % 4)
 | 1 => (x + (if k = 1 then 1 else if k = 3 then -1 else 0), y + (if k = 0 then -1 else if k = 2 then 1 else 0), (k + 2) % 4)
 | _ => (x, y, (k + 1) % 4)
set_option maxRecDepth 100000 in
theorem idx_0 (w : World) : (Instr.index 130 (.agg #[.int .i64 0, .int .i64 (-1), .int .i64 1, .int .i64 0, .int .i64 0, .int .i64 1, .int .i64 (-1), .int .i64 0]) (.int .i64 0)).run Tryz.prog w = .ok (.agg #[.int .i64 0, .int .i64 (-1)]) w := by first | rfl | kernel_rfl | simp [Instr.index, go_sem]
set_option maxRecDepth 100000 in
theorem idx_1 (w : World) : (Instr.index 130 (.agg #[.int .i64 0, .int .i64 (-1), .int .i64 1, .int .i64 0, .int .i64 0, .int .i64 1, .int .i64 (-1), .int .i64 0]) (.int .i64 1)).run Tryz.prog w = .ok (.agg #[.int .i64 1, .int .i64 0]) w := by first | rfl | kernel_rfl | simp [Instr.index, go_sem]
set_option maxRecDepth 100000 in
theorem idx_2 (w : World) : (Instr.index 130 (.agg #[.int .i64 0, .int .i64 (-1), .int .i64 1, .int .i64 0, .int .i64 0, .int .i64 1, .int .i64 (-1), .int .i64 0]) (.int .i64 2)).run Tryz.prog w = .ok (.agg #[.int .i64 0, .int .i64 1]) w := by first | rfl | kernel_rfl | simp [Instr.index, go_sem]
set_option maxRecDepth 100000 in
theorem idx_3 (w : World) : (Instr.index 130 (.agg #[.int .i64 0, .int .i64 (-1), .int .i64 1, .int .i64 0, .int .i64 0, .int .i64 1, .int .i64 (-1), .int .i64 0]) (.int .i64 3)).run Tryz.prog w = .ok (.agg #[.int .i64 (-1), .int .i64 0]) w := by first | rfl | kernel_rfl | simp [Instr.index, go_sem]
set_option maxRecDepth 100000 in
set_option maxHeartbeats 1600000 in
theorem next_00 (x y : Int) (w : World) (x1 : -1000000 ≤ x) (x2 : x ≤ 1000000) (y1 : -1000000 ≤ y) (y2 : y ≤ 1000000) :
  Calls Tryz.prog 49 #[aggT x y 0, .int .i64 0] w fun e w' => e = .returned (.agg #[.int .i64 x, .int .i64 y, .int .i64 3]) ∧ Below w.heap.size w w' := by
 have hx : bits .and .i64 (0 + 3) 3 = 3 := by rw [and3]; rfl
 have hx2 : bits .and .i64 3 3 = 3 := by rw [and3]; rfl
 go_enter Tryz.func49, Tryz.ntmps49
 go_wp2
 exact bodyPost_ret (v := .agg #[.int .i64 x, .int .i64 y, .int .i64 3]) (by simp [results, Tryz.results49, go_sem]) rfl ⟨rfl, ba (ba (Below.refl _ _) _) _⟩
set_option maxRecDepth 100000 in
set_option maxHeartbeats 1600000 in
theorem next_01 (x y : Int) (w : World) (x1 : -1000000 ≤ x) (x2 : x ≤ 1000000) (y1 : -1000000 ≤ y) (y2 : y ≤ 1000000) :
  Calls Tryz.prog 49 #[aggT x y 1, .int .i64 0] w fun e w' => e = .returned (.agg #[.int .i64 x, .int .i64 y, .int .i64 0]) ∧ Below w.heap.size w w' := by
 have hx : bits .and .i64 (1 + 3) 3 = 0 := by rw [and3]; rfl
 have hx2 : bits .and .i64 4 3 = 0 := by rw [and3]; rfl
 go_enter Tryz.func49, Tryz.ntmps49
 go_wp2
 exact bodyPost_ret (v := .agg #[.int .i64 x, .int .i64 y, .int .i64 0]) (by simp [results, Tryz.results49, go_sem]) rfl ⟨rfl, ba (ba (Below.refl _ _) _) _⟩
set_option maxRecDepth 100000 in
set_option maxHeartbeats 1600000 in
theorem next_02 (x y : Int) (w : World) (x1 : -1000000 ≤ x) (x2 : x ≤ 1000000) (y1 : -1000000 ≤ y) (y2 : y ≤ 1000000) :
  Calls Tryz.prog 49 #[aggT x y 2, .int .i64 0] w fun e w' => e = .returned (.agg #[.int .i64 x, .int .i64 y, .int .i64 1]) ∧ Below w.heap.size w w' := by
 have hx : bits .and .i64 (2 + 3) 3 = 1 := by rw [and3]; rfl
 have hx2 : bits .and .i64 5 3 = 1 := by rw [and3]; rfl
 go_enter Tryz.func49, Tryz.ntmps49
 go_wp2
 exact bodyPost_ret (v := .agg #[.int .i64 x, .int .i64 y, .int .i64 1]) (by simp [results, Tryz.results49, go_sem]) rfl ⟨rfl, ba (ba (Below.refl _ _) _) _⟩
set_option maxRecDepth 100000 in
set_option maxHeartbeats 1600000 in
theorem next_03 (x y : Int) (w : World) (x1 : -1000000 ≤ x) (x2 : x ≤ 1000000) (y1 : -1000000 ≤ y) (y2 : y ≤ 1000000) :
  Calls Tryz.prog 49 #[aggT x y 3, .int .i64 0] w fun e w' => e = .returned (.agg #[.int .i64 x, .int .i64 y, .int .i64 2]) ∧ Below w.heap.size w w' := by
 have hx : bits .and .i64 (3 + 3) 3 = 2 := by rw [and3]; rfl
 have hx2 : bits .and .i64 6 3 = 2 := by rw [and3]; rfl
 go_enter Tryz.func49, Tryz.ntmps49
 go_wp2
 exact bodyPost_ret (v := .agg #[.int .i64 x, .int .i64 y, .int .i64 2]) (by simp [results, Tryz.results49, go_sem]) rfl ⟨rfl, ba (ba (Below.refl _ _) _) _⟩
set_option maxRecDepth 100000 in
set_option maxHeartbeats 1600000 in
theorem next_10 (x y : Int) (w : World) (x1 : -1000000 ≤ x) (x2 : x ≤ 1000000) (y1 : -1000000 ≤ y) (y2 : y ≤ 1000000) :
  Calls Tryz.prog 49 #[aggT x y 0, .int .i64 1] w fun e w' => e = .returned (.agg #[.int .i64 x, .int .i64 (y + (-1)), .int .i64 2]) ∧ Below w.heap.size w w' := by
 have hi := idx_0
 have hx : bits .xor .i64 0 2 = 2 := by decide
 go_enter Tryz.func49, Tryz.ntmps49
 go_wp2
 exact bodyPost_ret (v := .agg #[.int .i64 x, .int .i64 (y + (-1)), .int .i64 2]) (by simp [results, Tryz.results49, go_sem]) rfl ⟨rfl, ba (ba (ba (Below.refl _ _) _) _) _⟩
set_option maxRecDepth 100000 in
set_option maxHeartbeats 1600000 in
theorem next_11 (x y : Int) (w : World) (x1 : -1000000 ≤ x) (x2 : x ≤ 1000000) (y1 : -1000000 ≤ y) (y2 : y ≤ 1000000) :
  Calls Tryz.prog 49 #[aggT x y 1, .int .i64 1] w fun e w' => e = .returned (.agg #[.int .i64 (x + 1), .int .i64 y, .int .i64 3]) ∧ Below w.heap.size w w' := by
 have hi := idx_1
 have hx : bits .xor .i64 1 2 = 3 := by decide
 go_enter Tryz.func49, Tryz.ntmps49
 go_wp2
 exact bodyPost_ret (v := .agg #[.int .i64 (x + 1), .int .i64 y, .int .i64 3]) (by simp [results, Tryz.results49, go_sem]) rfl ⟨rfl, ba (ba (ba (Below.refl _ _) _) _) _⟩
set_option maxRecDepth 100000 in
set_option maxHeartbeats 1600000 in
theorem next_12 (x y : Int) (w : World) (x1 : -1000000 ≤ x) (x2 : x ≤ 1000000) (y1 : -1000000 ≤ y) (y2 : y ≤ 1000000) :
  Calls Tryz.prog 49 #[aggT x y 2, .int .i64 1] w fun e w' => e = .returned (.agg #[.int .i64 x, .int .i64 (y + 1), .int .i64 0]) ∧ Below w.heap.size w w' := by
 have hi := idx_2
 have hx : bits .xor .i64 2 2 = 0 := by decide
 go_enter Tryz.func49, Tryz.ntmps49
 go_wp2
 exact bodyPost_ret (v := .agg #[.int .i64 x, .int .i64 (y + 1), .int .i64 0]) (by simp [results, Tryz.results49, go_sem]) rfl ⟨rfl, ba (ba (ba (Below.refl _ _) _) _) _⟩
set_option maxRecDepth 100000 in
set_option maxHeartbeats 1600000 in
theorem next_13 (x y : Int) (w : World) (x1 : -1000000 ≤ x) (x2 : x ≤ 1000000) (y1 : -1000000 ≤ y) (y2 : y ≤ 1000000) :
  Calls Tryz.prog 49 #[aggT x y 3, .int .i64 1] w fun e w' => e = .returned (.agg #[.int .i64 (x + (-1)), .int .i64 y, .int .i64 1]) ∧ Below w.heap.size w w' := by
 have hi := idx_3
 have hx : bits .xor .i64 3 2 = 1 := by decide
 go_enter Tryz.func49, Tryz.ntmps49
 go_wp2
 exact bodyPost_ret (v := .agg #[.int .i64 (x + (-1)), .int .i64 y, .int .i64 1]) (by simp [results, Tryz.results49, go_sem]) rfl ⟨rfl, ba (ba (ba (Below.refl _ _) _) _) _⟩
set_option maxRecDepth 100000 in
set_option maxHeartbeats 1600000 in
theorem next_20 (x y : Int) (w : World) (x1 : -1000000 ≤ x) (x2 : x ≤ 1000000) (y1 : -1000000 ≤ y) (y2 : y ≤ 1000000) :
  Calls Tryz.prog 49 #[aggT x y 0, .int .i64 2] w fun e w' => e = .returned (.agg #[.int .i64 x, .int .i64 y, .int .i64 1]) ∧ Below w.heap.size w w' := by
 have hx : bits .and .i64 (0 + 1) 3 = 1 := by rw [and3]; rfl
 have hx2 : bits .and .i64 1 3 = 1 := by rw [and3]; rfl
 go_enter Tryz.func49, Tryz.ntmps49
 go_wp2
 exact bodyPost_ret (v := .agg #[.int .i64 x, .int .i64 y, .int .i64 1]) (by simp [results, Tryz.results49, go_sem]) rfl ⟨rfl, ba (ba (Below.refl _ _) _) _⟩
set_option maxRecDepth 100000 in
set_option maxHeartbeats 1600000 in
theorem next_21 (x y : Int) (w : World) (x1 : -1000000 ≤ x) (x2 : x ≤ 1000000) (y1 : -1000000 ≤ y) (y2 : y ≤ 1000000) :
  Calls Tryz.prog 49 #[aggT x y 1, .int .i64 2] w fun e w' => e = .returned (.agg #[.int .i64 x, .int .i64 y, .int .i64 2]) ∧ Below w.heap.size w w' := by
 have hx : bits .and .i64 (1 + 1) 3 = 2 := by rw [and3]; rfl
 have hx2 : bits .and .i64 2 3 = 2 := by rw [and3]; rfl
 go_enter Tryz.func49, Tryz.ntmps49
 go_wp2
 exact bodyPost_ret (v := .agg #[.int .i64 x, .int .i64 y, .int .i64 2]) (by simp [results, Tryz.results49, go_sem]) rfl ⟨rfl, ba (ba (Below.refl _ _) _) _⟩
set_option maxRecDepth 100000 in
set_option maxHeartbeats 1600000 in
theorem next_22 (x y : Int) (w : World) (x1 : -1000000 ≤ x) (x2 : x ≤ 1000000) (y1 : -1000000 ≤ y) (y2 : y ≤ 1000000) :
  Calls Tryz.prog 49 #[aggT x y 2, .int .i64 2] w fun e w' => e = .returned (.agg #[.int .i64 x, .int .i64 y, .int .i64 3]) ∧ Below w.heap.size w w' := by
 have hx : bits .and .i64 (2 + 1) 3 = 3 := by rw [and3]; rfl
 have hx2 : bits .and .i64 3 3 = 3 := by rw [and3]; rfl
 go_enter Tryz.func49, Tryz.ntmps49
 go_wp2
 exact bodyPost_ret (v := .agg #[.int .i64 x, .int .i64 y, .int .i64 3]) (by simp [results, Tryz.results49, go_sem]) rfl ⟨rfl, ba (ba (Below.refl _ _) _) _⟩
set_option maxRecDepth 100000 in
set_option maxHeartbeats 1600000 in
theorem next_23 (x y : Int) (w : World) (x1 : -1000000 ≤ x) (x2 : x ≤ 1000000) (y1 : -1000000 ≤ y) (y2 : y ≤ 1000000) :
  Calls Tryz.prog 49 #[aggT x y 3, .int .i64 2] w fun e w' => e = .returned (.agg #[.int .i64 x, .int .i64 y, .int .i64 0]) ∧ Below w.heap.size w w' := by
 have hx : bits .and .i64 (3 + 1) 3 = 0 := by rw [and3]; rfl
 have hx2 : bits .and .i64 4 3 = 0 := by rw [and3]; rfl
 go_enter Tryz.func49, Tryz.ntmps49
 go_wp2
 exact bodyPost_ret (v := .agg #[.int .i64 x, .int .i64 y, .int .i64 0]) (by simp [results, Tryz.results49, go_sem]) rfl ⟨rfl, ba (ba (Below.refl _ _) _) _⟩
theorem next_any (x y k : Int) (i : Nat) (w : World) (hi : i < 3) (x1 : -1000000 ≤ x) (x2 : x ≤ 1000000) (y1 : -1000000 ≤ y) (y2 : y ≤ 1000000) (k1 : 0 ≤ k) (k2 : k ≤ 3) :
  Calls Tryz.prog 49 #[aggT x y k, .int .i64 i] w fun e w' => e = .returned (aggT3 (nextT x y k i)) ∧ Below w.heap.size w w' := by
 have hi' : i = 0 ∨ i = 1 ∨ i = 2 := by omega
 have hk : k = 0 ∨ k = 1 ∨ k = 2 ∨ k = 3 := by omega
 rcases hi' with rfl | rfl | rfl <;> rcases hk with rfl | rfl | rfl | rfl
 ·exact (next_00 x y w x1 x2 y1 y2).mono fun e w' ⟨he, hb⟩ => ⟨by rw [he]; simp [nextT], hb⟩
 ·exact (next_01 x y w x1 x2 y1 y2).mono fun e w' ⟨he, hb⟩ => ⟨by rw [he]; simp [nextT], hb⟩
 ·exact (next_02 x y w x1 x2 y1 y2).mono fun e w' ⟨he, hb⟩ => ⟨by rw [he]; simp [nextT], hb⟩
 ·exact (next_03 x y w x1 x2 y1 y2).mono fun e w' ⟨he, hb⟩ => ⟨by rw [he]; simp [nextT], hb⟩
 ·exact (next_10 x y w x1 x2 y1 y2).mono fun e w' ⟨he, hb⟩ => ⟨by rw [he]; simp [nextT], hb⟩
 ·exact (next_11 x y w x1 x2 y1 y2).mono fun e w' ⟨he, hb⟩ => ⟨by rw [he]; simp [nextT], hb⟩
 ·exact (next_12 x y w x1 x2 y1 y2).mono fun e w' ⟨he, hb⟩ => ⟨by rw [he]; simp [nextT], hb⟩
 ·exact (next_13 x y w x1 x2 y1 y2).mono fun e w' ⟨he, hb⟩ => ⟨by rw [he]; simp [nextT], hb⟩
 ·exact (next_20 x y w x1 x2 y1 y2).mono fun e w' ⟨he, hb⟩ => ⟨by rw [he]; simp [nextT], hb⟩
 ·exact (next_21 x y w x1 x2 y1 y2).mono fun e w' ⟨he, hb⟩ => ⟨by rw [he]; simp [nextT], hb⟩
 ·exact (next_22 x y w x1 x2 y1 y2).mono fun e w' ⟨he, hb⟩ => ⟨by rw [he]; simp [nextT], hb⟩
 ·exact (next_23 x y w x1 x2 y1 y2).mono fun e w' ⟨he, hb⟩ => ⟨by rw [he]; simp [nextT], hb⟩
theorem set3_below {w w1 : World} (h : Below w.heap.size w w1) (g : Nat) (hg : w.heap.size ≤ g) (a b c : Value) : Below w.heap.size w (((w1.setCell ⟨g, 0, none⟩ a).setCell ⟨g, 1, none⟩ b).setCell ⟨g, 2, none⟩ c) := ((h.setCell hg a).setCell hg b).setCell hg c
end
end Go.Proofs.YtbnkabmnenginaaGreatDoor
