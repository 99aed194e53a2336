/- Words for blocks; the leaf functions of the grid's layer: what may be. The corners of a triangle. Printed by gen_gr1.py. -/
import Derived.Test.YtoienokpchbglaaDoorKit
import Derived.Laws.BitsLemmas
import Derived.Deep.RegionHeld3
namespace Go.Proofs.YtoienokpchbglaaDoor
section
open Go.RowKit

theorem cell_of_blk {w : World} {g : Nat} {t : TypeId} {cs : Array Value} (h : w.heap[g]? = some (.cells cs t (0, 0))) (i : Nat) : w.cell? ⟨g, i, none⟩ = cs[i]? := cell_of_row w g i cs t (0, 0) h
theorem frozen_of_blk {w : World} {g : Nat} {t : TypeId} {cs : Array Value} (h : w.heap[g]? = some (.cells cs t (0, 0))) (i : Nat) : w.frozen? ⟨g, i, none⟩ = false := by simp [World.frozen?, h]
theorem blk_lt {w : World} {g : Nat} {o : Obj} (h : w.heap[g]? = some o) : g < w.heap.size := (Array.getElem?_eq_some_iff.1 h).1
theorem blk_set {w : World} {g : Nat} {t : TypeId} {cs : Array Value} (h : w.heap[g]? = some (.cells cs t (0, 0))) (i : Nat) (u : Value) : (w.setCell ⟨g, i, none⟩ u).heap[g]? = some (.cells (cs.setIfInBounds i u) t (0, 0)) := by
  simp [World.setCell, Array.getElem?_modify, h]
theorem blk_far {w : World} {g : Nat} {o : Obj} (h : w.heap[g]? = some o) {p : Addr} (hp : g ≠ p.block) (u : Value) : (w.setCell p u).heap[g]? = some o := (Below.heap_setCell w p u g hp).trans h
theorem blk_alloc {w : World} {g : Nat} {o : Obj} (h : w.heap[g]? = some o) (o' : Obj) : (w.alloc o').heap[g]? = some o := (Below.heap_alloc w o' g (blk_lt h)).trans h
theorem blk_below {w w' : World} {B g : Nat} {o : Obj} (h : w.heap[g]? = some o) (hb : Below B w w') (hg : g < B) : w'.heap[g]? = some o := (hb.block g hg).trans h
theorem stay_c {B : Nat} {w w' : World} {a : Addr} {v : Value} (h : w.cell? a = some v) (hb : Below B w w') (hB : w.heap.size ≤ B) : w'.cell? a = some v :=
  (hb.cell (by have := World.block_lt_of_cell? w _ h; omega)).trans h
theorem stay_b {v w w' : World} (h : Below v.heap.size v w) (hb : Below w.heap.size w w') : Below v.heap.size v w' := h.trans (hb.mono h.size)
theorem below_new (w : World) (o : Obj) : Below w.heap.size w (w.alloc o) := (Below.refl _ _).alloc (Nat.le_refl _) o

def inN (n : Int) : Bool := decide (-1000000 ≤ n) && decide (n ≤ 1000000)
def triMayB (x y k : Int) : Bool := decide (0 ≤ k) && decide (k ≤ 3) && inN x && inN y
def lineMayB (v c : Int) : Bool := decide (0 ≤ v) && decide (v ≤ 3) && inN c && decide (c % 2 = 0)

set_option maxHeartbeats 400000 in
theorem inB_any (n a b : Int) (w : World) : Calls Tryd.prog 66 #[.int .i64 n, .int .i64 a, .int .i64 b] w fun e w' => e = .returned (.bool (decide (a ≤ n) && decide (n ≤ b))) ∧ w = w' := by
  by_cases h1 : a ≤ n
  · go_enter Tryd.func66, Tryd.ntmps66
    go_wp2
    go_ret
    exact ⟨by simp [h1], rfl⟩
  · go_enter Tryd.func66, Tryd.ntmps66
    go_wp2
    go_ret
    exact ⟨by congr 2; simp; omega, rfl⟩
/-! MAY -/
theorem and1 (n : Int) : bits .and .i64 n 1 = n % 2 := by
  have h : (BitVec.ofInt 64 1).toNat = 2 ^ 1 - 1 := by decide
  have key : (BitVec.ofInt 64 n &&& BitVec.ofInt 64 1).toNat = (n % ((2 ^ 64 : Nat) : Int)).toNat % 2 ^ 1 := by
    rw [BitVec.toNat_and, BitVec.toNat_ofInt, h, Nat.and_two_pow_sub_one_eq_mod]
  show IntKind.i64.wrap ((BitVec.ofInt 64 n &&& BitVec.ofInt 64 1).toNat : Nat) = n % 2
  rw [key, IntKind.wrap_i64]
  omega
theorem and3 (n : Int) : bits .and .i64 n 3 = n % 4 := by
  have h : (BitVec.ofInt 64 3).toNat = 2 ^ 2 - 1 := by decide
  have key : (BitVec.ofInt 64 n &&& BitVec.ofInt 64 3).toNat = (n % ((2 ^ 64 : Nat) : Int)).toNat % 2 ^ 2 := by
    rw [BitVec.toNat_and, BitVec.toNat_ofInt, h, Nat.and_two_pow_sub_one_eq_mod]
  show IntKind.i64.wrap ((BitVec.ofInt 64 n &&& BitVec.ofInt 64 3).toNat : Nat) = n % 4
  rw [key, IntKind.wrap_i64]
  omega
theorem tmod2 (c : Int) : (c.tmod 2 == 0) = decide (c % 2 = 0) := by
  have hd := Int.tmod_def c 2
  rw [Bool.eq_iff_iff]
  simp only [beq_iff_eq, decide_eq_true_eq]
  constructor
  · intro h; omega
  · intro h; exact Int.tmod_eq_zero_of_dvd (by omega)
end
section
open Go.RowKit

/-- The listed table of steps, as the walks read it. -/
structure Steps (w : World) : Prop where
  a0 : w.cell? ⟨0, 0, none⟩ = some (.int .i64 (-1))
  a1 : w.cell? ⟨0, 1, none⟩ = some (.int .i64 (-1))
  b0 : w.cell? ⟨0, 2, none⟩ = some (.int .i64 1)
  b1 : w.cell? ⟨0, 3, none⟩ = some (.int .i64 (-1))
  c0 : w.cell? ⟨0, 4, none⟩ = some (.int .i64 1)
  c1 : w.cell? ⟨0, 5, none⟩ = some (.int .i64 1)
  d0 : w.cell? ⟨0, 6, none⟩ = some (.int .i64 (-1))
  d1 : w.cell? ⟨0, 7, none⟩ = some (.int .i64 1)
theorem Steps.lt {w : World} (h : Steps w) : 0 < w.heap.size := World.block_lt_of_cell? w _ h.a0
theorem Steps.keep {B : Nat} {w w' : World} (h : Steps w) (hb : Below B w w') (hB : w.heap.size ≤ B) : Steps w' :=
  ⟨stay_c h.a0 hb hB, stay_c h.a1 hb hB, stay_c h.b0 hb hB, stay_c h.b1 hb hB, stay_c h.c0 hb hB, stay_c h.c1 hb hB, stay_c h.d0 hb hB, stay_c h.d1 hb hB⟩
theorem Steps.below {w w' : World} (h : Steps w) (hb : Below w.heap.size w w') : Steps w' := h.keep hb (Nat.le_refl _)
theorem Steps.alloc {w : World} (h : Steps w) (o : Obj) : Steps (w.alloc o) := h.below (below_new w o)
def stepX (j : Int) : Int := if j = 1 then 1 else if j = 2 then 1 else -1
def stepY (j : Int) : Int := if j = 2 then 1 else if j = 3 then 1 else -1
/-- A corner of the number k (counted round), from the middle on. -/
def cornX (x k : Int) : Int := 2 * x + 1 + stepX (k % 4)
def cornY (y k : Int) : Int := 2 * y + 1 + stepY (k % 4)

theorem step_below {w : World} (o o' : Obj) : Below w.heap.size w ((w.alloc o).alloc o') := ((Below.refl _ _).alloc (Nat.le_refl _) _).alloc (by simp) _
set_option maxRecDepth 100000 in
set_option maxHeartbeats 1600000 in
theorem corner1_any (k mx my : Int) (g : Nat) (w : World) (hs : Steps w) (c0 : w.cell? ⟨g, 0, none⟩ = some (.int .i64 mx)) (c1 : w.cell? ⟨g, 1, none⟩ = some (.int .i64 my))
    (x1 : -3000000 ≤ mx) (x2 : mx ≤ 3000000) (y1 : -3000000 ≤ my) (y2 : my ≤ 3000000) :
    Calls Tryd.prog 72 #[.int .i64 k, .pointer (some ⟨g, 0, none⟩)] w fun e w' => e = .returned (.agg #[.int .i64 (mx + stepX (k % 4)), .int .i64 (my + stepY (k % 4))]) ∧ Below w.heap.size w w' := by
  have hg : g < w.heap.size := World.block_lt_of_cell? w _ c0
  have hlt := hs.lt
  have hm : k % 4 = 0 ∨ k % 4 = 1 ∨ k % 4 = 2 ∨ k % 4 = 3 := by omega
  rcases hm with hm | hm | hm | hm
  · have hbit : bits .and .i64 k 3 = 0 := by rw [and3, hm]
    have HM := Lib.hid hm
    clear hm
    have t0 := hs.a0
    have t1 := hs.a1
    go_enter Tryd.func72, Tryd.ntmps72
    go_wp2
    refine bodyPost_ret (v := .agg #[.int .i64 (mx + (-1)), .int .i64 (my + (-1))]) (by simp [results, Tryd.results72, go_sem]) rfl ⟨by rw [HM.out]; rfl, ?_⟩
    exact step_below _ _
  · have hbit : bits .and .i64 k 3 = 1 := by rw [and3, hm]
    have HM := Lib.hid hm
    clear hm
    have t0 := hs.b0
    have t1 := hs.b1
    go_enter Tryd.func72, Tryd.ntmps72
    go_wp2
    refine bodyPost_ret (v := .agg #[.int .i64 (mx + 1), .int .i64 (my + (-1))]) (by simp [results, Tryd.results72, go_sem]) rfl ⟨by rw [HM.out]; rfl, ?_⟩
    exact step_below _ _
  · have hbit : bits .and .i64 k 3 = 2 := by rw [and3, hm]
    have HM := Lib.hid hm
    clear hm
    have t0 := hs.c0
    have t1 := hs.c1
    go_enter Tryd.func72, Tryd.ntmps72
    go_wp2
    refine bodyPost_ret (v := .agg #[.int .i64 (mx + 1), .int .i64 (my + 1)]) (by simp [results, Tryd.results72, go_sem]) rfl ⟨by rw [HM.out]; rfl, ?_⟩
    exact step_below _ _
  · have hbit : bits .and .i64 k 3 = 3 := by rw [and3, hm]
    have HM := Lib.hid hm
    clear hm
    have t0 := hs.d0
    have t1 := hs.d1
    go_enter Tryd.func72, Tryd.ntmps72
    go_wp2
    refine bodyPost_ret (v := .agg #[.int .i64 (mx + (-1)), .int .i64 (my + 1)]) (by simp [results, Tryd.results72, go_sem]) rfl ⟨by rw [HM.out]; rfl, ?_⟩
    exact step_below _ _
end
end Go.Proofs.YtoienokpchbglaaDoor
