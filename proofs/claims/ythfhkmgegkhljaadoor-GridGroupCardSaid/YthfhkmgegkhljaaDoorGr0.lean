/- Words for blocks; the leaf functions of the grid's layer: what may be. -/
import Derived.Test.YthfhkmgegkhljaaDoorKit
import Derived.Laws.BitsLemmas
namespace Go.Proofs.YthfhkmgegkhljaaDoor
open Go.RowKit

theorem cell_of_blk {w : World} {g : Nat} {t : TypeId} {cs : Array Value} (h : w.heap[g]? = some (.cells cs t (0, 0))) (i : Nat) : w.cell? ⟨g, i, none⟩ = cs[i]? := cell_of_row w g i cs t (0, 0) h
theorem frozen_of_blk {w : World} {g : Nat} {t : TypeId} {cs : Array Value} (h : w.heap[g]? = some (.cells cs t (0, 0))) (i : Nat) : w.frozen? ⟨g, i, none⟩ = false := by simp [World.frozen?, h]
theorem blk_lt {w : World} {g : Nat} {o : Obj} (h : w.heap[g]? = some o) : g < w.heap.size := (Array.getElem?_eq_some_iff.1 h).1
theorem blk_set {w : World} {g : Nat} {t : TypeId} {cs : Array Value} (h : w.heap[g]? = some (.cells cs t (0, 0))) (i : Nat) (u : Value) : (w.setCell ⟨g, i, none⟩ u).heap[g]? = some (.cells (cs.setIfInBounds i u) t (0, 0)) := by
  simp [World.setCell, Array.getElem?_modify, h]
theorem blk_far {w : World} {g : Nat} {o : Obj} (h : w.heap[g]? = some o) {p : Addr} (hp : g ≠ p.block) (u : Value) : (w.setCell p u).heap[g]? = some o := (Below.heap_setCell w p u g hp).trans h
theorem blk_alloc {w : World} {g : Nat} {o : Obj} (h : w.heap[g]? = some o) (o' : Obj) : (w.alloc o').heap[g]? = some o := (Below.heap_alloc w o' g (blk_lt h)).trans h
theorem blk_below {w w' : World} {B g : Nat} {o : Obj} (h : w.heap[g]? = some o) (hb : Below B w w') (hg : g < B) : w'.heap[g]? = some o := (hb.block g hg).trans h
theorem stay_c {B : Nat} {w w' : World} {a : Addr} {v : Value} (h : w.cell? a = some v) (hb : Below B w w') (hB : w.heap.size ≤ B) : w'.cell? a = some v :=
  (hb.cell (by have := World.block_lt_of_cell? w _ h; omega)).trans h
theorem stay_b {v w w' : World} (h : Below v.heap.size v w) (hb : Below w.heap.size w w') : Below v.heap.size v w' := h.trans (hb.mono h.size)
theorem below_new (w : World) (o : Obj) : Below w.heap.size w (w.alloc o) := (Below.refl _ _).alloc (Nat.le_refl _) o

def inN (n : Int) : Bool := decide (-1000000 ≤ n) && decide (n ≤ 1000000)
def triMayB (x y k : Int) : Bool := decide (0 ≤ k) && decide (k ≤ 3) && inN x && inN y
def lineMayB (v c : Int) : Bool := decide (0 ≤ v) && decide (v ≤ 3) && inN c && decide (c % 2 = 0)

set_option maxHeartbeats 400000 in
theorem in_any (n : Int) (w : World) : Calls Tryd.prog 62 #[.int .i64 n] w fun e w' => e = .returned (.bool (inN n)) ∧ w = w' := by
  by_cases h1 : -1000000 ≤ n
  · go_enter Tryd.func62, Tryd.ntmps62
    go_wp2
    go_ret
    exact ⟨by simp [inN, h1], rfl⟩
  · go_enter Tryd.func62, Tryd.ntmps62
    go_wp2
    go_ret
    exact ⟨by congr 2; simp [inN]; omega, rfl⟩
set_option maxHeartbeats 400000 in
theorem inB_any (n a b : Int) (w : World) : Calls Tryd.prog 40 #[.int .i64 n, .int .i64 a, .int .i64 b] w fun e w' => e = .returned (.bool (decide (a ≤ n) && decide (n ≤ b))) ∧ w = w' := by
  by_cases h1 : a ≤ n
  · go_enter Tryd.func40, Tryd.ntmps40
    go_wp2
    go_ret
    exact ⟨by simp [h1], rfl⟩
  · go_enter Tryd.func40, Tryd.ntmps40
    go_wp2
    go_ret
    exact ⟨by congr 2; simp; omega, rfl⟩
/-! MAY -/
theorem and1 (n : Int) : bits .and .i64 n 1 = n % 2 := by
  have h : (BitVec.ofInt 64 1).toNat = 2 ^ 1 - 1 := by decide
  have key : (BitVec.ofInt 64 n &&& BitVec.ofInt 64 1).toNat = (n % ((2 ^ 64 : Nat) : Int)).toNat % 2 ^ 1 := by
    rw [BitVec.toNat_and, BitVec.toNat_ofInt, h, Nat.and_two_pow_sub_one_eq_mod]
  show IntKind.i64.wrap ((BitVec.ofInt 64 n &&& BitVec.ofInt 64 1).toNat : Nat) = n % 2
  rw [key, IntKind.wrap_i64]
  omega
theorem and3 (n : Int) : bits .and .i64 n 3 = n % 4 := by
  have h : (BitVec.ofInt 64 3).toNat = 2 ^ 2 - 1 := by decide
  have key : (BitVec.ofInt 64 n &&& BitVec.ofInt 64 3).toNat = (n % ((2 ^ 64 : Nat) : Int)).toNat % 2 ^ 2 := by
    rw [BitVec.toNat_and, BitVec.toNat_ofInt, h, Nat.and_two_pow_sub_one_eq_mod]
  show IntKind.i64.wrap ((BitVec.ofInt 64 n &&& BitVec.ofInt 64 3).toNat : Nat) = n % 4
  rw [key, IntKind.wrap_i64]
  omega
theorem tmod2 (c : Int) : (c.tmod 2 == 0) = decide (c % 2 = 0) := by
  have hd := Int.tmod_def c 2
  rw [Bool.eq_iff_iff]
  simp only [beq_iff_eq, decide_eq_true_eq]
  constructor
  · intro h; omega
  · intro h; exact Int.tmod_eq_zero_of_dvd (by omega)

set_option maxHeartbeats 800000 in
theorem triMay_any (x y k : Int) (w : World) : Calls Tryd.prog 32 #[.agg #[.int .i64 x, .int .i64 y, .int .i64 k]] w fun e w' => e = .returned (.bool (triMayB x y k)) ∧ Below w.heap.size w w' := by
  have hb := below_new w (.cells #[.int .i64 x, .int .i64 y, .int .i64 k] 23)
  by_cases c0 : 0 ≤ k
  rotate_left
  · go_enter Tryd.func32, Tryd.ntmps32
    go_wp2
    go_ret
    exact ⟨by first | (simp [triMayB, *]; done) | (simp [triMayB, *]; intros; omega) | (simp [triMayB, *]; rw [Bool.eq_iff_iff]; simp), hb⟩
  by_cases c1 : k ≤ 3
  rotate_left
  · go_enter Tryd.func32, Tryd.ntmps32
    go_wp2
    go_ret
    exact ⟨by first | (simp [triMayB, *]; done) | (simp [triMayB, *]; intros; omega) | (simp [triMayB, *]; rw [Bool.eq_iff_iff]; simp), hb⟩
  by_cases c2 : inN x = true
  rotate_left
  · have g2 : inN x = false := by simpa using c2
    have H1 := Lib.hid g2
    go_enter Tryd.func32, Tryd.ntmps32
    go_wp2_with fail
    refine (in_any x _).mono ?_
    rintro e w1 ⟨rfl, rfl⟩
    rw [H1.out]
    go_wp2
    go_ret
    exact ⟨by first | (simp [triMayB, *]; done) | (simp [triMayB, *]; intros; omega) | (simp [triMayB, *]; rw [Bool.eq_iff_iff]; simp), hb⟩
  have H1 := Lib.hid c2
  go_enter Tryd.func32, Tryd.ntmps32
  go_wp2_with fail
  refine (in_any x _).mono ?_
  rintro e w1 ⟨rfl, rfl⟩
  rw [H1.out]
  go_wp2_with fail
  refine (in_any y _).mono ?_
  rintro e w2 ⟨rfl, rfl⟩
  go_wp2
  go_ret
  exact ⟨by first | (simp [triMayB, *]; done) | (simp [triMayB, *]; intros; omega) | (simp [triMayB, *]; rw [Bool.eq_iff_iff]; simp), hb⟩

set_option maxHeartbeats 800000 in
theorem refTri_any (x y k : Int) (w : World) : Calls Tryd.prog 11 #[.agg #[.int .i64 x, .int .i64 y, .int .i64 k]] w fun e w' => e = .returned (.bool (triMayB x y k)) ∧ Below w.heap.size w w' := by
  have hb := below_new w (.cells #[.int .i64 x, .int .i64 y, .int .i64 k] 23)
  by_cases c0 : (decide (0 ≤ k) && decide (k ≤ 3)) = true
  rotate_left
  · have g0 : (decide (0 ≤ k) && decide (k ≤ 3)) = false := by simpa using c0
    have H1 := Lib.hid g0
    go_enter Tryd.func11, Tryd.ntmps11
    go_wp2_with fail
    refine (inB_any k 0 3 _).mono ?_
    rintro e w1 ⟨rfl, rfl⟩
    rw [H1.out]
    go_wp2
    go_ret
    exact ⟨by first | (simp [triMayB, inN, *]; done) | (simp [triMayB, inN, *]; intros; omega) | (simp [triMayB, inN, *]; rw [Bool.eq_iff_iff]; simp), hb⟩
  have H1 := Lib.hid c0
  by_cases c1 : (decide (-1000000 ≤ x) && decide (x ≤ 1000000)) = true
  rotate_left
  · have g1 : (decide (-1000000 ≤ x) && decide (x ≤ 1000000)) = false := by simpa using c1
    have H2 := Lib.hid g1
    go_enter Tryd.func11, Tryd.ntmps11
    go_wp2_with fail
    refine (inB_any k 0 3 _).mono ?_
    rintro e w1 ⟨rfl, rfl⟩
    rw [H1.out]
    go_wp2_with fail
    refine (inB_any x (-1000000) 1000000 _).mono ?_
    rintro e w2 ⟨rfl, rfl⟩
    rw [H2.out]
    go_wp2
    go_ret
    exact ⟨by first | (simp [triMayB, inN, *]; done) | (simp [triMayB, inN, *]; intros; omega) | (simp [triMayB, inN, *]; rw [Bool.eq_iff_iff]; simp), hb⟩
  have H2 := Lib.hid c1
  go_enter Tryd.func11, Tryd.ntmps11
  go_wp2_with fail
  refine (inB_any k 0 3 _).mono ?_
  rintro e w1 ⟨rfl, rfl⟩
  rw [H1.out]
  go_wp2_with fail
  refine (inB_any x (-1000000) 1000000 _).mono ?_
  rintro e w2 ⟨rfl, rfl⟩
  rw [H2.out]
  go_wp2_with fail
  refine (inB_any y (-1000000) 1000000 _).mono ?_
  rintro e w3 ⟨rfl, rfl⟩
  go_wp2
  go_ret
  exact ⟨by first | (simp [triMayB, inN, *]; done) | (simp [triMayB, inN, *]; intros; omega) | (simp [triMayB, inN, *]; rw [Bool.eq_iff_iff]; simp), hb⟩

set_option maxHeartbeats 800000 in
theorem lineMay_any (v c : Int) (w : World) : Calls Tryd.prog 44 #[.agg #[.int .i64 v, .int .i64 c]] w fun e w' => e = .returned (.bool (lineMayB v c)) ∧ Below w.heap.size w w' := by
  have hbit := and1 c
  have htm := tmod2 c
  have hb := below_new w (.cells #[.int .i64 v, .int .i64 c] 47)
  by_cases c0 : 0 ≤ v
  rotate_left
  · go_enter Tryd.func44, Tryd.ntmps44
    go_wp2
    go_ret
    exact ⟨by first | (simp [lineMayB, *]; done) | (simp [lineMayB, *]; intros; omega) | (simp [lineMayB, *]; rw [Bool.eq_iff_iff]; simp), hb⟩
  by_cases c1 : v ≤ 3
  rotate_left
  · go_enter Tryd.func44, Tryd.ntmps44
    go_wp2
    go_ret
    exact ⟨by first | (simp [lineMayB, *]; done) | (simp [lineMayB, *]; intros; omega) | (simp [lineMayB, *]; rw [Bool.eq_iff_iff]; simp), hb⟩
  by_cases c2 : inN c = true
  rotate_left
  · have g2 : inN c = false := by simpa using c2
    have H1 := Lib.hid g2
    go_enter Tryd.func44, Tryd.ntmps44
    go_wp2_with fail
    refine (in_any c _).mono ?_
    rintro e w1 ⟨rfl, rfl⟩
    rw [H1.out]
    go_wp2
    go_ret
    exact ⟨by first | (simp [lineMayB, *]; done) | (simp [lineMayB, *]; intros; omega) | (simp [lineMayB, *]; rw [Bool.eq_iff_iff]; simp), hb⟩
  have H1 := Lib.hid c2
  go_enter Tryd.func44, Tryd.ntmps44
  go_wp2_with fail
  refine (in_any c _).mono ?_
  rintro e w1 ⟨rfl, rfl⟩
  rw [H1.out]
  go_wp2
  go_ret
  exact ⟨by first | (simp [lineMayB, *]; done) | (simp [lineMayB, *]; intros; omega) | (simp [lineMayB, *]; rw [Bool.eq_iff_iff]; simp), hb⟩

set_option maxHeartbeats 800000 in
theorem refLine_any (v c : Int) (w : World) : Calls Tryd.prog 18 #[.agg #[.int .i64 v, .int .i64 c]] w fun e w' => e = .returned (.bool (lineMayB v c)) ∧ Below w.heap.size w w' := by
  have hbit := and1 c
  have htm := tmod2 c
  have hb := below_new w (.cells #[.int .i64 v, .int .i64 c] 47)
  by_cases c0 : (decide (0 ≤ v) && decide (v ≤ 3)) = true
  rotate_left
  · have g0 : (decide (0 ≤ v) && decide (v ≤ 3)) = false := by simpa using c0
    have H1 := Lib.hid g0
    go_enter Tryd.func18, Tryd.ntmps18
    go_wp2_with fail
    refine (inB_any v 0 3 _).mono ?_
    rintro e w1 ⟨rfl, rfl⟩
    rw [H1.out]
    go_wp2
    go_ret
    exact ⟨by first | (simp [lineMayB, inN, *]; done) | (simp [lineMayB, inN, *]; intros; omega) | (simp [lineMayB, inN, *]; rw [Bool.eq_iff_iff]; simp), hb⟩
  have H1 := Lib.hid c0
  by_cases c1 : (decide (-1000000 ≤ c) && decide (c ≤ 1000000)) = true
  rotate_left
  · have g1 : (decide (-1000000 ≤ c) && decide (c ≤ 1000000)) = false := by simpa using c1
    have H2 := Lib.hid g1
    go_enter Tryd.func18, Tryd.ntmps18
    go_wp2_with fail
    refine (inB_any v 0 3 _).mono ?_
    rintro e w1 ⟨rfl, rfl⟩
    rw [H1.out]
    go_wp2_with fail
    refine (inB_any c (-1000000) 1000000 _).mono ?_
    rintro e w2 ⟨rfl, rfl⟩
    rw [H2.out]
    go_wp2
    go_ret
    exact ⟨by first | (simp [lineMayB, inN, *]; done) | (simp [lineMayB, inN, *]; intros; omega) | (simp [lineMayB, inN, *]; rw [Bool.eq_iff_iff]; simp), hb⟩
  have H2 := Lib.hid c1
  go_enter Tryd.func18, Tryd.ntmps18
  go_wp2_with fail
  refine (inB_any v 0 3 _).mono ?_
  rintro e w1 ⟨rfl, rfl⟩
  rw [H1.out]
  go_wp2_with fail
  refine (inB_any c (-1000000) 1000000 _).mono ?_
  rintro e w2 ⟨rfl, rfl⟩
  rw [H2.out]
  go_wp2
  go_ret
  exact ⟨by first | (simp [lineMayB, inN, *]; done) | (simp [lineMayB, inN, *]; intros; omega) | (simp [lineMayB, inN, *]; rw [Bool.eq_iff_iff]; simp), hb⟩

end Go.Proofs.YthfhkmgegkhljaaDoor
