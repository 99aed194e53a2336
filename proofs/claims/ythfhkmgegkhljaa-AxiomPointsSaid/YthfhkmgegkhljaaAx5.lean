/- Through, Onto, Upright, Turns: the program's and the reference's. -/
import Derived.Test.YthfhkmgegkhljaaAx4
namespace Go.Proofs.Ythfhkmgegkhljaa
open Go.RowKit

theorem blk_drewN {w : World} {g : Nat} {o : Obj} (h : w.heap[g]? = some o) (k : Nat) : (w.drewN k).heap[g]? = some o := h
theorem mul_bd {x y : Int} (X Y : Int) (h1 : -X ≤ x) (h2 : x ≤ X) (h3 : -Y ≤ y) (h4 : y ≤ Y) : -(X * Y) ≤ x * y ∧ x * y ≤ X * Y := by
  have hX : 0 ≤ X := by omega
  have hY : 0 ≤ Y := by omega
  have h : (x * y).natAbs ≤ (X * Y).natAbs := by
    rw [Int.natAbs_mul, Int.natAbs_mul]
    exact Nat.mul_le_mul (by omega) (by omega)
  have := Int.mul_nonneg hX hY
  omega
theorem farN_bd {z : Int} (h : farN z = false) : -1000 ≤ z ∧ z ≤ 1000 := by simp [farN] at h; omega
theorem farP_bd {p : V2} (h : farP p = false) : (-1000 ≤ p.1 ∧ p.1 ≤ 1000) ∧ (-1000 ≤ p.2 ∧ p.2 ≤ 1000) := by
  simp only [farP, Bool.or_eq_false_iff] at h
  exact ⟨farN_bd h.1, farN_bd h.2⟩
theorem farL_bd {l : V3} (h : farL l = false) : (-1000 ≤ l.1 ∧ l.1 ≤ 1000) ∧ (-1000 ≤ l.2.1 ∧ l.2.1 ≤ 1000) ∧ (-1000 ≤ l.2.2 ∧ l.2.2 ≤ 1000) := by
  simp only [farL, Bool.or_eq_false_iff] at h
  exact ⟨farN_bd h.1.1, farN_bd h.1.2, farN_bd h.2⟩
abbrev aggP (p : V2) : Value := .agg #[.int .i64 p.1, .int .i64 p.2]

theorem rd_lit_p1 (w : World) (x y : Int) : Rd (w.alloc (.cells #[.int .i64 x, .int .i64 y] 29)) 2 (some ⟨w.heap.size, 0, none⟩) 1 (vps [(x, y)]) :=
  Rd.of_own (World.ownsRow_lit (base := 0) (e := 29) (size := 2) w #[.int .i64 x, .int .i64 y] 1 (Nat.zero_le _) (by simp [maxLen]) rfl)
theorem rd_lit_p2 (w : World) (x y u v : Int) : Rd (w.alloc (.cells #[.int .i64 x, .int .i64 y, .int .i64 u, .int .i64 v] 29)) 2 (some ⟨w.heap.size, 0, none⟩) 2 (vps [(x, y), (u, v)]) :=
  Rd.of_own (World.ownsRow_lit (base := 0) (e := 29) (size := 2) w #[.int .i64 x, .int .i64 y, .int .i64 u, .int .i64 v] 2 (Nat.zero_le _) (by simp [maxLen]) rfl)
theorem rd_lit_s1 (w : World) (x y z : Int) : Rd (w.alloc (.cells #[.int .i64 x, .int .i64 y, .int .i64 z] 40)) 3 (some ⟨w.heap.size, 0, none⟩) 1 (vsts [(x, y, z)]) :=
  Rd.of_own (World.ownsRow_lit (base := 0) (e := 40) (size := 3) w #[.int .i64 x, .int .i64 y, .int .i64 z] 1 (Nat.zero_le _) (by simp [maxLen]) rfl)

/-- The world in which a function of two points calls 'check'. -/
def two3 (w : World) (x y u v : Int) : World := ((w.alloc (.cells #[.int .i64 x, .int .i64 y] 29)).alloc (.cells #[.int .i64 u, .int .i64 v] 29)).alloc (.cells #[.int .i64 0, .int .i64 0, .int .i64 0] 40)
theorem two3_below (w : World) (x y u v : Int) : Below w.heap.size w (two3 w x y u v) :=
  (((Below.refl _ _).alloc (Nat.le_refl _) _).alloc (by simp) _).alloc (by simp; omega) _
theorem two3_size (w : World) (x y u v : Int) : (two3 w x y u v).heap.size = w.heap.size + 1 + 1 + 1 := by simp [two3]

/-- What is still there behind the call of 'check'. -/
theorem after3 {w w1 : World} {px py qx qy : Int} {o : Obj} (hb : Below ((two3 w px py qx qy).alloc o).heap.size ((two3 w px py qx qy).alloc o) w1) :
    w1.cell? ⟨w.heap.size, 0, none⟩ = some (.int .i64 px) ∧ w1.cell? ⟨w.heap.size, 1, none⟩ = some (.int .i64 py) ∧ w1.cell? ⟨w.heap.size + 1, 0, none⟩ = some (.int .i64 qx) ∧ w1.cell? ⟨w.heap.size + 1, 1, none⟩ = some (.int .i64 qy) ∧
    w1.heap[w.heap.size + 1 + 1]? = some (.cells #[.int .i64 0, .int .i64 0, .int .i64 0] 40 (0, 0)) ∧ w.heap.size + 1 + 1 < w1.heap.size ∧ Below w.heap.size w w1 := by
  have b0 := blk_alloc (blk_alloc (blk_alloc (heap_alloc_new w (.cells #[.int .i64 px, .int .i64 py] 29)) (.cells #[.int .i64 qx, .int .i64 qy] 29)) (.cells #[.int .i64 0, .int .i64 0, .int .i64 0] 40)) o
  have b1 := blk_alloc (blk_alloc (heap_alloc_new (w.alloc (.cells #[.int .i64 px, .int .i64 py] 29)) (.cells #[.int .i64 qx, .int .i64 qy] 29)) (.cells #[.int .i64 0, .int .i64 0, .int .i64 0] 40)) o
  have b2 := blk_alloc (heap_alloc_new ((w.alloc (.cells #[.int .i64 px, .int .i64 py] 29)).alloc (.cells #[.int .i64 qx, .int .i64 qy] 29)) (.cells #[.int .i64 0, .int .i64 0, .int .i64 0] 40)) o
  rw [World.size_alloc] at b1
  rw [World.size_alloc, World.size_alloc] at b2
  have k0 := blk_below b0 hb (blk_lt b0)
  have k1 := blk_below b1 hb (blk_lt b1)
  have k2 := blk_below b2 hb (blk_lt b2)
  exact ⟨cell_of_blk k0 0, cell_of_blk k0 1, cell_of_blk k1 0, cell_of_blk k1 1, k2, blk_lt k2, ((two3_below w px py qx qy).alloc (by rw [two3_size]; omega) o).trans (hb.mono (by simp [two3]; omega))⟩
theorem set3_below {w w1 : World} (h : Below w.heap.size w w1) (g : Nat) (hg : w.heap.size ≤ g) (x y z : Value) : Below w.heap.size w (((w1.setCell ⟨g, 0, none⟩ x).setCell ⟨g, 1, none⟩ y).setCell ⟨g, 2, none⟩ z) :=
  ((h.setCell hg x).setCell hg y).setCell hg z

set_option maxRecDepth 100000 in
set_option maxHeartbeats 1600000 in
theorem through_no (px py qx qy : Int) (w : World) (E : Int) (hE : farE [(px, py), (qx, qy)] [] = E) (h0 : E ≠ 0) :
    Calls Try.prog 20 #[.agg #[.int .i64 px, .int .i64 py], .agg #[.int .i64 qx, .int .i64 qy]] w fun e w' => e = .returned (.tuple #[aggS (0, 0, 0), .int .i64 E]) ∧ Below w.heap.size w w' := by
  have HE := Lib.hid hE
  have hneE : (E != 0) = true := by simpa using h0
  clear h0
  have hrd := rd_lit_p2 (two3 w px py qx qy) px py qx qy
  rw [two3_size] at hrd
  clear hE
  go_enter Try.func20, Try.ntmps20
  go_wp2_with fail
  refine (acheck_any _ none 2 0 2 0 [(px, py), (qx, qy)] [] _ hrd Rd.nil (by decide) (by decide)).mono ?_
  rintro e w1 ⟨rfl, hb1⟩
  rw [HE.out]
  obtain ⟨c00, c01, c10, c11, k2, hlt, hbw⟩ := after3 hb1
  have c20 := cell_of_blk k2 0
  have c21 := cell_of_blk k2 1
  have c22 := cell_of_blk k2 2
  have f2 := frozen_of_blk k2
  simp only [List.getElem?_toArray, List.getElem?_cons_zero, List.getElem?_cons_succ] at c20 c21 c22
  have K2 := Lib.hid k2
  clear k2 hb1
  go_wp2
  exact bodyPost_ret (v := .tuple #[aggS (0, 0, 0), .int .i64 E]) (by simp [results, Try.results20, go_sem, c20, c21, c22]) rfl ⟨rfl, set3_below hbw _ (by omega) _ _ _⟩

set_option maxRecDepth 100000 in
set_option maxHeartbeats 1600000 in
theorem through_eq (px py : Int) (w : World) (hE : farE [(px, py), (px, py)] [] = 0) :
    Calls Try.prog 20 #[.agg #[.int .i64 px, .int .i64 py], .agg #[.int .i64 px, .int .i64 py]] w fun e w' => e = .returned (.tuple #[aggS (0, 0, 0), .int .i64 6]) ∧ Below w.heap.size w w' := by
  have HE := Lib.hid hE
  have hrd := rd_lit_p2 (two3 w px py px py) px py px py
  rw [two3_size] at hrd
  clear hE
  go_enter Try.func20, Try.ntmps20
  go_wp2_with fail
  refine (acheck_any _ none 2 0 2 0 [(px, py), (px, py)] [] _ hrd Rd.nil (by decide) (by decide)).mono ?_
  rintro e w1 ⟨rfl, hb1⟩
  rw [HE.out]
  obtain ⟨c00, c01, c10, c11, k2, hlt, hbw⟩ := after3 hb1
  have c20 := cell_of_blk k2 0
  have c21 := cell_of_blk k2 1
  have c22 := cell_of_blk k2 2
  have f2 := frozen_of_blk k2
  simp only [List.getElem?_toArray, List.getElem?_cons_zero, List.getElem?_cons_succ] at c20 c21 c22
  have K2 := Lib.hid k2
  clear k2 hb1
  go_wp2
  exact bodyPost_ret (v := .tuple #[aggS (0, 0, 0), .int .i64 6]) (by simp [results, Try.results20, go_sem, c20, c21, c22]) rfl ⟨rfl, set3_below hbw _ (by omega) _ _ _⟩

set_option maxRecDepth 100000 in
set_option maxHeartbeats 1600000 in
theorem through_okA (px py qx qy : Int) (w : World) (hE : farE [(px, py), (qx, qy)] [] = 0) (hne : (px, py) ≠ (qx, qy)) (hx : px ≠ qx) :
    Calls Try.prog 20 #[.agg #[.int .i64 px, .int .i64 py], .agg #[.int .i64 qx, .int .i64 qy]] w fun e w' => e = .returned (.tuple #[aggS (formS (qy - py) (px - qx) ((qy - py) * px + (px - qx) * py)), .int .i64 0]) ∧ Below w.heap.size w w' := by
  have HE := Lib.hid hE
  have hf : farP (px, py) = false ∧ farP (qx, qy) = false := by
    unfold farE at hE
    split at hE
    · cases hE
    · rename_i h; simpa using h
  obtain ⟨⟨p1, p2⟩, p3, p4⟩ := farP_bd hf.1
  obtain ⟨⟨q1, q2⟩, q3, q4⟩ := farP_bd hf.2
  simp only at p1 p2 p3 p4 q1 q2 q3 q4
  clear hf
  have hpq : ¬ (px = qx ∧ py = qy) := fun h => hne (by rw [h.1, h.2])
  clear hne
  obtain ⟨m1, m2⟩ := mul_bd (x := qy - py) (y := px) 2000 1000 (by omega) (by omega) (by omega) (by omega)
  obtain ⟨m3, m4⟩ := mul_bd (x := px - qx) (y := py) 2000 1000 (by omega) (by omega) (by omega) (by omega)
  simp only [Int.reduceMul] at m1 m2 m3 m4
  have hnz : Hid (qy - py ≠ 0 ∨ px - qx ≠ 0) := Lib.hid (by omega)
  have hrd := rd_lit_p2 (two3 w px py qx qy) px py qx qy
  rw [two3_size] at hrd
  clear hE
  go_enter Try.func20, Try.ntmps20
  go_wp2_with fail
  refine (acheck_any _ none 2 0 2 0 [(px, py), (qx, qy)] [] _ hrd Rd.nil (by decide) (by decide)).mono ?_
  rintro e w1 ⟨rfl, hb1⟩
  rw [HE.out]
  obtain ⟨c00, c01, c10, c11, k2, hlt, hbw⟩ := after3 hb1
  have c20 := cell_of_blk k2 0
  have c21 := cell_of_blk k2 1
  have c22 := cell_of_blk k2 2
  have f2 := frozen_of_blk k2
  simp only [List.getElem?_toArray, List.getElem?_cons_zero, List.getElem?_cons_succ] at c20 c21 c22
  have K2 := Lib.hid k2
  clear k2 hb1
  go_wp2
  all_goals
    go_quiet (fail)
    go_wp2_with fail
    refine (form_any (qy - py) (px - qx) ((qy - py) * px + (px - qx) * py) _ (by have := hnz.out; simp at this; omega) (by omega) (by omega) (by omega) (by omega) (by omega) (by omega)).mono ?_
    rintro e w2 ⟨he, hb2⟩
    obtain ⟨S, hS⟩ : ∃ S, S = formS (qy - py) (px - qx) ((qy - py) * px + (px - qx) * py) := ⟨_, rfl⟩
    rw [← hS] at he
    subst he
    have HS := Lib.hid hS
    clear hS
    have k2 := blk_below (blk_drewN K2.out _) hb2 (blk_lt K2.out)
    have c20 := cell_of_blk k2 0
    have c21 := cell_of_blk k2 1
    have c22 := cell_of_blk k2 2
    have f2 := frozen_of_blk k2
    simp only [List.getElem?_toArray, List.getElem?_cons_zero, List.getElem?_cons_succ] at c20 c21 c22
    have hlt2 := blk_lt k2
    have hbw2 := (below_drewN hbw _).trans (hb2.mono (below_drewN hbw _).size)
    clear k2 hb2
    go_wp2
    exact bodyPost_ret (v := .tuple #[aggS S, .int .i64 0]) (by simp [results, Try.results20, go_sem, c20, c21, c22]) rfl ⟨by rw [HS.out], set3_below hbw2 _ (by omega) _ _ _⟩

set_option maxRecDepth 100000 in
set_option maxHeartbeats 1600000 in
theorem through_okB (px py qy : Int) (w : World) (hE : farE [(px, py), (px, qy)] [] = 0) (hne : (px, py) ≠ (px, qy)) :
    Calls Try.prog 20 #[.agg #[.int .i64 px, .int .i64 py], .agg #[.int .i64 px, .int .i64 qy]] w fun e w' => e = .returned (.tuple #[aggS (formS (qy - py) (px - px) ((qy - py) * px + (px - px) * py)), .int .i64 0]) ∧ Below w.heap.size w w' := by
  have HE := Lib.hid hE
  have hf : farP (px, py) = false ∧ farP (px, qy) = false := by
    unfold farE at hE
    split at hE
    · cases hE
    · rename_i h; simpa using h
  obtain ⟨⟨p1, p2⟩, p3, p4⟩ := farP_bd hf.1
  obtain ⟨⟨q1, q2⟩, q3, q4⟩ := farP_bd hf.2
  simp only at p1 p2 p3 p4 q1 q2 q3 q4
  clear hf
  have hpq : ¬ (px = px ∧ py = qy) := fun h => hne (by rw [h.1, h.2])
  clear hne
  obtain ⟨m1, m2⟩ := mul_bd (x := qy - py) (y := px) 2000 1000 (by omega) (by omega) (by omega) (by omega)
  obtain ⟨m3, m4⟩ := mul_bd (x := px - px) (y := py) 2000 1000 (by omega) (by omega) (by omega) (by omega)
  simp only [Int.reduceMul] at m1 m2 m3 m4
  have hnz : Hid (qy - py ≠ 0 ∨ px - px ≠ 0) := Lib.hid (by omega)
  have hyy : ¬ py = qy := fun h => hpq ⟨rfl, h⟩
  clear hpq
  have hrd := rd_lit_p2 (two3 w px py px qy) px py px qy
  rw [two3_size] at hrd
  clear hE
  go_enter Try.func20, Try.ntmps20
  go_wp2_with fail
  refine (acheck_any _ none 2 0 2 0 [(px, py), (px, qy)] [] _ hrd Rd.nil (by decide) (by decide)).mono ?_
  rintro e w1 ⟨rfl, hb1⟩
  rw [HE.out]
  obtain ⟨c00, c01, c10, c11, k2, hlt, hbw⟩ := after3 hb1
  have c20 := cell_of_blk k2 0
  have c21 := cell_of_blk k2 1
  have c22 := cell_of_blk k2 2
  have f2 := frozen_of_blk k2
  simp only [List.getElem?_toArray, List.getElem?_cons_zero, List.getElem?_cons_succ] at c20 c21 c22
  have K2 := Lib.hid k2
  clear k2 hb1
  go_wp2
  all_goals
    go_quiet (fail)
    go_wp2_with fail
    refine (form_any (qy - py) 0 ((qy - py) * px) _ (by have := hnz.out; simp at this; omega) (by omega) (by omega) (by omega) (by omega) (by omega) (by omega)).mono ?_
    rintro e w2 ⟨he, hb2⟩
    obtain ⟨S, hS⟩ : ∃ S, S = formS (qy - py) 0 ((qy - py) * px) := ⟨_, rfl⟩
    rw [← hS] at he
    subst he
    have HS := Lib.hid hS
    clear hS
    have k2 := blk_below (blk_drewN K2.out _) hb2 (blk_lt K2.out)
    have c20 := cell_of_blk k2 0
    have c21 := cell_of_blk k2 1
    have c22 := cell_of_blk k2 2
    have f2 := frozen_of_blk k2
    simp only [List.getElem?_toArray, List.getElem?_cons_zero, List.getElem?_cons_succ] at c20 c21 c22
    have hlt2 := blk_lt k2
    have hbw2 := (below_drewN hbw _).trans (hb2.mono (below_drewN hbw _).size)
    clear k2 hb2
    go_wp2
    exact bodyPost_ret (v := .tuple #[aggS S, .int .i64 0]) (by simp [results, Try.results20, go_sem, c20, c21, c22]) rfl ⟨by rw [HS.out]; rw [Int.sub_self, Int.zero_mul, Int.add_zero], set3_below hbw2 _ (by omega) _ _ _⟩

set_option maxRecDepth 100000 in
set_option maxHeartbeats 1600000 in
theorem onto_no (px py qx qy : Int) (w : World) (E : Int) (hE : farE [(px, py), (qx, qy)] [] = E) (h0 : E ≠ 0) :
    Calls Try.prog 19 #[.agg #[.int .i64 px, .int .i64 py], .agg #[.int .i64 qx, .int .i64 qy]] w fun e w' => e = .returned (.tuple #[aggS (0, 0, 0), .int .i64 E]) ∧ Below w.heap.size w w' := by
  have HE := Lib.hid hE
  have hneE : (E != 0) = true := by simpa using h0
  clear h0
  have hrd := rd_lit_p2 (two3 w px py qx qy) px py qx qy
  rw [two3_size] at hrd
  clear hE
  go_enter Try.func19, Try.ntmps19
  go_wp2_with fail
  refine (acheck_any _ none 2 0 2 0 [(px, py), (qx, qy)] [] _ hrd Rd.nil (by decide) (by decide)).mono ?_
  rintro e w1 ⟨rfl, hb1⟩
  rw [HE.out]
  obtain ⟨c00, c01, c10, c11, k2, hlt, hbw⟩ := after3 hb1
  have c20 := cell_of_blk k2 0
  have c21 := cell_of_blk k2 1
  have c22 := cell_of_blk k2 2
  have f2 := frozen_of_blk k2
  simp only [List.getElem?_toArray, List.getElem?_cons_zero, List.getElem?_cons_succ] at c20 c21 c22
  have K2 := Lib.hid k2
  clear k2 hb1
  go_wp2
  exact bodyPost_ret (v := .tuple #[aggS (0, 0, 0), .int .i64 E]) (by simp [results, Try.results19, go_sem, c20, c21, c22]) rfl ⟨rfl, set3_below hbw _ (by omega) _ _ _⟩

set_option maxRecDepth 100000 in
set_option maxHeartbeats 1600000 in
theorem onto_eq (px py : Int) (w : World) (hE : farE [(px, py), (px, py)] [] = 0) :
    Calls Try.prog 19 #[.agg #[.int .i64 px, .int .i64 py], .agg #[.int .i64 px, .int .i64 py]] w fun e w' => e = .returned (.tuple #[aggS (0, 0, 0), .int .i64 6]) ∧ Below w.heap.size w w' := by
  have HE := Lib.hid hE
  have hrd := rd_lit_p2 (two3 w px py px py) px py px py
  rw [two3_size] at hrd
  clear hE
  go_enter Try.func19, Try.ntmps19
  go_wp2_with fail
  refine (acheck_any _ none 2 0 2 0 [(px, py), (px, py)] [] _ hrd Rd.nil (by decide) (by decide)).mono ?_
  rintro e w1 ⟨rfl, hb1⟩
  rw [HE.out]
  obtain ⟨c00, c01, c10, c11, k2, hlt, hbw⟩ := after3 hb1
  have c20 := cell_of_blk k2 0
  have c21 := cell_of_blk k2 1
  have c22 := cell_of_blk k2 2
  have f2 := frozen_of_blk k2
  simp only [List.getElem?_toArray, List.getElem?_cons_zero, List.getElem?_cons_succ] at c20 c21 c22
  have K2 := Lib.hid k2
  clear k2 hb1
  go_wp2
  exact bodyPost_ret (v := .tuple #[aggS (0, 0, 0), .int .i64 6]) (by simp [results, Try.results19, go_sem, c20, c21, c22]) rfl ⟨rfl, set3_below hbw _ (by omega) _ _ _⟩

set_option maxRecDepth 100000 in
set_option maxHeartbeats 1600000 in
theorem onto_okA (px py qx qy : Int) (w : World) (hE : farE [(px, py), (qx, qy)] [] = 0) (hne : (px, py) ≠ (qx, qy)) (hx : px ≠ qx) :
    Calls Try.prog 19 #[.agg #[.int .i64 px, .int .i64 py], .agg #[.int .i64 qx, .int .i64 qy]] w fun e w' => e = .returned (.tuple #[aggS (formS (2 * (qx - px)) (2 * (qy - py)) (qx * qx + qy * qy - px * px - py * py)), .int .i64 0]) ∧ Below w.heap.size w w' := by
  have HE := Lib.hid hE
  have hf : farP (px, py) = false ∧ farP (qx, qy) = false := by
    unfold farE at hE
    split at hE
    · cases hE
    · rename_i h; simpa using h
  obtain ⟨⟨p1, p2⟩, p3, p4⟩ := farP_bd hf.1
  obtain ⟨⟨q1, q2⟩, q3, q4⟩ := farP_bd hf.2
  simp only at p1 p2 p3 p4 q1 q2 q3 q4
  clear hf
  have hpq : ¬ (px = qx ∧ py = qy) := fun h => hne (by rw [h.1, h.2])
  clear hne
  obtain ⟨m1, m2⟩ := mul_bd (x := qx) (y := qx) 1000 1000 (by omega) (by omega) (by omega) (by omega)
  obtain ⟨m3, m4⟩ := mul_bd (x := qy) (y := qy) 1000 1000 (by omega) (by omega) (by omega) (by omega)
  obtain ⟨m5, m6⟩ := mul_bd (x := px) (y := px) 1000 1000 (by omega) (by omega) (by omega) (by omega)
  obtain ⟨m7, m8⟩ := mul_bd (x := py) (y := py) 1000 1000 (by omega) (by omega) (by omega) (by omega)
  simp only [Int.reduceMul] at m1 m2 m3 m4 m5 m6 m7 m8
  have hnz : Hid (2 * (qx - px) ≠ 0 ∨ 2 * (qy - py) ≠ 0) := Lib.hid (by omega)
  have hrd := rd_lit_p2 (two3 w px py qx qy) px py qx qy
  rw [two3_size] at hrd
  clear hE
  go_enter Try.func19, Try.ntmps19
  go_wp2_with fail
  refine (acheck_any _ none 2 0 2 0 [(px, py), (qx, qy)] [] _ hrd Rd.nil (by decide) (by decide)).mono ?_
  rintro e w1 ⟨rfl, hb1⟩
  rw [HE.out]
  obtain ⟨c00, c01, c10, c11, k2, hlt, hbw⟩ := after3 hb1
  have c20 := cell_of_blk k2 0
  have c21 := cell_of_blk k2 1
  have c22 := cell_of_blk k2 2
  have f2 := frozen_of_blk k2
  simp only [List.getElem?_toArray, List.getElem?_cons_zero, List.getElem?_cons_succ] at c20 c21 c22
  have K2 := Lib.hid k2
  clear k2 hb1
  go_wp2_with fail
  all_goals
    refine (form_any (2 * (qx - px)) (2 * (qy - py)) (qx * qx + qy * qy - px * px - py * py) w1 (by have := hnz.out; simp at this; omega) (by omega) (by omega) (by omega) (by omega) (by omega) (by omega)).mono ?_
    rintro e w2 ⟨he, hb2⟩
    obtain ⟨S, hS⟩ : ∃ S, S = formS (2 * (qx - px)) (2 * (qy - py)) (qx * qx + qy * qy - px * px - py * py) := ⟨_, rfl⟩
    rw [← hS] at he
    subst he
    have HS := Lib.hid hS
    clear hS
    have k2 := blk_below K2.out hb2 (blk_lt K2.out)
    have c20 := cell_of_blk k2 0
    have c21 := cell_of_blk k2 1
    have c22 := cell_of_blk k2 2
    have f2 := frozen_of_blk k2
    simp only [List.getElem?_toArray, List.getElem?_cons_zero, List.getElem?_cons_succ] at c20 c21 c22
    have hlt2 := blk_lt k2
    have hbw2 := hbw.trans (hb2.mono hbw.size)
    clear k2 hb2
    go_wp2
    exact bodyPost_ret (v := .tuple #[aggS S, .int .i64 0]) (by simp [results, Try.results19, go_sem, c20, c21, c22]) rfl ⟨by rw [HS.out], set3_below hbw2 _ (by omega) _ _ _⟩

set_option maxRecDepth 100000 in
set_option maxHeartbeats 1600000 in
theorem onto_okB (px py qy : Int) (w : World) (hE : farE [(px, py), (px, qy)] [] = 0) (hne : (px, py) ≠ (px, qy)) :
    Calls Try.prog 19 #[.agg #[.int .i64 px, .int .i64 py], .agg #[.int .i64 px, .int .i64 qy]] w fun e w' => e = .returned (.tuple #[aggS (formS (2 * (px - px)) (2 * (qy - py)) (px * px + qy * qy - px * px - py * py)), .int .i64 0]) ∧ Below w.heap.size w w' := by
  have HE := Lib.hid hE
  have hf : farP (px, py) = false ∧ farP (px, qy) = false := by
    unfold farE at hE
    split at hE
    · cases hE
    · rename_i h; simpa using h
  obtain ⟨⟨p1, p2⟩, p3, p4⟩ := farP_bd hf.1
  obtain ⟨⟨q1, q2⟩, q3, q4⟩ := farP_bd hf.2
  simp only at p1 p2 p3 p4 q1 q2 q3 q4
  clear hf
  have hpq : ¬ (px = px ∧ py = qy) := fun h => hne (by rw [h.1, h.2])
  clear hne
  obtain ⟨m1, m2⟩ := mul_bd (x := px) (y := px) 1000 1000 (by omega) (by omega) (by omega) (by omega)
  obtain ⟨m3, m4⟩ := mul_bd (x := qy) (y := qy) 1000 1000 (by omega) (by omega) (by omega) (by omega)
  obtain ⟨m5, m6⟩ := mul_bd (x := px) (y := px) 1000 1000 (by omega) (by omega) (by omega) (by omega)
  obtain ⟨m7, m8⟩ := mul_bd (x := py) (y := py) 1000 1000 (by omega) (by omega) (by omega) (by omega)
  simp only [Int.reduceMul] at m1 m2 m3 m4 m5 m6 m7 m8
  have hnz : Hid (2 * (px - px) ≠ 0 ∨ 2 * (qy - py) ≠ 0) := Lib.hid (by omega)
  have hyy : ¬ py = qy := fun h => hpq ⟨rfl, h⟩
  clear hpq
  have hrd := rd_lit_p2 (two3 w px py px qy) px py px qy
  rw [two3_size] at hrd
  clear hE
  go_enter Try.func19, Try.ntmps19
  go_wp2_with fail
  refine (acheck_any _ none 2 0 2 0 [(px, py), (px, qy)] [] _ hrd Rd.nil (by decide) (by decide)).mono ?_
  rintro e w1 ⟨rfl, hb1⟩
  rw [HE.out]
  obtain ⟨c00, c01, c10, c11, k2, hlt, hbw⟩ := after3 hb1
  have c20 := cell_of_blk k2 0
  have c21 := cell_of_blk k2 1
  have c22 := cell_of_blk k2 2
  have f2 := frozen_of_blk k2
  simp only [List.getElem?_toArray, List.getElem?_cons_zero, List.getElem?_cons_succ] at c20 c21 c22
  have K2 := Lib.hid k2
  clear k2 hb1
  go_wp2_with fail
  all_goals
    refine (form_any 0 (2 * (qy - py)) (px * px + qy * qy - px * px - py * py) w1 (by have := hnz.out; simp at this; omega) (by omega) (by omega) (by omega) (by omega) (by omega) (by omega)).mono ?_
    rintro e w2 ⟨he, hb2⟩
    obtain ⟨S, hS⟩ : ∃ S, S = formS 0 (2 * (qy - py)) (px * px + qy * qy - px * px - py * py) := ⟨_, rfl⟩
    rw [← hS] at he
    subst he
    have HS := Lib.hid hS
    clear hS
    have k2 := blk_below K2.out hb2 (blk_lt K2.out)
    have c20 := cell_of_blk k2 0
    have c21 := cell_of_blk k2 1
    have c22 := cell_of_blk k2 2
    have f2 := frozen_of_blk k2
    simp only [List.getElem?_toArray, List.getElem?_cons_zero, List.getElem?_cons_succ] at c20 c21 c22
    have hlt2 := blk_lt k2
    have hbw2 := hbw.trans (hb2.mono hbw.size)
    clear k2 hb2
    go_wp2
    exact bodyPost_ret (v := .tuple #[aggS S, .int .i64 0]) (by simp [results, Try.results19, go_sem, c20, c21, c22]) rfl ⟨by rw [HS.out]; rw [Int.sub_self, Int.mul_zero], set3_below hbw2 _ (by omega) _ _ _⟩

theorem through_ok (px py qx qy : Int) (w : World) (hE : farE [(px, py), (qx, qy)] [] = 0) (hne : (px, py) ≠ (qx, qy)) :
    Calls Try.prog 20 #[.agg #[.int .i64 px, .int .i64 py], .agg #[.int .i64 qx, .int .i64 qy]] w fun e w' => e = .returned (.tuple #[aggS (formS (qy - py) (px - qx) ((qy - py) * px + (px - qx) * py)), .int .i64 0]) ∧ Below w.heap.size w w' := by
  by_cases hx : px = qx
  · subst hx; exact through_okB px py qy w hE hne
  · exact through_okA px py qx qy w hE hne hx

theorem onto_ok (px py qx qy : Int) (w : World) (hE : farE [(px, py), (qx, qy)] [] = 0) (hne : (px, py) ≠ (qx, qy)) :
    Calls Try.prog 19 #[.agg #[.int .i64 px, .int .i64 py], .agg #[.int .i64 qx, .int .i64 qy]] w fun e w' => e = .returned (.tuple #[aggS (formS (2 * (qx - px)) (2 * (qy - py)) (qx * qx + qy * qy - px * px - py * py)), .int .i64 0]) ∧ Below w.heap.size w w' := by
  by_cases hx : px = qx
  · subst hx; exact onto_okB px py qy w hE hne
  · exact onto_okA px py qx qy w hE hne hx

end Go.Proofs.Ythfhkmgegkhljaa
