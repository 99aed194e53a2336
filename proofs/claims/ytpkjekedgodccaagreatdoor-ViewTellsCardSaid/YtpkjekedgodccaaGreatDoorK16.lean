/- Lines, mirrors, maps put together, in both layers (from the grid's texts).. -/
import Derived.Test.YtpkjekedgodccaaGreatDoorK15
import Derived.Deep.DeepCutAuto
namespace Go.Proofs.YtpkjekedgodccaaGreatDoor
set_option linter.unusedSimpArgs false
set_option linter.unusedVariables false
section
open Go.RowKit
def valB (v x y : Int) : Int := if v = 0 then x else if v = 1 then y else if v = 2 then x + y else x - y
theorem valB_bd {v x y M : Int} (x1 : -M ≤ x) (x2 : x ≤ M) (y1 : -M ≤ y) (y2 : y ≤ M) : -(2 * M) ≤ valB v x y ∧ valB v x y ≤ 2 * M := by
 unfold valB; split <;> (try split) <;> (try split) <;> omega
set_option maxHeartbeats 800000 in
theorem value_any (v x y : Int) (w : World) (x1 : -4000000 ≤ x) (x2 : x ≤ 4000000) (y1 : -4000000 ≤ y) (y2 : y ≤ 4000000) :
  Calls Tryz.prog 85 #[.int .i64 v, .agg #[.int .i64 x, .int .i64 y]] w fun e w' => e = .returned (.int .i64 (valB v x y)) ∧ Below w.heap.size w w' := by
 have hb := below_new w (.cells #[.int .i64 x, .int .i64 y] 98)
 by_cases h0 : v = 0
 ·subst h0
  go_enter Tryz.func85, Tryz.ntmps85
  go_wp2
  go_ret
  exact ⟨by simp [valB], hb⟩
 by_cases h1 : v = 1
 ·subst h1
  go_enter Tryz.func85, Tryz.ntmps85
  go_wp2
  go_ret
  exact ⟨by simp [valB], hb⟩
 by_cases h2 : v = 2
 ·subst h2
  go_enter Tryz.func85, Tryz.ntmps85
  go_wp2
  go_ret
  exact ⟨by simp [valB], hb⟩
 have b0 : (v == 0) = false := by simpa using h0
 have b1 : (v == 1) = false := by simpa using h1
 have b2 : (v == 2) = false := by simpa using h2
 have HV : Hid (valB v x y = x - y) := Lib.hid (by simp [valB, h0, h1, h2])
 clear h0 h1 h2
 go_enter Tryz.func85, Tryz.ntmps85
 go_wp2
 go_ret
 exact ⟨by rw [HV.out]; rfl, hb⟩
set_option maxHeartbeats 800000 in
theorem valueOf_any (v x y : Int) (w : World) (x1 : -4000000 ≤ x) (x2 : x ≤ 4000000) (y1 : -4000000 ≤ y) (y2 : y ≤ 4000000) :
  Calls Tryz.prog 75 #[.int .i64 v, .agg #[.int .i64 x, .int .i64 y]] w fun e w' => e = .returned (.int .i64 (valB v x y)) ∧ Below w.heap.size w w' := by
 have hb := below_new w (.cells #[.int .i64 x, .int .i64 y] 98)
 by_cases h0 : v = 0
 ·subst h0
  go_enter Tryz.func75, Tryz.ntmps75
  go_wp2
  go_ret
  exact ⟨by simp [valB], hb⟩
 by_cases h1 : v = 1
 ·subst h1
  go_enter Tryz.func75, Tryz.ntmps75
  go_wp2
  go_ret
  exact ⟨by simp [valB], hb⟩
 by_cases h2 : v = 2
 ·subst h2
  go_enter Tryz.func75, Tryz.ntmps75
  go_wp2
  go_ret
  exact ⟨by simp [valB], hb⟩
 have b0 : (v == 0) = false := by simpa using h0
 have b1 : (v == 1) = false := by simpa using h1
 have b2 : (v == 2) = false := by simpa using h2
 have HV : Hid (valB v x y = x - y) := Lib.hid (by simp [valB, h0, h1, h2])
 clear h0 h1 h2
 go_enter Tryz.func75, Tryz.ntmps75
 go_wp2
 go_ret
 exact ⟨by rw [HV.out]; rfl, hb⟩
abbrev V6 := Int × Int × Int × Int × Int × Int
abbrev aggM (m : V6) : Value := .agg #[.int .i64 m.1, .int .i64 m.2.1, .int .i64 m.2.2.1, .int .i64 m.2.2.2.1, .int .i64 m.2.2.2.2.1, .int .i64 m.2.2.2.2.2]
def mirB (v c : Int) : V6 := if v = 0 then (-1, 0, 0, 1, 2 * c, 0) else if v = 1 then (1, 0, 0, -1, 0, 2 * c) else if v = 2 then (0, -1, -1, 0, c, c) else (0, 1, 1, 0, c, -c)
def mw (w : World) (v c : Int) : World := (w.alloc (.cells #[.int .i64 v, .int .i64 c] 113)).alloc (.cells #[.int .i64 0, .int .i64 0, .int .i64 0, .int .i64 0, .int .i64 0, .int .i64 0] 63)
set_option maxRecDepth 100000 in
set_option maxHeartbeats 1600000 in
theorem mirror_any (v c : Int) (w : World) (c1 : -1000000 ≤ c) (c2 : c ≤ 1000000) :
  Calls Tryz.prog 65 #[.agg #[.int .i64 v, .int .i64 c]] w fun e w' => e = .returned (aggM (mirB v c)) ∧ Below w.heap.size w w' := by
 by_cases h0 : v = 0
 ·subst h0
  go_enter Tryz.func65, Tryz.ntmps65
  go_wp2
  refine bodyPost_ret (v := aggM (-1, 0, 0, 1, 2 * c, 0)) (by simp [results, Tryz.results65, go_sem]) rfl ⟨by simp [mirB], ?_⟩
  exact ((Below.refl _ _).alloc (Nat.le_refl _) _).alloc (by simp) _
 by_cases h1 : v = 1
 ·subst h1
  go_enter Tryz.func65, Tryz.ntmps65
  go_wp2
  refine bodyPost_ret (v := aggM (1, 0, 0, -1, 0, 2 * c)) (by simp [results, Tryz.results65, go_sem]) rfl ⟨by simp [mirB], ?_⟩
  exact ((Below.refl _ _).alloc (Nat.le_refl _) _).alloc (by simp) _
 by_cases h2 : v = 2
 ·subst h2
  go_enter Tryz.func65, Tryz.ntmps65
  go_wp2
  refine bodyPost_ret (v := aggM (0, -1, -1, 0, c, c)) (by simp [results, Tryz.results65, go_sem]) rfl ⟨by simp [mirB], ?_⟩
  exact ((Below.refl _ _).alloc (Nat.le_refl _) _).alloc (by simp) _
 have b0 : (v == 0) = false := by simpa using h0
 have b1 : (v == 1) = false := by simpa using h1
 have b2 : (v == 2) = false := by simpa using h2
 have HV : Hid (mirB v c = (0, 1, 1, 0, c, -c)) := Lib.hid (by simp [mirB, h0, h1, h2])
 clear h0 h1 h2
 go_enter Tryz.func65, Tryz.ntmps65
 go_wp2
 refine bodyPost_ret (v := aggM (0, 1, 1, 0, c, -c)) (by simp [results, Tryz.results65, go_sem]) rfl ⟨by rw [HV.out], ?_⟩
 exact ((Below.refl _ _).alloc (Nat.le_refl _) _).alloc (by simp) _
set_option maxRecDepth 100000 in
set_option maxHeartbeats 1600000 in
theorem mirrorOf_any (v c : Int) (w : World) (c1 : -1000000 ≤ c) (c2 : c ≤ 1000000) :
  Calls Tryz.prog 47 #[.agg #[.int .i64 v, .int .i64 c]] w fun e w' => e = .returned (aggM (mirB v c)) ∧ Below w.heap.size w w' := by
 by_cases h0 : v = 0
 ·subst h0
  go_enter Tryz.func47, Tryz.ntmps47
  go_wp2
  refine bodyPost_ret (v := aggM (-1, 0, 0, 1, 2 * c, 0)) (by simp [results, Tryz.results47, go_sem]) rfl ⟨by simp [mirB], ?_⟩
  exact ((Below.refl _ _).alloc (Nat.le_refl _) _).alloc (by simp) _
 by_cases h1 : v = 1
 ·subst h1
  go_enter Tryz.func47, Tryz.ntmps47
  go_wp2
  refine bodyPost_ret (v := aggM (1, 0, 0, -1, 0, 2 * c)) (by simp [results, Tryz.results47, go_sem]) rfl ⟨by simp [mirB], ?_⟩
  exact ((Below.refl _ _).alloc (Nat.le_refl _) _).alloc (by simp) _
 by_cases h2 : v = 2
 ·subst h2
  go_enter Tryz.func47, Tryz.ntmps47
  go_wp2
  refine bodyPost_ret (v := aggM (0, -1, -1, 0, c, c)) (by simp [results, Tryz.results47, go_sem]) rfl ⟨by simp [mirB], ?_⟩
  exact ((Below.refl _ _).alloc (Nat.le_refl _) _).alloc (by simp) _
 have b0 : (v == 0) = false := by simpa using h0
 have b1 : (v == 1) = false := by simpa using h1
 have b2 : (v == 2) = false := by simpa using h2
 have HV : Hid (mirB v c = (0, 1, 1, 0, c, -c)) := Lib.hid (by simp [mirB, h0, h1, h2])
 clear h0 h1 h2
 go_enter Tryz.func47, Tryz.ntmps47
 go_wp2
 refine bodyPost_ret (v := aggM (0, 1, 1, 0, c, -c)) (by simp [results, Tryz.results47, go_sem]) rfl ⟨by rw [HV.out], ?_⟩
 exact ((Below.refl _ _).alloc (Nat.le_refl _) _).alloc (by simp) _
def oneB (a b : Int) : Bool := (a == 1 || a == -1) && b == 0
def turnedB (a b c d : Int) : Bool := (oneB a b && oneB d c) || (oneB b a && oneB c d)
theorem prod_bd {a x M : Int} (a1 : -1 ≤ a) (a2 : a ≤ 1) (x1 : -M ≤ x) (x2 : x ≤ M) : -M ≤ a * x ∧ a * x ≤ M := by
 have h : a = -1 ∨ a = 0 ∨ a = 1 := by omega
 rcases h with rfl | rfl | rfl <;> omega
structure Sm (a b c d e f : Int) : Prop where
 a1 : -1 ≤ a
 a2 : a ≤ 1
 b1 : -1 ≤ b
 b2 : b ≤ 1
 c1 : -1 ≤ c
 c2 : c ≤ 1
 d1 : -1 ≤ d
 d2 : d ≤ 1
 e1 : -1000000 ≤ e
 e2 : e ≤ 1000000
 f1 : -1000000 ≤ f
 f2 : f ≤ 1000000
set_option maxRecDepth 100000 in
set_option maxHeartbeats 1600000 in
theorem point_any (a b c d e f x y : Int) (w : World) (p0 : -4000000 ≤ a * x ∧ a * x ≤ 4000000) (p1 : -4000000 ≤ b * y ∧ b * y ≤ 4000000) (p2 : -4000000 ≤ c * x ∧ c * x ≤ 4000000) (p3 : -4000000 ≤ d * y ∧ d * y ≤ 4000000) (p4 : -4000000 ≤ e ∧ e ≤ 4000000) (p5 : -4000000 ≤ f ∧ f ≤ 4000000) :
  Calls Tryz.prog 61 #[.agg #[.int .i64 a, .int .i64 b, .int .i64 c, .int .i64 d, .int .i64 e, .int .i64 f], aggP x y] w fun e' w' => e' = .returned (aggP (a * x + b * y + e) (c * x + d * y + f)) ∧ Below w.heap.size w w' := by
 go_enter Tryz.func61, Tryz.ntmps61
 go_wp2
 refine bodyPost_ret (v := aggP (a * x + b * y + e) (c * x + d * y + f)) (by simp [results, Tryz.results61, go_sem]) rfl ⟨rfl, ?_⟩
 exact ba (ba (ba (Below.refl _ _) _) _) _
set_option maxRecDepth 100000 in
set_option maxHeartbeats 1600000 in
theorem pointOf_any (a b c d e f x y : Int) (w : World) (p0 : -4000000 ≤ a * x ∧ a * x ≤ 4000000) (p1 : -4000000 ≤ b * y ∧ b * y ≤ 4000000) (p2 : -4000000 ≤ c * x ∧ c * x ≤ 4000000) (p3 : -4000000 ≤ d * y ∧ d * y ≤ 4000000) (p4 : -4000000 ≤ e ∧ e ≤ 4000000) (p5 : -4000000 ≤ f ∧ f ≤ 4000000) :
  Calls Tryz.prog 51 #[.agg #[.int .i64 a, .int .i64 b, .int .i64 c, .int .i64 d, .int .i64 e, .int .i64 f], aggP x y] w fun e' w' => e' = .returned (aggP (a * x + b * y + e) (c * x + d * y + f)) ∧ Below w.heap.size w w' := by
 go_enter Tryz.func51, Tryz.ntmps51
 go_wp2
 refine bodyPost_ret (v := aggP (a * x + b * y + e) (c * x + d * y + f)) (by simp [results, Tryz.results51, go_sem]) rfl ⟨rfl, ?_⟩
 exact ba (ba (ba (Below.refl _ _) _) _) _
set_option maxRecDepth 100000 in
set_option maxHeartbeats 6400000 in
theorem after_any (p q r s e f P Q R S E F : Int) (w : World) (ha : Sm p q r s e f) (hb : Sm P Q R S E F) :
  Calls Tryz.prog 64 #[.agg #[.int .i64 p, .int .i64 q, .int .i64 r, .int .i64 s, .int .i64 e, .int .i64 f], .agg #[.int .i64 P, .int .i64 Q, .int .i64 R, .int .i64 S, .int .i64 E, .int .i64 F]] w fun e' w' => e' = .returned (.agg #[.int .i64 (P * p + Q * r), .int .i64 (P * q + Q * s), .int .i64 (R * p + S * r), .int .i64 (R * q + S * s), .int .i64 (P * e + Q * f + E), .int .i64 (R * e + S * f + F)]) ∧ Below w.heap.size w w' := by
 have o0 := prod_bd (M := 1) hb.a1 hb.a2 ha.a1 ha.a2
 have o1 := prod_bd (M := 1) hb.b1 hb.b2 ha.c1 ha.c2
 have o2 := prod_bd (M := 1) hb.a1 hb.a2 ha.b1 ha.b2
 have o3 := prod_bd (M := 1) hb.b1 hb.b2 ha.d1 ha.d2
 have o4 := prod_bd (M := 1) hb.c1 hb.c2 ha.a1 ha.a2
 have o5 := prod_bd (M := 1) hb.d1 hb.d2 ha.c1 ha.c2
 have o6 := prod_bd (M := 1) hb.c1 hb.c2 ha.b1 ha.b2
 have o7 := prod_bd (M := 1) hb.d1 hb.d2 ha.d1 ha.d2
 have u0 := prod_bd (M := 1000000) hb.a1 hb.a2 ha.e1 ha.e2
 have u1 := prod_bd (M := 1000000) hb.b1 hb.b2 ha.f1 ha.f2
 have u2 := prod_bd (M := 1000000) hb.c1 hb.c2 ha.e1 ha.e2
 have u3 := prod_bd (M := 1000000) hb.d1 hb.d2 ha.f1 ha.f2
 obtain ⟨_, _, _, _, _, _, _, _, e1, e2, f1, f2⟩ := ha
 obtain ⟨_, _, _, _, _, _, _, _, E1, E2, F1, F2⟩ := hb
 go_enter Tryz.func64, Tryz.ntmps64
 go_wp2_with fail
 refine (point_any P Q R S E F e f _ (by omega) (by omega) (by omega) (by omega) (by omega) (by omega)).mono ?_
 rintro e w1 ⟨rfl, hb1⟩
 have k_a_1 : w1.heap[w.heap.size]? = some (.cells #[.int .i64 p, .int .i64 q, .int .i64 r, .int .i64 s, .int .i64 e, .int .i64 f] 63 (0, 0)) := blk_below (blk_alloc (blk_alloc (new_blk (.cells #[.int .i64 p, .int .i64 q, .int .i64 r, .int .i64 s, .int .i64 e, .int .i64 f] 63) (by first | rfl | (simp; done) | (simp; omega))) _) _) hb1 (by first | (simp; done) | (simp; omega))
 have k_b_1 : w1.heap[w.heap.size + 1]? = some (.cells #[.int .i64 P, .int .i64 Q, .int .i64 R, .int .i64 S, .int .i64 E, .int .i64 F] 63 (0, 0)) := blk_below (blk_alloc (new_blk (.cells #[.int .i64 P, .int .i64 Q, .int .i64 R, .int .i64 S, .int .i64 E, .int .i64 F] 63) (by first | rfl | (simp; done) | (simp; omega))) _) hb1 (by first | (simp; done) | (simp; omega))
 have k_r_1 : w1.heap[w.heap.size + 1 + 1]? = some (.cells #[.int .i64 0, .int .i64 0, .int .i64 0, .int .i64 0, .int .i64 0, .int .i64 0] 63 (0, 0)) := blk_below (new_blk (.cells #[.int .i64 0, .int .i64 0, .int .i64 0, .int .i64 0, .int .i64 0, .int .i64 0] 63) (by first | rfl | (simp; done) | (simp; omega))) hb1 (by first | (simp; done) | (simp; omega))
 have hw_1 : Below w.heap.size w w1 := stay_b (ba (ba (ba (Below.refl _ _) _) _) _) hb1
 clear hb1
 have c_a_0 := cell_of_blk k_a_1 0
 have c_a_1 := cell_of_blk k_a_1 1
 have c_a_2 := cell_of_blk k_a_1 2
 have c_a_3 := cell_of_blk k_a_1 3
 have c_a_4 := cell_of_blk k_a_1 4
 have c_a_5 := cell_of_blk k_a_1 5
 simp only [List.getElem?_toArray, List.getElem?_cons_zero, List.getElem?_cons_succ] at c_a_0 c_a_1 c_a_2 c_a_3 c_a_4 c_a_5
 have f_a := frozen_of_blk k_a_1
 have s_a := blk_lt k_a_1
 have c_b_0 := cell_of_blk k_b_1 0
 have c_b_1 := cell_of_blk k_b_1 1
 have c_b_2 := cell_of_blk k_b_1 2
 have c_b_3 := cell_of_blk k_b_1 3
 have c_b_4 := cell_of_blk k_b_1 4
 have c_b_5 := cell_of_blk k_b_1 5
 simp only [List.getElem?_toArray, List.getElem?_cons_zero, List.getElem?_cons_succ] at c_b_0 c_b_1 c_b_2 c_b_3 c_b_4 c_b_5
 have f_b := frozen_of_blk k_b_1
 have s_b := blk_lt k_b_1
 have c_r_0 := cell_of_blk k_r_1 0
 have c_r_1 := cell_of_blk k_r_1 1
 have c_r_2 := cell_of_blk k_r_1 2
 have c_r_3 := cell_of_blk k_r_1 3
 have c_r_4 := cell_of_blk k_r_1 4
 have c_r_5 := cell_of_blk k_r_1 5
 simp only [List.getElem?_toArray, List.getElem?_cons_zero, List.getElem?_cons_succ] at c_r_0 c_r_1 c_r_2 c_r_3 c_r_4 c_r_5
 have f_r := frozen_of_blk k_r_1
 have s_r := blk_lt k_r_1
 go_wp2
 refine bodyPost_ret (v := .agg #[.int .i64 (P * p + Q * r), .int .i64 (P * q + Q * s), .int .i64 (R * p + S * r), .int .i64 (R * q + S * s), .int .i64 (P * e + Q * f + E), .int .i64 (R * e + S * f + F)]) (by simp [results, Tryz.results64, go_sem, c_r_0, c_r_1, c_r_2, c_r_3, c_r_4, c_r_5, World.cell?_alloc_lt, World.size_setCell, s_r]) rfl ⟨rfl, ?_⟩
 exact ba (set6_below hw_1 _ (by omega) _ _ _ _ _ _) _
theorem set2_blk {w : World} {g : Nat} {t : TypeId} {a b : Value} (h : w.heap[g]? = some (.cells #[a, b] t (0, 0))) (u v : Value) : ((w.setCell ⟨g, 0, none⟩ u).setCell ⟨g, 1, none⟩ v).heap[g]? = some (.cells #[u, v] t (0, 0)) := by
 have h1 := blk_set (blk_set h 0 u) 1 v
 simpa using h1
theorem farb2 {w : World} {g b : Nat} {o : Obj} (h : w.heap[b]? = some o) (hne : b ≠ g) (x y : Value) : ((w.setCell ⟨g, 0, none⟩ x).setCell ⟨g, 1, none⟩ y).heap[b]? = some o := blk_far (blk_far h hne _) hne _
theorem al_d {w : World} {a : Addr} {v : Value} (h : w.drew.cell? a = some v) (o : Obj) : (w.alloc o).drew.cell? a = some v := (show (w.alloc o).cell? a = some v from al_c (show w.cell? a = some v from h) o)
theorem bd {v w : World} {B : Nat} (h : Below B v w.drew) (hB : B ≤ w.heap.size) (o : Obj) : Below B v (w.alloc o).drew := h.alloc hB o
theorem blk_ad {w : World} {g : Nat} {o : Obj} (h : w.drew.heap[g]? = some o) (o' : Obj) : (w.alloc o').drew.heap[g]? = some o := blk_alloc (w := w) h o'
theorem new_d (w : World) (o : Obj) : (w.alloc o).drew.heap[w.heap.size]? = some o := heap_alloc_new w o
theorem re_c {w : World} {o o' : Obj} {b j : Nat} {u : Value} (h : (w.alloc o).cell? ⟨b, j, none⟩ = some u) (hb : b < w.heap.size) : (w.alloc o').cell? ⟨b, j, none⟩ = some u := by
 rw [World.cell?_alloc_lt _ _ _ hb] at h ⊢
 exact h
theorem far2 {w : World} {g b j : Nat} {u : Value} (h : w.cell? ⟨b, j, none⟩ = some u) (hne : g ≠ b) (x y : Value) : ((w.setCell ⟨g, 0, none⟩ x).setCell ⟨g, 1, none⟩ y).cell? ⟨b, j, none⟩ = some u := far1 (far1 h hne) hne
set_option maxRecDepth 100000 in
set_option maxHeartbeats 6400000 in
theorem afterOf_any (p q r s e f P Q R S E F : Int) (w : World) (ha : Sm p q r s e f) (hb : Sm P Q R S E F) :
  Calls Tryz.prog 46 #[.agg #[.int .i64 p, .int .i64 q, .int .i64 r, .int .i64 s, .int .i64 e, .int .i64 f], .agg #[.int .i64 P, .int .i64 Q, .int .i64 R, .int .i64 S, .int .i64 E, .int .i64 F]] w fun e' w' => e' = .returned (.agg #[.int .i64 (P * p + Q * r), .int .i64 (P * q + Q * s), .int .i64 (R * p + S * r), .int .i64 (R * q + S * s), .int .i64 (P * e + Q * f + E), .int .i64 (R * e + S * f + F)]) ∧ Below w.heap.size w w' := by
 obtain ⟨U0, hU0⟩ : ∃ a : Int, a = p * 0 + q * 0 + e := ⟨_, rfl⟩
 have HU0 := Lib.hid hU0
 clear hU0
 obtain ⟨V0, hV0⟩ : ∃ a : Int, a = r * 0 + s * 0 + f := ⟨_, rfl⟩
 have HV0 := Lib.hid hV0
 clear hV0
 obtain ⟨X0, hX0⟩ : ∃ a : Int, a = P * U0 + Q * V0 + E := ⟨_, rfl⟩
 have HX0 := Lib.hid hX0
 clear hX0
 obtain ⟨Y0, hY0⟩ : ∃ a : Int, a = R * U0 + S * V0 + F := ⟨_, rfl⟩
 have HY0 := Lib.hid hY0
 clear hY0
 obtain ⟨U1, hU1⟩ : ∃ a : Int, a = p * 1 + q * 0 + e := ⟨_, rfl⟩
 have HU1 := Lib.hid hU1
 clear hU1
 obtain ⟨V1, hV1⟩ : ∃ a : Int, a = r * 1 + s * 0 + f := ⟨_, rfl⟩
 have HV1 := Lib.hid hV1
 clear hV1
 obtain ⟨X1, hX1⟩ : ∃ a : Int, a = P * U1 + Q * V1 + E := ⟨_, rfl⟩
 have HX1 := Lib.hid hX1
 clear hX1
 obtain ⟨Y1, hY1⟩ : ∃ a : Int, a = R * U1 + S * V1 + F := ⟨_, rfl⟩
 have HY1 := Lib.hid hY1
 clear hY1
 obtain ⟨U2, hU2⟩ : ∃ a : Int, a = p * 0 + q * 1 + e := ⟨_, rfl⟩
 have HU2 := Lib.hid hU2
 clear hU2
 obtain ⟨V2, hV2⟩ : ∃ a : Int, a = r * 0 + s * 1 + f := ⟨_, rfl⟩
 have HV2 := Lib.hid hV2
 clear hV2
 obtain ⟨X2, hX2⟩ : ∃ a : Int, a = P * U2 + Q * V2 + E := ⟨_, rfl⟩
 have HX2 := Lib.hid hX2
 clear hX2
 obtain ⟨Y2, hY2⟩ : ∃ a : Int, a = R * U2 + S * V2 + F := ⟨_, rfl⟩
 have HY2 := Lib.hid hY2
 clear hY2
 have HRES : Hid (X1 - X0 = P * p + Q * r ∧ X2 - X0 = P * q + Q * s ∧ Y1 - Y0 = R * p + S * r ∧ Y2 - Y0 = R * q + S * s ∧ X0 = P * e + Q * f + E ∧ Y0 = R * e + S * f + F) := Lib.hid (by
  rw [HX0.out, HX1.out, HX2.out, HY0.out, HY1.out, HY2.out, HU0.out, HU1.out, HU2.out, HV0.out, HV1.out, HV2.out]
  simp only [Int.mul_add, Int.mul_zero, Int.mul_one, Int.zero_add, Int.add_zero]
  refine ⟨?_, ?_, ?_, ?_, ?_, ?_⟩ <;> first | trivial | omega)
 have bU : (-2000000 ≤ U0 ∧ U0 ≤ 2000000) ∧ (-2000000 ≤ U1 ∧ U1 ≤ 2000000) ∧ (-2000000 ≤ U2 ∧ U2 ≤ 2000000) ∧ (-2000000 ≤ V0 ∧ V0 ≤ 2000000) ∧ (-2000000 ≤ V1 ∧ V1 ≤ 2000000) ∧ (-2000000 ≤ V2 ∧ V2 ≤ 2000000) := by
  obtain ⟨_, _, _, _, _, _, _, _, _, _, _, _⟩ := ha
  rw [HU0.out, HU1.out, HU2.out, HV0.out, HV1.out, HV2.out]
  omega
 have m00 := prod_bd (a := P) (x := U0) (M := 2000000) hb.a1 hb.a2 (by omega) (by omega)
 have m01 := prod_bd (a := Q) (x := V0) (M := 2000000) hb.b1 hb.b2 (by omega) (by omega)
 have m02 := prod_bd (a := R) (x := U0) (M := 2000000) hb.c1 hb.c2 (by omega) (by omega)
 have m03 := prod_bd (a := S) (x := V0) (M := 2000000) hb.d1 hb.d2 (by omega) (by omega)
 have m10 := prod_bd (a := P) (x := U1) (M := 2000000) hb.a1 hb.a2 (by omega) (by omega)
 have m11 := prod_bd (a := Q) (x := V1) (M := 2000000) hb.b1 hb.b2 (by omega) (by omega)
 have m12 := prod_bd (a := R) (x := U1) (M := 2000000) hb.c1 hb.c2 (by omega) (by omega)
 have m13 := prod_bd (a := S) (x := V1) (M := 2000000) hb.d1 hb.d2 (by omega) (by omega)
 have m20 := prod_bd (a := P) (x := U2) (M := 2000000) hb.a1 hb.a2 (by omega) (by omega)
 have m21 := prod_bd (a := Q) (x := V2) (M := 2000000) hb.b1 hb.b2 (by omega) (by omega)
 have m22 := prod_bd (a := R) (x := U2) (M := 2000000) hb.c1 hb.c2 (by omega) (by omega)
 have m23 := prod_bd (a := S) (x := V2) (M := 2000000) hb.d1 hb.d2 (by omega) (by omega)
 have n0 : -4000000 ≤ E ∧ E ≤ 4000000 := by have := hb.e1; have := hb.e2; omega
 have n1 : -4000000 ≤ F ∧ F ≤ 4000000 := by have := hb.f1; have := hb.f2; omega
 have n2 : -4000000 ≤ e ∧ e ≤ 4000000 := by have := ha.e1; have := ha.e2; omega
 have n3 : -4000000 ≤ f ∧ f ≤ 4000000 := by have := ha.f1; have := ha.f2; omega
 have bX : (-5000000 ≤ X0 ∧ X0 ≤ 5000000) ∧ (-5000000 ≤ X1 ∧ X1 ≤ 5000000) ∧ (-5000000 ≤ X2 ∧ X2 ≤ 5000000) ∧ (-5000000 ≤ Y0 ∧ Y0 ≤ 5000000) ∧ (-5000000 ≤ Y1 ∧ Y1 ≤ 5000000) ∧ (-5000000 ≤ Y2 ∧ Y2 ≤ 5000000) := by
  have := hb.e1
  have := hb.e2
  have := hb.f1
  have := hb.f2
  rw [HX0.out, HX1.out, HX2.out, HY0.out, HY1.out, HY2.out]
  omega
 have A0 : Hid (∀ w : World, Calls Tryz.prog 51 #[.agg #[.int .i64 p, .int .i64 q, .int .i64 r, .int .i64 s, .int .i64 e, .int .i64 f], aggP 0 0] w fun e' w' => e' = .returned (aggP U0 V0) ∧ Below w.heap.size w w') := Lib.hid (fun w => by
  obtain ⟨_, _, _, _, _, _, _, _, _, _, _, _⟩ := ha
  have h := pointOf_any p q r s e f 0 0 w (by omega) (by omega) (by omega) (by omega) n2 n3
  rw [← HU0.out, ← HV0.out] at h
  exact h)
 have B0 : Hid (∀ w : World, Calls Tryz.prog 51 #[.agg #[.int .i64 P, .int .i64 Q, .int .i64 R, .int .i64 S, .int .i64 E, .int .i64 F], aggP U0 V0] w fun e' w' => e' = .returned (aggP X0 Y0) ∧ Below w.heap.size w w') := Lib.hid (fun w => by
  have h := pointOf_any P Q R S E F U0 V0 w (by omega) (by omega) (by omega) (by omega) n0 n1
  rw [← HX0.out, ← HY0.out] at h
  exact h)
 have A1 : Hid (∀ w : World, Calls Tryz.prog 51 #[.agg #[.int .i64 p, .int .i64 q, .int .i64 r, .int .i64 s, .int .i64 e, .int .i64 f], aggP 1 0] w fun e' w' => e' = .returned (aggP U1 V1) ∧ Below w.heap.size w w') := Lib.hid (fun w => by
  obtain ⟨_, _, _, _, _, _, _, _, _, _, _, _⟩ := ha
  have h := pointOf_any p q r s e f 1 0 w (by omega) (by omega) (by omega) (by omega) n2 n3
  rw [← HU1.out, ← HV1.out] at h
  exact h)
 have B1 : Hid (∀ w : World, Calls Tryz.prog 51 #[.agg #[.int .i64 P, .int .i64 Q, .int .i64 R, .int .i64 S, .int .i64 E, .int .i64 F], aggP U1 V1] w fun e' w' => e' = .returned (aggP X1 Y1) ∧ Below w.heap.size w w') := Lib.hid (fun w => by
  have h := pointOf_any P Q R S E F U1 V1 w (by omega) (by omega) (by omega) (by omega) n0 n1
  rw [← HX1.out, ← HY1.out] at h
  exact h)
 have A2 : Hid (∀ w : World, Calls Tryz.prog 51 #[.agg #[.int .i64 p, .int .i64 q, .int .i64 r, .int .i64 s, .int .i64 e, .int .i64 f], aggP 0 1] w fun e' w' => e' = .returned (aggP U2 V2) ∧ Below w.heap.size w w') := Lib.hid (fun w => by
  obtain ⟨_, _, _, _, _, _, _, _, _, _, _, _⟩ := ha
  have h := pointOf_any p q r s e f 0 1 w (by omega) (by omega) (by omega) (by omega) n2 n3
  rw [← HU2.out, ← HV2.out] at h
  exact h)
 have B2 : Hid (∀ w : World, Calls Tryz.prog 51 #[.agg #[.int .i64 P, .int .i64 Q, .int .i64 R, .int .i64 S, .int .i64 E, .int .i64 F], aggP U2 V2] w fun e' w' => e' = .returned (aggP X2 Y2) ∧ Below w.heap.size w w') := Lib.hid (fun w => by
  have h := pointOf_any P Q R S E F U2 V2 w (by omega) (by omega) (by omega) (by omega) n0 n1
  rw [← HX2.out, ← HY2.out] at h
  exact h)
 clear bU n0 n1 n2 n3 ha hb m00 m01 m02 m03 m10 m11 m12 m13 m20 m21 m22 m23
 clear HU0 HV0 HX0 HY0 HU1 HV1 HX1 HY1 HU2 HV2 HX2 HY2
 go_enter Tryz.func46, Tryz.ntmps46
 go_upto_region 1 with fail
 have k_a_1 : ((((w.alloc (.cells #[.int .i64 p, .int .i64 q, .int .i64 r, .int .i64 s, .int .i64 e, .int .i64 f] 63)).alloc (.cells #[.int .i64 P, .int .i64 Q, .int .i64 R, .int .i64 S, .int .i64 E, .int .i64 F] 63)).alloc (.cells #[.int .i64 0, .int .i64 0, .int .i64 0, .int .i64 0, .int .i64 0, .int .i64 0] 63))).heap[w.heap.size]? = some (.cells #[.int .i64 p, .int .i64 q, .int .i64 r, .int .i64 s, .int .i64 e, .int .i64 f] 63 (0, 0)) := (blk_alloc (blk_alloc (new_blk (.cells #[.int .i64 p, .int .i64 q, .int .i64 r, .int .i64 s, .int .i64 e, .int .i64 f] 63) (by first | rfl | (simp; done) | (simp; omega))) _) _)
 have k_b_1 : ((((w.alloc (.cells #[.int .i64 p, .int .i64 q, .int .i64 r, .int .i64 s, .int .i64 e, .int .i64 f] 63)).alloc (.cells #[.int .i64 P, .int .i64 Q, .int .i64 R, .int .i64 S, .int .i64 E, .int .i64 F] 63)).alloc (.cells #[.int .i64 0, .int .i64 0, .int .i64 0, .int .i64 0, .int .i64 0, .int .i64 0] 63))).heap[w.heap.size + 1]? = some (.cells #[.int .i64 P, .int .i64 Q, .int .i64 R, .int .i64 S, .int .i64 E, .int .i64 F] 63 (0, 0)) := (blk_alloc (new_blk (.cells #[.int .i64 P, .int .i64 Q, .int .i64 R, .int .i64 S, .int .i64 E, .int .i64 F] 63) (by first | rfl | (simp; done) | (simp; omega))) _)
 have k_z_1 : ((((w.alloc (.cells #[.int .i64 p, .int .i64 q, .int .i64 r, .int .i64 s, .int .i64 e, .int .i64 f] 63)).alloc (.cells #[.int .i64 P, .int .i64 Q, .int .i64 R, .int .i64 S, .int .i64 E, .int .i64 F] 63)).alloc (.cells #[.int .i64 0, .int .i64 0, .int .i64 0, .int .i64 0, .int .i64 0, .int .i64 0] 63))).heap[w.heap.size + 1 + 1]? = some (.cells #[.int .i64 0, .int .i64 0, .int .i64 0, .int .i64 0, .int .i64 0, .int .i64 0] 63 (0, 0)) := (new_blk (.cells #[.int .i64 0, .int .i64 0, .int .i64 0, .int .i64 0, .int .i64 0, .int .i64 0] 63) (by first | rfl | (simp; done) | (simp; omega)))
 have hw_1 : Below w.heap.size w ((((w.alloc (.cells #[.int .i64 p, .int .i64 q, .int .i64 r, .int .i64 s, .int .i64 e, .int .i64 f] 63)).alloc (.cells #[.int .i64 P, .int .i64 Q, .int .i64 R, .int .i64 S, .int .i64 E, .int .i64 F] 63)).alloc (.cells #[.int .i64 0, .int .i64 0, .int .i64 0, .int .i64 0, .int .i64 0, .int .i64 0] 63))) := (ba (ba (ba (Below.refl _ _) _) _) _)
 go_cut [5] from 8 to 12 (fun s5 wx => ∃ g : Nat, s5 = .pointer (some ⟨g, 0, none⟩) ∧ wx.heap[g]? = some (.cells #[.int .i64 X0, .int .i64 Y0] 98 (0, 0)) ∧ wx.heap[w.heap.size]? = some (.cells #[.int .i64 p, .int .i64 q, .int .i64 r, .int .i64 s, .int .i64 e, .int .i64 f] 63 (0, 0)) ∧ wx.heap[w.heap.size + 1]? = some (.cells #[.int .i64 P, .int .i64 Q, .int .i64 R, .int .i64 S, .int .i64 E, .int .i64 F] 63 (0, 0)) ∧ wx.heap[w.heap.size + 1 + 1]? = some (.cells #[.int .i64 0, .int .i64 0, .int .i64 0, .int .i64 0, .int .i64 0, .int .i64 0] 63 (0, 0)) ∧ Below w.heap.size w wx)
 case first =>
  have k_a_2 : ((((((w.alloc (.cells #[.int .i64 p, .int .i64 q, .int .i64 r, .int .i64 s, .int .i64 e, .int .i64 f] 63)).alloc (.cells #[.int .i64 P, .int .i64 Q, .int .i64 R, .int .i64 S, .int .i64 E, .int .i64 F] 63)).alloc (.cells #[.int .i64 0, .int .i64 0, .int .i64 0, .int .i64 0, .int .i64 0, .int .i64 0] 63)))).drew).heap[w.heap.size]? = some (.cells #[.int .i64 p, .int .i64 q, .int .i64 r, .int .i64 s, .int .i64 e, .int .i64 f] 63 (0, 0)) := k_a_1
  have k_b_2 : ((((((w.alloc (.cells #[.int .i64 p, .int .i64 q, .int .i64 r, .int .i64 s, .int .i64 e, .int .i64 f] 63)).alloc (.cells #[.int .i64 P, .int .i64 Q, .int .i64 R, .int .i64 S, .int .i64 E, .int .i64 F] 63)).alloc (.cells #[.int .i64 0, .int .i64 0, .int .i64 0, .int .i64 0, .int .i64 0, .int .i64 0] 63)))).drew).heap[w.heap.size + 1]? = some (.cells #[.int .i64 P, .int .i64 Q, .int .i64 R, .int .i64 S, .int .i64 E, .int .i64 F] 63 (0, 0)) := k_b_1
  have k_z_2 : ((((((w.alloc (.cells #[.int .i64 p, .int .i64 q, .int .i64 r, .int .i64 s, .int .i64 e, .int .i64 f] 63)).alloc (.cells #[.int .i64 P, .int .i64 Q, .int .i64 R, .int .i64 S, .int .i64 E, .int .i64 F] 63)).alloc (.cells #[.int .i64 0, .int .i64 0, .int .i64 0, .int .i64 0, .int .i64 0, .int .i64 0] 63)))).drew).heap[w.heap.size + 1 + 1]? = some (.cells #[.int .i64 0, .int .i64 0, .int .i64 0, .int .i64 0, .int .i64 0, .int .i64 0] 63 (0, 0)) := k_z_1
  have hw_2 : Below w.heap.size w ((((((w.alloc (.cells #[.int .i64 p, .int .i64 q, .int .i64 r, .int .i64 s, .int .i64 e, .int .i64 f] 63)).alloc (.cells #[.int .i64 P, .int .i64 Q, .int .i64 R, .int .i64 S, .int .i64 E, .int .i64 F] 63)).alloc (.cells #[.int .i64 0, .int .i64 0, .int .i64 0, .int .i64 0, .int .i64 0, .int .i64 0] 63)))).drew) := (hw_1).drew
  clear k_a_1 k_b_1 k_z_1 hw_1
  have c_a_0 := cell_of_blk k_a_2 0
  have c_a_1 := cell_of_blk k_a_2 1
  have c_a_2 := cell_of_blk k_a_2 2
  have c_a_3 := cell_of_blk k_a_2 3
  have c_a_4 := cell_of_blk k_a_2 4
  have c_a_5 := cell_of_blk k_a_2 5
  simp only [List.getElem?_toArray, List.getElem?_cons_zero, List.getElem?_cons_succ] at c_a_0 c_a_1 c_a_2 c_a_3 c_a_4 c_a_5
  have f_a := frozen_of_blk k_a_2
  have s_a := blk_lt k_a_2
  have c_b_0 := cell_of_blk k_b_2 0
  have c_b_1 := cell_of_blk k_b_2 1
  have c_b_2 := cell_of_blk k_b_2 2
  have c_b_3 := cell_of_blk k_b_2 3
  have c_b_4 := cell_of_blk k_b_2 4
  have c_b_5 := cell_of_blk k_b_2 5
  simp only [List.getElem?_toArray, List.getElem?_cons_zero, List.getElem?_cons_succ] at c_b_0 c_b_1 c_b_2 c_b_3 c_b_4 c_b_5
  have f_b := frozen_of_blk k_b_2
  have s_b := blk_lt k_b_2
  have hS0 := And.intro c_a_0 (And.intro c_a_1 (And.intro c_a_2 (And.intro c_a_3 (And.intro c_a_4 (And.intro c_a_5 (And.intro c_b_0 (And.intro c_b_1 (And.intro c_b_2 (And.intro c_b_3 (And.intro c_b_4 (And.intro c_b_5 hw_2)))))))))))
  clear c_a_0 c_a_1 c_a_2 c_a_3 c_a_4 c_a_5 c_b_0 c_b_1 c_b_2 c_b_3 c_b_4 c_b_5 f_a s_a f_b s_b
  have la := blk_lt k_a_2
  have qa := k_a_2
  have lb := blk_lt k_b_2
  have qb := k_b_2
  have lz := blk_lt k_z_2
  have qz := k_z_2
  (try simp only [World.size_drew] at la lb lz)
  have hbw := hw_2
  have hlw := hbw.size
  simp only [World.size_drew] at hlw
  go_region_held3 (fun w' => w'.cell? ⟨w.heap.size, 0, none⟩ = some (.int .i64 p) ∧ w'.cell? ⟨w.heap.size, 1, none⟩ = some (.int .i64 q) ∧ w'.cell? ⟨w.heap.size, 2, none⟩ = some (.int .i64 r) ∧ w'.cell? ⟨w.heap.size, 3, none⟩ = some (.int .i64 s) ∧ w'.cell? ⟨w.heap.size, 4, none⟩ = some (.int .i64 e) ∧ w'.cell? ⟨w.heap.size, 5, none⟩ = some (.int .i64 f) ∧ w'.cell? ⟨w.heap.size + 1, 0, none⟩ = some (.int .i64 P) ∧ w'.cell? ⟨w.heap.size + 1, 1, none⟩ = some (.int .i64 Q) ∧ w'.cell? ⟨w.heap.size + 1, 2, none⟩ = some (.int .i64 R) ∧ w'.cell? ⟨w.heap.size + 1, 3, none⟩ = some (.int .i64 S) ∧ w'.cell? ⟨w.heap.size + 1, 4, none⟩ = some (.int .i64 E) ∧ w'.cell? ⟨w.heap.size + 1, 5, none⟩ = some (.int .i64 F) ∧ Below w.heap.size w w')
   (first
    | with_reducible exact hS0
    | (go_split_ands; with_reducible exact ⟨al_c ‹_› _, al_c ‹_› _, al_c ‹_› _, al_c ‹_› _, al_c ‹_› _, al_c ‹_› _, al_c ‹_› _, al_c ‹_› _, al_c ‹_› _, al_c ‹_› _, al_c ‹_› _, al_c ‹_› _, ba ‹_› _⟩)
    | (go_split_ands; with_reducible exact ⟨al_d ‹_› _, al_d ‹_› _, al_d ‹_› _, al_d ‹_› _, al_d ‹_› _, al_d ‹_› _, al_d ‹_› _, al_d ‹_› _, al_d ‹_› _, al_d ‹_› _, al_d ‹_› _, al_d ‹_› _, bd ‹_› hlw _⟩)
    | (go_split_ands; exact ⟨re_c ‹_› (by omega), re_c ‹_› (by omega), re_c ‹_› (by omega), re_c ‹_› (by omega), re_c ‹_› (by omega), re_c ‹_› (by omega), re_c ‹_› (by omega), re_c ‹_› (by omega), re_c ‹_› (by omega), re_c ‹_› (by omega), re_c ‹_› (by omega), re_c ‹_› (by omega), ba hbw _⟩)
    | (go_split_ands; exact ⟨far2 ‹_› (by omega) _ _, far2 ‹_› (by omega) _ _, far2 ‹_› (by omega) _ _, far2 ‹_› (by omega) _ _, far2 ‹_› (by omega) _ _, far2 ‹_› (by omega) _ _, far2 ‹_› (by omega) _ _, far2 ‹_› (by omega) _ _, far2 ‹_› (by omega) _ _, far2 ‹_› (by omega) _ _, far2 ‹_› (by omega) _ _, far2 ‹_› (by omega) _ _, set2_below ‹_› _ (by omega) _ _⟩)
    | (go_split_ands; with_reducible exact ⟨sd ‹_› hbc, sd ‹_› hbc, sd ‹_› hbc, sd ‹_› hbc, sd ‹_› hbc, sd ‹_› hbc, sd ‹_› hbc, sd ‹_› hbc, sd ‹_› hbc, sd ‹_› hbc, sd ‹_› hbc, sd ‹_› hbc, stay_b ‹_› hbc⟩))
   (first
    | ((with_reducible refine (A0.out _).mono ?_); rintro e' wc ⟨he, hbc⟩; subst he; (first | (have qa := blk_below qa hbc (blk_lt qa)) | (have qa := blk_below (blk_alloc qa _) hbc (blk_lt (blk_alloc qa _))) | (have qa := blk_below (blk_ad qa _) hbc (blk_lt (blk_ad qa _)))); have la := blk_lt qa; (first | (have qb := blk_below qb hbc (blk_lt qb)) | (have qb := blk_below (blk_alloc qb _) hbc (blk_lt (blk_alloc qb _))) | (have qb := blk_below (blk_ad qb _) hbc (blk_lt (blk_ad qb _)))); have lb := blk_lt qb; (first | (have qz := blk_below qz hbc (blk_lt qz)) | (have qz := blk_below (blk_alloc qz _) hbc (blk_lt (blk_alloc qz _))) | (have qz := blk_below (blk_ad qz _) hbc (blk_lt (blk_ad qz _)))); have lz := blk_lt qz; (first | (have hbw := stay_b hbw hbc) | (have hbw := stay_b (ba hbw _) hbc) | (have hbw := stay_b (bd hbw hlw _) hbc)); (first | (have qn := blk_below qn hbc (blk_lt qn); have z0 := cell_of_blk qn 0; have z1 := cell_of_blk qn 1; simp only [List.getElem?_toArray, List.getElem?_cons_zero, List.getElem?_cons_succ] at z0 z1; have zf := frozen_of_blk qn; have zl := blk_lt qn) | (have qn := blk_below (heap_alloc_new _ _) hbc (by simp); have z0 := cell_of_blk qn 0; have z1 := cell_of_blk qn 1; simp only [List.getElem?_toArray, List.getElem?_cons_zero, List.getElem?_cons_succ] at z0 z1; have zf := frozen_of_blk qn; have zl := blk_lt qn) | (have qn := blk_below (new_d _ _) hbc (by simp); (try simp only [World.size_alloc] at qn); have z0 := cell_of_blk qn 0; have z1 := cell_of_blk qn 1; simp only [List.getElem?_toArray, List.getElem?_cons_zero, List.getElem?_cons_succ] at z0 z1; have zf := frozen_of_blk qn; have zl := blk_lt qn) | skip))
    | ((with_reducible refine (B0.out _).mono ?_); rintro e' wd ⟨he, hbc⟩; subst he; (first | (have qa := blk_below qa hbc (blk_lt qa)) | (have qa := blk_below (blk_alloc qa _) hbc (blk_lt (blk_alloc qa _))) | (have qa := blk_below (blk_ad qa _) hbc (blk_lt (blk_ad qa _)))); have la := blk_lt qa; (first | (have qb := blk_below qb hbc (blk_lt qb)) | (have qb := blk_below (blk_alloc qb _) hbc (blk_lt (blk_alloc qb _))) | (have qb := blk_below (blk_ad qb _) hbc (blk_lt (blk_ad qb _)))); have lb := blk_lt qb; (first | (have qz := blk_below qz hbc (blk_lt qz)) | (have qz := blk_below (blk_alloc qz _) hbc (blk_lt (blk_alloc qz _))) | (have qz := blk_below (blk_ad qz _) hbc (blk_lt (blk_ad qz _)))); have lz := blk_lt qz; (first | (have hbw := stay_b hbw hbc) | (have hbw := stay_b (ba hbw _) hbc) | (have hbw := stay_b (bd hbw hlw _) hbc)); (first | (have qn := blk_below qn hbc (blk_lt qn); have z0 := cell_of_blk qn 0; have z1 := cell_of_blk qn 1; simp only [List.getElem?_toArray, List.getElem?_cons_zero, List.getElem?_cons_succ] at z0 z1; have zf := frozen_of_blk qn; have zl := blk_lt qn) | (have qn := blk_below (heap_alloc_new _ _) hbc (by simp); have z0 := cell_of_blk qn 0; have z1 := cell_of_blk qn 1; simp only [List.getElem?_toArray, List.getElem?_cons_zero, List.getElem?_cons_succ] at z0 z1; have zf := frozen_of_blk qn; have zl := blk_lt qn) | (have qn := blk_below (new_d _ _) hbc (by simp); (try simp only [World.size_alloc] at qn); have z0 := cell_of_blk qn 0; have z1 := cell_of_blk qn 1; simp only [List.getElem?_toArray, List.getElem?_cons_zero, List.getElem?_cons_succ] at z0 z1; have zf := frozen_of_blk qn; have zl := blk_lt qn) | skip)))
  all_goals (go_wp2_with fail; go_meet; first | (exact ⟨_, rfl, new_blk _ rfl, blk_alloc qa _, blk_alloc qb _, blk_alloc qz _, ba hbw _⟩) | (exact ⟨_, rfl, set2_blk qn _ _, farb2 qa (by omega) _ _, farb2 qb (by omega) _ _, farb2 qz (by omega) _ _, set2_below hbw _ (by omega) _ _⟩))
 case rest =>
 obtain ⟨g0, rfl, k_x0_100, k_a_100, k_b_100, k_z_100, hw_100⟩ := hcut
 clear A0 B0 k_a_1 k_b_1 k_z_1 hw_1
 go_upto_region 2 with fail
 go_cut [6] from 13 to 17 (fun s6 wx => ∃ g : Nat, s6 = .pointer (some ⟨g, 0, none⟩) ∧ wx.heap[g]? = some (.cells #[.int .i64 X1, .int .i64 Y1] 98 (0, 0)) ∧ wx.heap[g0]? = some (.cells #[.int .i64 X0, .int .i64 Y0] 98 (0, 0)) ∧ wx.heap[w.heap.size]? = some (.cells #[.int .i64 p, .int .i64 q, .int .i64 r, .int .i64 s, .int .i64 e, .int .i64 f] 63 (0, 0)) ∧ wx.heap[w.heap.size + 1]? = some (.cells #[.int .i64 P, .int .i64 Q, .int .i64 R, .int .i64 S, .int .i64 E, .int .i64 F] 63 (0, 0)) ∧ wx.heap[w.heap.size + 1 + 1]? = some (.cells #[.int .i64 0, .int .i64 0, .int .i64 0, .int .i64 0, .int .i64 0, .int .i64 0] 63 (0, 0)) ∧ Below w.heap.size w wx)
 case first =>
  have k_x0_101 : (wc.drew).heap[g0]? = some (.cells #[.int .i64 X0, .int .i64 Y0] 98 (0, 0)) := k_x0_100
  have k_a_101 : (wc.drew).heap[w.heap.size]? = some (.cells #[.int .i64 p, .int .i64 q, .int .i64 r, .int .i64 s, .int .i64 e, .int .i64 f] 63 (0, 0)) := k_a_100
  have k_b_101 : (wc.drew).heap[w.heap.size + 1]? = some (.cells #[.int .i64 P, .int .i64 Q, .int .i64 R, .int .i64 S, .int .i64 E, .int .i64 F] 63 (0, 0)) := k_b_100
  have k_z_101 : (wc.drew).heap[w.heap.size + 1 + 1]? = some (.cells #[.int .i64 0, .int .i64 0, .int .i64 0, .int .i64 0, .int .i64 0, .int .i64 0] 63 (0, 0)) := k_z_100
  have hw_101 : Below w.heap.size w (wc.drew) := (hw_100).drew
  clear k_x0_100 k_a_100 k_b_100 k_z_100 hw_100
  have c_a_0 := cell_of_blk k_a_101 0
  have c_a_1 := cell_of_blk k_a_101 1
  have c_a_2 := cell_of_blk k_a_101 2
  have c_a_3 := cell_of_blk k_a_101 3
  have c_a_4 := cell_of_blk k_a_101 4
  have c_a_5 := cell_of_blk k_a_101 5
  simp only [List.getElem?_toArray, List.getElem?_cons_zero, List.getElem?_cons_succ] at c_a_0 c_a_1 c_a_2 c_a_3 c_a_4 c_a_5
  have f_a := frozen_of_blk k_a_101
  have s_a := blk_lt k_a_101
  have c_b_0 := cell_of_blk k_b_101 0
  have c_b_1 := cell_of_blk k_b_101 1
  have c_b_2 := cell_of_blk k_b_101 2
  have c_b_3 := cell_of_blk k_b_101 3
  have c_b_4 := cell_of_blk k_b_101 4
  have c_b_5 := cell_of_blk k_b_101 5
  simp only [List.getElem?_toArray, List.getElem?_cons_zero, List.getElem?_cons_succ] at c_b_0 c_b_1 c_b_2 c_b_3 c_b_4 c_b_5
  have f_b := frozen_of_blk k_b_101
  have s_b := blk_lt k_b_101
  have hS0 := And.intro c_a_0 (And.intro c_a_1 (And.intro c_a_2 (And.intro c_a_3 (And.intro c_a_4 (And.intro c_a_5 (And.intro c_b_0 (And.intro c_b_1 (And.intro c_b_2 (And.intro c_b_3 (And.intro c_b_4 (And.intro c_b_5 hw_101)))))))))))
  clear c_a_0 c_a_1 c_a_2 c_a_3 c_a_4 c_a_5 c_b_0 c_b_1 c_b_2 c_b_3 c_b_4 c_b_5 f_a s_a f_b s_b
  have lx0 := blk_lt k_x0_101
  have qx0 := k_x0_101
  have la := blk_lt k_a_101
  have qa := k_a_101
  have lb := blk_lt k_b_101
  have qb := k_b_101
  have lz := blk_lt k_z_101
  have qz := k_z_101
  (try simp only [World.size_drew] at lx0 la lb lz)
  have hbw := hw_101
  have hlw := hbw.size
  simp only [World.size_drew] at hlw
  go_region_held3 (fun w' => w'.cell? ⟨w.heap.size, 0, none⟩ = some (.int .i64 p) ∧ w'.cell? ⟨w.heap.size, 1, none⟩ = some (.int .i64 q) ∧ w'.cell? ⟨w.heap.size, 2, none⟩ = some (.int .i64 r) ∧ w'.cell? ⟨w.heap.size, 3, none⟩ = some (.int .i64 s) ∧ w'.cell? ⟨w.heap.size, 4, none⟩ = some (.int .i64 e) ∧ w'.cell? ⟨w.heap.size, 5, none⟩ = some (.int .i64 f) ∧ w'.cell? ⟨w.heap.size + 1, 0, none⟩ = some (.int .i64 P) ∧ w'.cell? ⟨w.heap.size + 1, 1, none⟩ = some (.int .i64 Q) ∧ w'.cell? ⟨w.heap.size + 1, 2, none⟩ = some (.int .i64 R) ∧ w'.cell? ⟨w.heap.size + 1, 3, none⟩ = some (.int .i64 S) ∧ w'.cell? ⟨w.heap.size + 1, 4, none⟩ = some (.int .i64 E) ∧ w'.cell? ⟨w.heap.size + 1, 5, none⟩ = some (.int .i64 F) ∧ Below w.heap.size w w')
   (first
    | with_reducible exact hS0
    | (go_split_ands; with_reducible exact ⟨al_c ‹_› _, al_c ‹_› _, al_c ‹_› _, al_c ‹_› _, al_c ‹_› _, al_c ‹_› _, al_c ‹_› _, al_c ‹_› _, al_c ‹_› _, al_c ‹_› _, al_c ‹_› _, al_c ‹_› _, ba ‹_› _⟩)
    | (go_split_ands; with_reducible exact ⟨al_d ‹_› _, al_d ‹_› _, al_d ‹_› _, al_d ‹_› _, al_d ‹_› _, al_d ‹_› _, al_d ‹_› _, al_d ‹_› _, al_d ‹_› _, al_d ‹_› _, al_d ‹_› _, al_d ‹_› _, bd ‹_› hlw _⟩)
    | (go_split_ands; exact ⟨re_c ‹_› (by omega), re_c ‹_› (by omega), re_c ‹_› (by omega), re_c ‹_› (by omega), re_c ‹_› (by omega), re_c ‹_› (by omega), re_c ‹_› (by omega), re_c ‹_› (by omega), re_c ‹_› (by omega), re_c ‹_› (by omega), re_c ‹_› (by omega), re_c ‹_› (by omega), ba hbw _⟩)
    | (go_split_ands; exact ⟨far2 ‹_› (by omega) _ _, far2 ‹_› (by omega) _ _, far2 ‹_› (by omega) _ _, far2 ‹_› (by omega) _ _, far2 ‹_› (by omega) _ _, far2 ‹_› (by omega) _ _, far2 ‹_› (by omega) _ _, far2 ‹_› (by omega) _ _, far2 ‹_› (by omega) _ _, far2 ‹_› (by omega) _ _, far2 ‹_› (by omega) _ _, far2 ‹_› (by omega) _ _, set2_below ‹_› _ (by omega) _ _⟩)
    | (go_split_ands; with_reducible exact ⟨sd ‹_› hbc, sd ‹_› hbc, sd ‹_› hbc, sd ‹_› hbc, sd ‹_› hbc, sd ‹_› hbc, sd ‹_› hbc, sd ‹_› hbc, sd ‹_› hbc, sd ‹_› hbc, sd ‹_› hbc, sd ‹_› hbc, stay_b ‹_› hbc⟩))
   (first
    | ((with_reducible refine (A1.out _).mono ?_); rintro e' wc ⟨he, hbc⟩; subst he; (first | (have qx0 := blk_below qx0 hbc (blk_lt qx0)) | (have qx0 := blk_below (blk_alloc qx0 _) hbc (blk_lt (blk_alloc qx0 _))) | (have qx0 := blk_below (blk_ad qx0 _) hbc (blk_lt (blk_ad qx0 _)))); have lx0 := blk_lt qx0; (first | (have qa := blk_below qa hbc (blk_lt qa)) | (have qa := blk_below (blk_alloc qa _) hbc (blk_lt (blk_alloc qa _))) | (have qa := blk_below (blk_ad qa _) hbc (blk_lt (blk_ad qa _)))); have la := blk_lt qa; (first | (have qb := blk_below qb hbc (blk_lt qb)) | (have qb := blk_below (blk_alloc qb _) hbc (blk_lt (blk_alloc qb _))) | (have qb := blk_below (blk_ad qb _) hbc (blk_lt (blk_ad qb _)))); have lb := blk_lt qb; (first | (have qz := blk_below qz hbc (blk_lt qz)) | (have qz := blk_below (blk_alloc qz _) hbc (blk_lt (blk_alloc qz _))) | (have qz := blk_below (blk_ad qz _) hbc (blk_lt (blk_ad qz _)))); have lz := blk_lt qz; (first | (have hbw := stay_b hbw hbc) | (have hbw := stay_b (ba hbw _) hbc) | (have hbw := stay_b (bd hbw hlw _) hbc)); (first | (have qn := blk_below qn hbc (blk_lt qn); have z0 := cell_of_blk qn 0; have z1 := cell_of_blk qn 1; simp only [List.getElem?_toArray, List.getElem?_cons_zero, List.getElem?_cons_succ] at z0 z1; have zf := frozen_of_blk qn; have zl := blk_lt qn) | (have qn := blk_below (heap_alloc_new _ _) hbc (by simp); have z0 := cell_of_blk qn 0; have z1 := cell_of_blk qn 1; simp only [List.getElem?_toArray, List.getElem?_cons_zero, List.getElem?_cons_succ] at z0 z1; have zf := frozen_of_blk qn; have zl := blk_lt qn) | (have qn := blk_below (new_d _ _) hbc (by simp); (try simp only [World.size_alloc] at qn); have z0 := cell_of_blk qn 0; have z1 := cell_of_blk qn 1; simp only [List.getElem?_toArray, List.getElem?_cons_zero, List.getElem?_cons_succ] at z0 z1; have zf := frozen_of_blk qn; have zl := blk_lt qn) | skip))
    | ((with_reducible refine (B1.out _).mono ?_); rintro e' wd ⟨he, hbc⟩; subst he; (first | (have qx0 := blk_below qx0 hbc (blk_lt qx0)) | (have qx0 := blk_below (blk_alloc qx0 _) hbc (blk_lt (blk_alloc qx0 _))) | (have qx0 := blk_below (blk_ad qx0 _) hbc (blk_lt (blk_ad qx0 _)))); have lx0 := blk_lt qx0; (first | (have qa := blk_below qa hbc (blk_lt qa)) | (have qa := blk_below (blk_alloc qa _) hbc (blk_lt (blk_alloc qa _))) | (have qa := blk_below (blk_ad qa _) hbc (blk_lt (blk_ad qa _)))); have la := blk_lt qa; (first | (have qb := blk_below qb hbc (blk_lt qb)) | (have qb := blk_below (blk_alloc qb _) hbc (blk_lt (blk_alloc qb _))) | (have qb := blk_below (blk_ad qb _) hbc (blk_lt (blk_ad qb _)))); have lb := blk_lt qb; (first | (have qz := blk_below qz hbc (blk_lt qz)) | (have qz := blk_below (blk_alloc qz _) hbc (blk_lt (blk_alloc qz _))) | (have qz := blk_below (blk_ad qz _) hbc (blk_lt (blk_ad qz _)))); have lz := blk_lt qz; (first | (have hbw := stay_b hbw hbc) | (have hbw := stay_b (ba hbw _) hbc) | (have hbw := stay_b (bd hbw hlw _) hbc)); (first | (have qn := blk_below qn hbc (blk_lt qn); have z0 := cell_of_blk qn 0; have z1 := cell_of_blk qn 1; simp only [List.getElem?_toArray, List.getElem?_cons_zero, List.getElem?_cons_succ] at z0 z1; have zf := frozen_of_blk qn; have zl := blk_lt qn) | (have qn := blk_below (heap_alloc_new _ _) hbc (by simp); have z0 := cell_of_blk qn 0; have z1 := cell_of_blk qn 1; simp only [List.getElem?_toArray, List.getElem?_cons_zero, List.getElem?_cons_succ] at z0 z1; have zf := frozen_of_blk qn; have zl := blk_lt qn) | (have qn := blk_below (new_d _ _) hbc (by simp); (try simp only [World.size_alloc] at qn); have z0 := cell_of_blk qn 0; have z1 := cell_of_blk qn 1; simp only [List.getElem?_toArray, List.getElem?_cons_zero, List.getElem?_cons_succ] at z0 z1; have zf := frozen_of_blk qn; have zl := blk_lt qn) | skip)))
  all_goals (go_wp2_with fail; go_meet; first | (exact ⟨_, rfl, new_blk _ rfl, blk_alloc qx0 _, blk_alloc qa _, blk_alloc qb _, blk_alloc qz _, ba hbw _⟩) | (exact ⟨_, rfl, set2_blk qn _ _, farb2 qx0 (by omega) _ _, farb2 qa (by omega) _ _, farb2 qb (by omega) _ _, farb2 qz (by omega) _ _, set2_below hbw _ (by omega) _ _⟩))
 case rest =>
 obtain ⟨g1, rfl, k_x1_200, k_x0_200, k_a_200, k_b_200, k_z_200, hw_200⟩ := hcut
 clear A1 B1 k_x0_100 k_a_100 k_b_100 k_z_100 hw_100
 go_upto_region 3 with fail
 go_cut [7] from 18 to 22 (fun s7 wx => ∃ g : Nat, s7 = .pointer (some ⟨g, 0, none⟩) ∧ wx.heap[g]? = some (.cells #[.int .i64 X2, .int .i64 Y2] 98 (0, 0)) ∧ wx.heap[g1]? = some (.cells #[.int .i64 X1, .int .i64 Y1] 98 (0, 0)) ∧ wx.heap[g0]? = some (.cells #[.int .i64 X0, .int .i64 Y0] 98 (0, 0)) ∧ wx.heap[w.heap.size]? = some (.cells #[.int .i64 p, .int .i64 q, .int .i64 r, .int .i64 s, .int .i64 e, .int .i64 f] 63 (0, 0)) ∧ wx.heap[w.heap.size + 1]? = some (.cells #[.int .i64 P, .int .i64 Q, .int .i64 R, .int .i64 S, .int .i64 E, .int .i64 F] 63 (0, 0)) ∧ wx.heap[w.heap.size + 1 + 1]? = some (.cells #[.int .i64 0, .int .i64 0, .int .i64 0, .int .i64 0, .int .i64 0, .int .i64 0] 63 (0, 0)) ∧ Below w.heap.size w wx)
 case first =>
  have k_x1_201 : (wc.drew).heap[g1]? = some (.cells #[.int .i64 X1, .int .i64 Y1] 98 (0, 0)) := k_x1_200
  have k_x0_201 : (wc.drew).heap[g0]? = some (.cells #[.int .i64 X0, .int .i64 Y0] 98 (0, 0)) := k_x0_200
  have k_a_201 : (wc.drew).heap[w.heap.size]? = some (.cells #[.int .i64 p, .int .i64 q, .int .i64 r, .int .i64 s, .int .i64 e, .int .i64 f] 63 (0, 0)) := k_a_200
  have k_b_201 : (wc.drew).heap[w.heap.size + 1]? = some (.cells #[.int .i64 P, .int .i64 Q, .int .i64 R, .int .i64 S, .int .i64 E, .int .i64 F] 63 (0, 0)) := k_b_200
  have k_z_201 : (wc.drew).heap[w.heap.size + 1 + 1]? = some (.cells #[.int .i64 0, .int .i64 0, .int .i64 0, .int .i64 0, .int .i64 0, .int .i64 0] 63 (0, 0)) := k_z_200
  have hw_201 : Below w.heap.size w (wc.drew) := (hw_200).drew
  clear k_x1_200 k_x0_200 k_a_200 k_b_200 k_z_200 hw_200
  have c_a_0 := cell_of_blk k_a_201 0
  have c_a_1 := cell_of_blk k_a_201 1
  have c_a_2 := cell_of_blk k_a_201 2
  have c_a_3 := cell_of_blk k_a_201 3
  have c_a_4 := cell_of_blk k_a_201 4
  have c_a_5 := cell_of_blk k_a_201 5
  simp only [List.getElem?_toArray, List.getElem?_cons_zero, List.getElem?_cons_succ] at c_a_0 c_a_1 c_a_2 c_a_3 c_a_4 c_a_5
  have f_a := frozen_of_blk k_a_201
  have s_a := blk_lt k_a_201
  have c_b_0 := cell_of_blk k_b_201 0
  have c_b_1 := cell_of_blk k_b_201 1
  have c_b_2 := cell_of_blk k_b_201 2
  have c_b_3 := cell_of_blk k_b_201 3
  have c_b_4 := cell_of_blk k_b_201 4
  have c_b_5 := cell_of_blk k_b_201 5
  simp only [List.getElem?_toArray, List.getElem?_cons_zero, List.getElem?_cons_succ] at c_b_0 c_b_1 c_b_2 c_b_3 c_b_4 c_b_5
  have f_b := frozen_of_blk k_b_201
  have s_b := blk_lt k_b_201
  have hS0 := And.intro c_a_0 (And.intro c_a_1 (And.intro c_a_2 (And.intro c_a_3 (And.intro c_a_4 (And.intro c_a_5 (And.intro c_b_0 (And.intro c_b_1 (And.intro c_b_2 (And.intro c_b_3 (And.intro c_b_4 (And.intro c_b_5 hw_201)))))))))))
  clear c_a_0 c_a_1 c_a_2 c_a_3 c_a_4 c_a_5 c_b_0 c_b_1 c_b_2 c_b_3 c_b_4 c_b_5 f_a s_a f_b s_b
  have lx1 := blk_lt k_x1_201
  have qx1 := k_x1_201
  have lx0 := blk_lt k_x0_201
  have qx0 := k_x0_201
  have la := blk_lt k_a_201
  have qa := k_a_201
  have lb := blk_lt k_b_201
  have qb := k_b_201
  have lz := blk_lt k_z_201
  have qz := k_z_201
  (try simp only [World.size_drew] at lx1 lx0 la lb lz)
  have hbw := hw_201
  have hlw := hbw.size
  simp only [World.size_drew] at hlw
  go_region_held3 (fun w' => w'.cell? ⟨w.heap.size, 0, none⟩ = some (.int .i64 p) ∧ w'.cell? ⟨w.heap.size, 1, none⟩ = some (.int .i64 q) ∧ w'.cell? ⟨w.heap.size, 2, none⟩ = some (.int .i64 r) ∧ w'.cell? ⟨w.heap.size, 3, none⟩ = some (.int .i64 s) ∧ w'.cell? ⟨w.heap.size, 4, none⟩ = some (.int .i64 e) ∧ w'.cell? ⟨w.heap.size, 5, none⟩ = some (.int .i64 f) ∧ w'.cell? ⟨w.heap.size + 1, 0, none⟩ = some (.int .i64 P) ∧ w'.cell? ⟨w.heap.size + 1, 1, none⟩ = some (.int .i64 Q) ∧ w'.cell? ⟨w.heap.size + 1, 2, none⟩ = some (.int .i64 R) ∧ w'.cell? ⟨w.heap.size + 1, 3, none⟩ = some (.int .i64 S) ∧ w'.cell? ⟨w.heap.size + 1, 4, none⟩ = some (.int .i64 E) ∧ w'.cell? ⟨w.heap.size + 1, 5, none⟩ = some (.int .i64 F) ∧ Below w.heap.size w w')
   (first
    | with_reducible exact hS0
    | (go_split_ands; with_reducible exact ⟨al_c ‹_› _, al_c ‹_› _, al_c ‹_› _, al_c ‹_› _, al_c ‹_› _, al_c ‹_› _, al_c ‹_› _, al_c ‹_› _, al_c ‹_› _, al_c ‹_› _, al_c ‹_› _, al_c ‹_› _, ba ‹_› _⟩)
    | (go_split_ands; with_reducible exact ⟨al_d ‹_› _, al_d ‹_› _, al_d ‹_› _, al_d ‹_› _, al_d ‹_› _, al_d ‹_› _, al_d ‹_› _, al_d ‹_› _, al_d ‹_› _, al_d ‹_› _, al_d ‹_› _, al_d ‹_› _, bd ‹_› hlw _⟩)
    | (go_split_ands; exact ⟨re_c ‹_› (by omega), re_c ‹_› (by omega), re_c ‹_› (by omega), re_c ‹_› (by omega), re_c ‹_› (by omega), re_c ‹_› (by omega), re_c ‹_› (by omega), re_c ‹_› (by omega), re_c ‹_› (by omega), re_c ‹_› (by omega), re_c ‹_› (by omega), re_c ‹_› (by omega), ba hbw _⟩)
    | (go_split_ands; exact ⟨far2 ‹_› (by omega) _ _, far2 ‹_› (by omega) _ _, far2 ‹_› (by omega) _ _, far2 ‹_› (by omega) _ _, far2 ‹_› (by omega) _ _, far2 ‹_› (by omega) _ _, far2 ‹_› (by omega) _ _, far2 ‹_› (by omega) _ _, far2 ‹_› (by omega) _ _, far2 ‹_› (by omega) _ _, far2 ‹_› (by omega) _ _, far2 ‹_› (by omega) _ _, set2_below ‹_› _ (by omega) _ _⟩)
    | (go_split_ands; with_reducible exact ⟨sd ‹_› hbc, sd ‹_› hbc, sd ‹_› hbc, sd ‹_› hbc, sd ‹_› hbc, sd ‹_› hbc, sd ‹_› hbc, sd ‹_› hbc, sd ‹_› hbc, sd ‹_› hbc, sd ‹_› hbc, sd ‹_› hbc, stay_b ‹_› hbc⟩))
   (first
    | ((with_reducible refine (A2.out _).mono ?_); rintro e' wc ⟨he, hbc⟩; subst he; (first | (have qx1 := blk_below qx1 hbc (blk_lt qx1)) | (have qx1 := blk_below (blk_alloc qx1 _) hbc (blk_lt (blk_alloc qx1 _))) | (have qx1 := blk_below (blk_ad qx1 _) hbc (blk_lt (blk_ad qx1 _)))); have lx1 := blk_lt qx1; (first | (have qx0 := blk_below qx0 hbc (blk_lt qx0)) | (have qx0 := blk_below (blk_alloc qx0 _) hbc (blk_lt (blk_alloc qx0 _))) | (have qx0 := blk_below (blk_ad qx0 _) hbc (blk_lt (blk_ad qx0 _)))); have lx0 := blk_lt qx0; (first | (have qa := blk_below qa hbc (blk_lt qa)) | (have qa := blk_below (blk_alloc qa _) hbc (blk_lt (blk_alloc qa _))) | (have qa := blk_below (blk_ad qa _) hbc (blk_lt (blk_ad qa _)))); have la := blk_lt qa; (first | (have qb := blk_below qb hbc (blk_lt qb)) | (have qb := blk_below (blk_alloc qb _) hbc (blk_lt (blk_alloc qb _))) | (have qb := blk_below (blk_ad qb _) hbc (blk_lt (blk_ad qb _)))); have lb := blk_lt qb; (first | (have qz := blk_below qz hbc (blk_lt qz)) | (have qz := blk_below (blk_alloc qz _) hbc (blk_lt (blk_alloc qz _))) | (have qz := blk_below (blk_ad qz _) hbc (blk_lt (blk_ad qz _)))); have lz := blk_lt qz; (first | (have hbw := stay_b hbw hbc) | (have hbw := stay_b (ba hbw _) hbc) | (have hbw := stay_b (bd hbw hlw _) hbc)); (first | (have qn := blk_below qn hbc (blk_lt qn); have z0 := cell_of_blk qn 0; have z1 := cell_of_blk qn 1; simp only [List.getElem?_toArray, List.getElem?_cons_zero, List.getElem?_cons_succ] at z0 z1; have zf := frozen_of_blk qn; have zl := blk_lt qn) | (have qn := blk_below (heap_alloc_new _ _) hbc (by simp); have z0 := cell_of_blk qn 0; have z1 := cell_of_blk qn 1; simp only [List.getElem?_toArray, List.getElem?_cons_zero, List.getElem?_cons_succ] at z0 z1; have zf := frozen_of_blk qn; have zl := blk_lt qn) | (have qn := blk_below (new_d _ _) hbc (by simp); (try simp only [World.size_alloc] at qn); have z0 := cell_of_blk qn 0; have z1 := cell_of_blk qn 1; simp only [List.getElem?_toArray, List.getElem?_cons_zero, List.getElem?_cons_succ] at z0 z1; have zf := frozen_of_blk qn; have zl := blk_lt qn) | skip))
    | ((with_reducible refine (B2.out _).mono ?_); rintro e' wd ⟨he, hbc⟩; subst he; (first | (have qx1 := blk_below qx1 hbc (blk_lt qx1)) | (have qx1 := blk_below (blk_alloc qx1 _) hbc (blk_lt (blk_alloc qx1 _))) | (have qx1 := blk_below (blk_ad qx1 _) hbc (blk_lt (blk_ad qx1 _)))); have lx1 := blk_lt qx1; (first | (have qx0 := blk_below qx0 hbc (blk_lt qx0)) | (have qx0 := blk_below (blk_alloc qx0 _) hbc (blk_lt (blk_alloc qx0 _))) | (have qx0 := blk_below (blk_ad qx0 _) hbc (blk_lt (blk_ad qx0 _)))); have lx0 := blk_lt qx0; (first | (have qa := blk_below qa hbc (blk_lt qa)) | (have qa := blk_below (blk_alloc qa _) hbc (blk_lt (blk_alloc qa _))) | (have qa := blk_below (blk_ad qa _) hbc (blk_lt (blk_ad qa _)))); have la := blk_lt qa; (first | (have qb := blk_below qb hbc (blk_lt qb)) | (have qb := blk_below (blk_alloc qb _) hbc (blk_lt (blk_alloc qb _))) | (have qb := blk_below (blk_ad qb _) hbc (blk_lt (blk_ad qb _)))); have lb := blk_lt qb; (first | (have qz := blk_below qz hbc (blk_lt qz)) | (have qz := blk_below (blk_alloc qz _) hbc (blk_lt (blk_alloc qz _))) | (have qz := blk_below (blk_ad qz _) hbc (blk_lt (blk_ad qz _)))); have lz := blk_lt qz; (first | (have hbw := stay_b hbw hbc) | (have hbw := stay_b (ba hbw _) hbc) | (have hbw := stay_b (bd hbw hlw _) hbc)); (first | (have qn := blk_below qn hbc (blk_lt qn); have z0 := cell_of_blk qn 0; have z1 := cell_of_blk qn 1; simp only [List.getElem?_toArray, List.getElem?_cons_zero, List.getElem?_cons_succ] at z0 z1; have zf := frozen_of_blk qn; have zl := blk_lt qn) | (have qn := blk_below (heap_alloc_new _ _) hbc (by simp); have z0 := cell_of_blk qn 0; have z1 := cell_of_blk qn 1; simp only [List.getElem?_toArray, List.getElem?_cons_zero, List.getElem?_cons_succ] at z0 z1; have zf := frozen_of_blk qn; have zl := blk_lt qn) | (have qn := blk_below (new_d _ _) hbc (by simp); (try simp only [World.size_alloc] at qn); have z0 := cell_of_blk qn 0; have z1 := cell_of_blk qn 1; simp only [List.getElem?_toArray, List.getElem?_cons_zero, List.getElem?_cons_succ] at z0 z1; have zf := frozen_of_blk qn; have zl := blk_lt qn) | skip)))
  all_goals (go_wp2_with fail; go_meet; first | (exact ⟨_, rfl, new_blk _ rfl, blk_alloc qx1 _, blk_alloc qx0 _, blk_alloc qa _, blk_alloc qb _, blk_alloc qz _, ba hbw _⟩) | (exact ⟨_, rfl, set2_blk qn _ _, farb2 qx1 (by omega) _ _, farb2 qx0 (by omega) _ _, farb2 qa (by omega) _ _, farb2 qb (by omega) _ _, farb2 qz (by omega) _ _, set2_below hbw _ (by omega) _ _⟩))
 case rest =>
 obtain ⟨g2, rfl, k_x2_300, k_x1_300, k_x0_300, k_a_300, k_b_300, k_z_300, hw_300⟩ := hcut
 clear A2 B2 k_x1_200 k_x0_200 k_a_200 k_b_200 k_z_200 hw_200
 have c_x2_0 := cell_of_blk k_x2_300 0
 have c_x2_1 := cell_of_blk k_x2_300 1
 simp only [List.getElem?_toArray, List.getElem?_cons_zero, List.getElem?_cons_succ] at c_x2_0 c_x2_1
 have f_x2 := frozen_of_blk k_x2_300
 have s_x2 := blk_lt k_x2_300
 have c_x1_0 := cell_of_blk k_x1_300 0
 have c_x1_1 := cell_of_blk k_x1_300 1
 simp only [List.getElem?_toArray, List.getElem?_cons_zero, List.getElem?_cons_succ] at c_x1_0 c_x1_1
 have f_x1 := frozen_of_blk k_x1_300
 have s_x1 := blk_lt k_x1_300
 have c_x0_0 := cell_of_blk k_x0_300 0
 have c_x0_1 := cell_of_blk k_x0_300 1
 simp only [List.getElem?_toArray, List.getElem?_cons_zero, List.getElem?_cons_succ] at c_x0_0 c_x0_1
 have f_x0 := frozen_of_blk k_x0_300
 have s_x0 := blk_lt k_x0_300
 have c_a_0 := cell_of_blk k_a_300 0
 have c_a_1 := cell_of_blk k_a_300 1
 have c_a_2 := cell_of_blk k_a_300 2
 have c_a_3 := cell_of_blk k_a_300 3
 have c_a_4 := cell_of_blk k_a_300 4
 have c_a_5 := cell_of_blk k_a_300 5
 simp only [List.getElem?_toArray, List.getElem?_cons_zero, List.getElem?_cons_succ] at c_a_0 c_a_1 c_a_2 c_a_3 c_a_4 c_a_5
 have f_a := frozen_of_blk k_a_300
 have s_a := blk_lt k_a_300
 have c_b_0 := cell_of_blk k_b_300 0
 have c_b_1 := cell_of_blk k_b_300 1
 have c_b_2 := cell_of_blk k_b_300 2
 have c_b_3 := cell_of_blk k_b_300 3
 have c_b_4 := cell_of_blk k_b_300 4
 have c_b_5 := cell_of_blk k_b_300 5
 simp only [List.getElem?_toArray, List.getElem?_cons_zero, List.getElem?_cons_succ] at c_b_0 c_b_1 c_b_2 c_b_3 c_b_4 c_b_5
 have f_b := frozen_of_blk k_b_300
 have s_b := blk_lt k_b_300
 have c_z_0 := cell_of_blk k_z_300 0
 have c_z_1 := cell_of_blk k_z_300 1
 have c_z_2 := cell_of_blk k_z_300 2
 have c_z_3 := cell_of_blk k_z_300 3
 have c_z_4 := cell_of_blk k_z_300 4
 have c_z_5 := cell_of_blk k_z_300 5
 simp only [List.getElem?_toArray, List.getElem?_cons_zero, List.getElem?_cons_succ] at c_z_0 c_z_1 c_z_2 c_z_3 c_z_4 c_z_5
 have f_z := frozen_of_blk k_z_300
 have s_z := blk_lt k_z_300
 go_wp2
 have HR := HRES.out
 rw [← HR.1, ← HR.2.1, ← HR.2.2.1, ← HR.2.2.2.1, ← HR.2.2.2.2.1, ← HR.2.2.2.2.2]
 clear HR
 refine bodyPost_ret (v := .agg #[.int .i64 (X1 - X0), .int .i64 (X2 - X0), .int .i64 (Y1 - Y0), .int .i64 (Y2 - Y0), .int .i64 X0, .int .i64 Y0]) (by simp [results, Tryz.results46, go_sem, c_z_0, c_z_1, c_z_2, c_z_3, c_z_4, c_z_5]) rfl ⟨rfl, ?_⟩
 exact set6_below hw_300 _ (by omega) _ _ _ _ _ _
def afterV (A B : V6) : V6 := (B.1 * A.1 + B.2.1 * A.2.2.1, B.1 * A.2.1 + B.2.1 * A.2.2.2.1, B.2.2.1 * A.1 + B.2.2.2.1 * A.2.2.1, B.2.2.1 * A.2.1 + B.2.2.2.1 * A.2.2.2.1, B.1 * A.2.2.2.2.1 + B.2.1 * A.2.2.2.2.2 + B.2.2.2.2.1, B.2.2.1 * A.2.2.2.2.1 + B.2.2.2.1 * A.2.2.2.2.2 + B.2.2.2.2.2)
theorem turn8 {a b c d : Int} (h : turnedB a b c d = true) :
  (a = 1 ∧ b = 0 ∧ c = 0 ∧ d = 1) ∨ (a = 1 ∧ b = 0 ∧ c = 0 ∧ d = -1) ∨ (a = -1 ∧ b = 0 ∧ c = 0 ∧ d = 1) ∨ (a = -1 ∧ b = 0 ∧ c = 0 ∧ d = -1) ∨
  (a = 0 ∧ b = 1 ∧ c = 1 ∧ d = 0) ∨ (a = 0 ∧ b = 1 ∧ c = -1 ∧ d = 0) ∨ (a = 0 ∧ b = -1 ∧ c = 1 ∧ d = 0) ∨ (a = 0 ∧ b = -1 ∧ c = -1 ∧ d = 0) := by
 simp only [turnedB, oneB, Bool.or_eq_true, Bool.and_eq_true, beq_iff_eq] at h
 rcases h with ⟨⟨rfl | rfl, rfl⟩, rfl | rfl, rfl⟩ | ⟨⟨rfl | rfl, rfl⟩, rfl | rfl, rfl⟩ <;> decide
def GB (A : V6) (n : Int) : Prop := turnedB A.1 A.2.1 A.2.2.1 A.2.2.2.1 = true ∧ (-n ≤ A.2.2.2.2.1 ∧ A.2.2.2.2.1 ≤ n) ∧ (-n ≤ A.2.2.2.2.2 ∧ A.2.2.2.2.2 ≤ n)
theorem GB.mono {A : V6} {n m : Int} (h : GB A n) (hn : n ≤ m) : GB A m := by
 obtain ⟨h1, h2, h3⟩ := h
 exact ⟨h1, by omega, by omega⟩
theorem gb_mir {v c n : Int} (v1 : 0 ≤ v) (v2 : v ≤ 3) (c1 : -n ≤ c) (c2 : c ≤ n) : GB (mirB v c) (2 * n) := by
 have h : v = 0 ∨ v = 1 ∨ v = 2 ∨ v = 3 := by omega
 rcases h with rfl | rfl | rfl | rfl <;> simp [GB, mirB, turnedB, oneB] <;> omega
theorem gb_sm {A : V6} {n : Int} (h : GB A n) (hn : n ≤ 1000000) : Sm A.1 A.2.1 A.2.2.1 A.2.2.2.1 A.2.2.2.2.1 A.2.2.2.2.2 := by
 obtain ⟨h1, h2, h3⟩ := h
 rcases turn8 h1 with ⟨e1, e2, e3, e4⟩ | ⟨e1, e2, e3, e4⟩ | ⟨e1, e2, e3, e4⟩ | ⟨e1, e2, e3, e4⟩ | ⟨e1, e2, e3, e4⟩ | ⟨e1, e2, e3, e4⟩ | ⟨e1, e2, e3, e4⟩ | ⟨e1, e2, e3, e4⟩ <;>
  (constructor <;> first | (rw [e1]; decide) | (rw [e2]; decide) | (rw [e3]; decide) | (rw [e4]; decide) | omega)
def zeroV : V6 := (0, 0, 0, 0, 0, 0)
end
end Go.Proofs.YtpkjekedgodccaaGreatDoor
