/- Lines, mirrors, maps put together, in both layers (from the grid's texts).. -/
import Derived.Test.YtbnkabmnenginaaGreatDoorK19
import Derived.Deep.DeepCutAuto
namespace Go.Proofs.YtbnkabmnenginaaGreatDoor
set_option linter.unusedSimpArgs false
set_option linter.unusedVariables false
section
open Go.RowKit
def valB (v x y : Int) : Int := if v = 0 then x else if v = 1 then y else if v = 2 then x + y else x - y
theorem valB_bd {v x y M : Int} (x1 : -M ≤ x) (x2 : x ≤ M) (y1 : -M ≤ y) (y2 : y ≤ M) : -(2 * M) ≤ valB v x y ∧ valB v x y ≤ 2 * M := by
 unfold valB; split <;> (try split) <;> (try split) <;> omega
set_option maxHeartbeats 800000 in
theorem value_any (v x y : Int) (w : World) (x1 : -4000000 ≤ x) (x2 : x ≤ 4000000) (y1 : -4000000 ≤ y) (y2 : y ≤ 4000000) :
  Calls Tryz.prog 72 #[.int .i64 v, .agg #[.int .i64 x, .int .i64 y]] w fun e w' => e = .returned (.int .i64 (valB v x y)) ∧ Below w.heap.size w w' := by
 have hb := below_new w (.cells #[.int .i64 x, .int .i64 y] 48)
 by_cases h0 : v = 0
 ·subst h0
  go_enter Tryz.func72, Tryz.ntmps72
  go_wp2
  go_ret
  exact ⟨by simp [valB], hb⟩
 by_cases h1 : v = 1
 ·subst h1
  go_enter Tryz.func72, Tryz.ntmps72
  go_wp2
  go_ret
  exact ⟨by simp [valB], hb⟩
 by_cases h2 : v = 2
 ·subst h2
  go_enter Tryz.func72, Tryz.ntmps72
  go_wp2
  go_ret
  exact ⟨by simp [valB], hb⟩
 have b0 : (v == 0) = false := by simpa using h0
 have b1 : (v == 1) = false := by simpa using h1
 have b2 : (v == 2) = false := by simpa using h2
 have HV : Hid (valB v x y = x - y) := Lib.hid (by simp [valB, h0, h1, h2])
 clear h0 h1 h2
 go_enter Tryz.func72, Tryz.ntmps72
 go_wp2
 go_ret
 exact ⟨by rw [HV.out]; rfl, hb⟩
abbrev V6 := Int × Int × Int × Int × Int × Int
abbrev aggM (m : V6) : Value := .agg #[.int .i64 m.1, .int .i64 m.2.1, .int .i64 m.2.2.1, .int .i64 m.2.2.2.1, .int .i64 m.2.2.2.2.1, .int .i64 m.2.2.2.2.2]
def mirB (v c : Int) : V6 := if v = 0 then (-1, 0, 0, 1, 2 * c, 0) else if v = 1 then (1, 0, 0, -1, 0, 2 * c) else if v = 2 then (0, -1, -1, 0, c, c) else (0, 1, 1, 0, c, -c)
set_option maxRecDepth 100000 in
set_option maxHeartbeats 1600000 in
theorem mirror_any (v c : Int) (w : World) (c1 : -1000000 ≤ c) (c2 : c ≤ 1000000) :
  Calls Tryz.prog 54 #[.agg #[.int .i64 v, .int .i64 c]] w fun e w' => e = .returned (aggM (mirB v c)) ∧ Below w.heap.size w w' := by
 by_cases h0 : v = 0
 ·subst h0
  go_enter Tryz.func54, Tryz.ntmps54
  go_wp2
  refine bodyPost_ret (v := aggM (-1, 0, 0, 1, 2 * c, 0)) (by simp [results, Tryz.results54, go_sem]) rfl ⟨by simp [mirB], ?_⟩
  exact ((Below.refl _ _).alloc (Nat.le_refl _) _).alloc (by simp) _
 by_cases h1 : v = 1
 ·subst h1
  go_enter Tryz.func54, Tryz.ntmps54
  go_wp2
  refine bodyPost_ret (v := aggM (1, 0, 0, -1, 0, 2 * c)) (by simp [results, Tryz.results54, go_sem]) rfl ⟨by simp [mirB], ?_⟩
  exact ((Below.refl _ _).alloc (Nat.le_refl _) _).alloc (by simp) _
 by_cases h2 : v = 2
 ·subst h2
  go_enter Tryz.func54, Tryz.ntmps54
  go_wp2
  refine bodyPost_ret (v := aggM (0, -1, -1, 0, c, c)) (by simp [results, Tryz.results54, go_sem]) rfl ⟨by simp [mirB], ?_⟩
  exact ((Below.refl _ _).alloc (Nat.le_refl _) _).alloc (by simp) _
 have b0 : (v == 0) = false := by simpa using h0
 have b1 : (v == 1) = false := by simpa using h1
 have b2 : (v == 2) = false := by simpa using h2
 have HV : Hid (mirB v c = (0, 1, 1, 0, c, -c)) := Lib.hid (by simp [mirB, h0, h1, h2])
 clear h0 h1 h2
 go_enter Tryz.func54, Tryz.ntmps54
 go_wp2
 refine bodyPost_ret (v := aggM (0, 1, 1, 0, c, -c)) (by simp [results, Tryz.results54, go_sem]) rfl ⟨by rw [HV.out], ?_⟩
 exact ((Below.refl _ _).alloc (Nat.le_refl _) _).alloc (by simp) _
def oneB (a b : Int) : Bool := (a == 1 || a == -1) && b == 0
def turnedB (a b c d : Int) : Bool := (oneB a b && oneB d c) || (oneB b a && oneB c d)
theorem prod_bd {a x M : Int} (a1 : -1 ≤ a) (a2 : a ≤ 1) (x1 : -M ≤ x) (x2 : x ≤ M) : -M ≤ a * x ∧ a * x ≤ M := by
 have h : a = -1 ∨ a = 0 ∨ a = 1 := by omega
 rcases h with rfl | rfl | rfl <;> omega
structure Sm (a b c d e f : Int) : Prop where
 a1 : -1 ≤ a
 a2 : a ≤ 1
 b1 : -1 ≤ b
 b2 : b ≤ 1
 c1 : -1 ≤ c
 c2 : c ≤ 1
 d1 : -1 ≤ d
 d2 : d ≤ 1
 e1 : -1000000 ≤ e
 e2 : e ≤ 1000000
 f1 : -1000000 ≤ f
 f2 : f ≤ 1000000
set_option maxRecDepth 100000 in
set_option maxHeartbeats 1600000 in
theorem point_any (a b c d e f x y : Int) (w : World) (p0 : -4000000 ≤ a * x ∧ a * x ≤ 4000000) (p1 : -4000000 ≤ b * y ∧ b * y ≤ 4000000) (p2 : -4000000 ≤ c * x ∧ c * x ≤ 4000000) (p3 : -4000000 ≤ d * y ∧ d * y ≤ 4000000) (p4 : -4000000 ≤ e ∧ e ≤ 4000000) (p5 : -4000000 ≤ f ∧ f ≤ 4000000) :
  Calls Tryz.prog 71 #[.agg #[.int .i64 a, .int .i64 b, .int .i64 c, .int .i64 d, .int .i64 e, .int .i64 f], aggP x y] w fun e' w' => e' = .returned (aggP (a * x + b * y + e) (c * x + d * y + f)) ∧ Below w.heap.size w w' := by
 go_enter Tryz.func71, Tryz.ntmps71
 go_wp2
 refine bodyPost_ret (v := aggP (a * x + b * y + e) (c * x + d * y + f)) (by simp [results, Tryz.results71, go_sem]) rfl ⟨rfl, ?_⟩
 exact ba (ba (ba (Below.refl _ _) _) _) _
set_option maxRecDepth 100000 in
set_option maxHeartbeats 1600000 in
theorem pointOf_any (a b c d e f x y : Int) (w : World) (p0 : -4000000 ≤ a * x ∧ a * x ≤ 4000000) (p1 : -4000000 ≤ b * y ∧ b * y ≤ 4000000) (p2 : -4000000 ≤ c * x ∧ c * x ≤ 4000000) (p3 : -4000000 ≤ d * y ∧ d * y ≤ 4000000) (p4 : -4000000 ≤ e ∧ e ≤ 4000000) (p5 : -4000000 ≤ f ∧ f ≤ 4000000) :
  Calls Tryz.prog 68 #[.agg #[.int .i64 a, .int .i64 b, .int .i64 c, .int .i64 d, .int .i64 e, .int .i64 f], aggP x y] w fun e' w' => e' = .returned (aggP (a * x + b * y + e) (c * x + d * y + f)) ∧ Below w.heap.size w w' := by
 go_enter Tryz.func68, Tryz.ntmps68
 go_wp2
 refine bodyPost_ret (v := aggP (a * x + b * y + e) (c * x + d * y + f)) (by simp [results, Tryz.results68, go_sem]) rfl ⟨rfl, ?_⟩
 exact ba (ba (ba (Below.refl _ _) _) _) _
set_option maxRecDepth 100000 in
set_option maxHeartbeats 6400000 in
theorem after_any (p q r s e f P Q R S E F : Int) (w : World) (ha : Sm p q r s e f) (hb : Sm P Q R S E F) :
  Calls Tryz.prog 53 #[.agg #[.int .i64 p, .int .i64 q, .int .i64 r, .int .i64 s, .int .i64 e, .int .i64 f], .agg #[.int .i64 P, .int .i64 Q, .int .i64 R, .int .i64 S, .int .i64 E, .int .i64 F]] w fun e' w' => e' = .returned (.agg #[.int .i64 (P * p + Q * r), .int .i64 (P * q + Q * s), .int .i64 (R * p + S * r), .int .i64 (R * q + S * s), .int .i64 (P * e + Q * f + E), .int .i64 (R * e + S * f + F)]) ∧ Below w.heap.size w w' := by
 have o0 := prod_bd (M := 1) hb.a1 hb.a2 ha.a1 ha.a2
 have o1 := prod_bd (M := 1) hb.b1 hb.b2 ha.c1 ha.c2
 have o2 := prod_bd (M := 1) hb.a1 hb.a2 ha.b1 ha.b2
 have o3 := prod_bd (M := 1) hb.b1 hb.b2 ha.d1 ha.d2
 have o4 := prod_bd (M := 1) hb.c1 hb.c2 ha.a1 ha.a2
 have o5 := prod_bd (M := 1) hb.d1 hb.d2 ha.c1 ha.c2
 have o6 := prod_bd (M := 1) hb.c1 hb.c2 ha.b1 ha.b2
 have o7 := prod_bd (M := 1) hb.d1 hb.d2 ha.d1 ha.d2
 have u0 := prod_bd (M := 1000000) hb.a1 hb.a2 ha.e1 ha.e2
 have u1 := prod_bd (M := 1000000) hb.b1 hb.b2 ha.f1 ha.f2
 have u2 := prod_bd (M := 1000000) hb.c1 hb.c2 ha.e1 ha.e2
 have u3 := prod_bd (M := 1000000) hb.d1 hb.d2 ha.f1 ha.f2
 obtain ⟨_, _, _, _, _, _, _, _, e1, e2, f1, f2⟩ := ha
 obtain ⟨_, _, _, _, _, _, _, _, E1, E2, F1, F2⟩ := hb
 go_enter Tryz.func53, Tryz.ntmps53
 go_wp2_with fail
 refine (point_any P Q R S E F e f _ (by omega) (by omega) (by omega) (by omega) (by omega) (by omega)).mono ?_
 rintro e w1 ⟨rfl, hb1⟩
 have k_a_1 : w1.heap[w.heap.size]? = some (.cells #[.int .i64 p, .int .i64 q, .int .i64 r, .int .i64 s, .int .i64 e, .int .i64 f] 57 (0, 0)) := blk_below (blk_alloc (blk_alloc (new_blk (.cells #[.int .i64 p, .int .i64 q, .int .i64 r, .int .i64 s, .int .i64 e, .int .i64 f] 57) (by first | rfl | (simp; done) | (simp; omega))) _) _) hb1 (by first | (simp; done) | (simp; omega))
 have k_b_1 : w1.heap[w.heap.size + 1]? = some (.cells #[.int .i64 P, .int .i64 Q, .int .i64 R, .int .i64 S, .int .i64 E, .int .i64 F] 57 (0, 0)) := blk_below (blk_alloc (new_blk (.cells #[.int .i64 P, .int .i64 Q, .int .i64 R, .int .i64 S, .int .i64 E, .int .i64 F] 57) (by first | rfl | (simp; done) | (simp; omega))) _) hb1 (by first | (simp; done) | (simp; omega))
 have k_r_1 : w1.heap[w.heap.size + 1 + 1]? = some (.cells #[.int .i64 0, .int .i64 0, .int .i64 0, .int .i64 0, .int .i64 0, .int .i64 0] 57 (0, 0)) := blk_below (new_blk (.cells #[.int .i64 0, .int .i64 0, .int .i64 0, .int .i64 0, .int .i64 0, .int .i64 0] 57) (by first | rfl | (simp; done) | (simp; omega))) hb1 (by first | (simp; done) | (simp; omega))
 have hw_1 : Below w.heap.size w w1 := stay_b (ba (ba (ba (Below.refl _ _) _) _) _) hb1
 clear hb1
 have c_a_0 := cell_of_blk k_a_1 0
 have c_a_1 := cell_of_blk k_a_1 1
 have c_a_2 := cell_of_blk k_a_1 2
 have c_a_3 := cell_of_blk k_a_1 3
 have c_a_4 := cell_of_blk k_a_1 4
 have c_a_5 := cell_of_blk k_a_1 5
 simp only [List.getElem?_toArray, List.getElem?_cons_zero, List.getElem?_cons_succ] at c_a_0 c_a_1 c_a_2 c_a_3 c_a_4 c_a_5
 have f_a := frozen_of_blk k_a_1
 have s_a := blk_lt k_a_1
 have c_b_0 := cell_of_blk k_b_1 0
 have c_b_1 := cell_of_blk k_b_1 1
 have c_b_2 := cell_of_blk k_b_1 2
 have c_b_3 := cell_of_blk k_b_1 3
 have c_b_4 := cell_of_blk k_b_1 4
 have c_b_5 := cell_of_blk k_b_1 5
 simp only [List.getElem?_toArray, List.getElem?_cons_zero, List.getElem?_cons_succ] at c_b_0 c_b_1 c_b_2 c_b_3 c_b_4 c_b_5
 have f_b := frozen_of_blk k_b_1
 have s_b := blk_lt k_b_1
 have c_r_0 := cell_of_blk k_r_1 0
 have c_r_1 := cell_of_blk k_r_1 1
 have c_r_2 := cell_of_blk k_r_1 2
 have c_r_3 := cell_of_blk k_r_1 3
 have c_r_4 := cell_of_blk k_r_1 4
 have c_r_5 := cell_of_blk k_r_1 5
 simp only [List.getElem?_toArray, List.getElem?_cons_zero, List.getElem?_cons_succ] at c_r_0 c_r_1 c_r_2 c_r_3 c_r_4 c_r_5
 have f_r := frozen_of_blk k_r_1
 have s_r := blk_lt k_r_1
 go_wp2
 refine bodyPost_ret (v := .agg #[.int .i64 (P * p + Q * r), .int .i64 (P * q + Q * s), .int .i64 (R * p + S * r), .int .i64 (R * q + S * s), .int .i64 (P * e + Q * f + E), .int .i64 (R * e + S * f + F)]) (by simp [results, Tryz.results53, go_sem, c_r_0, c_r_1, c_r_2, c_r_3, c_r_4, c_r_5, World.cell?_alloc_lt, World.size_setCell, s_r]) rfl ⟨rfl, ?_⟩
 exact ba (set6_below hw_1 _ (by omega) _ _ _ _ _ _) _
theorem set2_blk {w : World} {g : Nat} {t : TypeId} {a b : Value} (h : w.heap[g]? = some (.cells #[a, b] t (0, 0))) (u v : Value) : ((w.setCell ⟨g, 0, none⟩ u).setCell ⟨g, 1, none⟩ v).heap[g]? = some (.cells #[u, v] t (0, 0)) := by
 have h1 := blk_set (blk_set h 0 u) 1 v
 simpa using h1
theorem farb2 {w : World} {g b : Nat} {o : Obj} (h : w.heap[b]? = some o) (hne : b ≠ g) (x y : Value) : ((w.setCell ⟨g, 0, none⟩ x).setCell ⟨g, 1, none⟩ y).heap[b]? = some o := blk_far (blk_far h hne _) hne _
theorem al_d {w : World} {a : Addr} {v : Value} (h : w.drew.cell? a = some v) (o : Obj) : (w.alloc o).drew.cell? a = some v := (show (w.alloc o).cell? a = some v from al_c (show w.cell? a = some v from h) o)
def afterV (A B : V6) : V6 := (B.1 * A.1 + B.2.1 * A.2.2.1, B.1 * A.2.1 + B.2.1 * A.2.2.2.1, B.2.2.1 * A.1 + B.2.2.2.1 * A.2.2.1, B.2.2.1 * A.2.1 + B.2.2.2.1 * A.2.2.2.1, B.1 * A.2.2.2.2.1 + B.2.1 * A.2.2.2.2.2 + B.2.2.2.2.1, B.2.2.1 * A.2.2.2.2.1 + B.2.2.2.1 * A.2.2.2.2.2 + B.2.2.2.2.2)
theorem turn8 {a b c d : Int} (h : turnedB a b c d = true) :
  (a = 1 ∧ b = 0 ∧ c = 0 ∧ d = 1) ∨ (a = 1 ∧ b = 0 ∧ c = 0 ∧ d = -1) ∨ (a = -1 ∧ b = 0 ∧ c = 0 ∧ d = 1) ∨ (a = -1 ∧ b = 0 ∧ c = 0 ∧ d = -1) ∨
  (a = 0 ∧ b = 1 ∧ c = 1 ∧ d = 0) ∨ (a = 0 ∧ b = 1 ∧ c = -1 ∧ d = 0) ∨ (a = 0 ∧ b = -1 ∧ c = 1 ∧ d = 0) ∨ (a = 0 ∧ b = -1 ∧ c = -1 ∧ d = 0) := by
 simp only [turnedB, oneB, Bool.or_eq_true, Bool.and_eq_true, beq_iff_eq] at h
 rcases h with ⟨⟨rfl | rfl, rfl⟩, rfl | rfl, rfl⟩ | ⟨⟨rfl | rfl, rfl⟩, rfl | rfl, rfl⟩ <;> decide
def stillV : V6 := (1, 0, 0, 1, 0, 0)
def GB (A : V6) (n : Int) : Prop := turnedB A.1 A.2.1 A.2.2.1 A.2.2.2.1 = true ∧ (-n ≤ A.2.2.2.2.1 ∧ A.2.2.2.2.1 ≤ n) ∧ (-n ≤ A.2.2.2.2.2 ∧ A.2.2.2.2.2 ≤ n)
theorem GB.mono {A : V6} {n m : Int} (h : GB A n) (hn : n ≤ m) : GB A m := by
 obtain ⟨h1, h2, h3⟩ := h
 exact ⟨h1, by omega, by omega⟩
theorem gb_mir {v c n : Int} (v1 : 0 ≤ v) (v2 : v ≤ 3) (c1 : -n ≤ c) (c2 : c ≤ n) : GB (mirB v c) (2 * n) := by
 have h : v = 0 ∨ v = 1 ∨ v = 2 ∨ v = 3 := by omega
 rcases h with rfl | rfl | rfl | rfl <;> simp [GB, mirB, turnedB, oneB] <;> omega
set_option maxHeartbeats 6400000 in
theorem gb_after {A B : V6} {n m : Int} (ha : GB A n) (hb : GB B m) : GB (afterV A B) (n + m) := by
 obtain ⟨a, b, c, d, e, f⟩ := A
 obtain ⟨p, q, r, s, g, h⟩ := B
 obtain ⟨a1, a2, a3⟩ := ha
 obtain ⟨b1, b2, b3⟩ := hb
 simp only at a1 a2 a3 b1 b2 b3
 rcases turn8 a1 with ⟨rfl, rfl, rfl, rfl⟩ | ⟨rfl, rfl, rfl, rfl⟩ | ⟨rfl, rfl, rfl, rfl⟩ | ⟨rfl, rfl, rfl, rfl⟩ | ⟨rfl, rfl, rfl, rfl⟩ | ⟨rfl, rfl, rfl, rfl⟩ | ⟨rfl, rfl, rfl, rfl⟩ | ⟨rfl, rfl, rfl, rfl⟩ <;>
 rcases turn8 b1 with ⟨rfl, rfl, rfl, rfl⟩ | ⟨rfl, rfl, rfl, rfl⟩ | ⟨rfl, rfl, rfl, rfl⟩ | ⟨rfl, rfl, rfl, rfl⟩ | ⟨rfl, rfl, rfl, rfl⟩ | ⟨rfl, rfl, rfl, rfl⟩ | ⟨rfl, rfl, rfl, rfl⟩ | ⟨rfl, rfl, rfl, rfl⟩ <;>
 (refine ⟨rfl, ?_, ?_⟩ <;> simp only [afterV] <;> omega)
theorem gb_still : GB stillV 0 := ⟨by decide, ⟨by decide, by decide⟩, ⟨by decide, by decide⟩⟩
theorem gb_sm {A : V6} {n : Int} (h : GB A n) (hn : n ≤ 1000000) : Sm A.1 A.2.1 A.2.2.1 A.2.2.2.1 A.2.2.2.2.1 A.2.2.2.2.2 := by
 obtain ⟨h1, h2, h3⟩ := h
 rcases turn8 h1 with ⟨e1, e2, e3, e4⟩ | ⟨e1, e2, e3, e4⟩ | ⟨e1, e2, e3, e4⟩ | ⟨e1, e2, e3, e4⟩ | ⟨e1, e2, e3, e4⟩ | ⟨e1, e2, e3, e4⟩ | ⟨e1, e2, e3, e4⟩ | ⟨e1, e2, e3, e4⟩ <;>
  (constructor <;> first | (rw [e1]; decide) | (rw [e2]; decide) | (rw [e3]; decide) | (rw [e4]; decide) | omega)
def zeroV : V6 := (0, 0, 0, 0, 0, 0)
theorem gb_nz {A : V6} {n : Int} (h : GB A n) : A ≠ zeroV := by
 rintro rfl
 have := h.1
 revert this
 decide
end
end Go.Proofs.YtbnkabmnenginaaGreatDoor
