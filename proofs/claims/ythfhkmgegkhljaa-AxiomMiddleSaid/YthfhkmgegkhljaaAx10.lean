/- What AxiomMiddle asks: the plain laws of a straight in form; nearPoint, on. -/
import Derived.Test.YthfhkmgegkhljaaAx6
import Derived.Test.YthfhkmgegkhljaaPick
namespace Go.Proofs.Ythfhkmgegkhljaa
open Go.RowKit

/-- A straight in form is the straight, a whole number taken out. -/
theorem formS_k {a b c : Int} (h : a ≠ 0 ∨ b ≠ 0) : ∃ k : Int, k ≠ 0 ∧ (formS a b c).1 * k = a ∧ (formS a b c).2.1 * k = b ∧ (formS a b c).2.2 * k = c := by
  have hg := gcd3_pos (c := c) h
  obtain ⟨d1, d2, d3⟩ := gcd3_dvd a b c
  have e1 := Int.tdiv_mul_cancel d1
  have e2 := Int.tdiv_mul_cancel d2
  have e3 := Int.tdiv_mul_cancel d3
  unfold formS
  split
  · exact ⟨-gcd3 a b c, by omega, by simp only [Int.neg_mul_neg]; exact e1, by simp only [Int.neg_mul_neg]; exact e2, by simp only [Int.neg_mul_neg]; exact e3⟩
  · exact ⟨gcd3 a b c, by omega, e1, e2, e3⟩
theorem formS_bd {a b c M : Int} (h : a ≠ 0 ∨ b ≠ 0) (a1 : -M ≤ a) (a2 : a ≤ M) (b1 : -M ≤ b) (b2 : b ≤ M) (c1 : -M ≤ c) (c2 : c ≤ M) :
    (-M ≤ (formS a b c).1 ∧ (formS a b c).1 ≤ M) ∧ (-M ≤ (formS a b c).2.1 ∧ (formS a b c).2.1 ≤ M) ∧ -M ≤ (formS a b c).2.2 ∧ (formS a b c).2.2 ≤ M := by
  have hg := gcd3_pos (c := c) h
  have t1 := tdiv_bd hg a1 a2
  have t2 := tdiv_bd hg b1 b2
  have t3 := tdiv_bd hg c1 c2
  unfold formS
  split
  · simp only; omega
  · exact ⟨t1, t2, t3⟩
theorem gcd3_neg (a b c : Int) : gcd3 (-a) (-b) (-c) = gcd3 a b c := by simp [gcd3]
theorem formS_neg {a b c : Int} (h : a ≠ 0 ∨ b ≠ 0) : formS (-a) (-b) (-c) = formS a b c := by
  have hl : lowS (-a) (-b) = !lowS a b := by
    rw [Bool.eq_iff_iff]
    simp [lowS]
    omega
  unfold formS
  rw [hl, gcd3_neg]
  cases lowS a b <;> simp [Int.neg_tdiv]
/-- A point that is on the straight is on it in form. -/
theorem on_form {a b c x y t : Int} (h : a ≠ 0 ∨ b ≠ 0) (he : a * x + b * y = c * t) : (formS a b c).1 * x + (formS a b c).2.1 * y = (formS a b c).2.2 * t := by
  obtain ⟨k, hk, h1, h2, h3⟩ := formS_k (c := c) h
  generalize formS a b c = S at h1 h2 h3
  rw [← h1, ← h2, ← h3] at he
  have : k * (S.1 * x + S.2.1 * y) = k * (S.2.2 * t) := by
    have e1 : k * (S.1 * x + S.2.1 * y) = S.1 * k * x + S.2.1 * k * y := by rw [Int.mul_add, ← Int.mul_assoc, ← Int.mul_assoc, Int.mul_comm k S.1, Int.mul_comm k S.2.1]
    have e2 : k * (S.2.2 * t) = S.2.2 * k * t := by rw [← Int.mul_assoc, Int.mul_comm k S.2.2]
    rw [e1, e2, he]
  exact Int.eq_of_mul_eq_mul_left hk this
/-- Two straights that are upright on each other are so in form. -/
theorem up_form {a b c a' b' c' : Int} (h : a ≠ 0 ∨ b ≠ 0) (h' : a' ≠ 0 ∨ b' ≠ 0) (he : a * a' + b * b' = 0) :
    (formS a b c).1 * (formS a' b' c').1 + (formS a b c).2.1 * (formS a' b' c').2.1 = 0 := by
  obtain ⟨k, hk, h1, h2, _⟩ := formS_k (c := c) h
  obtain ⟨l, hl, g1, g2, _⟩ := formS_k (c := c') h'
  generalize formS a b c = S at h1 h2
  generalize formS a' b' c' = T at g1 g2
  rw [← h1, ← h2, ← g1, ← g2] at he
  have e : (k * l) * (S.1 * T.1 + S.2.1 * T.2.1) = S.1 * k * (T.1 * l) + S.2.1 * k * (T.2.1 * l) := by
    rw [Int.mul_add]
    congr 1 <;> ac_rfl
  rw [he] at e
  rcases Int.mul_eq_zero.1 e with h | h
  · rcases Int.mul_eq_zero.1 h with h | h <;> omega
  · exact h
theorem sq_diff (u v : Int) : (v - u) * (u + v) = v * v - u * u := by
  rw [Int.sub_mul, Int.mul_add, Int.mul_add, Int.mul_comm v u]; omega
theorem onto_mid (px py qx qy : Int) : 2 * (qx - px) * (px + qx) + 2 * (qy - py) * (py + qy) = (qx * qx + qy * qy - px * px - py * py) * 2 := by
  rw [Int.mul_assoc, Int.mul_assoc, sq_diff, sq_diff]; omega
theorem through_p (px py qx qy : Int) : (qy - py) * px + (px - qx) * py = ((qy - py) * px + (px - qx) * py) * 1 := by omega
theorem through_q (px py qx qy : Int) : (qy - py) * qx + (px - qx) * qy = ((qy - py) * px + (px - qx) * py) * 1 := by
  simp only [Int.sub_mul, Int.mul_comm qx qy, Int.mul_comm px qy, Int.mul_comm qx py, Int.mul_comm px py]
  omega
theorem onto_up (px py qx qy : Int) : 2 * (qx - px) * (qy - py) + 2 * (qy - py) * (px - qx) = 0 := by
  have : 2 * (qy - py) * (px - qx) = -(2 * (qx - px) * (qy - py)) := by
    rw [show px - qx = -(qx - px) by omega, Int.mul_neg]
    congr 1
    ac_rfl
  omega

set_option maxHeartbeats 800000 in
theorem on_any (A B C x y t : Int) (w : World) (a1 : -1000000 ≤ A) (a2 : A ≤ 1000000) (b1 : -1000000 ≤ B) (b2 : B ≤ 1000000) (c1 : -1000000 ≤ C) (c2 : C ≤ 1000000)
    (x1 : -1000000 ≤ x) (x2 : x ≤ 1000000) (y1 : -1000000 ≤ y) (y2 : y ≤ 1000000) (t1 : -1000000 ≤ t) (t2 : t ≤ 1000000) (he : A * x + B * y = C * t) :
    Calls Try.prog 21 #[.agg #[.int .i64 A, .int .i64 B, .int .i64 C], .int .i64 x, .int .i64 y, .int .i64 t] w fun e w' => e = .returned (.bool true) ∧ Below w.heap.size w w' := by
  obtain ⟨m1, m2⟩ := mul_bd (x := A) (y := x) 1000000 1000000 (by omega) (by omega) (by omega) (by omega)
  obtain ⟨m3, m4⟩ := mul_bd (x := B) (y := y) 1000000 1000000 (by omega) (by omega) (by omega) (by omega)
  obtain ⟨m5, m6⟩ := mul_bd (x := C) (y := t) 1000000 1000000 (by omega) (by omega) (by omega) (by omega)
  simp only [Int.reduceMul] at m1 m2 m3 m4 m5 m6
  have hbel := (Below.refl w.heap.size w).alloc (Nat.le_refl _) (.cells #[.int .i64 A, .int .i64 B, .int .i64 C] 40)
  have hb : (A * x + B * y == C * t) = true := by simpa using he
  clear he
  go_enter Try.func21, Try.ntmps21
  go_wp2
  go_ret
  exact ⟨rfl, hbel⟩

def nearN (n : Int) : Int := pick n 201 - 100
theorem nearN_bd (n : Int) : -100 ≤ nearN n ∧ nearN n ≤ 100 := by
  have h1 := pick_lo n 201 (by omega)
  have h2 := pick_hi n 201 (by omega)
  unfold nearN; omega

set_option maxHeartbeats 800000 in
theorem near_any (x y : Int) (w : World) (x1 : -9223372036854775808 ≤ x) (x2 : x ≤ 9223372036854775807) (y1 : -9223372036854775808 ≤ y) (y2 : y ≤ 9223372036854775807) :
    Calls Try.prog 18 #[.int .i64 x, .int .i64 y] w fun e w' => e = .returned (.agg #[.int .i64 (nearN x), .int .i64 (nearN y)]) ∧ Below w.heap.size w w' := by
  have p1 := pick_lo x 201 (by omega)
  have p2 := pick_hi x 201 (by omega)
  have p3 := pick_lo y 201 (by omega)
  have p4 := pick_hi y 201 (by omega)
  go_enter Try.func18, Try.ntmps18
  go_wp2_with fail
  refine (picked_any x 201 _ x1 x2 (by omega)).mono ?_
  rintro e w1 ⟨rfl, rfl⟩
  go_wp2_with fail
  refine (picked_any y 201 _ y1 y2 (by omega)).mono ?_
  rintro e w2 ⟨rfl, rfl⟩
  go_wp2
  exact bodyPost_ret (v := .agg #[.int .i64 (pick x 201 - 100), .int .i64 (pick y 201 - 100)]) (by simp [results, Try.results18, go_sem]) rfl ⟨rfl, (Below.refl w.heap.size w).alloc (Nat.le_refl _) _⟩

theorem farE_near {px py qx qy : Int} (h1 : -100 ≤ px ∧ px ≤ 100) (h2 : -100 ≤ py ∧ py ≤ 100) (h3 : -100 ≤ qx ∧ qx ≤ 100) (h4 : -100 ≤ qy ∧ qy ≤ 100) : farE [(px, py), (qx, qy)] [] = 0 := by
  have e1 : farN px = false := by simp [farN]; omega
  have e2 : farN py = false := by simp [farN]; omega
  have e3 : farN qx = false := by simp [farN]; omega
  have e4 : farN qy = false := by simp [farN]; omega
  simp [farE, farP, e1, e2, e3, e4]
theorem form_one : formS 4 0 4 = (1, 0, 1) := by decide +kernel
end Go.Proofs.Ythfhkmgegkhljaa
