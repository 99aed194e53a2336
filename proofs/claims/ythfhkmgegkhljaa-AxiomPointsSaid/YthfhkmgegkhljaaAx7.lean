/- Turns: the program's and the reference's. -/
import Derived.Test.YthfhkmgegkhljaaAx6
namespace Go.Proofs.Ythfhkmgegkhljaa
open Go.RowKit

def cmpS (x y : Int) : Int := if x < y then -1 else if y < x then 1 else 0
theorem isNaN_any (x : Int) (w : World) : Calls Try.prog 50 #[.int .i64 x] w fun e w' => e = .returned (.bool false) ∧ w = w' := by
  go_enter Try.func50, Try.ntmps50
  go_wp2
  go_ret
  exact ⟨rfl, rfl⟩
theorem compare_any (x y : Int) (w : World) : Calls Try.prog 38 #[.int .i64 x, .int .i64 y] w fun e w' => e = .returned (.int .i64 (cmpS x y)) ∧ w = w' := by
  by_cases h1 : x < y
  · have HF : Hid (cmpS x y = -1) := Lib.hid (by simp [cmpS, h1])
    go_enter Try.func38, Try.ntmps38
    go_wp2_with (go_at_call 50; refine (isNaN_any _ _).mono ?_; rintro e w1 ⟨rfl, rfl⟩)
    go_ret
    exact ⟨by rw [HF.out]; rfl, rfl⟩
  · by_cases h2 : y < x
    · have HF : Hid (cmpS x y = 1) := Lib.hid (by simp [cmpS, h1, h2])
      go_enter Try.func38, Try.ntmps38
      go_wp2_with (go_at_call 50; refine (isNaN_any _ _).mono ?_; rintro e w1 ⟨rfl, rfl⟩)
      go_ret
      exact ⟨by rw [HF.out]; rfl, rfl⟩
    · have HF : Hid (cmpS x y = 0) := Lib.hid (by simp [cmpS, h1, h2])
      go_enter Try.func38, Try.ntmps38
      go_wp2_with (go_at_call 50; refine (isNaN_any _ _).mono ?_; rintro e w1 ⟨rfl, rfl⟩)
      go_ret
      exact ⟨by rw [HF.out]; rfl, rfl⟩
theorem cmpS_bd (x y : Int) : -1 ≤ cmpS x y ∧ cmpS x y ≤ 1 := by unfold cmpS; split <;> (try split) <;> omega
def offS (a b c x y : Int) : Int := a * x + b * y - c
def far2S (px py qx qy : Int) : Int := (px - qx) * (px - qx) + (py - qy) * (py - qy)
def turnsS (px py a b c qx qy : Int) : Int := 1 - cmpS (offS a b c qx qy * offS a b c qx qy) (far2S px py qx qy * (a * a + b * b))

/-- The world in which Turns goes on. -/
def psp (w : World) (px py a b c qx qy : Int) : World := ((w.alloc (.cells #[.int .i64 px, .int .i64 py] 29)).alloc (.cells #[.int .i64 a, .int .i64 b, .int .i64 c] 40)).alloc (.cells #[.int .i64 qx, .int .i64 qy] 29)
theorem psp_below (w : World) (px py a b c qx qy : Int) : Below w.heap.size w (psp w px py a b c qx qy) := (((Below.refl _ _).alloc (Nat.le_refl _) _).alloc (by simp) _).alloc (by simp; omega) _
theorem psp_size (w : World) (px py a b c qx qy : Int) : (psp w px py a b c qx qy).heap.size = w.heap.size + 1 + 1 + 1 := by simp [psp]
theorem psp_p (w : World) (px py a b c qx qy : Int) : (psp w px py a b c qx qy).heap[w.heap.size]? = some (.cells #[.int .i64 px, .int .i64 py] 29 (0, 0)) := blk_alloc (blk_alloc (heap_alloc_new w _) _) _
theorem psp_l (w : World) (px py a b c qx qy : Int) : (psp w px py a b c qx qy).heap[w.heap.size + 1]? = some (.cells #[.int .i64 a, .int .i64 b, .int .i64 c] 40 (0, 0)) := by
  have b2 := blk_alloc (heap_alloc_new (w.alloc (.cells #[.int .i64 px, .int .i64 py] 29)) (.cells #[.int .i64 a, .int .i64 b, .int .i64 c] 40)) (.cells #[.int .i64 qx, .int .i64 qy] 29)
  rw [World.size_alloc] at b2
  exact b2
theorem psp_q (w : World) (px py a b c qx qy : Int) : (psp w px py a b c qx qy).heap[w.heap.size + 1 + 1]? = some (.cells #[.int .i64 qx, .int .i64 qy] 29 (0, 0)) := by
  have b2 := heap_alloc_new ((w.alloc (.cells #[.int .i64 px, .int .i64 py] 29)).alloc (.cells #[.int .i64 a, .int .i64 b, .int .i64 c] 40)) (.cells #[.int .i64 qx, .int .i64 qy] 29)
  rw [World.size_alloc, World.size_alloc] at b2
  exact b2
theorem afterPsp {w w1 : World} {px py a b c qx qy : Int} {o o' : Obj} (hb : Below (((psp w px py a b c qx qy).alloc o).alloc o').heap.size (((psp w px py a b c qx qy).alloc o).alloc o') w1) :
    w1.heap[w.heap.size]? = some (.cells #[.int .i64 px, .int .i64 py] 29 (0, 0)) ∧ w1.heap[w.heap.size + 1]? = some (.cells #[.int .i64 a, .int .i64 b, .int .i64 c] 40 (0, 0)) ∧
    w1.heap[w.heap.size + 1 + 1]? = some (.cells #[.int .i64 qx, .int .i64 qy] 29 (0, 0)) ∧ Below w.heap.size w w1 := by
  have b0 := blk_alloc (blk_alloc (psp_p w px py a b c qx qy) o) o'
  have b1 := blk_alloc (blk_alloc (psp_l w px py a b c qx qy) o) o'
  have b2 := blk_alloc (blk_alloc (psp_q w px py a b c qx qy) o) o'
  exact ⟨blk_below b0 hb (blk_lt b0), blk_below b1 hb (blk_lt b1), blk_below b2 hb (blk_lt b2), (((psp_below w px py a b c qx qy).alloc (by rw [psp_size]; omega) o).alloc (by simp [psp_size]; omega) o').trans (hb.mono (by simp [psp_size]; omega))⟩
theorem farE_two {x y u v a b c : Int} (h : farE [(x, y), (u, v)] [(a, b, c)] = 0) : ((-1000 ≤ x ∧ x ≤ 1000) ∧ -1000 ≤ y ∧ y ≤ 1000) ∧ ((-1000 ≤ u ∧ u ≤ 1000) ∧ -1000 ≤ v ∧ v ≤ 1000) ∧ ((-1000 ≤ a ∧ a ≤ 1000) ∧ (-1000 ≤ b ∧ b ≤ 1000) ∧ -1000 ≤ c ∧ c ≤ 1000) := by
  unfold farE at h
  split at h
  · cases h
  · split at h
    · cases h
    · rename_i h1 h2
      simp only [List.any_cons, List.any_nil, Bool.or_false, Bool.or_eq_true, not_or, Bool.not_eq_true] at h1 h2
      exact ⟨farP_bd (p := (x, y)) h1.1, farP_bd (p := (u, v)) h1.2, farL_bd (l := (a, b, c)) h2⟩

set_option maxRecDepth 100000 in
set_option maxHeartbeats 1600000 in
theorem turns_no (px py a b c qx qy : Int) (w : World) (E : Int) (hE : farE [(px, py), (qx, qy)] [(a, b, c)] = E) (h0 : E ≠ 0) :
    Calls Try.prog 22 #[.agg #[.int .i64 px, .int .i64 py], .agg #[.int .i64 a, .int .i64 b, .int .i64 c], .agg #[.int .i64 qx, .int .i64 qy]] w fun e w' => e = .returned (.tuple #[.int .i64 0, .int .i64 E]) ∧ Below w.heap.size w w' := by
  have HE := Lib.hid hE
  have hneE : (E != 0) = true := by simpa using h0
  clear h0
  have hr1 := (rd_lit_p2 (psp w px py a b c qx qy) px py qx qy).alloc (.cells #[.int .i64 a, .int .i64 b, .int .i64 c] 40)
  have hr2 := rd_lit_s1 ((psp w px py a b c qx qy).alloc (.cells #[.int .i64 px, .int .i64 py, .int .i64 qx, .int .i64 qy] 29)) a b c
  rw [World.size_alloc] at hr2
  rw [psp_size] at hr1 hr2
  clear hE
  go_enter Try.func22, Try.ntmps22
  go_wp2_with fail
  refine (acheck_any _ _ 2 1 2 1 [(px, py), (qx, qy)] [(a, b, c)] _ hr1 hr2 (by decide) (by decide)).mono ?_
  rintro e w1 ⟨rfl, hb1⟩
  rw [HE.out]
  obtain ⟨k0, k1, k2, hbw⟩ := afterPsp hb1
  have c00 := cell_of_blk k0 0
  have c01 := cell_of_blk k0 1
  have c10 := cell_of_blk k1 0
  have c11 := cell_of_blk k1 1
  have c12 := cell_of_blk k1 2
  have c20 := cell_of_blk k2 0
  have c21 := cell_of_blk k2 1
  simp only [List.getElem?_toArray, List.getElem?_cons_zero, List.getElem?_cons_succ] at c00 c01 c10 c11 c12 c20 c21
  clear k0 k1 k2 hb1
  go_wp2
  go_ret2
  exact ⟨rfl, hbw⟩

set_option maxRecDepth 100000 in
set_option maxHeartbeats 1600000 in
theorem turns_eq (px py a b c : Int) (w : World) (hE : farE [(px, py), (px, py)] [(a, b, c)] = 0) :
    Calls Try.prog 22 #[.agg #[.int .i64 px, .int .i64 py], .agg #[.int .i64 a, .int .i64 b, .int .i64 c], .agg #[.int .i64 px, .int .i64 py]] w fun e w' => e = .returned (.tuple #[.int .i64 0, .int .i64 6]) ∧ Below w.heap.size w w' := by
  have HE := Lib.hid hE
  have hr1 := (rd_lit_p2 (psp w px py a b c px py) px py px py).alloc (.cells #[.int .i64 a, .int .i64 b, .int .i64 c] 40)
  have hr2 := rd_lit_s1 ((psp w px py a b c px py).alloc (.cells #[.int .i64 px, .int .i64 py, .int .i64 px, .int .i64 py] 29)) a b c
  rw [World.size_alloc] at hr2
  rw [psp_size] at hr1 hr2
  clear hE
  go_enter Try.func22, Try.ntmps22
  go_wp2_with fail
  refine (acheck_any _ _ 2 1 2 1 [(px, py), (px, py)] [(a, b, c)] _ hr1 hr2 (by decide) (by decide)).mono ?_
  rintro e w1 ⟨rfl, hb1⟩
  rw [HE.out]
  obtain ⟨k0, k1, k2, hbw⟩ := afterPsp hb1
  have c00 := cell_of_blk k0 0
  have c01 := cell_of_blk k0 1
  have c10 := cell_of_blk k1 0
  have c11 := cell_of_blk k1 1
  have c12 := cell_of_blk k1 2
  have c20 := cell_of_blk k2 0
  have c21 := cell_of_blk k2 1
  simp only [List.getElem?_toArray, List.getElem?_cons_zero, List.getElem?_cons_succ] at c00 c01 c10 c11 c12 c20 c21
  clear k0 k1 k2 hb1
  go_wp2
  go_ret2
  exact ⟨rfl, hbw⟩

set_option maxRecDepth 100000 in
set_option maxHeartbeats 1600000 in
theorem turns_okA (px py a b c qx qy : Int) (w : World) (hE : farE [(px, py), (qx, qy)] [(a, b, c)] = 0) (hx : ¬ px = qx) :
    Calls Try.prog 22 #[.agg #[.int .i64 px, .int .i64 py], .agg #[.int .i64 a, .int .i64 b, .int .i64 c], .agg #[.int .i64 qx, .int .i64 qy]] w fun e w' => e = .returned (.tuple #[.int .i64 (turnsS px py a b c qx qy), .int .i64 0]) ∧ Below w.heap.size w w' := by
  have HE := Lib.hid hE
  obtain ⟨⟨⟨p1, p2⟩, p3, p4⟩, ⟨⟨q1, q2⟩, q3, q4⟩, ⟨⟨l1, l2⟩, ⟨l3, l4⟩, l5, l6⟩⟩ := farE_two hE
  obtain ⟨m1, m2⟩ := mul_bd (x := a) (y := qx) 1000 1000 (by omega) (by omega) (by omega) (by omega)
  obtain ⟨m3, m4⟩ := mul_bd (x := b) (y := qy) 1000 1000 (by omega) (by omega) (by omega) (by omega)
  obtain ⟨m5, m6⟩ := mul_bd (x := px - qx) (y := px - qx) 2000 2000 (by omega) (by omega) (by omega) (by omega)
  obtain ⟨m7, m8⟩ := mul_bd (x := py - qy) (y := py - qy) 2000 2000 (by omega) (by omega) (by omega) (by omega)
  obtain ⟨m9, m10⟩ := mul_bd (x := a) (y := a) 1000 1000 (by omega) (by omega) (by omega) (by omega)
  obtain ⟨m11, m12⟩ := mul_bd (x := b) (y := b) 1000 1000 (by omega) (by omega) (by omega) (by omega)
  simp only [Int.reduceMul] at m1 m2 m3 m4 m5 m6 m7 m8 m9 m10 m11 m12
  obtain ⟨n1, n2⟩ := mul_bd (x := a * qx + b * qy - c) (y := a * qx + b * qy - c) 2001000 2001000 (by omega) (by omega) (by omega) (by omega)
  obtain ⟨n3, n4⟩ := mul_bd (x := (px - qx) * (px - qx) + (py - qy) * (py - qy)) (y := a * a + b * b) 8000000 2000000 (by omega) (by omega) (by omega) (by omega)
  simp only [Int.reduceMul] at n1 n2 n3 n4
  have hr1 := (rd_lit_p2 (psp w px py a b c qx qy) px py qx qy).alloc (.cells #[.int .i64 a, .int .i64 b, .int .i64 c] 40)
  have hr2 := rd_lit_s1 ((psp w px py a b c qx qy).alloc (.cells #[.int .i64 px, .int .i64 py, .int .i64 qx, .int .i64 qy] 29)) a b c
  rw [World.size_alloc] at hr2
  rw [psp_size] at hr1 hr2
  clear hE
  go_enter Try.func22, Try.ntmps22
  go_wp2_with fail
  refine (acheck_any _ _ 2 1 2 1 [(px, py), (qx, qy)] [(a, b, c)] _ hr1 hr2 (by decide) (by decide)).mono ?_
  rintro e w1 ⟨rfl, hb1⟩
  rw [HE.out]
  obtain ⟨k0, k1, k2, hbw⟩ := afterPsp hb1
  have c00 := cell_of_blk k0 0
  have c01 := cell_of_blk k0 1
  have c10 := cell_of_blk k1 0
  have c11 := cell_of_blk k1 1
  have c12 := cell_of_blk k1 2
  have c20 := cell_of_blk k2 0
  have c21 := cell_of_blk k2 1
  simp only [List.getElem?_toArray, List.getElem?_cons_zero, List.getElem?_cons_succ] at c00 c01 c10 c11 c12 c20 c21
  clear k0 k1 k2 hb1
  go_wp2_with fail
  refine (compare_any _ _ _).mono ?_
  rintro e w2 ⟨he, rfl⟩
  obtain ⟨S, hS⟩ : ∃ S, S = turnsS px py a b c qx qy := ⟨_, rfl⟩
  obtain ⟨K, hK⟩ : ∃ K, K = cmpS (offS a b c qx qy * offS a b c qx qy) (far2S px py qx qy * (a * a + b * b)) := ⟨_, rfl⟩
  have hKb := cmpS_bd (offS a b c qx qy * offS a b c qx qy) (far2S px py qx qy * (a * a + b * b))
  rw [← hK] at hKb
  have hSK : S = 1 - K := by rw [hS, hK]; rfl
  have he' : e = .returned (.int .i64 K) := by rw [he, hK]; simp [offS, far2S]
  subst he'
  have HS := Lib.hid hS
  have HSK := Lib.hid hSK
  obtain ⟨k1, k2⟩ := hKb
  clear hS hK hSK he
  go_wp2
  go_ret2
  exact ⟨by rw [← HS.out, HSK.out]; rfl, hbw⟩

set_option maxRecDepth 100000 in
set_option maxHeartbeats 1600000 in
theorem turns_okB (px py a b c qy : Int) (w : World) (hE : farE [(px, py), (px, qy)] [(a, b, c)] = 0) (hy : ¬ py = qy) :
    Calls Try.prog 22 #[.agg #[.int .i64 px, .int .i64 py], .agg #[.int .i64 a, .int .i64 b, .int .i64 c], .agg #[.int .i64 px, .int .i64 qy]] w fun e w' => e = .returned (.tuple #[.int .i64 (turnsS px py a b c px qy), .int .i64 0]) ∧ Below w.heap.size w w' := by
  have HE := Lib.hid hE
  obtain ⟨⟨⟨p1, p2⟩, p3, p4⟩, ⟨⟨q1, q2⟩, q3, q4⟩, ⟨⟨l1, l2⟩, ⟨l3, l4⟩, l5, l6⟩⟩ := farE_two hE
  obtain ⟨m1, m2⟩ := mul_bd (x := a) (y := px) 1000 1000 (by omega) (by omega) (by omega) (by omega)
  obtain ⟨m3, m4⟩ := mul_bd (x := b) (y := qy) 1000 1000 (by omega) (by omega) (by omega) (by omega)
  obtain ⟨m5, m6⟩ := mul_bd (x := px - px) (y := px - px) 2000 2000 (by omega) (by omega) (by omega) (by omega)
  obtain ⟨m7, m8⟩ := mul_bd (x := py - qy) (y := py - qy) 2000 2000 (by omega) (by omega) (by omega) (by omega)
  obtain ⟨m9, m10⟩ := mul_bd (x := a) (y := a) 1000 1000 (by omega) (by omega) (by omega) (by omega)
  obtain ⟨m11, m12⟩ := mul_bd (x := b) (y := b) 1000 1000 (by omega) (by omega) (by omega) (by omega)
  simp only [Int.reduceMul] at m1 m2 m3 m4 m5 m6 m7 m8 m9 m10 m11 m12
  obtain ⟨n1, n2⟩ := mul_bd (x := a * px + b * qy - c) (y := a * px + b * qy - c) 2001000 2001000 (by omega) (by omega) (by omega) (by omega)
  obtain ⟨n3, n4⟩ := mul_bd (x := (py - qy) * (py - qy)) (y := a * a + b * b) 8000000 2000000 (by omega) (by omega) (by omega) (by omega)
  simp only [Int.reduceMul] at n1 n2 n3 n4
  have hr1 := (rd_lit_p2 (psp w px py a b c px qy) px py px qy).alloc (.cells #[.int .i64 a, .int .i64 b, .int .i64 c] 40)
  have hr2 := rd_lit_s1 ((psp w px py a b c px qy).alloc (.cells #[.int .i64 px, .int .i64 py, .int .i64 px, .int .i64 qy] 29)) a b c
  rw [World.size_alloc] at hr2
  rw [psp_size] at hr1 hr2
  clear hE
  go_enter Try.func22, Try.ntmps22
  go_wp2_with fail
  refine (acheck_any _ _ 2 1 2 1 [(px, py), (px, qy)] [(a, b, c)] _ hr1 hr2 (by decide) (by decide)).mono ?_
  rintro e w1 ⟨rfl, hb1⟩
  rw [HE.out]
  obtain ⟨k0, k1, k2, hbw⟩ := afterPsp hb1
  have c00 := cell_of_blk k0 0
  have c01 := cell_of_blk k0 1
  have c10 := cell_of_blk k1 0
  have c11 := cell_of_blk k1 1
  have c12 := cell_of_blk k1 2
  have c20 := cell_of_blk k2 0
  have c21 := cell_of_blk k2 1
  simp only [List.getElem?_toArray, List.getElem?_cons_zero, List.getElem?_cons_succ] at c00 c01 c10 c11 c12 c20 c21
  clear k0 k1 k2 hb1
  go_wp2_with fail
  refine (compare_any _ _ _).mono ?_
  rintro e w2 ⟨he, rfl⟩
  obtain ⟨S, hS⟩ : ∃ S, S = turnsS px py a b c px qy := ⟨_, rfl⟩
  obtain ⟨K, hK⟩ : ∃ K, K = cmpS (offS a b c px qy * offS a b c px qy) (far2S px py px qy * (a * a + b * b)) := ⟨_, rfl⟩
  have hKb := cmpS_bd (offS a b c px qy * offS a b c px qy) (far2S px py px qy * (a * a + b * b))
  rw [← hK] at hKb
  have hSK : S = 1 - K := by rw [hS, hK]; rfl
  have he' : e = .returned (.int .i64 K) := by rw [he, hK]; simp [offS, far2S]
  subst he'
  have HS := Lib.hid hS
  have HSK := Lib.hid hSK
  obtain ⟨k1, k2⟩ := hKb
  clear hS hK hSK he
  go_wp2
  go_ret2
  exact ⟨by rw [← HS.out, HSK.out]; rfl, hbw⟩

theorem turns_ok (px py a b c qx qy : Int) (w : World) (hE : farE [(px, py), (qx, qy)] [(a, b, c)] = 0) (hne : (px, py) ≠ (qx, qy)) :
    Calls Try.prog 22 #[.agg #[.int .i64 px, .int .i64 py], .agg #[.int .i64 a, .int .i64 b, .int .i64 c], .agg #[.int .i64 qx, .int .i64 qy]] w fun e w' => e = .returned (.tuple #[.int .i64 (turnsS px py a b c qx qy), .int .i64 0]) ∧ Below w.heap.size w w' := by
  by_cases hx : px = qx
  · subst hx; exact turns_okB px py a b c qy w hE (fun h => hne (by rw [h]))
  · exact turns_okA px py a b c qx qy w hE hx

set_option maxRecDepth 100000 in
set_option maxHeartbeats 1600000 in
theorem turnsOf_ok (px py a b c qx qy : Int) (w : World) (hE : farE [(px, py), (qx, qy)] [(a, b, c)] = 0) :
    Calls Try.prog 24 #[.agg #[.int .i64 px, .int .i64 py], .agg #[.int .i64 a, .int .i64 b, .int .i64 c], .agg #[.int .i64 qx, .int .i64 qy]] w fun e w' => e = .returned (.int .i64 (turnsS px py a b c qx qy)) ∧ Below w.heap.size w w' := by
  obtain ⟨⟨⟨p1, p2⟩, p3, p4⟩, ⟨⟨q1, q2⟩, q3, q4⟩, ⟨⟨l1, l2⟩, ⟨l3, l4⟩, l5, l6⟩⟩ := farE_two hE
  obtain ⟨m1, m2⟩ := mul_bd (x := a) (y := qx) 1000 1000 (by omega) (by omega) (by omega) (by omega)
  obtain ⟨m3, m4⟩ := mul_bd (x := b) (y := qy) 1000 1000 (by omega) (by omega) (by omega) (by omega)
  obtain ⟨m5, m6⟩ := mul_bd (x := px - qx) (y := px - qx) 2000 2000 (by omega) (by omega) (by omega) (by omega)
  obtain ⟨m7, m8⟩ := mul_bd (x := py - qy) (y := py - qy) 2000 2000 (by omega) (by omega) (by omega) (by omega)
  obtain ⟨m9, m10⟩ := mul_bd (x := a) (y := a) 1000 1000 (by omega) (by omega) (by omega) (by omega)
  obtain ⟨m11, m12⟩ := mul_bd (x := b) (y := b) 1000 1000 (by omega) (by omega) (by omega) (by omega)
  simp only [Int.reduceMul] at m1 m2 m3 m4 m5 m6 m7 m8 m9 m10 m11 m12
  obtain ⟨n1, n2⟩ := mul_bd (x := a * qx + b * qy - c) (y := a * qx + b * qy - c) 2001000 2001000 (by omega) (by omega) (by omega) (by omega)
  obtain ⟨n3, n4⟩ := mul_bd (x := (px - qx) * (px - qx) + (py - qy) * (py - qy)) (y := a * a + b * b) 8000000 2000000 (by omega) (by omega) (by omega) (by omega)
  simp only [Int.reduceMul] at n1 n2 n3 n4
  have hT : Hid (turnsS px py a b c qx qy = if 0 < ((px - qx) * (px - qx) + (py - qy) * (py - qy)) * (a * a + b * b) - (a * qx + b * qy - c) * (a * qx + b * qy - c) then 2 else if ((px - qx) * (px - qx) + (py - qy) * (py - qy)) * (a * a + b * b) - (a * qx + b * qy - c) * (a * qx + b * qy - c) = 0 then 1 else 0) := Lib.hid (by
    unfold turnsS cmpS offS far2S
    generalize (a * qx + b * qy - c) * (a * qx + b * qy - c) = u
    generalize ((px - qx) * (px - qx) + (py - qy) * (py - qy)) * (a * a + b * b) = v
    rcases Int.lt_trichotomy u v with h | h | h
    · rw [if_pos h, if_pos (by omega)]; rfl
    · subst h; simp
    · rw [if_neg (show ¬ u < v by omega), if_pos h, if_neg (show ¬ 0 < v - u by omega), if_neg (show ¬ v - u = 0 by omega)]; rfl)
  have hbel := psp_below w px py a b c qx qy
  obtain ⟨R, hR⟩ : ∃ R, R = ((px - qx) * (px - qx) + (py - qy) * (py - qy)) * (a * a + b * b) - (a * qx + b * qy - c) * (a * qx + b * qy - c) := ⟨_, rfl⟩
  have rR := hR.symm
  rw [← hR] at hT
  clear hE hR
  by_cases h1 : 0 < R
  · go_enter Try.func24, Try.ntmps24
    go_wp2
    go_ret
    exact ⟨by rw [hT.out, if_pos h1]; rfl, hbel⟩
  · by_cases h2 : R = 0
    · have h2' : (R == 0) = true := by simpa using h2
      have H2 := Lib.hid h2
      clear h2
      go_enter Try.func24, Try.ntmps24
      go_wp2
      go_ret
      exact ⟨by rw [hT.out, if_neg (show ¬ 0 < R by omega), if_pos H2.out]; rfl, hbel⟩
    · have h2' : (R == 0) = false := by simpa using h2
      have H2 := Lib.hid h2
      clear h2
      go_enter Try.func24, Try.ntmps24
      go_wp2
      go_ret
      exact ⟨by rw [hT.out, if_neg (show ¬ 0 < R by omega), if_neg H2.out]; rfl, hbel⟩
end Go.Proofs.Ythfhkmgegkhljaa
