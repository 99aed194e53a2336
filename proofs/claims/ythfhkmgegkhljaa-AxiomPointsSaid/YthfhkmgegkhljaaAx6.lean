/- ThroughOf, OntoOf, UprightOf; Upright. -/
import Derived.Test.YthfhkmgegkhljaaAx5
namespace Go.Proofs.Ythfhkmgegkhljaa
open Go.RowKit

theorem res_after {w W w1 : World} {g : Nat} (hg : W.heap[g]? = some (.cells #[.int .i64 0, .int .i64 0, .int .i64 0] 40 (0, 0))) (hw : Below w.heap.size w W) (hb : Below W.heap.size W w1) :
    w1.heap[g]? = some (.cells #[.int .i64 0, .int .i64 0, .int .i64 0] 40 (0, 0)) ∧ g < w1.heap.size ∧ Below w.heap.size w w1 := by
  have k2 := blk_below hg hb (blk_lt hg)
  exact ⟨k2, blk_lt k2, hw.trans (hb.mono hw.size)⟩
theorem two3_res (w : World) (px py qx qy : Int) : (two3 w px py qx qy).heap[w.heap.size + 1 + 1]? = some (.cells #[.int .i64 0, .int .i64 0, .int .i64 0] 40 (0, 0)) := by
  have b2 := heap_alloc_new ((w.alloc (.cells #[.int .i64 px, .int .i64 py] 29)).alloc (.cells #[.int .i64 qx, .int .i64 qy] 29)) (.cells #[.int .i64 0, .int .i64 0, .int .i64 0] 40)
  rw [World.size_alloc, World.size_alloc] at b2
  exact b2
theorem formS_eq {a b c a' b' c' : Int} (h1 : a = a') (h2 : b = b') (h3 : c = c') : formS a b c = formS a' b' c' := by rw [h1, h2, h3]

set_option maxRecDepth 100000 in
set_option maxHeartbeats 1600000 in
theorem throughOf_ok (px py qx qy : Int) (w : World) (hE : farE [(px, py), (qx, qy)] [] = 0) (hne : (px, py) ≠ (qx, qy)) :
    Calls Try.prog 26 #[.agg #[.int .i64 px, .int .i64 py], .agg #[.int .i64 qx, .int .i64 qy]] w fun e w' => e = .returned (aggS (formS (qy - py) (px - qx) ((qy - py) * px + (px - qx) * py))) ∧ Below w.heap.size w w' := by
  have hf : farP (px, py) = false ∧ farP (qx, qy) = false := by
    unfold farE at hE
    split at hE
    · cases hE
    · rename_i h; simpa using h
  obtain ⟨⟨p1, p2⟩, p3, p4⟩ := farP_bd hf.1
  obtain ⟨⟨q1, q2⟩, q3, q4⟩ := farP_bd hf.2
  simp only at p1 p2 p3 p4 q1 q2 q3 q4
  have hpq : ¬ (px = qx ∧ py = qy) := fun h => hne (by rw [h.1, h.2])
  obtain ⟨m1, m2⟩ := mul_bd (x := qy - py) (y := px) 2000 1000 (by omega) (by omega) (by omega) (by omega)
  obtain ⟨m3, m4⟩ := mul_bd (x := qx - px) (y := py) 2000 1000 (by omega) (by omega) (by omega) (by omega)
  simp only [Int.reduceMul] at m1 m2 m3 m4
  have HPQ := Lib.hid hpq
  clear hf hne hE hpq
  go_enter Try.func26, Try.ntmps26
  go_wp2_with fail
  go_quiet (fail)
  go_wp2_with fail
  refine (inForm_any _ _ _ _ (by have := HPQ.out; omega) (by omega) (by omega) (by omega) (by omega) (by omega) (by omega)).mono ?_
  rintro e w2 ⟨he, hb2⟩
  obtain ⟨S, hS⟩ : ∃ S, S = formS (qy - py) (px - qx) ((qy - py) * px + (px - qx) * py) := ⟨_, rfl⟩
  rw [formS_eq (a' := qy - py) (b' := px - qx) (c' := (qy - py) * px + (px - qx) * py) rfl (by omega) (by grind), ← hS] at he
  subst he
  have HS := Lib.hid hS
  clear hS
  obtain ⟨k2, hlt, hbw⟩ := res_after (w := w) (blk_drewN (two3_res w px py qx qy) _) (below_drewN (two3_below w px py qx qy) _) hb2
  have c20 := cell_of_blk k2 0
  have c21 := cell_of_blk k2 1
  have c22 := cell_of_blk k2 2
  have f2 := frozen_of_blk k2
  simp only [List.getElem?_toArray, List.getElem?_cons_zero, List.getElem?_cons_succ] at c20 c21 c22
  clear k2 hb2
  go_wp2
  exact bodyPost_ret (v := aggS S) (by simp [results, Try.results26, go_sem, c20, c21, c22]) rfl ⟨by rw [HS.out], set3_below hbw _ (by omega) _ _ _⟩

set_option maxRecDepth 100000 in
set_option maxHeartbeats 1600000 in
theorem ontoOf_ok (px py qx qy : Int) (w : World) (hE : farE [(px, py), (qx, qy)] [] = 0) (hne : (px, py) ≠ (qx, qy)) :
    Calls Try.prog 27 #[.agg #[.int .i64 px, .int .i64 py], .agg #[.int .i64 qx, .int .i64 qy]] w fun e w' => e = .returned (aggS (formS (2 * (qx - px)) (2 * (qy - py)) (qx * qx + qy * qy - px * px - py * py))) ∧ Below w.heap.size w w' := by
  have hf : farP (px, py) = false ∧ farP (qx, qy) = false := by
    unfold farE at hE
    split at hE
    · cases hE
    · rename_i h; simpa using h
  obtain ⟨⟨p1, p2⟩, p3, p4⟩ := farP_bd hf.1
  obtain ⟨⟨q1, q2⟩, q3, q4⟩ := farP_bd hf.2
  simp only at p1 p2 p3 p4 q1 q2 q3 q4
  have hpq : ¬ (px = qx ∧ py = qy) := fun h => hne (by rw [h.1, h.2])
  obtain ⟨m1, m2⟩ := mul_bd (x := qx - px) (y := px + qx) 2000 2000 (by omega) (by omega) (by omega) (by omega)
  obtain ⟨m3, m4⟩ := mul_bd (x := qy - py) (y := py + qy) 2000 2000 (by omega) (by omega) (by omega) (by omega)
  simp only [Int.reduceMul] at m1 m2 m3 m4
  have HPQ := Lib.hid hpq
  clear hf hne hE hpq
  go_enter Try.func27, Try.ntmps27
  go_wp2_with fail
  go_quiet (fail)
  go_wp2_with fail
  refine (inForm_any _ _ _ _ (by have := HPQ.out; omega) (by omega) (by omega) (by omega) (by omega) (by omega) (by omega)).mono ?_
  rintro e w2 ⟨he, hb2⟩
  obtain ⟨S, hS⟩ : ∃ S, S = formS (2 * (qx - px)) (2 * (qy - py)) (qx * qx + qy * qy - px * px - py * py) := ⟨_, rfl⟩
  rw [formS_eq (a' := 2 * (qx - px)) (b' := 2 * (qy - py)) (c' := qx * qx + qy * qy - px * px - py * py) rfl rfl (by grind), ← hS] at he
  subst he
  have HS := Lib.hid hS
  clear hS
  obtain ⟨k2, hlt, hbw⟩ := res_after (w := w) (blk_drewN (two3_res w px py qx qy) _) (below_drewN (two3_below w px py qx qy) _) hb2
  have c20 := cell_of_blk k2 0
  have c21 := cell_of_blk k2 1
  have c22 := cell_of_blk k2 2
  have f2 := frozen_of_blk k2
  simp only [List.getElem?_toArray, List.getElem?_cons_zero, List.getElem?_cons_succ] at c20 c21 c22
  clear k2 hb2
  go_wp2
  exact bodyPost_ret (v := aggS S) (by simp [results, Try.results27, go_sem, c20, c21, c22]) rfl ⟨by rw [HS.out], set3_below hbw _ (by omega) _ _ _⟩

/-- The world in which a function of a straight and a point goes on. -/
def sp3 (w : World) (a b c x y : Int) : World := ((w.alloc (.cells #[.int .i64 a, .int .i64 b, .int .i64 c] 40)).alloc (.cells #[.int .i64 x, .int .i64 y] 29)).alloc (.cells #[.int .i64 0, .int .i64 0, .int .i64 0] 40)
theorem sp3_below (w : World) (a b c x y : Int) : Below w.heap.size w (sp3 w a b c x y) := (((Below.refl _ _).alloc (Nat.le_refl _) _).alloc (by simp) _).alloc (by simp; omega) _
theorem sp3_size (w : World) (a b c x y : Int) : (sp3 w a b c x y).heap.size = w.heap.size + 1 + 1 + 1 := by simp [sp3]
theorem sp3_res (w : World) (a b c x y : Int) : (sp3 w a b c x y).heap[w.heap.size + 1 + 1]? = some (.cells #[.int .i64 0, .int .i64 0, .int .i64 0] 40 (0, 0)) := by
  have b2 := heap_alloc_new ((w.alloc (.cells #[.int .i64 a, .int .i64 b, .int .i64 c] 40)).alloc (.cells #[.int .i64 x, .int .i64 y] 29)) (.cells #[.int .i64 0, .int .i64 0, .int .i64 0] 40)
  rw [World.size_alloc, World.size_alloc] at b2
  exact b2
theorem sp3_st (w : World) (a b c x y : Int) : (sp3 w a b c x y).heap[w.heap.size]? = some (.cells #[.int .i64 a, .int .i64 b, .int .i64 c] 40 (0, 0)) :=
  blk_alloc (blk_alloc (heap_alloc_new w _) _) _
theorem sp3_pt (w : World) (a b c x y : Int) : (sp3 w a b c x y).heap[w.heap.size + 1]? = some (.cells #[.int .i64 x, .int .i64 y] 29 (0, 0)) := by
  have b2 := blk_alloc (heap_alloc_new (w.alloc (.cells #[.int .i64 a, .int .i64 b, .int .i64 c] 40)) (.cells #[.int .i64 x, .int .i64 y] 29)) (.cells #[.int .i64 0, .int .i64 0, .int .i64 0] 40)
  rw [World.size_alloc] at b2
  exact b2
theorem farE_one {x y a b c : Int} (h : farE [(x, y)] [(a, b, c)] = 0) : ((-1000 ≤ x ∧ x ≤ 1000) ∧ -1000 ≤ y ∧ y ≤ 1000) ∧ ((-1000 ≤ a ∧ a ≤ 1000) ∧ (-1000 ≤ b ∧ b ≤ 1000) ∧ -1000 ≤ c ∧ c ≤ 1000) ∧ (a ≠ 0 ∨ b ≠ 0) := by
  unfold farE at h
  split at h
  · cases h
  · split at h
    · cases h
    · split at h
      · cases h
      · rename_i h1 h2 h3
        refine ⟨farP_bd (p := (x, y)) (by simpa using h1), farL_bd (l := (a, b, c)) (by simpa using h2), ?_⟩
        simp [nilL] at h3
        omega

set_option maxRecDepth 100000 in
set_option maxHeartbeats 1600000 in
theorem uprightOf_ok (a b c x y : Int) (w : World) (hE : farE [(x, y)] [(a, b, c)] = 0) :
    Calls Try.prog 28 #[.agg #[.int .i64 a, .int .i64 b, .int .i64 c], .agg #[.int .i64 x, .int .i64 y]] w fun e w' => e = .returned (aggS (formS b (-a) (b * x - a * y))) ∧ Below w.heap.size w w' := by
  obtain ⟨⟨⟨p1, p2⟩, p3, p4⟩, ⟨⟨q1, q2⟩, ⟨q3, q4⟩, q5, q6⟩, hnz⟩ := farE_one hE
  obtain ⟨m1, m2⟩ := mul_bd (x := b) (y := x) 1000 1000 (by omega) (by omega) (by omega) (by omega)
  obtain ⟨m3, m4⟩ := mul_bd (x := a) (y := y) 1000 1000 (by omega) (by omega) (by omega) (by omega)
  simp only [Int.reduceMul] at m1 m2 m3 m4
  have HNZ := Lib.hid hnz
  clear hnz hE
  go_enter Try.func28, Try.ntmps28
  go_wp2_with fail
  refine (inForm_any _ _ _ _ (by have := HNZ.out; omega) (by omega) (by omega) (by omega) (by omega) (by omega) (by omega)).mono ?_
  rintro e w2 ⟨he, hb2⟩
  obtain ⟨S, hS⟩ : ∃ S, S = formS b (-a) (b * x - a * y) := ⟨_, rfl⟩
  rw [← hS] at he
  subst he
  have HS := Lib.hid hS
  clear hS
  obtain ⟨k2, hlt, hbw⟩ := res_after (w := w) (sp3_res w a b c x y) (sp3_below w a b c x y) hb2
  have c20 := cell_of_blk k2 0
  have c21 := cell_of_blk k2 1
  have c22 := cell_of_blk k2 2
  have f2 := frozen_of_blk k2
  simp only [List.getElem?_toArray, List.getElem?_cons_zero, List.getElem?_cons_succ] at c20 c21 c22
  clear k2 hb2
  go_wp2
  exact bodyPost_ret (v := aggS S) (by simp [results, Try.results28, go_sem, c20, c21, c22]) rfl ⟨by rw [HS.out], set3_below hbw _ (by omega) _ _ _⟩

/-- What is still there behind the call of 'check' in Upright. -/
theorem afterSp {w w1 : World} {a b c x y : Int} {o o' : Obj} (hb : Below (((sp3 w a b c x y).alloc o).alloc o').heap.size (((sp3 w a b c x y).alloc o).alloc o') w1) :
    w1.heap[w.heap.size]? = some (.cells #[.int .i64 a, .int .i64 b, .int .i64 c] 40 (0, 0)) ∧ w1.heap[w.heap.size + 1]? = some (.cells #[.int .i64 x, .int .i64 y] 29 (0, 0)) ∧
    w1.heap[w.heap.size + 1 + 1]? = some (.cells #[.int .i64 0, .int .i64 0, .int .i64 0] 40 (0, 0)) ∧ w.heap.size + 1 + 1 < w1.heap.size ∧ Below w.heap.size w w1 := by
  have b0 := blk_alloc (blk_alloc (sp3_st w a b c x y) o) o'
  have b1 := blk_alloc (blk_alloc (sp3_pt w a b c x y) o) o'
  have b2 := blk_alloc (blk_alloc (sp3_res w a b c x y) o) o'
  have k2 := blk_below b2 hb (blk_lt b2)
  exact ⟨blk_below b0 hb (blk_lt b0), blk_below b1 hb (blk_lt b1), k2, blk_lt k2, (((sp3_below w a b c x y).alloc (by rw [sp3_size]; omega) o).alloc (by simp [sp3_size]; omega) o').trans (hb.mono (by simp [sp3_size]; omega))⟩

set_option maxRecDepth 100000 in
set_option maxHeartbeats 1600000 in
theorem upright_no (a b c x y : Int) (w : World) (E : Int) (hE : farE [(x, y)] [(a, b, c)] = E) (h0 : E ≠ 0) :
    Calls Try.prog 25 #[.agg #[.int .i64 a, .int .i64 b, .int .i64 c], .agg #[.int .i64 x, .int .i64 y]] w fun e w' => e = .returned (.tuple #[aggS (0, 0, 0), .int .i64 E]) ∧ Below w.heap.size w w' := by
  have HE := Lib.hid hE
  have hneE : (E != 0) = true := by simpa using h0
  have hr1 := (rd_lit_p1 (sp3 w a b c x y) x y).alloc (.cells #[.int .i64 a, .int .i64 b, .int .i64 c] 40)
  have hr2 := rd_lit_s1 ((sp3 w a b c x y).alloc (.cells #[.int .i64 x, .int .i64 y] 29)) a b c
  rw [World.size_alloc] at hr2
  rw [sp3_size] at hr1 hr2
  clear hE h0
  go_enter Try.func25, Try.ntmps25
  go_wp2_with fail
  refine (acheck_any _ _ 1 1 1 1 [(x, y)] [(a, b, c)] _ hr1 hr2 (by decide) (by decide)).mono ?_
  rintro e w1 ⟨rfl, hb1⟩
  rw [HE.out]
  obtain ⟨k0, k1, k2, hlt, hbw⟩ := afterSp hb1
  have c20 := cell_of_blk k2 0
  have c21 := cell_of_blk k2 1
  have c22 := cell_of_blk k2 2
  have f2 := frozen_of_blk k2
  simp only [List.getElem?_toArray, List.getElem?_cons_zero, List.getElem?_cons_succ] at c20 c21 c22
  clear k0 k1 k2 hb1
  go_wp2
  exact bodyPost_ret (v := .tuple #[aggS (0, 0, 0), .int .i64 E]) (by simp [results, Try.results25, go_sem, c20, c21, c22]) rfl ⟨rfl, set3_below hbw _ (by omega) _ _ _⟩

set_option maxRecDepth 100000 in
set_option maxHeartbeats 1600000 in
theorem upright_ok (a b c x y : Int) (w : World) (hE : farE [(x, y)] [(a, b, c)] = 0) :
    Calls Try.prog 25 #[.agg #[.int .i64 a, .int .i64 b, .int .i64 c], .agg #[.int .i64 x, .int .i64 y]] w fun e w' => e = .returned (.tuple #[aggS (formS b (-a) (b * x - a * y)), .int .i64 0]) ∧ Below w.heap.size w w' := by
  have HE := Lib.hid hE
  obtain ⟨⟨⟨p1, p2⟩, p3, p4⟩, ⟨⟨q1, q2⟩, ⟨q3, q4⟩, q5, q6⟩, hnz⟩ := farE_one hE
  obtain ⟨m1, m2⟩ := mul_bd (x := b) (y := x) 1000 1000 (by omega) (by omega) (by omega) (by omega)
  obtain ⟨m3, m4⟩ := mul_bd (x := a) (y := y) 1000 1000 (by omega) (by omega) (by omega) (by omega)
  simp only [Int.reduceMul] at m1 m2 m3 m4
  have HNZ := Lib.hid hnz
  have hr1 := (rd_lit_p1 (sp3 w a b c x y) x y).alloc (.cells #[.int .i64 a, .int .i64 b, .int .i64 c] 40)
  have hr2 := rd_lit_s1 ((sp3 w a b c x y).alloc (.cells #[.int .i64 x, .int .i64 y] 29)) a b c
  rw [World.size_alloc] at hr2
  rw [sp3_size] at hr1 hr2
  clear hE hnz
  go_enter Try.func25, Try.ntmps25
  go_wp2_with fail
  refine (acheck_any _ _ 1 1 1 1 [(x, y)] [(a, b, c)] _ hr1 hr2 (by decide) (by decide)).mono ?_
  rintro e w1 ⟨rfl, hb1⟩
  rw [HE.out]
  obtain ⟨k0, k1, k2, hlt, hbw⟩ := afterSp hb1
  have c00 := cell_of_blk k0 0
  have c01 := cell_of_blk k0 1
  have c10 := cell_of_blk k1 0
  have c11 := cell_of_blk k1 1
  simp only [List.getElem?_toArray, List.getElem?_cons_zero, List.getElem?_cons_succ] at c00 c01 c10 c11
  have K2 := Lib.hid k2
  clear k0 k1 k2 hb1
  go_wp2_with fail
  refine (form_any _ _ _ _ (by have := HNZ.out; omega) (by omega) (by omega) (by omega) (by omega) (by omega) (by omega)).mono ?_
  rintro e w2 ⟨he, hb2⟩
  obtain ⟨S, hS⟩ : ∃ S, S = formS b (-a) (b * x - a * y) := ⟨_, rfl⟩
  rw [← hS] at he
  subst he
  have HS := Lib.hid hS
  clear hS
  obtain ⟨k2, hlt2, hbw2⟩ := res_after (w := w) K2.out hbw hb2
  have c20 := cell_of_blk k2 0
  have c21 := cell_of_blk k2 1
  have c22 := cell_of_blk k2 2
  have f2 := frozen_of_blk k2
  simp only [List.getElem?_toArray, List.getElem?_cons_zero, List.getElem?_cons_succ] at c20 c21 c22
  clear k2 hb2
  go_wp2
  exact bodyPost_ret (v := .tuple #[aggS S, .int .i64 0]) (by simp [results, Try.results25, go_sem, c20, c21, c22]) rfl ⟨by rw [HS.out], set3_below hbw2 _ (by omega) _ _ _⟩
end Go.Proofs.Ythfhkmgegkhljaa
