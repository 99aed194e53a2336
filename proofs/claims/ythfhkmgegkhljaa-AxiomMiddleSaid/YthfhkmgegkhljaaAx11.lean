/- The walk of AxiomMiddle. Printed by gen_ax11.py. -/
import Derived.Test.YthfhkmgegkhljaaAx10
namespace Go.Proofs.Ythfhkmgegkhljaa
open Go.RowKit

/-- Two points in boxes from the block g on; nothing else has turned. -/
structure Pq (w X : World) (g : Nat) (px py qx qy : Int) : Prop where
  p : X.heap[g]? = some (.cells #[.int .i64 px, .int .i64 py] 29 (0, 0))
  q : X.heap[g + 1]? = some (.cells #[.int .i64 qx, .int .i64 qy] 29 (0, 0))
  bel : Below w.heap.size w X
theorem Pq.start {w X : World} (h : Below w.heap.size w X) (px py qx qy : Int) : Pq w ((X.alloc (.cells #[.int .i64 px, .int .i64 py] 29)).alloc (.cells #[.int .i64 qx, .int .i64 qy] 29)) X.heap.size px py qx qy := by
  refine ⟨blk_alloc (heap_alloc_new X _) _, ?_, (h.alloc h.size _).alloc (by have := h.size; simp; omega) _⟩
  have e := heap_alloc_new (X.alloc (.cells #[.int .i64 px, .int .i64 py] 29)) (.cells #[.int .i64 qx, .int .i64 qy] 29)
  rw [World.size_alloc] at e
  exact e
theorem Pq.step {w X Y : World} {g : Nat} {px py qx qy : Int} (h : Pq w X g px py qx qy) (hb : Below X.heap.size X Y) : Pq w Y g px py qx qy :=
  ⟨blk_below h.p hb (blk_lt h.p), blk_below h.q hb (blk_lt h.q), h.bel.trans (hb.mono h.bel.size)⟩
theorem Pq.alloc {w X : World} {g : Nat} {px py qx qy : Int} (h : Pq w X g px py qx qy) (o : Obj) : Pq w (X.alloc o) g px py qx qy :=
  h.step ((Below.refl _ _).alloc (Nat.le_refl _) o)

theorem near_sq {x : Int} (h : -100 ≤ x ∧ x ≤ 100) : 0 ≤ x * x ∧ x * x ≤ 10000 := by
  obtain ⟨m1, m2⟩ := mul_bd (x := x) (y := x) 100 100 (by omega) (by omega) (by omega) (by omega)
  exact ⟨by rcases Int.le_total 0 x with h | h
            · exact Int.mul_nonneg h h
            · exact Int.mul_nonneg_of_nonpos_of_nonpos h h, by omega⟩
theorem onto_near {px py qx qy : Int} (h1 : -100 ≤ px ∧ px ≤ 100) (h2 : -100 ≤ py ∧ py ≤ 100) (h3 : -100 ≤ qx ∧ qx ≤ 100) (h4 : -100 ≤ qy ∧ qy ≤ 100) (ho : 2 * (qx - px) ≠ 0 ∨ 2 * (qy - py) ≠ 0) :
    (-100000 ≤ (formS (2 * (qx - px)) (2 * (qy - py)) (qx * qx + qy * qy - px * px - py * py)).1 ∧ (formS (2 * (qx - px)) (2 * (qy - py)) (qx * qx + qy * qy - px * px - py * py)).1 ≤ 100000) ∧ (-100000 ≤ (formS (2 * (qx - px)) (2 * (qy - py)) (qx * qx + qy * qy - px * px - py * py)).2.1 ∧ (formS (2 * (qx - px)) (2 * (qy - py)) (qx * qx + qy * qy - px * px - py * py)).2.1 ≤ 100000) ∧ -100000 ≤ (formS (2 * (qx - px)) (2 * (qy - py)) (qx * qx + qy * qy - px * px - py * py)).2.2 ∧ (formS (2 * (qx - px)) (2 * (qy - py)) (qx * qx + qy * qy - px * px - py * py)).2.2 ≤ 100000 := by
  have a := near_sq h1
  have b := near_sq h2
  have c := near_sq h3
  have d := near_sq h4
  exact formS_bd ho (by omega) (by omega) (by omega) (by omega) (by omega) (by omega)
theorem through_near {px py qx qy : Int} (h1 : -100 ≤ px ∧ px ≤ 100) (h2 : -100 ≤ py ∧ py ≤ 100) (h3 : -100 ≤ qx ∧ qx ≤ 100) (h4 : -100 ≤ qy ∧ qy ≤ 100) (ht : qy - py ≠ 0 ∨ px - qx ≠ 0) :
    (-100000 ≤ (formS (qy - py) (px - qx) ((qy - py) * px + (px - qx) * py)).1 ∧ (formS (qy - py) (px - qx) ((qy - py) * px + (px - qx) * py)).1 ≤ 100000) ∧ (-100000 ≤ (formS (qy - py) (px - qx) ((qy - py) * px + (px - qx) * py)).2.1 ∧ (formS (qy - py) (px - qx) ((qy - py) * px + (px - qx) * py)).2.1 ≤ 100000) ∧ -100000 ≤ (formS (qy - py) (px - qx) ((qy - py) * px + (px - qx) * py)).2.2 ∧ (formS (qy - py) (px - qx) ((qy - py) * px + (px - qx) * py)).2.2 ≤ 100000 := by
  obtain ⟨m1, m2⟩ := mul_bd (x := qy - py) (y := px) 200 100 (by omega) (by omega) (by omega) (by omega)
  obtain ⟨m3, m4⟩ := mul_bd (x := px - qx) (y := py) 200 100 (by omega) (by omega) (by omega) (by omega)
  exact formS_bd ht (by omega) (by omega) (by omega) (by omega) (by omega) (by omega)

set_option maxRecDepth 100000 in
set_option maxHeartbeats 3200000 in
theorem amid_eq (x y u v px py : Int) (w : World) (x1 : -9223372036854775808 ≤ x) (x2 : x ≤ 9223372036854775807) (y1 : -9223372036854775808 ≤ y) (y2 : y ≤ 9223372036854775807) (u1 : -9223372036854775808 ≤ u) (u2 : u ≤ 9223372036854775807) (v1 : -9223372036854775808 ≤ v) (v2 : v ≤ 9223372036854775807)
    (HX : Hid (nearN x = px)) (HY : Hid (nearN y = py)) (HU : Hid (nearN u = px)) (HV : Hid (nearN v = py)) (hpx : -100 ≤ px ∧ px ≤ 100) (hpy : -100 ≤ py ∧ py ≤ 100)  :
    Calls Try.prog 5 #[.int .i64 x, .int .i64 y, .int .i64 u, .int .i64 v] w fun e w' => e = .returned (.bool true) ∧ Below w.heap.size w w' := by
  have HE := Lib.hid (farE_near hpx hpy hpx hpy)
  have HFr := Lib.hid (farE_near hpx hpy hpx hpy)
  have H1 : Hid (farE [(0, 0), (2, 0)] [] = 0) := Lib.hid (by decide)
  go_enter Try.func5, Try.ntmps5
  go_wp2_with fail
  refine (near_any x y _ x1 x2 y1 y2).mono ?_
  rintro e w1 ⟨he, hb1⟩
  rw [HX.out, HY.out] at he
  subst he
  go_wp2_with fail
  refine (near_any u v _ u1 u2 v1 v2).mono ?_
  rintro e w2 ⟨he, hb2⟩
  rw [HU.out, HV.out] at he
  subst he
  have h0 := Pq.start (hb1.trans (hb2.mono hb1.size)) px py px py
  go_wp2_with fail
  refine (onto_eq px py _ HE.out).mono ?_
  rintro e w3 ⟨he, hb3⟩
  subst he
  have h3 := h0.step hb3
  have c00 := cell_of_blk h3.p 0
  have c01 := cell_of_blk h3.p 1
  have c10 := cell_of_blk h3.q 0
  have c11 := cell_of_blk h3.q 1
  simp only [List.getElem?_toArray, List.getElem?_cons_zero, List.getElem?_cons_succ] at c00 c01 c10 c11
  have s1 := blk_lt h3.p
  have s2 := blk_lt h3.q
  go_wp2_with fail
  refine (through_eq px py _ HE.out).mono ?_
  rintro e w4 ⟨he, hb4⟩
  subst he
  have h4 := (h3.alloc _).step hb4
  have bf4 := blk_below (heap_alloc_new w3 (.cells #[.int .i64 0, .int .i64 0, .int .i64 0] 40)) hb4 (by simp)
  clear c00 c01 c10 c11 s1 s2
  have c00 := cell_of_blk h4.p 0
  have c01 := cell_of_blk h4.p 1
  have c10 := cell_of_blk h4.q 0
  have c11 := cell_of_blk h4.q 1
  simp only [List.getElem?_toArray, List.getElem?_cons_zero, List.getElem?_cons_succ] at c00 c01 c10 c11
  have s1 := blk_lt h4.p
  have s2 := blk_lt h4.q
  have f0 := cell_of_blk bf4 0
  have f1 := cell_of_blk bf4 1
  have f2 := cell_of_blk bf4 2
  simp only [List.getElem?_toArray, List.getElem?_cons_zero, List.getElem?_cons_succ] at f0 f1 f2
  have lf := blk_lt bf4
  go_wp2_with fail
  refine (onto_ok 0 0 2 0 _ H1.out (by decide)).mono ?_
  rintro e w5 ⟨he, hb5⟩
  rw [show formS (2 * (2 - 0)) (2 * (0 - 0)) (2 * 2 + 0 * 0 - 0 * 0 - 0 * 0) = (1, 0, 1) from form_one] at he
  subst he
  have h5 := (h4.alloc _).step hb5
  have bf5 := blk_below (blk_alloc bf4 _) hb5 (blk_lt (blk_alloc bf4 _))
  have bg5 := blk_below (heap_alloc_new w4 (.cells #[.int .i64 0, .int .i64 0, .int .i64 0] 40)) hb5 (by simp)
  clear c00 c01 c10 c11 s1 s2
  clear f0 f1 f2 lf
  have c00 := cell_of_blk h5.p 0
  have c01 := cell_of_blk h5.p 1
  have c10 := cell_of_blk h5.q 0
  have c11 := cell_of_blk h5.q 1
  simp only [List.getElem?_toArray, List.getElem?_cons_zero, List.getElem?_cons_succ] at c00 c01 c10 c11
  have s1 := blk_lt h5.p
  have s2 := blk_lt h5.q
  have f0 := cell_of_blk bf5 0
  have f1 := cell_of_blk bf5 1
  have f2 := cell_of_blk bf5 2
  simp only [List.getElem?_toArray, List.getElem?_cons_zero, List.getElem?_cons_succ] at f0 f1 f2
  have lf := blk_lt bf5
  have g0 := cell_of_blk bg5 0
  have g1 := cell_of_blk bg5 1
  have g2 := cell_of_blk bg5 2
  simp only [List.getElem?_toArray, List.getElem?_cons_zero, List.getElem?_cons_succ] at g0 g1 g2
  have lg := blk_lt bg5
  go_wp2
  go_ret
  exact ⟨rfl, (h5.alloc _).bel⟩

set_option maxRecDepth 100000 in
set_option maxHeartbeats 3200000 in
theorem amid_okA (x y u v px py qx qy : Int) (w : World) (x1 : -9223372036854775808 ≤ x) (x2 : x ≤ 9223372036854775807) (y1 : -9223372036854775808 ≤ y) (y2 : y ≤ 9223372036854775807) (u1 : -9223372036854775808 ≤ u) (u2 : u ≤ 9223372036854775807) (v1 : -9223372036854775808 ≤ v) (v2 : v ≤ 9223372036854775807)
    (HX : Hid (nearN x = px)) (HY : Hid (nearN y = py)) (HU : Hid (nearN u = qx)) (HV : Hid (nearN v = qy)) (hpx : -100 ≤ px ∧ px ≤ 100) (hpy : -100 ≤ py ∧ py ≤ 100) (hqx : -100 ≤ qx ∧ qx ≤ 100) (hqy : -100 ≤ qy ∧ qy ≤ 100) (hx : ¬ px = qx) :
    Calls Try.prog 5 #[.int .i64 x, .int .i64 y, .int .i64 u, .int .i64 v] w fun e w' => e = .returned (.bool true) ∧ Below w.heap.size w w' := by
  have hne : (px, py) ≠ (qx, qy) := by simp; omega
  have hne2 : (qx, qy) ≠ (px, py) := by simp; omega
  have HNE := Lib.hid hne
  have HNE2 := Lib.hid hne2
  clear hne hne2
  have ho : 2 * (qx - px) ≠ 0 ∨ 2 * (qy - py) ≠ 0 := by omega
  have HO := Lib.hid ho
  clear ho
  have ht : qy - py ≠ 0 ∨ px - qx ≠ 0 := by omega
  have HT := Lib.hid ht
  clear ht
  have hxb : (px == qx) = false := by simpa using hx
  clear hx
  have HE := Lib.hid (farE_near hpx hpy hqx hqy)
  have HFr := Lib.hid (farE_near hqx hqy hpx hpy)
  have H1 : Hid (farE [(0, 0), (2, 0)] [] = 0) := Lib.hid (by decide)
  go_enter Try.func5, Try.ntmps5
  go_wp2_with fail
  refine (near_any x y _ x1 x2 y1 y2).mono ?_
  rintro e w1 ⟨he, hb1⟩
  rw [HX.out, HY.out] at he
  subst he
  go_wp2_with fail
  refine (near_any u v _ u1 u2 v1 v2).mono ?_
  rintro e w2 ⟨he, hb2⟩
  rw [HU.out, HV.out] at he
  subst he
  have h0 := Pq.start (hb1.trans (hb2.mono hb1.size)) px py qx qy
  go_wp2_with fail
  refine (onto_ok px py qx qy _ HE.out HNE.out).mono ?_
  rintro e w3 ⟨he, hb3⟩
  obtain ⟨Fo, eFo⟩ : ∃ S, S = formS (2 * (qx - px)) (2 * (qy - py)) (qx * qx + qy * qy - px * px - py * py) := ⟨_, rfl⟩
  rw [← eFo] at he
  have HFo := Lib.hid eFo
  clear eFo
  subst he
  have h3 := h0.step hb3
  have c00 := cell_of_blk h3.p 0
  have c01 := cell_of_blk h3.p 1
  have c10 := cell_of_blk h3.q 0
  have c11 := cell_of_blk h3.q 1
  simp only [List.getElem?_toArray, List.getElem?_cons_zero, List.getElem?_cons_succ] at c00 c01 c10 c11
  have s1 := blk_lt h3.p
  have s2 := blk_lt h3.q
  go_wp2_with fail
  refine (through_ok px py qx qy _ HE.out HNE.out).mono ?_
  rintro e w4 ⟨he, hb4⟩
  obtain ⟨Go, eGo⟩ : ∃ S, S = formS (qy - py) (px - qx) ((qy - py) * px + (px - qx) * py) := ⟨_, rfl⟩
  rw [← eGo] at he
  have HGo := Lib.hid eGo
  clear eGo
  subst he
  have h4 := (h3.alloc _).step hb4
  have bf4 := blk_below (heap_alloc_new w3 (.cells #[.int .i64 Fo.1, .int .i64 Fo.2.1, .int .i64 Fo.2.2] 40)) hb4 (by simp)
  clear c00 c01 c10 c11 s1 s2
  have c00 := cell_of_blk h4.p 0
  have c01 := cell_of_blk h4.p 1
  have c10 := cell_of_blk h4.q 0
  have c11 := cell_of_blk h4.q 1
  simp only [List.getElem?_toArray, List.getElem?_cons_zero, List.getElem?_cons_succ] at c00 c01 c10 c11
  have s1 := blk_lt h4.p
  have s2 := blk_lt h4.q
  have f0 := cell_of_blk bf4 0
  have f1 := cell_of_blk bf4 1
  have f2 := cell_of_blk bf4 2
  simp only [List.getElem?_toArray, List.getElem?_cons_zero, List.getElem?_cons_succ] at f0 f1 f2
  have lf := blk_lt bf4
  go_wp2_with fail
  refine (onto_ok 0 0 2 0 _ H1.out (by decide)).mono ?_
  rintro e w5 ⟨he, hb5⟩
  rw [show formS (2 * (2 - 0)) (2 * (0 - 0)) (2 * 2 + 0 * 0 - 0 * 0 - 0 * 0) = (1, 0, 1) from form_one] at he
  subst he
  have h5 := (h4.alloc _).step hb5
  have bf5 := blk_below (blk_alloc bf4 _) hb5 (blk_lt (blk_alloc bf4 _))
  have bg5 := blk_below (heap_alloc_new w4 (.cells #[.int .i64 Go.1, .int .i64 Go.2.1, .int .i64 Go.2.2] 40)) hb5 (by simp)
  clear c00 c01 c10 c11 s1 s2
  clear f0 f1 f2 lf
  have c00 := cell_of_blk h5.p 0
  have c01 := cell_of_blk h5.p 1
  have c10 := cell_of_blk h5.q 0
  have c11 := cell_of_blk h5.q 1
  simp only [List.getElem?_toArray, List.getElem?_cons_zero, List.getElem?_cons_succ] at c00 c01 c10 c11
  have s1 := blk_lt h5.p
  have s2 := blk_lt h5.q
  have f0 := cell_of_blk bf5 0
  have f1 := cell_of_blk bf5 1
  have f2 := cell_of_blk bf5 2
  simp only [List.getElem?_toArray, List.getElem?_cons_zero, List.getElem?_cons_succ] at f0 f1 f2
  have lf := blk_lt bf5
  have g0 := cell_of_blk bg5 0
  have g1 := cell_of_blk bg5 1
  have g2 := cell_of_blk bg5 2
  simp only [List.getElem?_toArray, List.getElem?_cons_zero, List.getElem?_cons_succ] at g0 g1 g2
  have lg := blk_lt bg5
  go_wp2_with fail
  refine (onto_ok qx qy px py _ HFr.out HNE2.out).mono ?_
  rintro e w6 ⟨he, hb6⟩
  have hbk : formS (2 * (px - qx)) (2 * (py - qy)) (px * px + py * py - qx * qx - qy * qy) = Fo := by
    rw [HFo.out, ← formS_neg HO.out]
    exact formS_eq (by omega) (by omega) (by omega)
  rw [hbk] at he
  subst he
  clear hbk
  have h6 := (h5.alloc _).step hb6
  have bf6 := blk_below (blk_alloc bf5 _) hb6 (blk_lt (blk_alloc bf5 _))
  have bg6 := blk_below (blk_alloc bg5 _) hb6 (blk_lt (blk_alloc bg5 _))
  have hmid := on_form (c := qx * qx + qy * qy - px * px - py * py) HO.out (onto_mid px py qx qy)
  rw [← HFo.out] at hmid
  have hthp := on_form (c := (qy - py) * px + (px - qx) * py) HT.out (through_p px py qx qy)
  have hthq := on_form (c := (qy - py) * px + (px - qx) * py) HT.out (through_q px py qx qy)
  rw [← HGo.out] at hthp hthq
  have hup := up_form (c := qx * qx + qy * qy - px * px - py * py) (c' := (qy - py) * px + (px - qx) * py) HO.out HT.out (onto_up px py qx qy)
  rw [← HFo.out, ← HGo.out] at hup
  have hup' : (Fo.1 * Go.1 + Fo.2.1 * Go.2.1 == 0) = true := by simpa using hup
  have HMID := Lib.hid hmid
  have HTHP := Lib.hid hthp
  have HTHQ := Lib.hid hthq
  clear hmid hthp hthq hup
  obtain ⟨⟨kf1, kf2⟩, ⟨kf3, kf4⟩, kf5, kf6⟩ := onto_near hpx hpy hqx hqy HO.out
  rw [← HFo.out] at kf1 kf2 kf3 kf4 kf5 kf6
  obtain ⟨⟨kg1, kg2⟩, ⟨kg3, kg4⟩, kg5, kg6⟩ := through_near hpx hpy hqx hqy HT.out
  rw [← HGo.out] at kg1 kg2 kg3 kg4 kg5 kg6
  obtain ⟨m1, m2⟩ := mul_bd (x := Fo.1) (y := Go.1) 100000 100000 kf1 kf2 kg1 kg2
  obtain ⟨m3, m4⟩ := mul_bd (x := Fo.2.1) (y := Go.2.1) 100000 100000 kf3 kf4 kg3 kg4
  simp only [Int.reduceMul] at m1 m2 m3 m4
  clear c00 c01 c10 c11 s1 s2
  clear f0 f1 f2 lf
  clear g0 g1 g2 lg
  have c00 := cell_of_blk h6.p 0
  have c01 := cell_of_blk h6.p 1
  have c10 := cell_of_blk h6.q 0
  have c11 := cell_of_blk h6.q 1
  simp only [List.getElem?_toArray, List.getElem?_cons_zero, List.getElem?_cons_succ] at c00 c01 c10 c11
  have s1 := blk_lt h6.p
  have s2 := blk_lt h6.q
  have f0 := cell_of_blk bf6 0
  have f1 := cell_of_blk bf6 1
  have f2 := cell_of_blk bf6 2
  simp only [List.getElem?_toArray, List.getElem?_cons_zero, List.getElem?_cons_succ] at f0 f1 f2
  have lf := blk_lt bf6
  have g0 := cell_of_blk bg6 0
  have g1 := cell_of_blk bg6 1
  have g2 := cell_of_blk bg6 2
  simp only [List.getElem?_toArray, List.getElem?_cons_zero, List.getElem?_cons_succ] at g0 g1 g2
  have lg := blk_lt bg6
  go_wp2_with fail
  refine (on_any Fo.1 Fo.2.1 Fo.2.2 (px + qx) (py + qy) 2 _ (by omega) (by omega) (by omega) (by omega) (by omega) (by omega) (by omega) (by omega) (by omega) (by omega) (by omega) (by omega) HMID.out).mono ?_
  rintro e w7 ⟨rfl, hb7⟩
  have h7 := (h6.alloc _).step hb7
  have bf7 := blk_below (blk_alloc bf6 _) hb7 (blk_lt (blk_alloc bf6 _))
  have bg7 := blk_below (blk_alloc bg6 _) hb7 (blk_lt (blk_alloc bg6 _))
  clear c00 c01 c10 c11 s1 s2
  clear f0 f1 f2 lf
  clear g0 g1 g2 lg
  have c00 := cell_of_blk h7.p 0
  have c01 := cell_of_blk h7.p 1
  have c10 := cell_of_blk h7.q 0
  have c11 := cell_of_blk h7.q 1
  simp only [List.getElem?_toArray, List.getElem?_cons_zero, List.getElem?_cons_succ] at c00 c01 c10 c11
  have s1 := blk_lt h7.p
  have s2 := blk_lt h7.q
  have f0 := cell_of_blk bf7 0
  have f1 := cell_of_blk bf7 1
  have f2 := cell_of_blk bf7 2
  simp only [List.getElem?_toArray, List.getElem?_cons_zero, List.getElem?_cons_succ] at f0 f1 f2
  have lf := blk_lt bf7
  have g0 := cell_of_blk bg7 0
  have g1 := cell_of_blk bg7 1
  have g2 := cell_of_blk bg7 2
  simp only [List.getElem?_toArray, List.getElem?_cons_zero, List.getElem?_cons_succ] at g0 g1 g2
  have lg := blk_lt bg7
  go_wp2_with fail
  refine (on_any Go.1 Go.2.1 Go.2.2 px py 1 _ (by omega) (by omega) (by omega) (by omega) (by omega) (by omega) (by omega) (by omega) (by omega) (by omega) (by omega) (by omega) HTHP.out).mono ?_
  rintro e w8 ⟨rfl, hb8⟩
  have h8 := h7.step hb8
  have bf8 := blk_below bf7 hb8 (blk_lt bf7)
  have bg8 := blk_below bg7 hb8 (blk_lt bg7)
  clear c00 c01 c10 c11 s1 s2
  clear f0 f1 f2 lf
  clear g0 g1 g2 lg
  have c00 := cell_of_blk h8.p 0
  have c01 := cell_of_blk h8.p 1
  have c10 := cell_of_blk h8.q 0
  have c11 := cell_of_blk h8.q 1
  simp only [List.getElem?_toArray, List.getElem?_cons_zero, List.getElem?_cons_succ] at c00 c01 c10 c11
  have s1 := blk_lt h8.p
  have s2 := blk_lt h8.q
  have f0 := cell_of_blk bf8 0
  have f1 := cell_of_blk bf8 1
  have f2 := cell_of_blk bf8 2
  simp only [List.getElem?_toArray, List.getElem?_cons_zero, List.getElem?_cons_succ] at f0 f1 f2
  have lf := blk_lt bf8
  have g0 := cell_of_blk bg8 0
  have g1 := cell_of_blk bg8 1
  have g2 := cell_of_blk bg8 2
  simp only [List.getElem?_toArray, List.getElem?_cons_zero, List.getElem?_cons_succ] at g0 g1 g2
  have lg := blk_lt bg8
  go_wp2_with fail
  refine (on_any Go.1 Go.2.1 Go.2.2 qx qy 1 _ (by omega) (by omega) (by omega) (by omega) (by omega) (by omega) (by omega) (by omega) (by omega) (by omega) (by omega) (by omega) HTHQ.out).mono ?_
  rintro e w9 ⟨rfl, hb9⟩
  have h9 := h8.step hb9
  have bf9 := blk_below bf8 hb9 (blk_lt bf8)
  have bg9 := blk_below bg8 hb9 (blk_lt bg8)
  clear c00 c01 c10 c11 s1 s2
  clear f0 f1 f2 lf
  clear g0 g1 g2 lg
  have c00 := cell_of_blk h9.p 0
  have c01 := cell_of_blk h9.p 1
  have c10 := cell_of_blk h9.q 0
  have c11 := cell_of_blk h9.q 1
  simp only [List.getElem?_toArray, List.getElem?_cons_zero, List.getElem?_cons_succ] at c00 c01 c10 c11
  have s1 := blk_lt h9.p
  have s2 := blk_lt h9.q
  have f0 := cell_of_blk bf9 0
  have f1 := cell_of_blk bf9 1
  have f2 := cell_of_blk bf9 2
  simp only [List.getElem?_toArray, List.getElem?_cons_zero, List.getElem?_cons_succ] at f0 f1 f2
  have lf := blk_lt bf9
  have g0 := cell_of_blk bg9 0
  have g1 := cell_of_blk bg9 1
  have g2 := cell_of_blk bg9 2
  simp only [List.getElem?_toArray, List.getElem?_cons_zero, List.getElem?_cons_succ] at g0 g1 g2
  have lg := blk_lt bg9
  go_wp2
  go_ret
  exact ⟨rfl, h9.bel⟩

set_option maxRecDepth 100000 in
set_option maxHeartbeats 3200000 in
theorem amid_okB (x y u v px py qy : Int) (w : World) (x1 : -9223372036854775808 ≤ x) (x2 : x ≤ 9223372036854775807) (y1 : -9223372036854775808 ≤ y) (y2 : y ≤ 9223372036854775807) (u1 : -9223372036854775808 ≤ u) (u2 : u ≤ 9223372036854775807) (v1 : -9223372036854775808 ≤ v) (v2 : v ≤ 9223372036854775807)
    (HX : Hid (nearN x = px)) (HY : Hid (nearN y = py)) (HU : Hid (nearN u = px)) (HV : Hid (nearN v = qy)) (hpx : -100 ≤ px ∧ px ≤ 100) (hpy : -100 ≤ py ∧ py ≤ 100) (hqy : -100 ≤ qy ∧ qy ≤ 100) (hy : ¬ py = qy) :
    Calls Try.prog 5 #[.int .i64 x, .int .i64 y, .int .i64 u, .int .i64 v] w fun e w' => e = .returned (.bool true) ∧ Below w.heap.size w w' := by
  have hne : (px, py) ≠ (px, qy) := by simp; omega
  have hne2 : (px, qy) ≠ (px, py) := by simp; omega
  have HNE := Lib.hid hne
  have HNE2 := Lib.hid hne2
  clear hne hne2
  have ho : 2 * (px - px) ≠ 0 ∨ 2 * (qy - py) ≠ 0 := by omega
  have HO := Lib.hid ho
  clear ho
  have ht : qy - py ≠ 0 ∨ px - px ≠ 0 := by omega
  have HT := Lib.hid ht
  clear ht
  have hyb : (py == qy) = false := by simpa using hy
  clear hy
  have HE := Lib.hid (farE_near hpx hpy hpx hqy)
  have HFr := Lib.hid (farE_near hpx hqy hpx hpy)
  have H1 : Hid (farE [(0, 0), (2, 0)] [] = 0) := Lib.hid (by decide)
  go_enter Try.func5, Try.ntmps5
  go_wp2_with fail
  refine (near_any x y _ x1 x2 y1 y2).mono ?_
  rintro e w1 ⟨he, hb1⟩
  rw [HX.out, HY.out] at he
  subst he
  go_wp2_with fail
  refine (near_any u v _ u1 u2 v1 v2).mono ?_
  rintro e w2 ⟨he, hb2⟩
  rw [HU.out, HV.out] at he
  subst he
  have h0 := Pq.start (hb1.trans (hb2.mono hb1.size)) px py px qy
  go_wp2_with fail
  refine (onto_ok px py px qy _ HE.out HNE.out).mono ?_
  rintro e w3 ⟨he, hb3⟩
  obtain ⟨Fo, eFo⟩ : ∃ S, S = formS (2 * (px - px)) (2 * (qy - py)) (px * px + qy * qy - px * px - py * py) := ⟨_, rfl⟩
  rw [← eFo] at he
  have HFo := Lib.hid eFo
  clear eFo
  subst he
  have h3 := h0.step hb3
  have c00 := cell_of_blk h3.p 0
  have c01 := cell_of_blk h3.p 1
  have c10 := cell_of_blk h3.q 0
  have c11 := cell_of_blk h3.q 1
  simp only [List.getElem?_toArray, List.getElem?_cons_zero, List.getElem?_cons_succ] at c00 c01 c10 c11
  have s1 := blk_lt h3.p
  have s2 := blk_lt h3.q
  go_wp2_with fail
  refine (through_ok px py px qy _ HE.out HNE.out).mono ?_
  rintro e w4 ⟨he, hb4⟩
  obtain ⟨Go, eGo⟩ : ∃ S, S = formS (qy - py) (px - px) ((qy - py) * px + (px - px) * py) := ⟨_, rfl⟩
  rw [← eGo] at he
  have HGo := Lib.hid eGo
  clear eGo
  subst he
  have h4 := (h3.alloc _).step hb4
  have bf4 := blk_below (heap_alloc_new w3 (.cells #[.int .i64 Fo.1, .int .i64 Fo.2.1, .int .i64 Fo.2.2] 40)) hb4 (by simp)
  clear c00 c01 c10 c11 s1 s2
  have c00 := cell_of_blk h4.p 0
  have c01 := cell_of_blk h4.p 1
  have c10 := cell_of_blk h4.q 0
  have c11 := cell_of_blk h4.q 1
  simp only [List.getElem?_toArray, List.getElem?_cons_zero, List.getElem?_cons_succ] at c00 c01 c10 c11
  have s1 := blk_lt h4.p
  have s2 := blk_lt h4.q
  have f0 := cell_of_blk bf4 0
  have f1 := cell_of_blk bf4 1
  have f2 := cell_of_blk bf4 2
  simp only [List.getElem?_toArray, List.getElem?_cons_zero, List.getElem?_cons_succ] at f0 f1 f2
  have lf := blk_lt bf4
  go_wp2_with fail
  refine (onto_ok 0 0 2 0 _ H1.out (by decide)).mono ?_
  rintro e w5 ⟨he, hb5⟩
  rw [show formS (2 * (2 - 0)) (2 * (0 - 0)) (2 * 2 + 0 * 0 - 0 * 0 - 0 * 0) = (1, 0, 1) from form_one] at he
  subst he
  have h5 := (h4.alloc _).step hb5
  have bf5 := blk_below (blk_alloc bf4 _) hb5 (blk_lt (blk_alloc bf4 _))
  have bg5 := blk_below (heap_alloc_new w4 (.cells #[.int .i64 Go.1, .int .i64 Go.2.1, .int .i64 Go.2.2] 40)) hb5 (by simp)
  clear c00 c01 c10 c11 s1 s2
  clear f0 f1 f2 lf
  have c00 := cell_of_blk h5.p 0
  have c01 := cell_of_blk h5.p 1
  have c10 := cell_of_blk h5.q 0
  have c11 := cell_of_blk h5.q 1
  simp only [List.getElem?_toArray, List.getElem?_cons_zero, List.getElem?_cons_succ] at c00 c01 c10 c11
  have s1 := blk_lt h5.p
  have s2 := blk_lt h5.q
  have f0 := cell_of_blk bf5 0
  have f1 := cell_of_blk bf5 1
  have f2 := cell_of_blk bf5 2
  simp only [List.getElem?_toArray, List.getElem?_cons_zero, List.getElem?_cons_succ] at f0 f1 f2
  have lf := blk_lt bf5
  have g0 := cell_of_blk bg5 0
  have g1 := cell_of_blk bg5 1
  have g2 := cell_of_blk bg5 2
  simp only [List.getElem?_toArray, List.getElem?_cons_zero, List.getElem?_cons_succ] at g0 g1 g2
  have lg := blk_lt bg5
  go_wp2_with fail
  refine (onto_ok px qy px py _ HFr.out HNE2.out).mono ?_
  rintro e w6 ⟨he, hb6⟩
  have hbk : formS (2 * (px - px)) (2 * (py - qy)) (px * px + py * py - px * px - qy * qy) = Fo := by
    rw [HFo.out, ← formS_neg HO.out]
    exact formS_eq (by omega) (by omega) (by omega)
  rw [hbk] at he
  subst he
  clear hbk
  have h6 := (h5.alloc _).step hb6
  have bf6 := blk_below (blk_alloc bf5 _) hb6 (blk_lt (blk_alloc bf5 _))
  have bg6 := blk_below (blk_alloc bg5 _) hb6 (blk_lt (blk_alloc bg5 _))
  have hmid := on_form (c := px * px + qy * qy - px * px - py * py) HO.out (onto_mid px py px qy)
  rw [← HFo.out] at hmid
  have hthp := on_form (c := (qy - py) * px + (px - px) * py) HT.out (through_p px py px qy)
  have hthq := on_form (c := (qy - py) * px + (px - px) * py) HT.out (through_q px py px qy)
  rw [← HGo.out] at hthp hthq
  have hup := up_form (c := px * px + qy * qy - px * px - py * py) (c' := (qy - py) * px + (px - px) * py) HO.out HT.out (onto_up px py px qy)
  rw [← HFo.out, ← HGo.out] at hup
  have hup' : (Fo.1 * Go.1 + Fo.2.1 * Go.2.1 == 0) = true := by simpa using hup
  have HMID := Lib.hid hmid
  have HTHP := Lib.hid hthp
  have HTHQ := Lib.hid hthq
  clear hmid hthp hthq hup
  obtain ⟨⟨kf1, kf2⟩, ⟨kf3, kf4⟩, kf5, kf6⟩ := onto_near hpx hpy hpx hqy HO.out
  rw [← HFo.out] at kf1 kf2 kf3 kf4 kf5 kf6
  obtain ⟨⟨kg1, kg2⟩, ⟨kg3, kg4⟩, kg5, kg6⟩ := through_near hpx hpy hpx hqy HT.out
  rw [← HGo.out] at kg1 kg2 kg3 kg4 kg5 kg6
  obtain ⟨m1, m2⟩ := mul_bd (x := Fo.1) (y := Go.1) 100000 100000 kf1 kf2 kg1 kg2
  obtain ⟨m3, m4⟩ := mul_bd (x := Fo.2.1) (y := Go.2.1) 100000 100000 kf3 kf4 kg3 kg4
  simp only [Int.reduceMul] at m1 m2 m3 m4
  clear c00 c01 c10 c11 s1 s2
  clear f0 f1 f2 lf
  clear g0 g1 g2 lg
  have c00 := cell_of_blk h6.p 0
  have c01 := cell_of_blk h6.p 1
  have c10 := cell_of_blk h6.q 0
  have c11 := cell_of_blk h6.q 1
  simp only [List.getElem?_toArray, List.getElem?_cons_zero, List.getElem?_cons_succ] at c00 c01 c10 c11
  have s1 := blk_lt h6.p
  have s2 := blk_lt h6.q
  have f0 := cell_of_blk bf6 0
  have f1 := cell_of_blk bf6 1
  have f2 := cell_of_blk bf6 2
  simp only [List.getElem?_toArray, List.getElem?_cons_zero, List.getElem?_cons_succ] at f0 f1 f2
  have lf := blk_lt bf6
  have g0 := cell_of_blk bg6 0
  have g1 := cell_of_blk bg6 1
  have g2 := cell_of_blk bg6 2
  simp only [List.getElem?_toArray, List.getElem?_cons_zero, List.getElem?_cons_succ] at g0 g1 g2
  have lg := blk_lt bg6
  go_wp2_with fail
  refine (on_any Fo.1 Fo.2.1 Fo.2.2 (px + px) (py + qy) 2 _ (by omega) (by omega) (by omega) (by omega) (by omega) (by omega) (by omega) (by omega) (by omega) (by omega) (by omega) (by omega) HMID.out).mono ?_
  rintro e w7 ⟨rfl, hb7⟩
  have h7 := (h6.alloc _).step hb7
  have bf7 := blk_below (blk_alloc bf6 _) hb7 (blk_lt (blk_alloc bf6 _))
  have bg7 := blk_below (blk_alloc bg6 _) hb7 (blk_lt (blk_alloc bg6 _))
  clear c00 c01 c10 c11 s1 s2
  clear f0 f1 f2 lf
  clear g0 g1 g2 lg
  have c00 := cell_of_blk h7.p 0
  have c01 := cell_of_blk h7.p 1
  have c10 := cell_of_blk h7.q 0
  have c11 := cell_of_blk h7.q 1
  simp only [List.getElem?_toArray, List.getElem?_cons_zero, List.getElem?_cons_succ] at c00 c01 c10 c11
  have s1 := blk_lt h7.p
  have s2 := blk_lt h7.q
  have f0 := cell_of_blk bf7 0
  have f1 := cell_of_blk bf7 1
  have f2 := cell_of_blk bf7 2
  simp only [List.getElem?_toArray, List.getElem?_cons_zero, List.getElem?_cons_succ] at f0 f1 f2
  have lf := blk_lt bf7
  have g0 := cell_of_blk bg7 0
  have g1 := cell_of_blk bg7 1
  have g2 := cell_of_blk bg7 2
  simp only [List.getElem?_toArray, List.getElem?_cons_zero, List.getElem?_cons_succ] at g0 g1 g2
  have lg := blk_lt bg7
  go_wp2_with fail
  refine (on_any Go.1 Go.2.1 Go.2.2 px py 1 _ (by omega) (by omega) (by omega) (by omega) (by omega) (by omega) (by omega) (by omega) (by omega) (by omega) (by omega) (by omega) HTHP.out).mono ?_
  rintro e w8 ⟨rfl, hb8⟩
  have h8 := h7.step hb8
  have bf8 := blk_below bf7 hb8 (blk_lt bf7)
  have bg8 := blk_below bg7 hb8 (blk_lt bg7)
  clear c00 c01 c10 c11 s1 s2
  clear f0 f1 f2 lf
  clear g0 g1 g2 lg
  have c00 := cell_of_blk h8.p 0
  have c01 := cell_of_blk h8.p 1
  have c10 := cell_of_blk h8.q 0
  have c11 := cell_of_blk h8.q 1
  simp only [List.getElem?_toArray, List.getElem?_cons_zero, List.getElem?_cons_succ] at c00 c01 c10 c11
  have s1 := blk_lt h8.p
  have s2 := blk_lt h8.q
  have f0 := cell_of_blk bf8 0
  have f1 := cell_of_blk bf8 1
  have f2 := cell_of_blk bf8 2
  simp only [List.getElem?_toArray, List.getElem?_cons_zero, List.getElem?_cons_succ] at f0 f1 f2
  have lf := blk_lt bf8
  have g0 := cell_of_blk bg8 0
  have g1 := cell_of_blk bg8 1
  have g2 := cell_of_blk bg8 2
  simp only [List.getElem?_toArray, List.getElem?_cons_zero, List.getElem?_cons_succ] at g0 g1 g2
  have lg := blk_lt bg8
  go_wp2_with fail
  refine (on_any Go.1 Go.2.1 Go.2.2 px qy 1 _ (by omega) (by omega) (by omega) (by omega) (by omega) (by omega) (by omega) (by omega) (by omega) (by omega) (by omega) (by omega) HTHQ.out).mono ?_
  rintro e w9 ⟨rfl, hb9⟩
  have h9 := h8.step hb9
  have bf9 := blk_below bf8 hb9 (blk_lt bf8)
  have bg9 := blk_below bg8 hb9 (blk_lt bg8)
  clear c00 c01 c10 c11 s1 s2
  clear f0 f1 f2 lf
  clear g0 g1 g2 lg
  have c00 := cell_of_blk h9.p 0
  have c01 := cell_of_blk h9.p 1
  have c10 := cell_of_blk h9.q 0
  have c11 := cell_of_blk h9.q 1
  simp only [List.getElem?_toArray, List.getElem?_cons_zero, List.getElem?_cons_succ] at c00 c01 c10 c11
  have s1 := blk_lt h9.p
  have s2 := blk_lt h9.q
  have f0 := cell_of_blk bf9 0
  have f1 := cell_of_blk bf9 1
  have f2 := cell_of_blk bf9 2
  simp only [List.getElem?_toArray, List.getElem?_cons_zero, List.getElem?_cons_succ] at f0 f1 f2
  have lf := blk_lt bf9
  have g0 := cell_of_blk bg9 0
  have g1 := cell_of_blk bg9 1
  have g2 := cell_of_blk bg9 2
  simp only [List.getElem?_toArray, List.getElem?_cons_zero, List.getElem?_cons_succ] at g0 g1 g2
  have lg := blk_lt bg9
  go_wp2
  go_ret
  exact ⟨rfl, h9.bel⟩

theorem amid_walk (x y u v : Int) (w : World) (x1 : -9223372036854775808 ≤ x) (x2 : x ≤ 9223372036854775807) (y1 : -9223372036854775808 ≤ y) (y2 : y ≤ 9223372036854775807) (u1 : -9223372036854775808 ≤ u) (u2 : u ≤ 9223372036854775807) (v1 : -9223372036854775808 ≤ v) (v2 : v ≤ 9223372036854775807) :
    Calls Try.prog 5 #[.int .i64 x, .int .i64 y, .int .i64 u, .int .i64 v] w fun e w' => e = .returned (.bool true) ∧ Below w.heap.size w w' := by
  by_cases hx : nearN x = nearN u
  · by_cases hy : nearN y = nearN v
    · exact amid_eq x y u v (nearN x) (nearN y) w x1 x2 y1 y2 u1 u2 v1 v2 (Lib.hid rfl) (Lib.hid rfl) (Lib.hid hx.symm) (Lib.hid hy.symm) (nearN_bd x) (nearN_bd y)
    · exact amid_okB x y u v (nearN x) (nearN y) (nearN v) w x1 x2 y1 y2 u1 u2 v1 v2 (Lib.hid rfl) (Lib.hid rfl) (Lib.hid hx.symm) (Lib.hid rfl) (nearN_bd x) (nearN_bd y) (nearN_bd v) hy
  · exact amid_okA x y u v (nearN x) (nearN y) (nearN u) (nearN v) w x1 x2 y1 y2 u1 u2 v1 v2 (Lib.hid rfl) (Lib.hid rfl) (Lib.hid rfl) (Lib.hid rfl) (nearN_bd x) (nearN_bd y) (nearN_bd u) (nearN_bd v) hx
end Go.Proofs.Ythfhkmgegkhljaa
