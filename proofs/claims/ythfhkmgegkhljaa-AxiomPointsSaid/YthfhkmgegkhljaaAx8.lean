/- The walk of AxiomTurns. -/
import Derived.Test.YthfhkmgegkhljaaAx7
import Derived.WalkLawsBesides
namespace Go.Proofs.Ythfhkmgegkhljaa
open Go.RowKit

/-- Three boxes: a point, a straight, a point; and nothing else has turned. -/
structure Psp (w X : World) (px py a b c qx qy : Int) : Prop where
  p : X.heap[w.heap.size]? = some (.cells #[.int .i64 px, .int .i64 py] 29 (0, 0))
  l : X.heap[w.heap.size + 1]? = some (.cells #[.int .i64 a, .int .i64 b, .int .i64 c] 40 (0, 0))
  q : X.heap[w.heap.size + 1 + 1]? = some (.cells #[.int .i64 qx, .int .i64 qy] 29 (0, 0))
  bel : Below w.heap.size w X
theorem Psp.start (w : World) (px py a b c qx qy : Int) : Psp w (psp w px py a b c qx qy) px py a b c qx qy := ⟨psp_p .., psp_l .., psp_q .., psp_below ..⟩
theorem Psp.step {w X Y : World} {px py a b c qx qy : Int} (h : Psp w X px py a b c qx qy) (hb : Below X.heap.size X Y) : Psp w Y px py a b c qx qy :=
  ⟨blk_below h.p hb (blk_lt h.p), blk_below h.l hb (blk_lt h.l), blk_below h.q hb (blk_lt h.q), h.bel.trans (hb.mono h.bel.size)⟩
theorem Psp.alloc {w X : World} {px py a b c qx qy : Int} (h : Psp w X px py a b c qx qy) (o : Obj) : Psp w (X.alloc o) px py a b c qx qy :=
  h.step ((Below.refl _ _).alloc (Nat.le_refl _) o)

set_option maxRecDepth 100000 in
set_option maxHeartbeats 1600000 in
theorem aturns_no (px py a b c qx qy : Int) (w : World) (E : Int) (hE : farE [(px, py), (qx, qy)] [(a, b, c)] = E) (hz : E ≠ 0) :
    Calls Try.prog 6 #[.agg #[.int .i64 px, .int .i64 py], .agg #[.int .i64 a, .int .i64 b, .int .i64 c], .agg #[.int .i64 qx, .int .i64 qy]] w fun e w' => e = .returned (.bool true) ∧ Below w.heap.size w w' := by
  have HE := Lib.hid hE
  have h0 := Psp.start w px py a b c qx qy
  have hneE : (E != 0) = true := by simpa using hz
  have heE : (E == 0) = false := by simpa using hz
  have HZ := Lib.hid hz
  clear hz hE
  go_enter Try.func6, Try.ntmps6
  go_wp2_with fail
  refine (turns_no px py a b c qx qy _ E HE.out HZ.out).mono ?_
  rintro e w1 ⟨rfl, hb1⟩
  have h1 := h0.step hb1
  have hr1 := (rd_lit_p2 w1 px py qx qy).alloc (.cells #[.int .i64 a, .int .i64 b, .int .i64 c] 40)
  have hr2 := rd_lit_s1 (w1.alloc (.cells #[.int .i64 px, .int .i64 py, .int .i64 qx, .int .i64 qy] 29)) a b c
  rw [World.size_alloc] at hr2
  have c00 := cell_of_blk h1.p 0
  have c01 := cell_of_blk h1.p 1
  have c10 := cell_of_blk h1.l 0
  have c11 := cell_of_blk h1.l 1
  have c12 := cell_of_blk h1.l 2
  have c20 := cell_of_blk h1.q 0
  have c21 := cell_of_blk h1.q 1
  simp only [List.getElem?_toArray, List.getElem?_cons_zero, List.getElem?_cons_succ] at c00 c01 c10 c11 c12 c20 c21
  have hs1 := blk_lt h1.p
  have hs2 := blk_lt h1.l
  have hs3 := blk_lt h1.q
  go_wp2_with fail
  refine (farMay_any _ _ 2 1 2 1 [(px, py), (qx, qy)] [(a, b, c)] _ hr1 hr2 (by decide) (by decide)).mono ?_
  rintro e w2 ⟨rfl, hb2⟩
  rw [HE.out]
  have h2 := ((h1.alloc _).alloc _).step hb2
  clear c00 c01 c10 c11 c12 c20 c21
  have c00 := cell_of_blk h2.p 0
  have c01 := cell_of_blk h2.p 1
  have c10 := cell_of_blk h2.l 0
  have c11 := cell_of_blk h2.l 1
  have c12 := cell_of_blk h2.l 2
  have c20 := cell_of_blk h2.q 0
  have c21 := cell_of_blk h2.q 1
  simp only [List.getElem?_toArray, List.getElem?_cons_zero, List.getElem?_cons_succ] at c00 c01 c10 c11 c12 c20 c21
  go_wp2
  go_ret
  exact ⟨rfl, h2.bel⟩

set_option maxRecDepth 100000 in
set_option maxHeartbeats 1600000 in
theorem aturns_eq (px py a b c : Int) (w : World) (hE : farE [(px, py), (px, py)] [(a, b, c)] = 0) :
    Calls Try.prog 6 #[.agg #[.int .i64 px, .int .i64 py], .agg #[.int .i64 a, .int .i64 b, .int .i64 c], .agg #[.int .i64 px, .int .i64 py]] w fun e w' => e = .returned (.bool true) ∧ Below w.heap.size w w' := by
  have HE := Lib.hid hE
  have h0 := Psp.start w px py a b c px py
  clear hE
  go_enter Try.func6, Try.ntmps6
  go_wp2_with fail
  refine (turns_eq px py a b c _ HE.out).mono ?_
  rintro e w1 ⟨rfl, hb1⟩
  have h1 := h0.step hb1
  have hr1 := (rd_lit_p2 w1 px py px py).alloc (.cells #[.int .i64 a, .int .i64 b, .int .i64 c] 40)
  have hr2 := rd_lit_s1 (w1.alloc (.cells #[.int .i64 px, .int .i64 py, .int .i64 px, .int .i64 py] 29)) a b c
  rw [World.size_alloc] at hr2
  have c00 := cell_of_blk h1.p 0
  have c01 := cell_of_blk h1.p 1
  have c10 := cell_of_blk h1.l 0
  have c11 := cell_of_blk h1.l 1
  have c12 := cell_of_blk h1.l 2
  have c20 := cell_of_blk h1.q 0
  have c21 := cell_of_blk h1.q 1
  simp only [List.getElem?_toArray, List.getElem?_cons_zero, List.getElem?_cons_succ] at c00 c01 c10 c11 c12 c20 c21
  have hs1 := blk_lt h1.p
  have hs2 := blk_lt h1.l
  have hs3 := blk_lt h1.q
  go_wp2_with fail
  refine (farMay_any _ _ 2 1 2 1 [(px, py), (px, py)] [(a, b, c)] _ hr1 hr2 (by decide) (by decide)).mono ?_
  rintro e w2 ⟨rfl, hb2⟩
  rw [HE.out]
  have h2 := ((h1.alloc _).alloc _).step hb2
  clear c00 c01 c10 c11 c12 c20 c21
  have c00 := cell_of_blk h2.p 0
  have c01 := cell_of_blk h2.p 1
  have c10 := cell_of_blk h2.l 0
  have c11 := cell_of_blk h2.l 1
  have c12 := cell_of_blk h2.l 2
  have c20 := cell_of_blk h2.q 0
  have c21 := cell_of_blk h2.q 1
  simp only [List.getElem?_toArray, List.getElem?_cons_zero, List.getElem?_cons_succ] at c00 c01 c10 c11 c12 c20 c21
  go_wp2
  go_ret
  exact ⟨rfl, h2.bel⟩

set_option maxRecDepth 100000 in
set_option maxHeartbeats 1600000 in
theorem aturns_okA (px py a b c qx qy : Int) (w : World) (hE : farE [(px, py), (qx, qy)] [(a, b, c)] = 0) (hx : ¬ px = qx) :
    Calls Try.prog 6 #[.agg #[.int .i64 px, .int .i64 py], .agg #[.int .i64 a, .int .i64 b, .int .i64 c], .agg #[.int .i64 qx, .int .i64 qy]] w fun e w' => e = .returned (.bool true) ∧ Below w.heap.size w w' := by
  have HE := Lib.hid hE
  have h0 := Psp.start w px py a b c qx qy
  have HX := Lib.hid hx
  clear hE
  go_enter Try.func6, Try.ntmps6
  go_wp2_with fail
  refine (turns_okA px py a b c qx qy _ HE.out HX.out).mono ?_
  rintro e w1 ⟨rfl, hb1⟩
  have h1 := h0.step hb1
  have hr1 := (rd_lit_p2 w1 px py qx qy).alloc (.cells #[.int .i64 a, .int .i64 b, .int .i64 c] 40)
  have hr2 := rd_lit_s1 (w1.alloc (.cells #[.int .i64 px, .int .i64 py, .int .i64 qx, .int .i64 qy] 29)) a b c
  rw [World.size_alloc] at hr2
  have c00 := cell_of_blk h1.p 0
  have c01 := cell_of_blk h1.p 1
  have c10 := cell_of_blk h1.l 0
  have c11 := cell_of_blk h1.l 1
  have c12 := cell_of_blk h1.l 2
  have c20 := cell_of_blk h1.q 0
  have c21 := cell_of_blk h1.q 1
  simp only [List.getElem?_toArray, List.getElem?_cons_zero, List.getElem?_cons_succ] at c00 c01 c10 c11 c12 c20 c21
  have hs1 := blk_lt h1.p
  have hs2 := blk_lt h1.l
  have hs3 := blk_lt h1.q
  go_wp2_with fail
  refine (farMay_any _ _ 2 1 2 1 [(px, py), (qx, qy)] [(a, b, c)] _ hr1 hr2 (by decide) (by decide)).mono ?_
  rintro e w2 ⟨rfl, hb2⟩
  rw [HE.out]
  have h2 := ((h1.alloc _).alloc _).step hb2
  clear c00 c01 c10 c11 c12 c20 c21
  have c00 := cell_of_blk h2.p 0
  have c01 := cell_of_blk h2.p 1
  have c10 := cell_of_blk h2.l 0
  have c11 := cell_of_blk h2.l 1
  have c12 := cell_of_blk h2.l 2
  have c20 := cell_of_blk h2.q 0
  have c21 := cell_of_blk h2.q 1
  simp only [List.getElem?_toArray, List.getElem?_cons_zero, List.getElem?_cons_succ] at c00 c01 c10 c11 c12 c20 c21
  go_wp2_with fail
  refine (turnsOf_ok px py a b c qx qy _ HE.out).mono ?_
  rintro e w3 ⟨rfl, hb3⟩
  have h3 := h2.step hb3
  clear c00 c01 c10 c11 c12 c20 c21
  go_wp2
  go_ret
  exact ⟨by simp, h3.bel⟩

set_option maxRecDepth 100000 in
set_option maxHeartbeats 1600000 in
theorem aturns_okB (px py a b c qy : Int) (w : World) (hE : farE [(px, py), (px, qy)] [(a, b, c)] = 0) (hy : ¬ py = qy) :
    Calls Try.prog 6 #[.agg #[.int .i64 px, .int .i64 py], .agg #[.int .i64 a, .int .i64 b, .int .i64 c], .agg #[.int .i64 px, .int .i64 qy]] w fun e w' => e = .returned (.bool true) ∧ Below w.heap.size w w' := by
  have HE := Lib.hid hE
  have h0 := Psp.start w px py a b c px qy
  have HY := Lib.hid hy
  clear hE
  go_enter Try.func6, Try.ntmps6
  go_wp2_with fail
  refine (turns_okB px py a b c qy _ HE.out HY.out).mono ?_
  rintro e w1 ⟨rfl, hb1⟩
  have h1 := h0.step hb1
  have hr1 := (rd_lit_p2 w1 px py px qy).alloc (.cells #[.int .i64 a, .int .i64 b, .int .i64 c] 40)
  have hr2 := rd_lit_s1 (w1.alloc (.cells #[.int .i64 px, .int .i64 py, .int .i64 px, .int .i64 qy] 29)) a b c
  rw [World.size_alloc] at hr2
  have c00 := cell_of_blk h1.p 0
  have c01 := cell_of_blk h1.p 1
  have c10 := cell_of_blk h1.l 0
  have c11 := cell_of_blk h1.l 1
  have c12 := cell_of_blk h1.l 2
  have c20 := cell_of_blk h1.q 0
  have c21 := cell_of_blk h1.q 1
  simp only [List.getElem?_toArray, List.getElem?_cons_zero, List.getElem?_cons_succ] at c00 c01 c10 c11 c12 c20 c21
  have hs1 := blk_lt h1.p
  have hs2 := blk_lt h1.l
  have hs3 := blk_lt h1.q
  go_wp2_with fail
  refine (farMay_any _ _ 2 1 2 1 [(px, py), (px, qy)] [(a, b, c)] _ hr1 hr2 (by decide) (by decide)).mono ?_
  rintro e w2 ⟨rfl, hb2⟩
  rw [HE.out]
  have h2 := ((h1.alloc _).alloc _).step hb2
  clear c00 c01 c10 c11 c12 c20 c21
  have c00 := cell_of_blk h2.p 0
  have c01 := cell_of_blk h2.p 1
  have c10 := cell_of_blk h2.l 0
  have c11 := cell_of_blk h2.l 1
  have c12 := cell_of_blk h2.l 2
  have c20 := cell_of_blk h2.q 0
  have c21 := cell_of_blk h2.q 1
  simp only [List.getElem?_toArray, List.getElem?_cons_zero, List.getElem?_cons_succ] at c00 c01 c10 c11 c12 c20 c21
  go_wp2_with fail
  refine (turnsOf_ok px py a b c px qy _ HE.out).mono ?_
  rintro e w3 ⟨rfl, hb3⟩
  have h3 := h2.step hb3
  clear c00 c01 c10 c11 c12 c20 c21
  go_wp2
  go_ret
  exact ⟨by simp, h3.bel⟩

theorem aturns_walk (px py a b c qx qy : Int) (w : World) :
    Calls Try.prog 6 #[.agg #[.int .i64 px, .int .i64 py], .agg #[.int .i64 a, .int .i64 b, .int .i64 c], .agg #[.int .i64 qx, .int .i64 qy]] w fun e w' => e = .returned (.bool true) ∧ Below w.heap.size w w' := by
  by_cases hE : farE [(px, py), (qx, qy)] [(a, b, c)] = 0
  · by_cases hx : px = qx
    · subst hx
      by_cases hy : py = qy
      · subst hy; exact aturns_eq px py a b c w hE
      · exact aturns_okB px py a b c qy w hE hy
    · exact aturns_okA px py a b c qx qy w hE hx
  · exact aturns_no px py a b c qx qy w _ rfl hE
end Go.Proofs.Ythfhkmgegkhljaa
