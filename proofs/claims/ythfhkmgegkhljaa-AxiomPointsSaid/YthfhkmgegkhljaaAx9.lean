/- The walk of AxiomPoints. Printed by gen_ax9.py. -/
import Derived.Test.YthfhkmgegkhljaaAx6
import Derived.Test.YthfhkmgegkhljaaAx8
import Derived.Deep.RegionHeld3
namespace Go.Proofs.Ythfhkmgegkhljaa
open Go.RowKit

theorem stay_c {B : Nat} {w w' : World} {a : Addr} {v : Value} (h : w.cell? a = some v) (hb : Below B w w') (hB : w.heap.size ≤ B) : w'.cell? a = some v :=
  (hb.cell (by have := World.block_lt_of_cell? w _ h; omega)).trans h

theorem stay_b {v w w' : World} (h : Below v.heap.size v w) (hb : Below w.heap.size w w') : Below v.heap.size v w' := h.trans (hb.mono h.size)

/-- Two points and a straight in boxes; nothing else has turned. -/
structure Ppl (w X : World) (px py qx qy a b c : Int) : Prop where
  p : X.heap[w.heap.size]? = some (.cells #[.int .i64 px, .int .i64 py] 29 (0, 0))
  q : X.heap[w.heap.size + 1]? = some (.cells #[.int .i64 qx, .int .i64 qy] 29 (0, 0))
  l : X.heap[w.heap.size + 1 + 1]? = some (.cells #[.int .i64 a, .int .i64 b, .int .i64 c] 40 (0, 0))
  bel : Below w.heap.size w X
def ppl (w : World) (px py qx qy a b c : Int) : World := ((w.alloc (.cells #[.int .i64 px, .int .i64 py] 29)).alloc (.cells #[.int .i64 qx, .int .i64 qy] 29)).alloc (.cells #[.int .i64 a, .int .i64 b, .int .i64 c] 40)
theorem Ppl.start (w : World) (px py qx qy a b c : Int) : Ppl w (ppl w px py qx qy a b c) px py qx qy a b c := by
  refine ⟨blk_alloc (blk_alloc (heap_alloc_new w _) _) _, ?_, ?_, (((Below.refl _ _).alloc (Nat.le_refl _) _).alloc (by simp) _).alloc (by simp; omega) _⟩
  · have h := heap_alloc_new (w.alloc (.cells #[.int .i64 px, .int .i64 py] 29)) (.cells #[.int .i64 qx, .int .i64 qy] 29)
    rw [World.size_alloc] at h
    exact blk_alloc h _
  · have h := heap_alloc_new ((w.alloc (.cells #[.int .i64 px, .int .i64 py] 29)).alloc (.cells #[.int .i64 qx, .int .i64 qy] 29)) (.cells #[.int .i64 a, .int .i64 b, .int .i64 c] 40)
    rw [World.size_alloc, World.size_alloc] at h
    exact h
theorem Ppl.step {w X Y : World} {px py qx qy a b c : Int} (h : Ppl w X px py qx qy a b c) (hb : Below X.heap.size X Y) : Ppl w Y px py qx qy a b c :=
  ⟨blk_below h.p hb (blk_lt h.p), blk_below h.q hb (blk_lt h.q), blk_below h.l hb (blk_lt h.l), h.bel.trans (hb.mono h.bel.size)⟩
theorem Ppl.alloc {w X : World} {px py qx qy a b c : Int} (h : Ppl w X px py qx qy a b c) (o : Obj) : Ppl w (X.alloc o) px py qx qy a b c :=
  h.step ((Below.refl _ _).alloc (Nat.le_refl _) o)

/-- A straight's box, made and filled. -/
def put3 (X : World) (S : V3) : World := X.alloc (.cells #[.int .i64 S.1, .int .i64 S.2.1, .int .i64 S.2.2] 40)
theorem put3_blk (X : World) (S : V3) : (put3 X S).heap[X.heap.size]? = some (.cells #[.int .i64 S.1, .int .i64 S.2.1, .int .i64 S.2.2] 40 (0, 0)) := heap_alloc_new X _
theorem put3_below (X : World) (S : V3) : Below X.heap.size X (put3 X S) := (Below.refl _ _).alloc (Nat.le_refl _) _

set_option maxRecDepth 100000 in
set_option maxHeartbeats 3200000 in
theorem apts_no_no (px py qx qy a b c : Int) (w : World) (E : Int) (hE : farE [(px, py), (qx, qy)] [] = E) (h0 : E ≠ 0) (E2 : Int) (hE2 : farE [(px, py)] [(a, b, c)] = E2) (h2 : E2 ≠ 0) :
    Calls Try.prog 7 #[.agg #[.int .i64 px, .int .i64 py], .agg #[.int .i64 qx, .int .i64 qy], .agg #[.int .i64 a, .int .i64 b, .int .i64 c]] w fun e w' => e = .returned (.bool true) ∧ Below w.heap.size w w' := by
  have HE := Lib.hid hE
  have HE2 := Lib.hid hE2
  clear hE hE2
  have H0 := Lib.hid h0
  have hneE : (E != 0) = true := by simpa using h0
  have heE : (E == 0) = false := by simpa using h0
  clear h0
  have H2 := Lib.hid h2
  have hneE2 : (E2 != 0) = true := by simpa using h2
  clear h2
  have h0' := Ppl.start w px py qx qy a b c
  go_enter Try.func7, Try.ntmps7
  go_wp2_with fail
  refine (through_no px py qx qy _ _ HE.out H0.out).mono ?_
  rintro e w1 ⟨he, hb1⟩
  subst he
  have h1 := h0'.step hb1
  have c00 := cell_of_blk h1.p 0
  have c01 := cell_of_blk h1.p 1
  have c10 := cell_of_blk h1.q 0
  have c11 := cell_of_blk h1.q 1
  have c20 := cell_of_blk h1.l 0
  have c21 := cell_of_blk h1.l 1
  have c22 := cell_of_blk h1.l 2
  simp only [List.getElem?_toArray, List.getElem?_cons_zero, List.getElem?_cons_succ] at c00 c01 c10 c11 c20 c21 c22
  have s1 := blk_lt h1.p
  have s2 := blk_lt h1.q
  have s3 := blk_lt h1.l
  go_wp2_with fail
  refine (onto_no px py qx qy _ _ HE.out H0.out).mono ?_
  rintro e w2 ⟨he, hb2⟩
  subst he
  have h2 := (h1.alloc _).step hb2
  have ba2 := blk_below (heap_alloc_new w1 (.cells #[.int .i64 0, .int .i64 0, .int .i64 0] 40)) hb2 (by simp)
  clear c00 c01 c10 c11 c20 c21 c22 s1 s2 s3
  have c00 := cell_of_blk h2.p 0
  have c01 := cell_of_blk h2.p 1
  have c10 := cell_of_blk h2.q 0
  have c11 := cell_of_blk h2.q 1
  have c20 := cell_of_blk h2.l 0
  have c21 := cell_of_blk h2.l 1
  have c22 := cell_of_blk h2.l 2
  simp only [List.getElem?_toArray, List.getElem?_cons_zero, List.getElem?_cons_succ] at c00 c01 c10 c11 c20 c21 c22
  have s1 := blk_lt h2.p
  have s2 := blk_lt h2.q
  have s3 := blk_lt h2.l
  have a0 := cell_of_blk ba2 0
  have a1 := cell_of_blk ba2 1
  have a2 := cell_of_blk ba2 2
  simp only [List.getElem?_toArray, List.getElem?_cons_zero, List.getElem?_cons_succ] at a0 a1 a2
  have la := blk_lt ba2
  go_wp2_with fail
  refine (upright_no a b c px py _ _ HE2.out H2.out).mono ?_
  rintro e w3 ⟨he, hb3⟩
  subst he
  have h3 := (h2.alloc _).step hb3
  have ba3 := blk_below (blk_alloc ba2 _) hb3 (blk_lt (blk_alloc ba2 _))
  have bb3 := blk_below (heap_alloc_new w2 (.cells #[.int .i64 0, .int .i64 0, .int .i64 0] 40)) hb3 (by simp)
  clear c00 c01 c10 c11 c20 c21 c22 s1 s2 s3
  clear a0 a1 a2 la
  have c00 := cell_of_blk h3.p 0
  have c01 := cell_of_blk h3.p 1
  have c10 := cell_of_blk h3.q 0
  have c11 := cell_of_blk h3.q 1
  have c20 := cell_of_blk h3.l 0
  have c21 := cell_of_blk h3.l 1
  have c22 := cell_of_blk h3.l 2
  simp only [List.getElem?_toArray, List.getElem?_cons_zero, List.getElem?_cons_succ] at c00 c01 c10 c11 c20 c21 c22
  have s1 := blk_lt h3.p
  have s2 := blk_lt h3.q
  have s3 := blk_lt h3.l
  have a0 := cell_of_blk ba3 0
  have a1 := cell_of_blk ba3 1
  have a2 := cell_of_blk ba3 2
  simp only [List.getElem?_toArray, List.getElem?_cons_zero, List.getElem?_cons_succ] at a0 a1 a2
  have la := blk_lt ba3
  have b0 := cell_of_blk bb3 0
  have b1 := cell_of_blk bb3 1
  have b2 := cell_of_blk bb3 2
  simp only [List.getElem?_toArray, List.getElem?_cons_zero, List.getElem?_cons_succ] at b0 b1 b2
  have lb := blk_lt bb3
  have hr1 := rd_lit_p2 ((w3.alloc (.cells #[.int .i64 0, .int .i64 0, .int .i64 0] 40)).alloc (.cells #[.int .i64 0, .int .i64 0, .int .i64 0] 40)) px py qx qy
  rw [World.size_alloc, World.size_alloc] at hr1
  go_wp2_with fail
  refine (farMay_any _ none 2 0 2 0 [(px, py), (qx, qy)] [] _ hr1 Rd.nil (by decide) (by decide)).mono ?_
  rintro e w4 ⟨rfl, hb4⟩
  rw [HE.out]
  have h4 := (((h3.alloc _).alloc _).alloc _).step hb4
  have ba4 := blk_below (blk_alloc (blk_alloc (blk_alloc ba3 _) _) _) hb4 (blk_lt (blk_alloc (blk_alloc (blk_alloc ba3 _) _) _))
  have bb4 := blk_below (blk_alloc (blk_alloc (blk_alloc bb3 _) _) _) hb4 (blk_lt (blk_alloc (blk_alloc (blk_alloc bb3 _) _) _))
  have hn := heap_alloc_new w3 (.cells #[.int .i64 0, .int .i64 0, .int .i64 0] 40)
  have bc4 := blk_below (blk_alloc (blk_alloc hn _) _) hb4 (blk_lt (blk_alloc (blk_alloc hn _) _))
  have hz := heap_alloc_new (w3.alloc (.cells #[.int .i64 0, .int .i64 0, .int .i64 0] 40)) (.cells #[.int .i64 0, .int .i64 0, .int .i64 0] 40)
  rw [World.size_alloc] at hz
  have bz4 := blk_below (blk_alloc hz _) hb4 (blk_lt (blk_alloc hz _))
  clear c00 c01 c10 c11 c20 c21 c22 s1 s2 s3
  clear a0 a1 a2 la
  clear b0 b1 b2 lb
  have c00 := cell_of_blk h4.p 0
  have c01 := cell_of_blk h4.p 1
  have c10 := cell_of_blk h4.q 0
  have c11 := cell_of_blk h4.q 1
  have c20 := cell_of_blk h4.l 0
  have c21 := cell_of_blk h4.l 1
  have c22 := cell_of_blk h4.l 2
  simp only [List.getElem?_toArray, List.getElem?_cons_zero, List.getElem?_cons_succ] at c00 c01 c10 c11 c20 c21 c22
  have s1 := blk_lt h4.p
  have s2 := blk_lt h4.q
  have s3 := blk_lt h4.l
  have a0 := cell_of_blk ba4 0
  have a1 := cell_of_blk ba4 1
  have a2 := cell_of_blk ba4 2
  simp only [List.getElem?_toArray, List.getElem?_cons_zero, List.getElem?_cons_succ] at a0 a1 a2
  have la := blk_lt ba4
  have b0 := cell_of_blk bb4 0
  have b1 := cell_of_blk bb4 1
  have b2 := cell_of_blk bb4 2
  simp only [List.getElem?_toArray, List.getElem?_cons_zero, List.getElem?_cons_succ] at b0 b1 b2
  have lb := blk_lt bb4
  have c0 := cell_of_blk bc4 0
  have c1 := cell_of_blk bc4 1
  have c2 := cell_of_blk bc4 2
  simp only [List.getElem?_toArray, List.getElem?_cons_zero, List.getElem?_cons_succ] at c0 c1 c2
  have lc := blk_lt bc4
  have z0 := cell_of_blk bz4 0
  have z1 := cell_of_blk bz4 1
  have z2 := cell_of_blk bz4 2
  simp only [List.getElem?_toArray, List.getElem?_cons_zero, List.getElem?_cons_succ] at z0 z1 z2
  have lz := blk_lt bz4
  go_wp2_with fail
  have hr2 := (rd_lit_p1 w4 px py).alloc (.cells #[.int .i64 a, .int .i64 b, .int .i64 c] 40)
  have hr3 := rd_lit_s1 (w4.alloc (.cells #[.int .i64 px, .int .i64 py] 29)) a b c
  rw [World.size_alloc] at hr3
  refine (farMay_any _ _ 1 1 1 1 [(px, py)] [(a, b, c)] _ hr2 hr3 (by decide) (by decide)).mono ?_
  rintro e w7 ⟨rfl, hb7⟩
  rw [HE2.out]
  have h7 := ((h4.alloc _).alloc _).step hb7
  have bc7 := blk_below (blk_alloc (blk_alloc bc4 _) _) hb7 (blk_lt (blk_alloc (blk_alloc bc4 _) _))
  have bz7 := blk_below (blk_alloc (blk_alloc bz4 _) _) hb7 (blk_lt (blk_alloc (blk_alloc bz4 _) _))
  clear c00 c01 c10 c11 c20 c21 c22 s1 s2 s3
  clear a0 a1 a2 la
  clear b0 b1 b2 lb
  clear c0 c1 c2 lc
  clear z0 z1 z2 lz
  have c00 := cell_of_blk h7.p 0
  have c01 := cell_of_blk h7.p 1
  have c10 := cell_of_blk h7.q 0
  have c11 := cell_of_blk h7.q 1
  have c20 := cell_of_blk h7.l 0
  have c21 := cell_of_blk h7.l 1
  have c22 := cell_of_blk h7.l 2
  simp only [List.getElem?_toArray, List.getElem?_cons_zero, List.getElem?_cons_succ] at c00 c01 c10 c11 c20 c21 c22
  have s1 := blk_lt h7.p
  have s2 := blk_lt h7.q
  have s3 := blk_lt h7.l
  have c0 := cell_of_blk bc7 0
  have c1 := cell_of_blk bc7 1
  have c2 := cell_of_blk bc7 2
  simp only [List.getElem?_toArray, List.getElem?_cons_zero, List.getElem?_cons_succ] at c0 c1 c2
  have lc := blk_lt bc7
  have z0 := cell_of_blk bz7 0
  have z1 := cell_of_blk bz7 1
  have z2 := cell_of_blk bz7 2
  simp only [List.getElem?_toArray, List.getElem?_cons_zero, List.getElem?_cons_succ] at z0 z1 z2
  have lz := blk_lt bz7
  go_wp2
  go_ret
  exact ⟨rfl, h7.bel⟩

set_option maxRecDepth 100000 in
set_option maxHeartbeats 3200000 in
theorem apts_no_ok (px py qx qy a b c : Int) (w : World) (E : Int) (hE : farE [(px, py), (qx, qy)] [] = E) (h0 : E ≠ 0) (hE2 : farE [(px, py)] [(a, b, c)] = 0) :
    Calls Try.prog 7 #[.agg #[.int .i64 px, .int .i64 py], .agg #[.int .i64 qx, .int .i64 qy], .agg #[.int .i64 a, .int .i64 b, .int .i64 c]] w fun e w' => e = .returned (.bool true) ∧ Below w.heap.size w w' := by
  have HE := Lib.hid hE
  have HE2 := Lib.hid hE2
  clear hE hE2
  have H0 := Lib.hid h0
  have hneE : (E != 0) = true := by simpa using h0
  have heE : (E == 0) = false := by simpa using h0
  clear h0
  have h0' := Ppl.start w px py qx qy a b c
  go_enter Try.func7, Try.ntmps7
  go_wp2_with fail
  refine (through_no px py qx qy _ _ HE.out H0.out).mono ?_
  rintro e w1 ⟨he, hb1⟩
  subst he
  have h1 := h0'.step hb1
  have c00 := cell_of_blk h1.p 0
  have c01 := cell_of_blk h1.p 1
  have c10 := cell_of_blk h1.q 0
  have c11 := cell_of_blk h1.q 1
  have c20 := cell_of_blk h1.l 0
  have c21 := cell_of_blk h1.l 1
  have c22 := cell_of_blk h1.l 2
  simp only [List.getElem?_toArray, List.getElem?_cons_zero, List.getElem?_cons_succ] at c00 c01 c10 c11 c20 c21 c22
  have s1 := blk_lt h1.p
  have s2 := blk_lt h1.q
  have s3 := blk_lt h1.l
  go_wp2_with fail
  refine (onto_no px py qx qy _ _ HE.out H0.out).mono ?_
  rintro e w2 ⟨he, hb2⟩
  subst he
  have h2 := (h1.alloc _).step hb2
  have ba2 := blk_below (heap_alloc_new w1 (.cells #[.int .i64 0, .int .i64 0, .int .i64 0] 40)) hb2 (by simp)
  clear c00 c01 c10 c11 c20 c21 c22 s1 s2 s3
  have c00 := cell_of_blk h2.p 0
  have c01 := cell_of_blk h2.p 1
  have c10 := cell_of_blk h2.q 0
  have c11 := cell_of_blk h2.q 1
  have c20 := cell_of_blk h2.l 0
  have c21 := cell_of_blk h2.l 1
  have c22 := cell_of_blk h2.l 2
  simp only [List.getElem?_toArray, List.getElem?_cons_zero, List.getElem?_cons_succ] at c00 c01 c10 c11 c20 c21 c22
  have s1 := blk_lt h2.p
  have s2 := blk_lt h2.q
  have s3 := blk_lt h2.l
  have a0 := cell_of_blk ba2 0
  have a1 := cell_of_blk ba2 1
  have a2 := cell_of_blk ba2 2
  simp only [List.getElem?_toArray, List.getElem?_cons_zero, List.getElem?_cons_succ] at a0 a1 a2
  have la := blk_lt ba2
  go_wp2_with fail
  refine (upright_ok a b c px py _ HE2.out).mono ?_
  rintro e w3 ⟨he, hb3⟩
  obtain ⟨C, eC⟩ : ∃ S, S = formS b (-a) (b * px - a * py) := ⟨_, rfl⟩
  rw [← eC] at he
  have HC := Lib.hid eC
  clear eC
  subst he
  have h3 := (h2.alloc _).step hb3
  have ba3 := blk_below (blk_alloc ba2 _) hb3 (blk_lt (blk_alloc ba2 _))
  have bb3 := blk_below (heap_alloc_new w2 (.cells #[.int .i64 0, .int .i64 0, .int .i64 0] 40)) hb3 (by simp)
  clear c00 c01 c10 c11 c20 c21 c22 s1 s2 s3
  clear a0 a1 a2 la
  have c00 := cell_of_blk h3.p 0
  have c01 := cell_of_blk h3.p 1
  have c10 := cell_of_blk h3.q 0
  have c11 := cell_of_blk h3.q 1
  have c20 := cell_of_blk h3.l 0
  have c21 := cell_of_blk h3.l 1
  have c22 := cell_of_blk h3.l 2
  simp only [List.getElem?_toArray, List.getElem?_cons_zero, List.getElem?_cons_succ] at c00 c01 c10 c11 c20 c21 c22
  have s1 := blk_lt h3.p
  have s2 := blk_lt h3.q
  have s3 := blk_lt h3.l
  have a0 := cell_of_blk ba3 0
  have a1 := cell_of_blk ba3 1
  have a2 := cell_of_blk ba3 2
  simp only [List.getElem?_toArray, List.getElem?_cons_zero, List.getElem?_cons_succ] at a0 a1 a2
  have la := blk_lt ba3
  have b0 := cell_of_blk bb3 0
  have b1 := cell_of_blk bb3 1
  have b2 := cell_of_blk bb3 2
  simp only [List.getElem?_toArray, List.getElem?_cons_zero, List.getElem?_cons_succ] at b0 b1 b2
  have lb := blk_lt bb3
  have hr1 := rd_lit_p2 ((w3.alloc (.cells #[.int .i64 C.1, .int .i64 C.2.1, .int .i64 C.2.2] 40)).alloc (.cells #[.int .i64 0, .int .i64 0, .int .i64 0] 40)) px py qx qy
  rw [World.size_alloc, World.size_alloc] at hr1
  go_wp2_with fail
  refine (farMay_any _ none 2 0 2 0 [(px, py), (qx, qy)] [] _ hr1 Rd.nil (by decide) (by decide)).mono ?_
  rintro e w4 ⟨rfl, hb4⟩
  rw [HE.out]
  have h4 := (((h3.alloc _).alloc _).alloc _).step hb4
  have ba4 := blk_below (blk_alloc (blk_alloc (blk_alloc ba3 _) _) _) hb4 (blk_lt (blk_alloc (blk_alloc (blk_alloc ba3 _) _) _))
  have bb4 := blk_below (blk_alloc (blk_alloc (blk_alloc bb3 _) _) _) hb4 (blk_lt (blk_alloc (blk_alloc (blk_alloc bb3 _) _) _))
  have hn := heap_alloc_new w3 (.cells #[.int .i64 C.1, .int .i64 C.2.1, .int .i64 C.2.2] 40)
  have bc4 := blk_below (blk_alloc (blk_alloc hn _) _) hb4 (blk_lt (blk_alloc (blk_alloc hn _) _))
  have hz := heap_alloc_new (w3.alloc (.cells #[.int .i64 C.1, .int .i64 C.2.1, .int .i64 C.2.2] 40)) (.cells #[.int .i64 0, .int .i64 0, .int .i64 0] 40)
  rw [World.size_alloc] at hz
  have bz4 := blk_below (blk_alloc hz _) hb4 (blk_lt (blk_alloc hz _))
  clear c00 c01 c10 c11 c20 c21 c22 s1 s2 s3
  clear a0 a1 a2 la
  clear b0 b1 b2 lb
  have c00 := cell_of_blk h4.p 0
  have c01 := cell_of_blk h4.p 1
  have c10 := cell_of_blk h4.q 0
  have c11 := cell_of_blk h4.q 1
  have c20 := cell_of_blk h4.l 0
  have c21 := cell_of_blk h4.l 1
  have c22 := cell_of_blk h4.l 2
  simp only [List.getElem?_toArray, List.getElem?_cons_zero, List.getElem?_cons_succ] at c00 c01 c10 c11 c20 c21 c22
  have s1 := blk_lt h4.p
  have s2 := blk_lt h4.q
  have s3 := blk_lt h4.l
  have a0 := cell_of_blk ba4 0
  have a1 := cell_of_blk ba4 1
  have a2 := cell_of_blk ba4 2
  simp only [List.getElem?_toArray, List.getElem?_cons_zero, List.getElem?_cons_succ] at a0 a1 a2
  have la := blk_lt ba4
  have b0 := cell_of_blk bb4 0
  have b1 := cell_of_blk bb4 1
  have b2 := cell_of_blk bb4 2
  simp only [List.getElem?_toArray, List.getElem?_cons_zero, List.getElem?_cons_succ] at b0 b1 b2
  have lb := blk_lt bb4
  have c0 := cell_of_blk bc4 0
  have c1 := cell_of_blk bc4 1
  have c2 := cell_of_blk bc4 2
  simp only [List.getElem?_toArray, List.getElem?_cons_zero, List.getElem?_cons_succ] at c0 c1 c2
  have lc := blk_lt bc4
  have z0 := cell_of_blk bz4 0
  have z1 := cell_of_blk bz4 1
  have z2 := cell_of_blk bz4 2
  simp only [List.getElem?_toArray, List.getElem?_cons_zero, List.getElem?_cons_succ] at z0 z1 z2
  have lz := blk_lt bz4
  go_wp2_with fail
  have hr2 := (rd_lit_p1 w4 px py).alloc (.cells #[.int .i64 a, .int .i64 b, .int .i64 c] 40)
  have hr3 := rd_lit_s1 (w4.alloc (.cells #[.int .i64 px, .int .i64 py] 29)) a b c
  rw [World.size_alloc] at hr3
  refine (farMay_any _ _ 1 1 1 1 [(px, py)] [(a, b, c)] _ hr2 hr3 (by decide) (by decide)).mono ?_
  rintro e w7 ⟨rfl, hb7⟩
  rw [HE2.out]
  have h7 := ((h4.alloc _).alloc _).step hb7
  have bc7 := blk_below (blk_alloc (blk_alloc bc4 _) _) hb7 (blk_lt (blk_alloc (blk_alloc bc4 _) _))
  have bz7 := blk_below (blk_alloc (blk_alloc bz4 _) _) hb7 (blk_lt (blk_alloc (blk_alloc bz4 _) _))
  clear c00 c01 c10 c11 c20 c21 c22 s1 s2 s3
  clear a0 a1 a2 la
  clear b0 b1 b2 lb
  clear c0 c1 c2 lc
  clear z0 z1 z2 lz
  have c00 := cell_of_blk h7.p 0
  have c01 := cell_of_blk h7.p 1
  have c10 := cell_of_blk h7.q 0
  have c11 := cell_of_blk h7.q 1
  have c20 := cell_of_blk h7.l 0
  have c21 := cell_of_blk h7.l 1
  have c22 := cell_of_blk h7.l 2
  simp only [List.getElem?_toArray, List.getElem?_cons_zero, List.getElem?_cons_succ] at c00 c01 c10 c11 c20 c21 c22
  have s1 := blk_lt h7.p
  have s2 := blk_lt h7.q
  have s3 := blk_lt h7.l
  have c0 := cell_of_blk bc7 0
  have c1 := cell_of_blk bc7 1
  have c2 := cell_of_blk bc7 2
  simp only [List.getElem?_toArray, List.getElem?_cons_zero, List.getElem?_cons_succ] at c0 c1 c2
  have lc := blk_lt bc7
  have z0 := cell_of_blk bz7 0
  have z1 := cell_of_blk bz7 1
  have z2 := cell_of_blk bz7 2
  simp only [List.getElem?_toArray, List.getElem?_cons_zero, List.getElem?_cons_succ] at z0 z1 z2
  have lz := blk_lt bz7
  go_wp2_with fail
  have bel7 : Below w7.heap.size w7 w7.drew := (Below.refl _ _).drew
  go_region_held3 (fun w' => w'.cell? ⟨w.heap.size, 0, none⟩ = some (.int .i64 px) ∧ w'.cell? ⟨w.heap.size, 1, none⟩ = some (.int .i64 py) ∧ w'.cell? ⟨w.heap.size + 1 + 1, 0, none⟩ = some (.int .i64 a) ∧ w'.cell? ⟨w.heap.size + 1 + 1, 1, none⟩ = some (.int .i64 b) ∧ w'.cell? ⟨w.heap.size + 1 + 1, 2, none⟩ = some (.int .i64 c) ∧ w'.cell? ⟨w3.heap.size, 0, none⟩ = some (.int .i64 C.1) ∧ w'.cell? ⟨w3.heap.size, 1, none⟩ = some (.int .i64 C.2.1) ∧ w'.cell? ⟨w3.heap.size, 2, none⟩ = some (.int .i64 C.2.2) ∧ Below w7.heap.size w7 w')
    (first
      | go_keep
      | (go_split_ands
         exact ⟨stay_c ‹_› hbc (Nat.le_refl _), stay_c ‹_› hbc (Nat.le_refl _), stay_c ‹_› hbc (Nat.le_refl _), stay_c ‹_› hbc (Nat.le_refl _), stay_c ‹_› hbc (Nat.le_refl _), stay_c ‹_› hbc (Nat.le_refl _), stay_c ‹_› hbc (Nat.le_refl _), stay_c ‹_› hbc (Nat.le_refl _), stay_b ‹_› hbc⟩))
    ((refine (uprightOf_ok a b c px py _ HE2.out).mono ?_; rintro e wc ⟨he, hbc⟩; rw [← HC.out] at he; subst he))
  all_goals
    go_wp2
    go_ret
    rename_i hH
    obtain ⟨_, _, _, _, _, _, _, _, bel9⟩ := hH
    exact ⟨by simp, (h7.step bel9).bel⟩

set_option maxRecDepth 100000 in
set_option maxHeartbeats 3200000 in
theorem apts_eq_no (px py a b c : Int) (w : World) (hE : farE [(px, py), (px, py)] [] = 0) (E2 : Int) (hE2 : farE [(px, py)] [(a, b, c)] = E2) (h2 : E2 ≠ 0) :
    Calls Try.prog 7 #[.agg #[.int .i64 px, .int .i64 py], .agg #[.int .i64 px, .int .i64 py], .agg #[.int .i64 a, .int .i64 b, .int .i64 c]] w fun e w' => e = .returned (.bool true) ∧ Below w.heap.size w w' := by
  have HE := Lib.hid hE
  have HE2 := Lib.hid hE2
  clear hE hE2
  have H2 := Lib.hid h2
  have hneE2 : (E2 != 0) = true := by simpa using h2
  clear h2
  have h0' := Ppl.start w px py px py a b c
  go_enter Try.func7, Try.ntmps7
  go_wp2_with fail
  refine (through_eq px py _ HE.out).mono ?_
  rintro e w1 ⟨he, hb1⟩
  subst he
  have h1 := h0'.step hb1
  have c00 := cell_of_blk h1.p 0
  have c01 := cell_of_blk h1.p 1
  have c10 := cell_of_blk h1.q 0
  have c11 := cell_of_blk h1.q 1
  have c20 := cell_of_blk h1.l 0
  have c21 := cell_of_blk h1.l 1
  have c22 := cell_of_blk h1.l 2
  simp only [List.getElem?_toArray, List.getElem?_cons_zero, List.getElem?_cons_succ] at c00 c01 c10 c11 c20 c21 c22
  have s1 := blk_lt h1.p
  have s2 := blk_lt h1.q
  have s3 := blk_lt h1.l
  go_wp2_with fail
  refine (onto_eq px py _ HE.out).mono ?_
  rintro e w2 ⟨he, hb2⟩
  subst he
  have h2 := (h1.alloc _).step hb2
  have ba2 := blk_below (heap_alloc_new w1 (.cells #[.int .i64 0, .int .i64 0, .int .i64 0] 40)) hb2 (by simp)
  clear c00 c01 c10 c11 c20 c21 c22 s1 s2 s3
  have c00 := cell_of_blk h2.p 0
  have c01 := cell_of_blk h2.p 1
  have c10 := cell_of_blk h2.q 0
  have c11 := cell_of_blk h2.q 1
  have c20 := cell_of_blk h2.l 0
  have c21 := cell_of_blk h2.l 1
  have c22 := cell_of_blk h2.l 2
  simp only [List.getElem?_toArray, List.getElem?_cons_zero, List.getElem?_cons_succ] at c00 c01 c10 c11 c20 c21 c22
  have s1 := blk_lt h2.p
  have s2 := blk_lt h2.q
  have s3 := blk_lt h2.l
  have a0 := cell_of_blk ba2 0
  have a1 := cell_of_blk ba2 1
  have a2 := cell_of_blk ba2 2
  simp only [List.getElem?_toArray, List.getElem?_cons_zero, List.getElem?_cons_succ] at a0 a1 a2
  have la := blk_lt ba2
  go_wp2_with fail
  refine (upright_no a b c px py _ _ HE2.out H2.out).mono ?_
  rintro e w3 ⟨he, hb3⟩
  subst he
  have h3 := (h2.alloc _).step hb3
  have ba3 := blk_below (blk_alloc ba2 _) hb3 (blk_lt (blk_alloc ba2 _))
  have bb3 := blk_below (heap_alloc_new w2 (.cells #[.int .i64 0, .int .i64 0, .int .i64 0] 40)) hb3 (by simp)
  clear c00 c01 c10 c11 c20 c21 c22 s1 s2 s3
  clear a0 a1 a2 la
  have c00 := cell_of_blk h3.p 0
  have c01 := cell_of_blk h3.p 1
  have c10 := cell_of_blk h3.q 0
  have c11 := cell_of_blk h3.q 1
  have c20 := cell_of_blk h3.l 0
  have c21 := cell_of_blk h3.l 1
  have c22 := cell_of_blk h3.l 2
  simp only [List.getElem?_toArray, List.getElem?_cons_zero, List.getElem?_cons_succ] at c00 c01 c10 c11 c20 c21 c22
  have s1 := blk_lt h3.p
  have s2 := blk_lt h3.q
  have s3 := blk_lt h3.l
  have a0 := cell_of_blk ba3 0
  have a1 := cell_of_blk ba3 1
  have a2 := cell_of_blk ba3 2
  simp only [List.getElem?_toArray, List.getElem?_cons_zero, List.getElem?_cons_succ] at a0 a1 a2
  have la := blk_lt ba3
  have b0 := cell_of_blk bb3 0
  have b1 := cell_of_blk bb3 1
  have b2 := cell_of_blk bb3 2
  simp only [List.getElem?_toArray, List.getElem?_cons_zero, List.getElem?_cons_succ] at b0 b1 b2
  have lb := blk_lt bb3
  have hr1 := rd_lit_p2 ((w3.alloc (.cells #[.int .i64 0, .int .i64 0, .int .i64 0] 40)).alloc (.cells #[.int .i64 0, .int .i64 0, .int .i64 0] 40)) px py px py
  rw [World.size_alloc, World.size_alloc] at hr1
  go_wp2_with fail
  refine (farMay_any _ none 2 0 2 0 [(px, py), (px, py)] [] _ hr1 Rd.nil (by decide) (by decide)).mono ?_
  rintro e w4 ⟨rfl, hb4⟩
  rw [HE.out]
  have h4 := (((h3.alloc _).alloc _).alloc _).step hb4
  have ba4 := blk_below (blk_alloc (blk_alloc (blk_alloc ba3 _) _) _) hb4 (blk_lt (blk_alloc (blk_alloc (blk_alloc ba3 _) _) _))
  have bb4 := blk_below (blk_alloc (blk_alloc (blk_alloc bb3 _) _) _) hb4 (blk_lt (blk_alloc (blk_alloc (blk_alloc bb3 _) _) _))
  have hn := heap_alloc_new w3 (.cells #[.int .i64 0, .int .i64 0, .int .i64 0] 40)
  have bc4 := blk_below (blk_alloc (blk_alloc hn _) _) hb4 (blk_lt (blk_alloc (blk_alloc hn _) _))
  have hz := heap_alloc_new (w3.alloc (.cells #[.int .i64 0, .int .i64 0, .int .i64 0] 40)) (.cells #[.int .i64 0, .int .i64 0, .int .i64 0] 40)
  rw [World.size_alloc] at hz
  have bz4 := blk_below (blk_alloc hz _) hb4 (blk_lt (blk_alloc hz _))
  clear c00 c01 c10 c11 c20 c21 c22 s1 s2 s3
  clear a0 a1 a2 la
  clear b0 b1 b2 lb
  have c00 := cell_of_blk h4.p 0
  have c01 := cell_of_blk h4.p 1
  have c10 := cell_of_blk h4.q 0
  have c11 := cell_of_blk h4.q 1
  have c20 := cell_of_blk h4.l 0
  have c21 := cell_of_blk h4.l 1
  have c22 := cell_of_blk h4.l 2
  simp only [List.getElem?_toArray, List.getElem?_cons_zero, List.getElem?_cons_succ] at c00 c01 c10 c11 c20 c21 c22
  have s1 := blk_lt h4.p
  have s2 := blk_lt h4.q
  have s3 := blk_lt h4.l
  have a0 := cell_of_blk ba4 0
  have a1 := cell_of_blk ba4 1
  have a2 := cell_of_blk ba4 2
  simp only [List.getElem?_toArray, List.getElem?_cons_zero, List.getElem?_cons_succ] at a0 a1 a2
  have la := blk_lt ba4
  have b0 := cell_of_blk bb4 0
  have b1 := cell_of_blk bb4 1
  have b2 := cell_of_blk bb4 2
  simp only [List.getElem?_toArray, List.getElem?_cons_zero, List.getElem?_cons_succ] at b0 b1 b2
  have lb := blk_lt bb4
  have c0 := cell_of_blk bc4 0
  have c1 := cell_of_blk bc4 1
  have c2 := cell_of_blk bc4 2
  simp only [List.getElem?_toArray, List.getElem?_cons_zero, List.getElem?_cons_succ] at c0 c1 c2
  have lc := blk_lt bc4
  have z0 := cell_of_blk bz4 0
  have z1 := cell_of_blk bz4 1
  have z2 := cell_of_blk bz4 2
  simp only [List.getElem?_toArray, List.getElem?_cons_zero, List.getElem?_cons_succ] at z0 z1 z2
  have lz := blk_lt bz4
  go_wp2_with fail
  have hr2 := (rd_lit_p1 w4 px py).alloc (.cells #[.int .i64 a, .int .i64 b, .int .i64 c] 40)
  have hr3 := rd_lit_s1 (w4.alloc (.cells #[.int .i64 px, .int .i64 py] 29)) a b c
  rw [World.size_alloc] at hr3
  refine (farMay_any _ _ 1 1 1 1 [(px, py)] [(a, b, c)] _ hr2 hr3 (by decide) (by decide)).mono ?_
  rintro e w7 ⟨rfl, hb7⟩
  rw [HE2.out]
  have h7 := ((h4.alloc _).alloc _).step hb7
  have bc7 := blk_below (blk_alloc (blk_alloc bc4 _) _) hb7 (blk_lt (blk_alloc (blk_alloc bc4 _) _))
  have bz7 := blk_below (blk_alloc (blk_alloc bz4 _) _) hb7 (blk_lt (blk_alloc (blk_alloc bz4 _) _))
  clear c00 c01 c10 c11 c20 c21 c22 s1 s2 s3
  clear a0 a1 a2 la
  clear b0 b1 b2 lb
  clear c0 c1 c2 lc
  clear z0 z1 z2 lz
  have c00 := cell_of_blk h7.p 0
  have c01 := cell_of_blk h7.p 1
  have c10 := cell_of_blk h7.q 0
  have c11 := cell_of_blk h7.q 1
  have c20 := cell_of_blk h7.l 0
  have c21 := cell_of_blk h7.l 1
  have c22 := cell_of_blk h7.l 2
  simp only [List.getElem?_toArray, List.getElem?_cons_zero, List.getElem?_cons_succ] at c00 c01 c10 c11 c20 c21 c22
  have s1 := blk_lt h7.p
  have s2 := blk_lt h7.q
  have s3 := blk_lt h7.l
  have c0 := cell_of_blk bc7 0
  have c1 := cell_of_blk bc7 1
  have c2 := cell_of_blk bc7 2
  simp only [List.getElem?_toArray, List.getElem?_cons_zero, List.getElem?_cons_succ] at c0 c1 c2
  have lc := blk_lt bc7
  have z0 := cell_of_blk bz7 0
  have z1 := cell_of_blk bz7 1
  have z2 := cell_of_blk bz7 2
  simp only [List.getElem?_toArray, List.getElem?_cons_zero, List.getElem?_cons_succ] at z0 z1 z2
  have lz := blk_lt bz7
  go_wp2
  go_ret
  exact ⟨rfl, h7.bel⟩

set_option maxRecDepth 100000 in
set_option maxHeartbeats 3200000 in
theorem apts_eq_ok (px py a b c : Int) (w : World) (hE : farE [(px, py), (px, py)] [] = 0) (hE2 : farE [(px, py)] [(a, b, c)] = 0) :
    Calls Try.prog 7 #[.agg #[.int .i64 px, .int .i64 py], .agg #[.int .i64 px, .int .i64 py], .agg #[.int .i64 a, .int .i64 b, .int .i64 c]] w fun e w' => e = .returned (.bool true) ∧ Below w.heap.size w w' := by
  have HE := Lib.hid hE
  have HE2 := Lib.hid hE2
  clear hE hE2
  have h0' := Ppl.start w px py px py a b c
  go_enter Try.func7, Try.ntmps7
  go_wp2_with fail
  refine (through_eq px py _ HE.out).mono ?_
  rintro e w1 ⟨he, hb1⟩
  subst he
  have h1 := h0'.step hb1
  have c00 := cell_of_blk h1.p 0
  have c01 := cell_of_blk h1.p 1
  have c10 := cell_of_blk h1.q 0
  have c11 := cell_of_blk h1.q 1
  have c20 := cell_of_blk h1.l 0
  have c21 := cell_of_blk h1.l 1
  have c22 := cell_of_blk h1.l 2
  simp only [List.getElem?_toArray, List.getElem?_cons_zero, List.getElem?_cons_succ] at c00 c01 c10 c11 c20 c21 c22
  have s1 := blk_lt h1.p
  have s2 := blk_lt h1.q
  have s3 := blk_lt h1.l
  go_wp2_with fail
  refine (onto_eq px py _ HE.out).mono ?_
  rintro e w2 ⟨he, hb2⟩
  subst he
  have h2 := (h1.alloc _).step hb2
  have ba2 := blk_below (heap_alloc_new w1 (.cells #[.int .i64 0, .int .i64 0, .int .i64 0] 40)) hb2 (by simp)
  clear c00 c01 c10 c11 c20 c21 c22 s1 s2 s3
  have c00 := cell_of_blk h2.p 0
  have c01 := cell_of_blk h2.p 1
  have c10 := cell_of_blk h2.q 0
  have c11 := cell_of_blk h2.q 1
  have c20 := cell_of_blk h2.l 0
  have c21 := cell_of_blk h2.l 1
  have c22 := cell_of_blk h2.l 2
  simp only [List.getElem?_toArray, List.getElem?_cons_zero, List.getElem?_cons_succ] at c00 c01 c10 c11 c20 c21 c22
  have s1 := blk_lt h2.p
  have s2 := blk_lt h2.q
  have s3 := blk_lt h2.l
  have a0 := cell_of_blk ba2 0
  have a1 := cell_of_blk ba2 1
  have a2 := cell_of_blk ba2 2
  simp only [List.getElem?_toArray, List.getElem?_cons_zero, List.getElem?_cons_succ] at a0 a1 a2
  have la := blk_lt ba2
  go_wp2_with fail
  refine (upright_ok a b c px py _ HE2.out).mono ?_
  rintro e w3 ⟨he, hb3⟩
  obtain ⟨C, eC⟩ : ∃ S, S = formS b (-a) (b * px - a * py) := ⟨_, rfl⟩
  rw [← eC] at he
  have HC := Lib.hid eC
  clear eC
  subst he
  have h3 := (h2.alloc _).step hb3
  have ba3 := blk_below (blk_alloc ba2 _) hb3 (blk_lt (blk_alloc ba2 _))
  have bb3 := blk_below (heap_alloc_new w2 (.cells #[.int .i64 0, .int .i64 0, .int .i64 0] 40)) hb3 (by simp)
  clear c00 c01 c10 c11 c20 c21 c22 s1 s2 s3
  clear a0 a1 a2 la
  have c00 := cell_of_blk h3.p 0
  have c01 := cell_of_blk h3.p 1
  have c10 := cell_of_blk h3.q 0
  have c11 := cell_of_blk h3.q 1
  have c20 := cell_of_blk h3.l 0
  have c21 := cell_of_blk h3.l 1
  have c22 := cell_of_blk h3.l 2
  simp only [List.getElem?_toArray, List.getElem?_cons_zero, List.getElem?_cons_succ] at c00 c01 c10 c11 c20 c21 c22
  have s1 := blk_lt h3.p
  have s2 := blk_lt h3.q
  have s3 := blk_lt h3.l
  have a0 := cell_of_blk ba3 0
  have a1 := cell_of_blk ba3 1
  have a2 := cell_of_blk ba3 2
  simp only [List.getElem?_toArray, List.getElem?_cons_zero, List.getElem?_cons_succ] at a0 a1 a2
  have la := blk_lt ba3
  have b0 := cell_of_blk bb3 0
  have b1 := cell_of_blk bb3 1
  have b2 := cell_of_blk bb3 2
  simp only [List.getElem?_toArray, List.getElem?_cons_zero, List.getElem?_cons_succ] at b0 b1 b2
  have lb := blk_lt bb3
  have hr1 := rd_lit_p2 ((w3.alloc (.cells #[.int .i64 C.1, .int .i64 C.2.1, .int .i64 C.2.2] 40)).alloc (.cells #[.int .i64 0, .int .i64 0, .int .i64 0] 40)) px py px py
  rw [World.size_alloc, World.size_alloc] at hr1
  go_wp2_with fail
  refine (farMay_any _ none 2 0 2 0 [(px, py), (px, py)] [] _ hr1 Rd.nil (by decide) (by decide)).mono ?_
  rintro e w4 ⟨rfl, hb4⟩
  rw [HE.out]
  have h4 := (((h3.alloc _).alloc _).alloc _).step hb4
  have ba4 := blk_below (blk_alloc (blk_alloc (blk_alloc ba3 _) _) _) hb4 (blk_lt (blk_alloc (blk_alloc (blk_alloc ba3 _) _) _))
  have bb4 := blk_below (blk_alloc (blk_alloc (blk_alloc bb3 _) _) _) hb4 (blk_lt (blk_alloc (blk_alloc (blk_alloc bb3 _) _) _))
  have hn := heap_alloc_new w3 (.cells #[.int .i64 C.1, .int .i64 C.2.1, .int .i64 C.2.2] 40)
  have bc4 := blk_below (blk_alloc (blk_alloc hn _) _) hb4 (blk_lt (blk_alloc (blk_alloc hn _) _))
  have hz := heap_alloc_new (w3.alloc (.cells #[.int .i64 C.1, .int .i64 C.2.1, .int .i64 C.2.2] 40)) (.cells #[.int .i64 0, .int .i64 0, .int .i64 0] 40)
  rw [World.size_alloc] at hz
  have bz4 := blk_below (blk_alloc hz _) hb4 (blk_lt (blk_alloc hz _))
  clear c00 c01 c10 c11 c20 c21 c22 s1 s2 s3
  clear a0 a1 a2 la
  clear b0 b1 b2 lb
  have c00 := cell_of_blk h4.p 0
  have c01 := cell_of_blk h4.p 1
  have c10 := cell_of_blk h4.q 0
  have c11 := cell_of_blk h4.q 1
  have c20 := cell_of_blk h4.l 0
  have c21 := cell_of_blk h4.l 1
  have c22 := cell_of_blk h4.l 2
  simp only [List.getElem?_toArray, List.getElem?_cons_zero, List.getElem?_cons_succ] at c00 c01 c10 c11 c20 c21 c22
  have s1 := blk_lt h4.p
  have s2 := blk_lt h4.q
  have s3 := blk_lt h4.l
  have a0 := cell_of_blk ba4 0
  have a1 := cell_of_blk ba4 1
  have a2 := cell_of_blk ba4 2
  simp only [List.getElem?_toArray, List.getElem?_cons_zero, List.getElem?_cons_succ] at a0 a1 a2
  have la := blk_lt ba4
  have b0 := cell_of_blk bb4 0
  have b1 := cell_of_blk bb4 1
  have b2 := cell_of_blk bb4 2
  simp only [List.getElem?_toArray, List.getElem?_cons_zero, List.getElem?_cons_succ] at b0 b1 b2
  have lb := blk_lt bb4
  have c0 := cell_of_blk bc4 0
  have c1 := cell_of_blk bc4 1
  have c2 := cell_of_blk bc4 2
  simp only [List.getElem?_toArray, List.getElem?_cons_zero, List.getElem?_cons_succ] at c0 c1 c2
  have lc := blk_lt bc4
  have z0 := cell_of_blk bz4 0
  have z1 := cell_of_blk bz4 1
  have z2 := cell_of_blk bz4 2
  simp only [List.getElem?_toArray, List.getElem?_cons_zero, List.getElem?_cons_succ] at z0 z1 z2
  have lz := blk_lt bz4
  go_wp2_with fail
  have hr2 := (rd_lit_p1 w4 px py).alloc (.cells #[.int .i64 a, .int .i64 b, .int .i64 c] 40)
  have hr3 := rd_lit_s1 (w4.alloc (.cells #[.int .i64 px, .int .i64 py] 29)) a b c
  rw [World.size_alloc] at hr3
  refine (farMay_any _ _ 1 1 1 1 [(px, py)] [(a, b, c)] _ hr2 hr3 (by decide) (by decide)).mono ?_
  rintro e w7 ⟨rfl, hb7⟩
  rw [HE2.out]
  have h7 := ((h4.alloc _).alloc _).step hb7
  have bc7 := blk_below (blk_alloc (blk_alloc bc4 _) _) hb7 (blk_lt (blk_alloc (blk_alloc bc4 _) _))
  have bz7 := blk_below (blk_alloc (blk_alloc bz4 _) _) hb7 (blk_lt (blk_alloc (blk_alloc bz4 _) _))
  clear c00 c01 c10 c11 c20 c21 c22 s1 s2 s3
  clear a0 a1 a2 la
  clear b0 b1 b2 lb
  clear c0 c1 c2 lc
  clear z0 z1 z2 lz
  have c00 := cell_of_blk h7.p 0
  have c01 := cell_of_blk h7.p 1
  have c10 := cell_of_blk h7.q 0
  have c11 := cell_of_blk h7.q 1
  have c20 := cell_of_blk h7.l 0
  have c21 := cell_of_blk h7.l 1
  have c22 := cell_of_blk h7.l 2
  simp only [List.getElem?_toArray, List.getElem?_cons_zero, List.getElem?_cons_succ] at c00 c01 c10 c11 c20 c21 c22
  have s1 := blk_lt h7.p
  have s2 := blk_lt h7.q
  have s3 := blk_lt h7.l
  have c0 := cell_of_blk bc7 0
  have c1 := cell_of_blk bc7 1
  have c2 := cell_of_blk bc7 2
  simp only [List.getElem?_toArray, List.getElem?_cons_zero, List.getElem?_cons_succ] at c0 c1 c2
  have lc := blk_lt bc7
  have z0 := cell_of_blk bz7 0
  have z1 := cell_of_blk bz7 1
  have z2 := cell_of_blk bz7 2
  simp only [List.getElem?_toArray, List.getElem?_cons_zero, List.getElem?_cons_succ] at z0 z1 z2
  have lz := blk_lt bz7
  go_wp2_with fail
  have bel7 : Below w7.heap.size w7 w7.drew := (Below.refl _ _).drew
  go_region_held3 (fun w' => w'.cell? ⟨w.heap.size, 0, none⟩ = some (.int .i64 px) ∧ w'.cell? ⟨w.heap.size, 1, none⟩ = some (.int .i64 py) ∧ w'.cell? ⟨w.heap.size + 1 + 1, 0, none⟩ = some (.int .i64 a) ∧ w'.cell? ⟨w.heap.size + 1 + 1, 1, none⟩ = some (.int .i64 b) ∧ w'.cell? ⟨w.heap.size + 1 + 1, 2, none⟩ = some (.int .i64 c) ∧ w'.cell? ⟨w3.heap.size, 0, none⟩ = some (.int .i64 C.1) ∧ w'.cell? ⟨w3.heap.size, 1, none⟩ = some (.int .i64 C.2.1) ∧ w'.cell? ⟨w3.heap.size, 2, none⟩ = some (.int .i64 C.2.2) ∧ Below w7.heap.size w7 w')
    (first
      | go_keep
      | (go_split_ands
         exact ⟨stay_c ‹_› hbc (Nat.le_refl _), stay_c ‹_› hbc (Nat.le_refl _), stay_c ‹_› hbc (Nat.le_refl _), stay_c ‹_› hbc (Nat.le_refl _), stay_c ‹_› hbc (Nat.le_refl _), stay_c ‹_› hbc (Nat.le_refl _), stay_c ‹_› hbc (Nat.le_refl _), stay_c ‹_› hbc (Nat.le_refl _), stay_b ‹_› hbc⟩))
    ((refine (uprightOf_ok a b c px py _ HE2.out).mono ?_; rintro e wc ⟨he, hbc⟩; rw [← HC.out] at he; subst he))
  all_goals
    go_wp2
    go_ret
    rename_i hH
    obtain ⟨_, _, _, _, _, _, _, _, bel9⟩ := hH
    exact ⟨by simp, (h7.step bel9).bel⟩

set_option maxRecDepth 100000 in
set_option maxHeartbeats 3200000 in
theorem apts_okA_no (px py qx qy a b c : Int) (w : World) (hE : farE [(px, py), (qx, qy)] [] = 0) (hx : ¬ px = qx) (E2 : Int) (hE2 : farE [(px, py)] [(a, b, c)] = E2) (h2 : E2 ≠ 0) :
    Calls Try.prog 7 #[.agg #[.int .i64 px, .int .i64 py], .agg #[.int .i64 qx, .int .i64 qy], .agg #[.int .i64 a, .int .i64 b, .int .i64 c]] w fun e w' => e = .returned (.bool true) ∧ Below w.heap.size w w' := by
  have HE := Lib.hid hE
  have HE2 := Lib.hid hE2
  clear hE hE2
  have hne : (px, py) ≠ (qx, qy) := by simp; omega
  have HNE := Lib.hid hne
  clear hne
  have hxb : (px == qx) = false := by simpa using hx
  clear hx
  have H2 := Lib.hid h2
  have hneE2 : (E2 != 0) = true := by simpa using h2
  clear h2
  have h0' := Ppl.start w px py qx qy a b c
  go_enter Try.func7, Try.ntmps7
  go_wp2_with fail
  refine (through_ok px py qx qy _ HE.out HNE.out).mono ?_
  rintro e w1 ⟨he, hb1⟩
  obtain ⟨A, eA⟩ : ∃ S, S = formS (qy - py) (px - qx) ((qy - py) * px + (px - qx) * py) := ⟨_, rfl⟩
  rw [← eA] at he
  have HA := Lib.hid eA
  clear eA
  subst he
  have h1 := h0'.step hb1
  have c00 := cell_of_blk h1.p 0
  have c01 := cell_of_blk h1.p 1
  have c10 := cell_of_blk h1.q 0
  have c11 := cell_of_blk h1.q 1
  have c20 := cell_of_blk h1.l 0
  have c21 := cell_of_blk h1.l 1
  have c22 := cell_of_blk h1.l 2
  simp only [List.getElem?_toArray, List.getElem?_cons_zero, List.getElem?_cons_succ] at c00 c01 c10 c11 c20 c21 c22
  have s1 := blk_lt h1.p
  have s2 := blk_lt h1.q
  have s3 := blk_lt h1.l
  go_wp2_with fail
  refine (onto_ok px py qx qy _ HE.out HNE.out).mono ?_
  rintro e w2 ⟨he, hb2⟩
  obtain ⟨B, eB⟩ : ∃ S, S = formS (2 * (qx - px)) (2 * (qy - py)) (qx * qx + qy * qy - px * px - py * py) := ⟨_, rfl⟩
  rw [← eB] at he
  have HB := Lib.hid eB
  clear eB
  subst he
  have h2 := (h1.alloc _).step hb2
  have ba2 := blk_below (heap_alloc_new w1 (.cells #[.int .i64 A.1, .int .i64 A.2.1, .int .i64 A.2.2] 40)) hb2 (by simp)
  clear c00 c01 c10 c11 c20 c21 c22 s1 s2 s3
  have c00 := cell_of_blk h2.p 0
  have c01 := cell_of_blk h2.p 1
  have c10 := cell_of_blk h2.q 0
  have c11 := cell_of_blk h2.q 1
  have c20 := cell_of_blk h2.l 0
  have c21 := cell_of_blk h2.l 1
  have c22 := cell_of_blk h2.l 2
  simp only [List.getElem?_toArray, List.getElem?_cons_zero, List.getElem?_cons_succ] at c00 c01 c10 c11 c20 c21 c22
  have s1 := blk_lt h2.p
  have s2 := blk_lt h2.q
  have s3 := blk_lt h2.l
  have a0 := cell_of_blk ba2 0
  have a1 := cell_of_blk ba2 1
  have a2 := cell_of_blk ba2 2
  simp only [List.getElem?_toArray, List.getElem?_cons_zero, List.getElem?_cons_succ] at a0 a1 a2
  have la := blk_lt ba2
  go_wp2_with fail
  refine (upright_no a b c px py _ _ HE2.out H2.out).mono ?_
  rintro e w3 ⟨he, hb3⟩
  subst he
  have h3 := (h2.alloc _).step hb3
  have ba3 := blk_below (blk_alloc ba2 _) hb3 (blk_lt (blk_alloc ba2 _))
  have bb3 := blk_below (heap_alloc_new w2 (.cells #[.int .i64 B.1, .int .i64 B.2.1, .int .i64 B.2.2] 40)) hb3 (by simp)
  clear c00 c01 c10 c11 c20 c21 c22 s1 s2 s3
  clear a0 a1 a2 la
  have c00 := cell_of_blk h3.p 0
  have c01 := cell_of_blk h3.p 1
  have c10 := cell_of_blk h3.q 0
  have c11 := cell_of_blk h3.q 1
  have c20 := cell_of_blk h3.l 0
  have c21 := cell_of_blk h3.l 1
  have c22 := cell_of_blk h3.l 2
  simp only [List.getElem?_toArray, List.getElem?_cons_zero, List.getElem?_cons_succ] at c00 c01 c10 c11 c20 c21 c22
  have s1 := blk_lt h3.p
  have s2 := blk_lt h3.q
  have s3 := blk_lt h3.l
  have a0 := cell_of_blk ba3 0
  have a1 := cell_of_blk ba3 1
  have a2 := cell_of_blk ba3 2
  simp only [List.getElem?_toArray, List.getElem?_cons_zero, List.getElem?_cons_succ] at a0 a1 a2
  have la := blk_lt ba3
  have b0 := cell_of_blk bb3 0
  have b1 := cell_of_blk bb3 1
  have b2 := cell_of_blk bb3 2
  simp only [List.getElem?_toArray, List.getElem?_cons_zero, List.getElem?_cons_succ] at b0 b1 b2
  have lb := blk_lt bb3
  have hr1 := rd_lit_p2 ((w3.alloc (.cells #[.int .i64 0, .int .i64 0, .int .i64 0] 40)).alloc (.cells #[.int .i64 0, .int .i64 0, .int .i64 0] 40)) px py qx qy
  rw [World.size_alloc, World.size_alloc] at hr1
  go_wp2_with fail
  refine (farMay_any _ none 2 0 2 0 [(px, py), (qx, qy)] [] _ hr1 Rd.nil (by decide) (by decide)).mono ?_
  rintro e w4 ⟨rfl, hb4⟩
  rw [HE.out]
  have h4 := (((h3.alloc _).alloc _).alloc _).step hb4
  have ba4 := blk_below (blk_alloc (blk_alloc (blk_alloc ba3 _) _) _) hb4 (blk_lt (blk_alloc (blk_alloc (blk_alloc ba3 _) _) _))
  have bb4 := blk_below (blk_alloc (blk_alloc (blk_alloc bb3 _) _) _) hb4 (blk_lt (blk_alloc (blk_alloc (blk_alloc bb3 _) _) _))
  have hn := heap_alloc_new w3 (.cells #[.int .i64 0, .int .i64 0, .int .i64 0] 40)
  have bc4 := blk_below (blk_alloc (blk_alloc hn _) _) hb4 (blk_lt (blk_alloc (blk_alloc hn _) _))
  have hz := heap_alloc_new (w3.alloc (.cells #[.int .i64 0, .int .i64 0, .int .i64 0] 40)) (.cells #[.int .i64 0, .int .i64 0, .int .i64 0] 40)
  rw [World.size_alloc] at hz
  have bz4 := blk_below (blk_alloc hz _) hb4 (blk_lt (blk_alloc hz _))
  clear c00 c01 c10 c11 c20 c21 c22 s1 s2 s3
  clear a0 a1 a2 la
  clear b0 b1 b2 lb
  have c00 := cell_of_blk h4.p 0
  have c01 := cell_of_blk h4.p 1
  have c10 := cell_of_blk h4.q 0
  have c11 := cell_of_blk h4.q 1
  have c20 := cell_of_blk h4.l 0
  have c21 := cell_of_blk h4.l 1
  have c22 := cell_of_blk h4.l 2
  simp only [List.getElem?_toArray, List.getElem?_cons_zero, List.getElem?_cons_succ] at c00 c01 c10 c11 c20 c21 c22
  have s1 := blk_lt h4.p
  have s2 := blk_lt h4.q
  have s3 := blk_lt h4.l
  have a0 := cell_of_blk ba4 0
  have a1 := cell_of_blk ba4 1
  have a2 := cell_of_blk ba4 2
  simp only [List.getElem?_toArray, List.getElem?_cons_zero, List.getElem?_cons_succ] at a0 a1 a2
  have la := blk_lt ba4
  have b0 := cell_of_blk bb4 0
  have b1 := cell_of_blk bb4 1
  have b2 := cell_of_blk bb4 2
  simp only [List.getElem?_toArray, List.getElem?_cons_zero, List.getElem?_cons_succ] at b0 b1 b2
  have lb := blk_lt bb4
  have c0 := cell_of_blk bc4 0
  have c1 := cell_of_blk bc4 1
  have c2 := cell_of_blk bc4 2
  simp only [List.getElem?_toArray, List.getElem?_cons_zero, List.getElem?_cons_succ] at c0 c1 c2
  have lc := blk_lt bc4
  have z0 := cell_of_blk bz4 0
  have z1 := cell_of_blk bz4 1
  have z2 := cell_of_blk bz4 2
  simp only [List.getElem?_toArray, List.getElem?_cons_zero, List.getElem?_cons_succ] at z0 z1 z2
  have lz := blk_lt bz4
  go_wp2_with fail
  have bel4 : Below w4.heap.size w4 w4.drew := (Below.refl _ _).drew
  go_region_held3 (fun w' => w'.cell? ⟨w.heap.size, 0, none⟩ = some (.int .i64 px) ∧ w'.cell? ⟨w.heap.size, 1, none⟩ = some (.int .i64 py) ∧ w'.cell? ⟨w.heap.size + 1, 0, none⟩ = some (.int .i64 qx) ∧ w'.cell? ⟨w.heap.size + 1, 1, none⟩ = some (.int .i64 qy) ∧ w'.cell? ⟨w1.heap.size, 0, none⟩ = some (.int .i64 A.1) ∧ w'.cell? ⟨w1.heap.size, 1, none⟩ = some (.int .i64 A.2.1) ∧ w'.cell? ⟨w1.heap.size, 2, none⟩ = some (.int .i64 A.2.2) ∧ w'.cell? ⟨w2.heap.size, 0, none⟩ = some (.int .i64 B.1) ∧ w'.cell? ⟨w2.heap.size, 1, none⟩ = some (.int .i64 B.2.1) ∧ w'.cell? ⟨w2.heap.size, 2, none⟩ = some (.int .i64 B.2.2) ∧ Below w4.heap.size w4 w')
    (first
      | go_keep
      | (go_split_ands
         exact ⟨stay_c ‹_› hbc (Nat.le_refl _), stay_c ‹_› hbc (Nat.le_refl _), stay_c ‹_› hbc (Nat.le_refl _), stay_c ‹_› hbc (Nat.le_refl _), stay_c ‹_› hbc (Nat.le_refl _), stay_c ‹_› hbc (Nat.le_refl _), stay_c ‹_› hbc (Nat.le_refl _), stay_c ‹_› hbc (Nat.le_refl _), stay_c ‹_› hbc (Nat.le_refl _), stay_c ‹_› hbc (Nat.le_refl _), stay_b ‹_› hbc⟩))
    (first
      | (with_reducible refine (throughOf_ok px py qx qy _ HE.out HNE.out).mono ?_; rintro e wc ⟨he, hbc⟩; rw [← HA.out] at he; subst he)
      | (with_reducible refine (ontoOf_ok px py qx qy _ HE.out HNE.out).mono ?_; rintro e wc ⟨he, hbc⟩; rw [← HB.out] at he; subst he))
  rename_i hH
  obtain ⟨_, _, _, _, _, _, _, _, _, _, bel5⟩ := hH
  have h5 := h4.step bel5
  have bc5 := blk_below bc4 bel5 (blk_lt bc4)
  have bz5 := blk_below bz4 bel5 (blk_lt bz4)
  clear c00 c01 c10 c11 c20 c21 c22 s1 s2 s3
  clear a0 a1 a2 la
  clear b0 b1 b2 lb
  clear c0 c1 c2 lc
  clear z0 z1 z2 lz
  have c00 := cell_of_blk h5.p 0
  have c01 := cell_of_blk h5.p 1
  have c10 := cell_of_blk h5.q 0
  have c11 := cell_of_blk h5.q 1
  have c20 := cell_of_blk h5.l 0
  have c21 := cell_of_blk h5.l 1
  have c22 := cell_of_blk h5.l 2
  simp only [List.getElem?_toArray, List.getElem?_cons_zero, List.getElem?_cons_succ] at c00 c01 c10 c11 c20 c21 c22
  have s1 := blk_lt h5.p
  have s2 := blk_lt h5.q
  have s3 := blk_lt h5.l
  go_wp2_with fail
  have hr2 := (rd_lit_p1 wc px py).alloc (.cells #[.int .i64 a, .int .i64 b, .int .i64 c] 40)
  have hr3 := rd_lit_s1 (wc.alloc (.cells #[.int .i64 px, .int .i64 py] 29)) a b c
  rw [World.size_alloc] at hr3
  refine (farMay_any _ _ 1 1 1 1 [(px, py)] [(a, b, c)] _ hr2 hr3 (by decide) (by decide)).mono ?_
  rintro e w7 ⟨rfl, hb7⟩
  rw [HE2.out]
  have h7 := ((h5.alloc _).alloc _).step hb7
  have bc7 := blk_below (blk_alloc (blk_alloc bc5 _) _) hb7 (blk_lt (blk_alloc (blk_alloc bc5 _) _))
  have bz7 := blk_below (blk_alloc (blk_alloc bz5 _) _) hb7 (blk_lt (blk_alloc (blk_alloc bz5 _) _))
  clear c00 c01 c10 c11 c20 c21 c22 s1 s2 s3
  have c00 := cell_of_blk h7.p 0
  have c01 := cell_of_blk h7.p 1
  have c10 := cell_of_blk h7.q 0
  have c11 := cell_of_blk h7.q 1
  have c20 := cell_of_blk h7.l 0
  have c21 := cell_of_blk h7.l 1
  have c22 := cell_of_blk h7.l 2
  simp only [List.getElem?_toArray, List.getElem?_cons_zero, List.getElem?_cons_succ] at c00 c01 c10 c11 c20 c21 c22
  have s1 := blk_lt h7.p
  have s2 := blk_lt h7.q
  have s3 := blk_lt h7.l
  have c0 := cell_of_blk bc7 0
  have c1 := cell_of_blk bc7 1
  have c2 := cell_of_blk bc7 2
  simp only [List.getElem?_toArray, List.getElem?_cons_zero, List.getElem?_cons_succ] at c0 c1 c2
  have lc := blk_lt bc7
  have z0 := cell_of_blk bz7 0
  have z1 := cell_of_blk bz7 1
  have z2 := cell_of_blk bz7 2
  simp only [List.getElem?_toArray, List.getElem?_cons_zero, List.getElem?_cons_succ] at z0 z1 z2
  have lz := blk_lt bz7
  go_wp2
  go_ret
  exact ⟨rfl, h7.bel⟩

set_option maxRecDepth 100000 in
set_option maxHeartbeats 3200000 in
theorem apts_okA_ok (px py qx qy a b c : Int) (w : World) (hE : farE [(px, py), (qx, qy)] [] = 0) (hx : ¬ px = qx) (hE2 : farE [(px, py)] [(a, b, c)] = 0) :
    Calls Try.prog 7 #[.agg #[.int .i64 px, .int .i64 py], .agg #[.int .i64 qx, .int .i64 qy], .agg #[.int .i64 a, .int .i64 b, .int .i64 c]] w fun e w' => e = .returned (.bool true) ∧ Below w.heap.size w w' := by
  have HE := Lib.hid hE
  have HE2 := Lib.hid hE2
  clear hE hE2
  have hne : (px, py) ≠ (qx, qy) := by simp; omega
  have HNE := Lib.hid hne
  clear hne
  have hxb : (px == qx) = false := by simpa using hx
  clear hx
  have h0' := Ppl.start w px py qx qy a b c
  go_enter Try.func7, Try.ntmps7
  go_wp2_with fail
  refine (through_ok px py qx qy _ HE.out HNE.out).mono ?_
  rintro e w1 ⟨he, hb1⟩
  obtain ⟨A, eA⟩ : ∃ S, S = formS (qy - py) (px - qx) ((qy - py) * px + (px - qx) * py) := ⟨_, rfl⟩
  rw [← eA] at he
  have HA := Lib.hid eA
  clear eA
  subst he
  have h1 := h0'.step hb1
  have c00 := cell_of_blk h1.p 0
  have c01 := cell_of_blk h1.p 1
  have c10 := cell_of_blk h1.q 0
  have c11 := cell_of_blk h1.q 1
  have c20 := cell_of_blk h1.l 0
  have c21 := cell_of_blk h1.l 1
  have c22 := cell_of_blk h1.l 2
  simp only [List.getElem?_toArray, List.getElem?_cons_zero, List.getElem?_cons_succ] at c00 c01 c10 c11 c20 c21 c22
  have s1 := blk_lt h1.p
  have s2 := blk_lt h1.q
  have s3 := blk_lt h1.l
  go_wp2_with fail
  refine (onto_ok px py qx qy _ HE.out HNE.out).mono ?_
  rintro e w2 ⟨he, hb2⟩
  obtain ⟨B, eB⟩ : ∃ S, S = formS (2 * (qx - px)) (2 * (qy - py)) (qx * qx + qy * qy - px * px - py * py) := ⟨_, rfl⟩
  rw [← eB] at he
  have HB := Lib.hid eB
  clear eB
  subst he
  have h2 := (h1.alloc _).step hb2
  have ba2 := blk_below (heap_alloc_new w1 (.cells #[.int .i64 A.1, .int .i64 A.2.1, .int .i64 A.2.2] 40)) hb2 (by simp)
  clear c00 c01 c10 c11 c20 c21 c22 s1 s2 s3
  have c00 := cell_of_blk h2.p 0
  have c01 := cell_of_blk h2.p 1
  have c10 := cell_of_blk h2.q 0
  have c11 := cell_of_blk h2.q 1
  have c20 := cell_of_blk h2.l 0
  have c21 := cell_of_blk h2.l 1
  have c22 := cell_of_blk h2.l 2
  simp only [List.getElem?_toArray, List.getElem?_cons_zero, List.getElem?_cons_succ] at c00 c01 c10 c11 c20 c21 c22
  have s1 := blk_lt h2.p
  have s2 := blk_lt h2.q
  have s3 := blk_lt h2.l
  have a0 := cell_of_blk ba2 0
  have a1 := cell_of_blk ba2 1
  have a2 := cell_of_blk ba2 2
  simp only [List.getElem?_toArray, List.getElem?_cons_zero, List.getElem?_cons_succ] at a0 a1 a2
  have la := blk_lt ba2
  go_wp2_with fail
  refine (upright_ok a b c px py _ HE2.out).mono ?_
  rintro e w3 ⟨he, hb3⟩
  obtain ⟨C, eC⟩ : ∃ S, S = formS b (-a) (b * px - a * py) := ⟨_, rfl⟩
  rw [← eC] at he
  have HC := Lib.hid eC
  clear eC
  subst he
  have h3 := (h2.alloc _).step hb3
  have ba3 := blk_below (blk_alloc ba2 _) hb3 (blk_lt (blk_alloc ba2 _))
  have bb3 := blk_below (heap_alloc_new w2 (.cells #[.int .i64 B.1, .int .i64 B.2.1, .int .i64 B.2.2] 40)) hb3 (by simp)
  clear c00 c01 c10 c11 c20 c21 c22 s1 s2 s3
  clear a0 a1 a2 la
  have c00 := cell_of_blk h3.p 0
  have c01 := cell_of_blk h3.p 1
  have c10 := cell_of_blk h3.q 0
  have c11 := cell_of_blk h3.q 1
  have c20 := cell_of_blk h3.l 0
  have c21 := cell_of_blk h3.l 1
  have c22 := cell_of_blk h3.l 2
  simp only [List.getElem?_toArray, List.getElem?_cons_zero, List.getElem?_cons_succ] at c00 c01 c10 c11 c20 c21 c22
  have s1 := blk_lt h3.p
  have s2 := blk_lt h3.q
  have s3 := blk_lt h3.l
  have a0 := cell_of_blk ba3 0
  have a1 := cell_of_blk ba3 1
  have a2 := cell_of_blk ba3 2
  simp only [List.getElem?_toArray, List.getElem?_cons_zero, List.getElem?_cons_succ] at a0 a1 a2
  have la := blk_lt ba3
  have b0 := cell_of_blk bb3 0
  have b1 := cell_of_blk bb3 1
  have b2 := cell_of_blk bb3 2
  simp only [List.getElem?_toArray, List.getElem?_cons_zero, List.getElem?_cons_succ] at b0 b1 b2
  have lb := blk_lt bb3
  have hr1 := rd_lit_p2 ((w3.alloc (.cells #[.int .i64 C.1, .int .i64 C.2.1, .int .i64 C.2.2] 40)).alloc (.cells #[.int .i64 0, .int .i64 0, .int .i64 0] 40)) px py qx qy
  rw [World.size_alloc, World.size_alloc] at hr1
  go_wp2_with fail
  refine (farMay_any _ none 2 0 2 0 [(px, py), (qx, qy)] [] _ hr1 Rd.nil (by decide) (by decide)).mono ?_
  rintro e w4 ⟨rfl, hb4⟩
  rw [HE.out]
  have h4 := (((h3.alloc _).alloc _).alloc _).step hb4
  have ba4 := blk_below (blk_alloc (blk_alloc (blk_alloc ba3 _) _) _) hb4 (blk_lt (blk_alloc (blk_alloc (blk_alloc ba3 _) _) _))
  have bb4 := blk_below (blk_alloc (blk_alloc (blk_alloc bb3 _) _) _) hb4 (blk_lt (blk_alloc (blk_alloc (blk_alloc bb3 _) _) _))
  have hn := heap_alloc_new w3 (.cells #[.int .i64 C.1, .int .i64 C.2.1, .int .i64 C.2.2] 40)
  have bc4 := blk_below (blk_alloc (blk_alloc hn _) _) hb4 (blk_lt (blk_alloc (blk_alloc hn _) _))
  have hz := heap_alloc_new (w3.alloc (.cells #[.int .i64 C.1, .int .i64 C.2.1, .int .i64 C.2.2] 40)) (.cells #[.int .i64 0, .int .i64 0, .int .i64 0] 40)
  rw [World.size_alloc] at hz
  have bz4 := blk_below (blk_alloc hz _) hb4 (blk_lt (blk_alloc hz _))
  clear c00 c01 c10 c11 c20 c21 c22 s1 s2 s3
  clear a0 a1 a2 la
  clear b0 b1 b2 lb
  have c00 := cell_of_blk h4.p 0
  have c01 := cell_of_blk h4.p 1
  have c10 := cell_of_blk h4.q 0
  have c11 := cell_of_blk h4.q 1
  have c20 := cell_of_blk h4.l 0
  have c21 := cell_of_blk h4.l 1
  have c22 := cell_of_blk h4.l 2
  simp only [List.getElem?_toArray, List.getElem?_cons_zero, List.getElem?_cons_succ] at c00 c01 c10 c11 c20 c21 c22
  have s1 := blk_lt h4.p
  have s2 := blk_lt h4.q
  have s3 := blk_lt h4.l
  have a0 := cell_of_blk ba4 0
  have a1 := cell_of_blk ba4 1
  have a2 := cell_of_blk ba4 2
  simp only [List.getElem?_toArray, List.getElem?_cons_zero, List.getElem?_cons_succ] at a0 a1 a2
  have la := blk_lt ba4
  have b0 := cell_of_blk bb4 0
  have b1 := cell_of_blk bb4 1
  have b2 := cell_of_blk bb4 2
  simp only [List.getElem?_toArray, List.getElem?_cons_zero, List.getElem?_cons_succ] at b0 b1 b2
  have lb := blk_lt bb4
  have c0 := cell_of_blk bc4 0
  have c1 := cell_of_blk bc4 1
  have c2 := cell_of_blk bc4 2
  simp only [List.getElem?_toArray, List.getElem?_cons_zero, List.getElem?_cons_succ] at c0 c1 c2
  have lc := blk_lt bc4
  have z0 := cell_of_blk bz4 0
  have z1 := cell_of_blk bz4 1
  have z2 := cell_of_blk bz4 2
  simp only [List.getElem?_toArray, List.getElem?_cons_zero, List.getElem?_cons_succ] at z0 z1 z2
  have lz := blk_lt bz4
  go_wp2_with fail
  have bel4 : Below w4.heap.size w4 w4.drew := (Below.refl _ _).drew
  go_region_held3 (fun w' => w'.cell? ⟨w.heap.size, 0, none⟩ = some (.int .i64 px) ∧ w'.cell? ⟨w.heap.size, 1, none⟩ = some (.int .i64 py) ∧ w'.cell? ⟨w.heap.size + 1, 0, none⟩ = some (.int .i64 qx) ∧ w'.cell? ⟨w.heap.size + 1, 1, none⟩ = some (.int .i64 qy) ∧ w'.cell? ⟨w1.heap.size, 0, none⟩ = some (.int .i64 A.1) ∧ w'.cell? ⟨w1.heap.size, 1, none⟩ = some (.int .i64 A.2.1) ∧ w'.cell? ⟨w1.heap.size, 2, none⟩ = some (.int .i64 A.2.2) ∧ w'.cell? ⟨w2.heap.size, 0, none⟩ = some (.int .i64 B.1) ∧ w'.cell? ⟨w2.heap.size, 1, none⟩ = some (.int .i64 B.2.1) ∧ w'.cell? ⟨w2.heap.size, 2, none⟩ = some (.int .i64 B.2.2) ∧ Below w4.heap.size w4 w')
    (first
      | go_keep
      | (go_split_ands
         exact ⟨stay_c ‹_› hbc (Nat.le_refl _), stay_c ‹_› hbc (Nat.le_refl _), stay_c ‹_› hbc (Nat.le_refl _), stay_c ‹_› hbc (Nat.le_refl _), stay_c ‹_› hbc (Nat.le_refl _), stay_c ‹_› hbc (Nat.le_refl _), stay_c ‹_› hbc (Nat.le_refl _), stay_c ‹_› hbc (Nat.le_refl _), stay_c ‹_› hbc (Nat.le_refl _), stay_c ‹_› hbc (Nat.le_refl _), stay_b ‹_› hbc⟩))
    (first
      | (with_reducible refine (throughOf_ok px py qx qy _ HE.out HNE.out).mono ?_; rintro e wc ⟨he, hbc⟩; rw [← HA.out] at he; subst he)
      | (with_reducible refine (ontoOf_ok px py qx qy _ HE.out HNE.out).mono ?_; rintro e wc ⟨he, hbc⟩; rw [← HB.out] at he; subst he))
  rename_i hH
  obtain ⟨_, _, _, _, _, _, _, _, _, _, bel5⟩ := hH
  have h5 := h4.step bel5
  have bc5 := blk_below bc4 bel5 (blk_lt bc4)
  have bz5 := blk_below bz4 bel5 (blk_lt bz4)
  clear c00 c01 c10 c11 c20 c21 c22 s1 s2 s3
  clear a0 a1 a2 la
  clear b0 b1 b2 lb
  clear c0 c1 c2 lc
  clear z0 z1 z2 lz
  have c00 := cell_of_blk h5.p 0
  have c01 := cell_of_blk h5.p 1
  have c10 := cell_of_blk h5.q 0
  have c11 := cell_of_blk h5.q 1
  have c20 := cell_of_blk h5.l 0
  have c21 := cell_of_blk h5.l 1
  have c22 := cell_of_blk h5.l 2
  simp only [List.getElem?_toArray, List.getElem?_cons_zero, List.getElem?_cons_succ] at c00 c01 c10 c11 c20 c21 c22
  have s1 := blk_lt h5.p
  have s2 := blk_lt h5.q
  have s3 := blk_lt h5.l
  go_wp2_with fail
  have hr2 := (rd_lit_p1 wc px py).alloc (.cells #[.int .i64 a, .int .i64 b, .int .i64 c] 40)
  have hr3 := rd_lit_s1 (wc.alloc (.cells #[.int .i64 px, .int .i64 py] 29)) a b c
  rw [World.size_alloc] at hr3
  refine (farMay_any _ _ 1 1 1 1 [(px, py)] [(a, b, c)] _ hr2 hr3 (by decide) (by decide)).mono ?_
  rintro e w7 ⟨rfl, hb7⟩
  rw [HE2.out]
  have h7 := ((h5.alloc _).alloc _).step hb7
  have bc7 := blk_below (blk_alloc (blk_alloc bc5 _) _) hb7 (blk_lt (blk_alloc (blk_alloc bc5 _) _))
  have bz7 := blk_below (blk_alloc (blk_alloc bz5 _) _) hb7 (blk_lt (blk_alloc (blk_alloc bz5 _) _))
  clear c00 c01 c10 c11 c20 c21 c22 s1 s2 s3
  have c00 := cell_of_blk h7.p 0
  have c01 := cell_of_blk h7.p 1
  have c10 := cell_of_blk h7.q 0
  have c11 := cell_of_blk h7.q 1
  have c20 := cell_of_blk h7.l 0
  have c21 := cell_of_blk h7.l 1
  have c22 := cell_of_blk h7.l 2
  simp only [List.getElem?_toArray, List.getElem?_cons_zero, List.getElem?_cons_succ] at c00 c01 c10 c11 c20 c21 c22
  have s1 := blk_lt h7.p
  have s2 := blk_lt h7.q
  have s3 := blk_lt h7.l
  have c0 := cell_of_blk bc7 0
  have c1 := cell_of_blk bc7 1
  have c2 := cell_of_blk bc7 2
  simp only [List.getElem?_toArray, List.getElem?_cons_zero, List.getElem?_cons_succ] at c0 c1 c2
  have lc := blk_lt bc7
  have z0 := cell_of_blk bz7 0
  have z1 := cell_of_blk bz7 1
  have z2 := cell_of_blk bz7 2
  simp only [List.getElem?_toArray, List.getElem?_cons_zero, List.getElem?_cons_succ] at z0 z1 z2
  have lz := blk_lt bz7
  go_wp2_with fail
  have bel7 : Below w7.heap.size w7 w7.drew := (Below.refl _ _).drew
  go_region_held3 (fun w' => w'.cell? ⟨w.heap.size, 0, none⟩ = some (.int .i64 px) ∧ w'.cell? ⟨w.heap.size, 1, none⟩ = some (.int .i64 py) ∧ w'.cell? ⟨w.heap.size + 1 + 1, 0, none⟩ = some (.int .i64 a) ∧ w'.cell? ⟨w.heap.size + 1 + 1, 1, none⟩ = some (.int .i64 b) ∧ w'.cell? ⟨w.heap.size + 1 + 1, 2, none⟩ = some (.int .i64 c) ∧ w'.cell? ⟨w3.heap.size, 0, none⟩ = some (.int .i64 C.1) ∧ w'.cell? ⟨w3.heap.size, 1, none⟩ = some (.int .i64 C.2.1) ∧ w'.cell? ⟨w3.heap.size, 2, none⟩ = some (.int .i64 C.2.2) ∧ Below w7.heap.size w7 w')
    (first
      | go_keep
      | (go_split_ands
         exact ⟨stay_c ‹_› hbc (Nat.le_refl _), stay_c ‹_› hbc (Nat.le_refl _), stay_c ‹_› hbc (Nat.le_refl _), stay_c ‹_› hbc (Nat.le_refl _), stay_c ‹_› hbc (Nat.le_refl _), stay_c ‹_› hbc (Nat.le_refl _), stay_c ‹_› hbc (Nat.le_refl _), stay_c ‹_› hbc (Nat.le_refl _), stay_b ‹_› hbc⟩))
    ((refine (uprightOf_ok a b c px py _ HE2.out).mono ?_; rintro e wc ⟨he, hbc⟩; rw [← HC.out] at he; subst he))
  all_goals
    go_wp2
    go_ret
    rename_i hH
    obtain ⟨_, _, _, _, _, _, _, _, bel9⟩ := hH
    exact ⟨by simp, (h7.step bel9).bel⟩

set_option maxRecDepth 100000 in
set_option maxHeartbeats 3200000 in
theorem apts_okB_no (px py qy a b c : Int) (w : World) (hE : farE [(px, py), (px, qy)] [] = 0) (hy : ¬ py = qy) (E2 : Int) (hE2 : farE [(px, py)] [(a, b, c)] = E2) (h2 : E2 ≠ 0) :
    Calls Try.prog 7 #[.agg #[.int .i64 px, .int .i64 py], .agg #[.int .i64 px, .int .i64 qy], .agg #[.int .i64 a, .int .i64 b, .int .i64 c]] w fun e w' => e = .returned (.bool true) ∧ Below w.heap.size w w' := by
  have HE := Lib.hid hE
  have HE2 := Lib.hid hE2
  clear hE hE2
  have hne : (px, py) ≠ (px, qy) := by simp; omega
  have HNE := Lib.hid hne
  clear hne
  have hyb : (py == qy) = false := by simpa using hy
  clear hy
  have H2 := Lib.hid h2
  have hneE2 : (E2 != 0) = true := by simpa using h2
  clear h2
  have h0' := Ppl.start w px py px qy a b c
  go_enter Try.func7, Try.ntmps7
  go_wp2_with fail
  refine (through_ok px py px qy _ HE.out HNE.out).mono ?_
  rintro e w1 ⟨he, hb1⟩
  obtain ⟨A, eA⟩ : ∃ S, S = formS (qy - py) (px - px) ((qy - py) * px + (px - px) * py) := ⟨_, rfl⟩
  rw [← eA] at he
  have HA := Lib.hid eA
  clear eA
  subst he
  have h1 := h0'.step hb1
  have c00 := cell_of_blk h1.p 0
  have c01 := cell_of_blk h1.p 1
  have c10 := cell_of_blk h1.q 0
  have c11 := cell_of_blk h1.q 1
  have c20 := cell_of_blk h1.l 0
  have c21 := cell_of_blk h1.l 1
  have c22 := cell_of_blk h1.l 2
  simp only [List.getElem?_toArray, List.getElem?_cons_zero, List.getElem?_cons_succ] at c00 c01 c10 c11 c20 c21 c22
  have s1 := blk_lt h1.p
  have s2 := blk_lt h1.q
  have s3 := blk_lt h1.l
  go_wp2_with fail
  refine (onto_ok px py px qy _ HE.out HNE.out).mono ?_
  rintro e w2 ⟨he, hb2⟩
  obtain ⟨B, eB⟩ : ∃ S, S = formS (2 * (px - px)) (2 * (qy - py)) (px * px + qy * qy - px * px - py * py) := ⟨_, rfl⟩
  rw [← eB] at he
  have HB := Lib.hid eB
  clear eB
  subst he
  have h2 := (h1.alloc _).step hb2
  have ba2 := blk_below (heap_alloc_new w1 (.cells #[.int .i64 A.1, .int .i64 A.2.1, .int .i64 A.2.2] 40)) hb2 (by simp)
  clear c00 c01 c10 c11 c20 c21 c22 s1 s2 s3
  have c00 := cell_of_blk h2.p 0
  have c01 := cell_of_blk h2.p 1
  have c10 := cell_of_blk h2.q 0
  have c11 := cell_of_blk h2.q 1
  have c20 := cell_of_blk h2.l 0
  have c21 := cell_of_blk h2.l 1
  have c22 := cell_of_blk h2.l 2
  simp only [List.getElem?_toArray, List.getElem?_cons_zero, List.getElem?_cons_succ] at c00 c01 c10 c11 c20 c21 c22
  have s1 := blk_lt h2.p
  have s2 := blk_lt h2.q
  have s3 := blk_lt h2.l
  have a0 := cell_of_blk ba2 0
  have a1 := cell_of_blk ba2 1
  have a2 := cell_of_blk ba2 2
  simp only [List.getElem?_toArray, List.getElem?_cons_zero, List.getElem?_cons_succ] at a0 a1 a2
  have la := blk_lt ba2
  go_wp2_with fail
  refine (upright_no a b c px py _ _ HE2.out H2.out).mono ?_
  rintro e w3 ⟨he, hb3⟩
  subst he
  have h3 := (h2.alloc _).step hb3
  have ba3 := blk_below (blk_alloc ba2 _) hb3 (blk_lt (blk_alloc ba2 _))
  have bb3 := blk_below (heap_alloc_new w2 (.cells #[.int .i64 B.1, .int .i64 B.2.1, .int .i64 B.2.2] 40)) hb3 (by simp)
  clear c00 c01 c10 c11 c20 c21 c22 s1 s2 s3
  clear a0 a1 a2 la
  have c00 := cell_of_blk h3.p 0
  have c01 := cell_of_blk h3.p 1
  have c10 := cell_of_blk h3.q 0
  have c11 := cell_of_blk h3.q 1
  have c20 := cell_of_blk h3.l 0
  have c21 := cell_of_blk h3.l 1
  have c22 := cell_of_blk h3.l 2
  simp only [List.getElem?_toArray, List.getElem?_cons_zero, List.getElem?_cons_succ] at c00 c01 c10 c11 c20 c21 c22
  have s1 := blk_lt h3.p
  have s2 := blk_lt h3.q
  have s3 := blk_lt h3.l
  have a0 := cell_of_blk ba3 0
  have a1 := cell_of_blk ba3 1
  have a2 := cell_of_blk ba3 2
  simp only [List.getElem?_toArray, List.getElem?_cons_zero, List.getElem?_cons_succ] at a0 a1 a2
  have la := blk_lt ba3
  have b0 := cell_of_blk bb3 0
  have b1 := cell_of_blk bb3 1
  have b2 := cell_of_blk bb3 2
  simp only [List.getElem?_toArray, List.getElem?_cons_zero, List.getElem?_cons_succ] at b0 b1 b2
  have lb := blk_lt bb3
  have hr1 := rd_lit_p2 ((w3.alloc (.cells #[.int .i64 0, .int .i64 0, .int .i64 0] 40)).alloc (.cells #[.int .i64 0, .int .i64 0, .int .i64 0] 40)) px py px qy
  rw [World.size_alloc, World.size_alloc] at hr1
  go_wp2_with fail
  refine (farMay_any _ none 2 0 2 0 [(px, py), (px, qy)] [] _ hr1 Rd.nil (by decide) (by decide)).mono ?_
  rintro e w4 ⟨rfl, hb4⟩
  rw [HE.out]
  have h4 := (((h3.alloc _).alloc _).alloc _).step hb4
  have ba4 := blk_below (blk_alloc (blk_alloc (blk_alloc ba3 _) _) _) hb4 (blk_lt (blk_alloc (blk_alloc (blk_alloc ba3 _) _) _))
  have bb4 := blk_below (blk_alloc (blk_alloc (blk_alloc bb3 _) _) _) hb4 (blk_lt (blk_alloc (blk_alloc (blk_alloc bb3 _) _) _))
  have hn := heap_alloc_new w3 (.cells #[.int .i64 0, .int .i64 0, .int .i64 0] 40)
  have bc4 := blk_below (blk_alloc (blk_alloc hn _) _) hb4 (blk_lt (blk_alloc (blk_alloc hn _) _))
  have hz := heap_alloc_new (w3.alloc (.cells #[.int .i64 0, .int .i64 0, .int .i64 0] 40)) (.cells #[.int .i64 0, .int .i64 0, .int .i64 0] 40)
  rw [World.size_alloc] at hz
  have bz4 := blk_below (blk_alloc hz _) hb4 (blk_lt (blk_alloc hz _))
  clear c00 c01 c10 c11 c20 c21 c22 s1 s2 s3
  clear a0 a1 a2 la
  clear b0 b1 b2 lb
  have c00 := cell_of_blk h4.p 0
  have c01 := cell_of_blk h4.p 1
  have c10 := cell_of_blk h4.q 0
  have c11 := cell_of_blk h4.q 1
  have c20 := cell_of_blk h4.l 0
  have c21 := cell_of_blk h4.l 1
  have c22 := cell_of_blk h4.l 2
  simp only [List.getElem?_toArray, List.getElem?_cons_zero, List.getElem?_cons_succ] at c00 c01 c10 c11 c20 c21 c22
  have s1 := blk_lt h4.p
  have s2 := blk_lt h4.q
  have s3 := blk_lt h4.l
  have a0 := cell_of_blk ba4 0
  have a1 := cell_of_blk ba4 1
  have a2 := cell_of_blk ba4 2
  simp only [List.getElem?_toArray, List.getElem?_cons_zero, List.getElem?_cons_succ] at a0 a1 a2
  have la := blk_lt ba4
  have b0 := cell_of_blk bb4 0
  have b1 := cell_of_blk bb4 1
  have b2 := cell_of_blk bb4 2
  simp only [List.getElem?_toArray, List.getElem?_cons_zero, List.getElem?_cons_succ] at b0 b1 b2
  have lb := blk_lt bb4
  have c0 := cell_of_blk bc4 0
  have c1 := cell_of_blk bc4 1
  have c2 := cell_of_blk bc4 2
  simp only [List.getElem?_toArray, List.getElem?_cons_zero, List.getElem?_cons_succ] at c0 c1 c2
  have lc := blk_lt bc4
  have z0 := cell_of_blk bz4 0
  have z1 := cell_of_blk bz4 1
  have z2 := cell_of_blk bz4 2
  simp only [List.getElem?_toArray, List.getElem?_cons_zero, List.getElem?_cons_succ] at z0 z1 z2
  have lz := blk_lt bz4
  go_wp2_with fail
  have bel4 : Below w4.heap.size w4 w4.drew := (Below.refl _ _).drew
  go_region_held3 (fun w' => w'.cell? ⟨w.heap.size, 0, none⟩ = some (.int .i64 px) ∧ w'.cell? ⟨w.heap.size, 1, none⟩ = some (.int .i64 py) ∧ w'.cell? ⟨w.heap.size + 1, 0, none⟩ = some (.int .i64 px) ∧ w'.cell? ⟨w.heap.size + 1, 1, none⟩ = some (.int .i64 qy) ∧ w'.cell? ⟨w1.heap.size, 0, none⟩ = some (.int .i64 A.1) ∧ w'.cell? ⟨w1.heap.size, 1, none⟩ = some (.int .i64 A.2.1) ∧ w'.cell? ⟨w1.heap.size, 2, none⟩ = some (.int .i64 A.2.2) ∧ w'.cell? ⟨w2.heap.size, 0, none⟩ = some (.int .i64 B.1) ∧ w'.cell? ⟨w2.heap.size, 1, none⟩ = some (.int .i64 B.2.1) ∧ w'.cell? ⟨w2.heap.size, 2, none⟩ = some (.int .i64 B.2.2) ∧ Below w4.heap.size w4 w')
    (first
      | go_keep
      | (go_split_ands
         exact ⟨stay_c ‹_› hbc (Nat.le_refl _), stay_c ‹_› hbc (Nat.le_refl _), stay_c ‹_› hbc (Nat.le_refl _), stay_c ‹_› hbc (Nat.le_refl _), stay_c ‹_› hbc (Nat.le_refl _), stay_c ‹_› hbc (Nat.le_refl _), stay_c ‹_› hbc (Nat.le_refl _), stay_c ‹_› hbc (Nat.le_refl _), stay_c ‹_› hbc (Nat.le_refl _), stay_c ‹_› hbc (Nat.le_refl _), stay_b ‹_› hbc⟩))
    (first
      | (with_reducible refine (throughOf_ok px py px qy _ HE.out HNE.out).mono ?_; rintro e wc ⟨he, hbc⟩; rw [← HA.out] at he; subst he)
      | (with_reducible refine (ontoOf_ok px py px qy _ HE.out HNE.out).mono ?_; rintro e wc ⟨he, hbc⟩; rw [← HB.out] at he; subst he))
  rename_i hH
  obtain ⟨_, _, _, _, _, _, _, _, _, _, bel5⟩ := hH
  have h5 := h4.step bel5
  have bc5 := blk_below bc4 bel5 (blk_lt bc4)
  have bz5 := blk_below bz4 bel5 (blk_lt bz4)
  clear c00 c01 c10 c11 c20 c21 c22 s1 s2 s3
  clear a0 a1 a2 la
  clear b0 b1 b2 lb
  clear c0 c1 c2 lc
  clear z0 z1 z2 lz
  have c00 := cell_of_blk h5.p 0
  have c01 := cell_of_blk h5.p 1
  have c10 := cell_of_blk h5.q 0
  have c11 := cell_of_blk h5.q 1
  have c20 := cell_of_blk h5.l 0
  have c21 := cell_of_blk h5.l 1
  have c22 := cell_of_blk h5.l 2
  simp only [List.getElem?_toArray, List.getElem?_cons_zero, List.getElem?_cons_succ] at c00 c01 c10 c11 c20 c21 c22
  have s1 := blk_lt h5.p
  have s2 := blk_lt h5.q
  have s3 := blk_lt h5.l
  go_wp2_with fail
  have hr2 := (rd_lit_p1 wc px py).alloc (.cells #[.int .i64 a, .int .i64 b, .int .i64 c] 40)
  have hr3 := rd_lit_s1 (wc.alloc (.cells #[.int .i64 px, .int .i64 py] 29)) a b c
  rw [World.size_alloc] at hr3
  refine (farMay_any _ _ 1 1 1 1 [(px, py)] [(a, b, c)] _ hr2 hr3 (by decide) (by decide)).mono ?_
  rintro e w7 ⟨rfl, hb7⟩
  rw [HE2.out]
  have h7 := ((h5.alloc _).alloc _).step hb7
  have bc7 := blk_below (blk_alloc (blk_alloc bc5 _) _) hb7 (blk_lt (blk_alloc (blk_alloc bc5 _) _))
  have bz7 := blk_below (blk_alloc (blk_alloc bz5 _) _) hb7 (blk_lt (blk_alloc (blk_alloc bz5 _) _))
  clear c00 c01 c10 c11 c20 c21 c22 s1 s2 s3
  have c00 := cell_of_blk h7.p 0
  have c01 := cell_of_blk h7.p 1
  have c10 := cell_of_blk h7.q 0
  have c11 := cell_of_blk h7.q 1
  have c20 := cell_of_blk h7.l 0
  have c21 := cell_of_blk h7.l 1
  have c22 := cell_of_blk h7.l 2
  simp only [List.getElem?_toArray, List.getElem?_cons_zero, List.getElem?_cons_succ] at c00 c01 c10 c11 c20 c21 c22
  have s1 := blk_lt h7.p
  have s2 := blk_lt h7.q
  have s3 := blk_lt h7.l
  have c0 := cell_of_blk bc7 0
  have c1 := cell_of_blk bc7 1
  have c2 := cell_of_blk bc7 2
  simp only [List.getElem?_toArray, List.getElem?_cons_zero, List.getElem?_cons_succ] at c0 c1 c2
  have lc := blk_lt bc7
  have z0 := cell_of_blk bz7 0
  have z1 := cell_of_blk bz7 1
  have z2 := cell_of_blk bz7 2
  simp only [List.getElem?_toArray, List.getElem?_cons_zero, List.getElem?_cons_succ] at z0 z1 z2
  have lz := blk_lt bz7
  go_wp2
  go_ret
  exact ⟨rfl, h7.bel⟩

set_option maxRecDepth 100000 in
set_option maxHeartbeats 3200000 in
theorem apts_okB_ok (px py qy a b c : Int) (w : World) (hE : farE [(px, py), (px, qy)] [] = 0) (hy : ¬ py = qy) (hE2 : farE [(px, py)] [(a, b, c)] = 0) :
    Calls Try.prog 7 #[.agg #[.int .i64 px, .int .i64 py], .agg #[.int .i64 px, .int .i64 qy], .agg #[.int .i64 a, .int .i64 b, .int .i64 c]] w fun e w' => e = .returned (.bool true) ∧ Below w.heap.size w w' := by
  have HE := Lib.hid hE
  have HE2 := Lib.hid hE2
  clear hE hE2
  have hne : (px, py) ≠ (px, qy) := by simp; omega
  have HNE := Lib.hid hne
  clear hne
  have hyb : (py == qy) = false := by simpa using hy
  clear hy
  have h0' := Ppl.start w px py px qy a b c
  go_enter Try.func7, Try.ntmps7
  go_wp2_with fail
  refine (through_ok px py px qy _ HE.out HNE.out).mono ?_
  rintro e w1 ⟨he, hb1⟩
  obtain ⟨A, eA⟩ : ∃ S, S = formS (qy - py) (px - px) ((qy - py) * px + (px - px) * py) := ⟨_, rfl⟩
  rw [← eA] at he
  have HA := Lib.hid eA
  clear eA
  subst he
  have h1 := h0'.step hb1
  have c00 := cell_of_blk h1.p 0
  have c01 := cell_of_blk h1.p 1
  have c10 := cell_of_blk h1.q 0
  have c11 := cell_of_blk h1.q 1
  have c20 := cell_of_blk h1.l 0
  have c21 := cell_of_blk h1.l 1
  have c22 := cell_of_blk h1.l 2
  simp only [List.getElem?_toArray, List.getElem?_cons_zero, List.getElem?_cons_succ] at c00 c01 c10 c11 c20 c21 c22
  have s1 := blk_lt h1.p
  have s2 := blk_lt h1.q
  have s3 := blk_lt h1.l
  go_wp2_with fail
  refine (onto_ok px py px qy _ HE.out HNE.out).mono ?_
  rintro e w2 ⟨he, hb2⟩
  obtain ⟨B, eB⟩ : ∃ S, S = formS (2 * (px - px)) (2 * (qy - py)) (px * px + qy * qy - px * px - py * py) := ⟨_, rfl⟩
  rw [← eB] at he
  have HB := Lib.hid eB
  clear eB
  subst he
  have h2 := (h1.alloc _).step hb2
  have ba2 := blk_below (heap_alloc_new w1 (.cells #[.int .i64 A.1, .int .i64 A.2.1, .int .i64 A.2.2] 40)) hb2 (by simp)
  clear c00 c01 c10 c11 c20 c21 c22 s1 s2 s3
  have c00 := cell_of_blk h2.p 0
  have c01 := cell_of_blk h2.p 1
  have c10 := cell_of_blk h2.q 0
  have c11 := cell_of_blk h2.q 1
  have c20 := cell_of_blk h2.l 0
  have c21 := cell_of_blk h2.l 1
  have c22 := cell_of_blk h2.l 2
  simp only [List.getElem?_toArray, List.getElem?_cons_zero, List.getElem?_cons_succ] at c00 c01 c10 c11 c20 c21 c22
  have s1 := blk_lt h2.p
  have s2 := blk_lt h2.q
  have s3 := blk_lt h2.l
  have a0 := cell_of_blk ba2 0
  have a1 := cell_of_blk ba2 1
  have a2 := cell_of_blk ba2 2
  simp only [List.getElem?_toArray, List.getElem?_cons_zero, List.getElem?_cons_succ] at a0 a1 a2
  have la := blk_lt ba2
  go_wp2_with fail
  refine (upright_ok a b c px py _ HE2.out).mono ?_
  rintro e w3 ⟨he, hb3⟩
  obtain ⟨C, eC⟩ : ∃ S, S = formS b (-a) (b * px - a * py) := ⟨_, rfl⟩
  rw [← eC] at he
  have HC := Lib.hid eC
  clear eC
  subst he
  have h3 := (h2.alloc _).step hb3
  have ba3 := blk_below (blk_alloc ba2 _) hb3 (blk_lt (blk_alloc ba2 _))
  have bb3 := blk_below (heap_alloc_new w2 (.cells #[.int .i64 B.1, .int .i64 B.2.1, .int .i64 B.2.2] 40)) hb3 (by simp)
  clear c00 c01 c10 c11 c20 c21 c22 s1 s2 s3
  clear a0 a1 a2 la
  have c00 := cell_of_blk h3.p 0
  have c01 := cell_of_blk h3.p 1
  have c10 := cell_of_blk h3.q 0
  have c11 := cell_of_blk h3.q 1
  have c20 := cell_of_blk h3.l 0
  have c21 := cell_of_blk h3.l 1
  have c22 := cell_of_blk h3.l 2
  simp only [List.getElem?_toArray, List.getElem?_cons_zero, List.getElem?_cons_succ] at c00 c01 c10 c11 c20 c21 c22
  have s1 := blk_lt h3.p
  have s2 := blk_lt h3.q
  have s3 := blk_lt h3.l
  have a0 := cell_of_blk ba3 0
  have a1 := cell_of_blk ba3 1
  have a2 := cell_of_blk ba3 2
  simp only [List.getElem?_toArray, List.getElem?_cons_zero, List.getElem?_cons_succ] at a0 a1 a2
  have la := blk_lt ba3
  have b0 := cell_of_blk bb3 0
  have b1 := cell_of_blk bb3 1
  have b2 := cell_of_blk bb3 2
  simp only [List.getElem?_toArray, List.getElem?_cons_zero, List.getElem?_cons_succ] at b0 b1 b2
  have lb := blk_lt bb3
  have hr1 := rd_lit_p2 ((w3.alloc (.cells #[.int .i64 C.1, .int .i64 C.2.1, .int .i64 C.2.2] 40)).alloc (.cells #[.int .i64 0, .int .i64 0, .int .i64 0] 40)) px py px qy
  rw [World.size_alloc, World.size_alloc] at hr1
  go_wp2_with fail
  refine (farMay_any _ none 2 0 2 0 [(px, py), (px, qy)] [] _ hr1 Rd.nil (by decide) (by decide)).mono ?_
  rintro e w4 ⟨rfl, hb4⟩
  rw [HE.out]
  have h4 := (((h3.alloc _).alloc _).alloc _).step hb4
  have ba4 := blk_below (blk_alloc (blk_alloc (blk_alloc ba3 _) _) _) hb4 (blk_lt (blk_alloc (blk_alloc (blk_alloc ba3 _) _) _))
  have bb4 := blk_below (blk_alloc (blk_alloc (blk_alloc bb3 _) _) _) hb4 (blk_lt (blk_alloc (blk_alloc (blk_alloc bb3 _) _) _))
  have hn := heap_alloc_new w3 (.cells #[.int .i64 C.1, .int .i64 C.2.1, .int .i64 C.2.2] 40)
  have bc4 := blk_below (blk_alloc (blk_alloc hn _) _) hb4 (blk_lt (blk_alloc (blk_alloc hn _) _))
  have hz := heap_alloc_new (w3.alloc (.cells #[.int .i64 C.1, .int .i64 C.2.1, .int .i64 C.2.2] 40)) (.cells #[.int .i64 0, .int .i64 0, .int .i64 0] 40)
  rw [World.size_alloc] at hz
  have bz4 := blk_below (blk_alloc hz _) hb4 (blk_lt (blk_alloc hz _))
  clear c00 c01 c10 c11 c20 c21 c22 s1 s2 s3
  clear a0 a1 a2 la
  clear b0 b1 b2 lb
  have c00 := cell_of_blk h4.p 0
  have c01 := cell_of_blk h4.p 1
  have c10 := cell_of_blk h4.q 0
  have c11 := cell_of_blk h4.q 1
  have c20 := cell_of_blk h4.l 0
  have c21 := cell_of_blk h4.l 1
  have c22 := cell_of_blk h4.l 2
  simp only [List.getElem?_toArray, List.getElem?_cons_zero, List.getElem?_cons_succ] at c00 c01 c10 c11 c20 c21 c22
  have s1 := blk_lt h4.p
  have s2 := blk_lt h4.q
  have s3 := blk_lt h4.l
  have a0 := cell_of_blk ba4 0
  have a1 := cell_of_blk ba4 1
  have a2 := cell_of_blk ba4 2
  simp only [List.getElem?_toArray, List.getElem?_cons_zero, List.getElem?_cons_succ] at a0 a1 a2
  have la := blk_lt ba4
  have b0 := cell_of_blk bb4 0
  have b1 := cell_of_blk bb4 1
  have b2 := cell_of_blk bb4 2
  simp only [List.getElem?_toArray, List.getElem?_cons_zero, List.getElem?_cons_succ] at b0 b1 b2
  have lb := blk_lt bb4
  have c0 := cell_of_blk bc4 0
  have c1 := cell_of_blk bc4 1
  have c2 := cell_of_blk bc4 2
  simp only [List.getElem?_toArray, List.getElem?_cons_zero, List.getElem?_cons_succ] at c0 c1 c2
  have lc := blk_lt bc4
  have z0 := cell_of_blk bz4 0
  have z1 := cell_of_blk bz4 1
  have z2 := cell_of_blk bz4 2
  simp only [List.getElem?_toArray, List.getElem?_cons_zero, List.getElem?_cons_succ] at z0 z1 z2
  have lz := blk_lt bz4
  go_wp2_with fail
  have bel4 : Below w4.heap.size w4 w4.drew := (Below.refl _ _).drew
  go_region_held3 (fun w' => w'.cell? ⟨w.heap.size, 0, none⟩ = some (.int .i64 px) ∧ w'.cell? ⟨w.heap.size, 1, none⟩ = some (.int .i64 py) ∧ w'.cell? ⟨w.heap.size + 1, 0, none⟩ = some (.int .i64 px) ∧ w'.cell? ⟨w.heap.size + 1, 1, none⟩ = some (.int .i64 qy) ∧ w'.cell? ⟨w1.heap.size, 0, none⟩ = some (.int .i64 A.1) ∧ w'.cell? ⟨w1.heap.size, 1, none⟩ = some (.int .i64 A.2.1) ∧ w'.cell? ⟨w1.heap.size, 2, none⟩ = some (.int .i64 A.2.2) ∧ w'.cell? ⟨w2.heap.size, 0, none⟩ = some (.int .i64 B.1) ∧ w'.cell? ⟨w2.heap.size, 1, none⟩ = some (.int .i64 B.2.1) ∧ w'.cell? ⟨w2.heap.size, 2, none⟩ = some (.int .i64 B.2.2) ∧ Below w4.heap.size w4 w')
    (first
      | go_keep
      | (go_split_ands
         exact ⟨stay_c ‹_› hbc (Nat.le_refl _), stay_c ‹_› hbc (Nat.le_refl _), stay_c ‹_› hbc (Nat.le_refl _), stay_c ‹_› hbc (Nat.le_refl _), stay_c ‹_› hbc (Nat.le_refl _), stay_c ‹_› hbc (Nat.le_refl _), stay_c ‹_› hbc (Nat.le_refl _), stay_c ‹_› hbc (Nat.le_refl _), stay_c ‹_› hbc (Nat.le_refl _), stay_c ‹_› hbc (Nat.le_refl _), stay_b ‹_› hbc⟩))
    (first
      | (with_reducible refine (throughOf_ok px py px qy _ HE.out HNE.out).mono ?_; rintro e wc ⟨he, hbc⟩; rw [← HA.out] at he; subst he)
      | (with_reducible refine (ontoOf_ok px py px qy _ HE.out HNE.out).mono ?_; rintro e wc ⟨he, hbc⟩; rw [← HB.out] at he; subst he))
  rename_i hH
  obtain ⟨_, _, _, _, _, _, _, _, _, _, bel5⟩ := hH
  have h5 := h4.step bel5
  have bc5 := blk_below bc4 bel5 (blk_lt bc4)
  have bz5 := blk_below bz4 bel5 (blk_lt bz4)
  clear c00 c01 c10 c11 c20 c21 c22 s1 s2 s3
  clear a0 a1 a2 la
  clear b0 b1 b2 lb
  clear c0 c1 c2 lc
  clear z0 z1 z2 lz
  have c00 := cell_of_blk h5.p 0
  have c01 := cell_of_blk h5.p 1
  have c10 := cell_of_blk h5.q 0
  have c11 := cell_of_blk h5.q 1
  have c20 := cell_of_blk h5.l 0
  have c21 := cell_of_blk h5.l 1
  have c22 := cell_of_blk h5.l 2
  simp only [List.getElem?_toArray, List.getElem?_cons_zero, List.getElem?_cons_succ] at c00 c01 c10 c11 c20 c21 c22
  have s1 := blk_lt h5.p
  have s2 := blk_lt h5.q
  have s3 := blk_lt h5.l
  go_wp2_with fail
  have hr2 := (rd_lit_p1 wc px py).alloc (.cells #[.int .i64 a, .int .i64 b, .int .i64 c] 40)
  have hr3 := rd_lit_s1 (wc.alloc (.cells #[.int .i64 px, .int .i64 py] 29)) a b c
  rw [World.size_alloc] at hr3
  refine (farMay_any _ _ 1 1 1 1 [(px, py)] [(a, b, c)] _ hr2 hr3 (by decide) (by decide)).mono ?_
  rintro e w7 ⟨rfl, hb7⟩
  rw [HE2.out]
  have h7 := ((h5.alloc _).alloc _).step hb7
  have bc7 := blk_below (blk_alloc (blk_alloc bc5 _) _) hb7 (blk_lt (blk_alloc (blk_alloc bc5 _) _))
  have bz7 := blk_below (blk_alloc (blk_alloc bz5 _) _) hb7 (blk_lt (blk_alloc (blk_alloc bz5 _) _))
  clear c00 c01 c10 c11 c20 c21 c22 s1 s2 s3
  have c00 := cell_of_blk h7.p 0
  have c01 := cell_of_blk h7.p 1
  have c10 := cell_of_blk h7.q 0
  have c11 := cell_of_blk h7.q 1
  have c20 := cell_of_blk h7.l 0
  have c21 := cell_of_blk h7.l 1
  have c22 := cell_of_blk h7.l 2
  simp only [List.getElem?_toArray, List.getElem?_cons_zero, List.getElem?_cons_succ] at c00 c01 c10 c11 c20 c21 c22
  have s1 := blk_lt h7.p
  have s2 := blk_lt h7.q
  have s3 := blk_lt h7.l
  have c0 := cell_of_blk bc7 0
  have c1 := cell_of_blk bc7 1
  have c2 := cell_of_blk bc7 2
  simp only [List.getElem?_toArray, List.getElem?_cons_zero, List.getElem?_cons_succ] at c0 c1 c2
  have lc := blk_lt bc7
  have z0 := cell_of_blk bz7 0
  have z1 := cell_of_blk bz7 1
  have z2 := cell_of_blk bz7 2
  simp only [List.getElem?_toArray, List.getElem?_cons_zero, List.getElem?_cons_succ] at z0 z1 z2
  have lz := blk_lt bz7
  go_wp2_with fail
  have bel7 : Below w7.heap.size w7 w7.drew := (Below.refl _ _).drew
  go_region_held3 (fun w' => w'.cell? ⟨w.heap.size, 0, none⟩ = some (.int .i64 px) ∧ w'.cell? ⟨w.heap.size, 1, none⟩ = some (.int .i64 py) ∧ w'.cell? ⟨w.heap.size + 1 + 1, 0, none⟩ = some (.int .i64 a) ∧ w'.cell? ⟨w.heap.size + 1 + 1, 1, none⟩ = some (.int .i64 b) ∧ w'.cell? ⟨w.heap.size + 1 + 1, 2, none⟩ = some (.int .i64 c) ∧ w'.cell? ⟨w3.heap.size, 0, none⟩ = some (.int .i64 C.1) ∧ w'.cell? ⟨w3.heap.size, 1, none⟩ = some (.int .i64 C.2.1) ∧ w'.cell? ⟨w3.heap.size, 2, none⟩ = some (.int .i64 C.2.2) ∧ Below w7.heap.size w7 w')
    (first
      | go_keep
      | (go_split_ands
         exact ⟨stay_c ‹_› hbc (Nat.le_refl _), stay_c ‹_› hbc (Nat.le_refl _), stay_c ‹_› hbc (Nat.le_refl _), stay_c ‹_› hbc (Nat.le_refl _), stay_c ‹_› hbc (Nat.le_refl _), stay_c ‹_› hbc (Nat.le_refl _), stay_c ‹_› hbc (Nat.le_refl _), stay_c ‹_› hbc (Nat.le_refl _), stay_b ‹_› hbc⟩))
    ((refine (uprightOf_ok a b c px py _ HE2.out).mono ?_; rintro e wc ⟨he, hbc⟩; rw [← HC.out] at he; subst he))
  all_goals
    go_wp2
    go_ret
    rename_i hH
    obtain ⟨_, _, _, _, _, _, _, _, bel9⟩ := hH
    exact ⟨by simp, (h7.step bel9).bel⟩

theorem apts_walk (px py qx qy a b c : Int) (w : World) :
    Calls Try.prog 7 #[.agg #[.int .i64 px, .int .i64 py], .agg #[.int .i64 qx, .int .i64 qy], .agg #[.int .i64 a, .int .i64 b, .int .i64 c]] w fun e w' => e = .returned (.bool true) ∧ Below w.heap.size w w' := by
  by_cases hE : farE [(px, py), (qx, qy)] [] = 0
  · by_cases hx : px = qx
    · subst hx
      by_cases hy : py = qy
      · subst hy
        by_cases hE2 : farE [(px, py)] [(a, b, c)] = 0
        · exact apts_eq_ok px py a b c w hE hE2
        · exact apts_eq_no px py a b c w hE _ rfl hE2
      · by_cases hE2 : farE [(px, py)] [(a, b, c)] = 0
        · exact apts_okB_ok px py qy a b c w hE hy hE2
        · exact apts_okB_no px py qy a b c w hE hy _ rfl hE2
    · by_cases hE2 : farE [(px, py)] [(a, b, c)] = 0
      · exact apts_okA_ok px py qx qy a b c w hE hx hE2
      · exact apts_okA_no px py qx qy a b c w hE hx _ rfl hE2
  · by_cases hE2 : farE [(px, py)] [(a, b, c)] = 0
    · exact apts_no_ok px py qx qy a b c w _ rfl hE hE2
    · exact apts_no_no px py qx qy a b c w _ rfl hE _ rfl hE2
end Go.Proofs.Ythfhkmgegkhljaa
