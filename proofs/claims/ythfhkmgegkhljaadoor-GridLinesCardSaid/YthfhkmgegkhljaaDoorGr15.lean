/- The walk of GridLines. Printed by gen_gr15.py. -/
import Derived.Test.YthfhkmgegkhljaaDoorGr11
import Derived.Test.YthfhkmgegkhljaaDoorGr13
import Derived.Test.YthfhkmgegkhljaaDoorGr14
namespace Go.Proofs.YthfhkmgegkhljaaDoor
open Go.RowKit

structure Lt (w X : World) (v c x y k : Int) : Prop where
  l : X.heap[w.heap.size]? = some (.cells #[.int .i64 v, .int .i64 c] 47 (0, 0))
  t : X.heap[w.heap.size + 1]? = some (.cells #[.int .i64 x, .int .i64 y, .int .i64 k] 23 (0, 0))
  bel : Below w.heap.size w X
theorem Lt.start (w : World) (v c x y k : Int) : Lt w (boxes w v c x y k) v c x y k := ⟨boxes_l .., boxes_t .., boxes_below ..⟩
theorem Lt.step {w X Y : World} {v c x y k : Int} (h : Lt w X v c x y k) (hb : Below X.heap.size X Y) : Lt w Y v c x y k :=
  ⟨blk_below h.l hb (blk_lt h.l), blk_below h.t hb (blk_lt h.t), stay_b h.bel hb⟩
theorem Lt.alloc {w X : World} {v c x y k : Int} (h : Lt w X v c x y k) (o : Obj) : Lt w (X.alloc o) v c x y k := h.step (below_new X o)

set_option maxRecDepth 100000 in
set_option maxHeartbeats 3200000 in
theorem lines_noL (v c x y k : Int) (w : World) (hs : Steps w) (hl : lineMayB v c = false) :
    Calls Tryd.prog 4 #[.agg #[.int .i64 v, .int .i64 c], .agg #[.int .i64 x, .int .i64 y, .int .i64 k]] w fun e w' => e = .returned (.bool true) ∧ Below w.heap.size w w' := by
  have HL := Lib.hid hl
  clear hl
  have h0 := Lt.start w v c x y k
  go_enter Tryd.func4, Tryd.ntmps4
  go_wp2_with fail
  refine (gside_noL v c x y k _ HL.out).mono ?_
  rintro e w1 ⟨he, hb1⟩
  subst he
  have h1 := h0.step hb1
  have l0 := cell_of_blk h1.l 0
  have l1 := cell_of_blk h1.l 1
  have t0 := cell_of_blk h1.t 0
  have t1 := cell_of_blk h1.t 1
  have t2 := cell_of_blk h1.t 2
  simp only [List.getElem?_toArray, List.getElem?_cons_zero, List.getElem?_cons_succ] at l0 l1 t0 t1 t2
  have sl := blk_lt h1.l
  have st := blk_lt h1.t
  go_wp2_with fail
  refine (gmir_noL v c _ HL.out).mono ?_
  rintro e w2 ⟨he, hb2⟩
  obtain ⟨m, hm⟩ : ∃ m, m = mirB v c := ⟨_, rfl⟩
  try rw [← hm] at he
  have HM := Lib.hid hm
  clear hm
  try simp only [M0] at he
  subst he
  have h2 := h1.step hb2
  clear l0 l1 t0 t1 t2 sl st
  have l0 := cell_of_blk h2.l 0
  have l1 := cell_of_blk h2.l 1
  have t0 := cell_of_blk h2.t 0
  have t1 := cell_of_blk h2.t 1
  have t2 := cell_of_blk h2.t 2
  simp only [List.getElem?_toArray, List.getElem?_cons_zero, List.getElem?_cons_succ] at l0 l1 t0 t1 t2
  have sl := blk_lt h2.l
  have st := blk_lt h2.t
  go_wp2_with fail
  refine (refLine_any v c _).mono ?_
  rintro e w3 ⟨rfl, hb3⟩
  rw [HL.out]
  have h3 := (h2.alloc _).step hb3
  have kb3 := blk_below (heap_alloc_new w2 (.cells #[.int .i64 0, .int .i64 0, .int .i64 0, .int .i64 0, .int .i64 0, .int .i64 0] 51)) hb3 (by simp)
  clear l0 l1 t0 t1 t2 sl st
  have l0 := cell_of_blk h3.l 0
  have l1 := cell_of_blk h3.l 1
  have t0 := cell_of_blk h3.t 0
  have t1 := cell_of_blk h3.t 1
  have t2 := cell_of_blk h3.t 2
  simp only [List.getElem?_toArray, List.getElem?_cons_zero, List.getElem?_cons_succ] at l0 l1 t0 t1 t2
  have sl := blk_lt h3.l
  have st := blk_lt h3.t
  have b0 := cell_of_blk kb3 0
  have b1 := cell_of_blk kb3 1
  have b2 := cell_of_blk kb3 2
  have b3 := cell_of_blk kb3 3
  have b4 := cell_of_blk kb3 4
  have b5 := cell_of_blk kb3 5
  have bs := blk_lt kb3
  simp only [List.getElem?_toArray, List.getElem?_cons_zero, List.getElem?_cons_succ] at b0 b1 b2 b3 b4 b5
  go_wp2_with fail
  refine (refLine_any v c _).mono ?_
  rintro e w4 ⟨rfl, hb4⟩
  rw [HL.out]
  have h4 := (h3).step hb4
  have kb4 := blk_below kb3 hb4 (blk_lt kb3)
  clear l0 l1 t0 t1 t2 sl st
  clear b0 b1 b2 b3 b4 b5 bs
  have l0 := cell_of_blk h4.l 0
  have l1 := cell_of_blk h4.l 1
  have t0 := cell_of_blk h4.t 0
  have t1 := cell_of_blk h4.t 1
  have t2 := cell_of_blk h4.t 2
  simp only [List.getElem?_toArray, List.getElem?_cons_zero, List.getElem?_cons_succ] at l0 l1 t0 t1 t2
  have sl := blk_lt h4.l
  have st := blk_lt h4.t
  have b0 := cell_of_blk kb4 0
  have b1 := cell_of_blk kb4 1
  have b2 := cell_of_blk kb4 2
  have b3 := cell_of_blk kb4 3
  have b4 := cell_of_blk kb4 4
  have b5 := cell_of_blk kb4 5
  have bs := blk_lt kb4
  simp only [List.getElem?_toArray, List.getElem?_cons_zero, List.getElem?_cons_succ] at b0 b1 b2 b3 b4 b5
  go_wp2
  go_ret
  exact ⟨by simp, h4.bel⟩

set_option maxRecDepth 100000 in
set_option maxHeartbeats 3200000 in
theorem lines_noTM (v c x y k : Int) (w : World) (hs : Steps w) (hl : lineMayB v c = true) (ht : triMayB x y k = false) (hm : mapMayB (mirB v c) = false) :
    Calls Tryd.prog 4 #[.agg #[.int .i64 v, .int .i64 c], .agg #[.int .i64 x, .int .i64 y, .int .i64 k]] w fun e w' => e = .returned (.bool true) ∧ Below w.heap.size w w' := by
  have HL := Lib.hid hl
  have HT := Lib.hid ht
  have HK := Lib.hid hm
  obtain ⟨⟨_, _⟩, ⟨c1, c2⟩, _⟩ := lineMayB_bd hl
  clear hl ht hm
  have h0 := Lt.start w v c x y k
  go_enter Tryd.func4, Tryd.ntmps4
  go_wp2_with fail
  refine (gside_noT v c x y k _ HL.out HT.out).mono ?_
  rintro e w1 ⟨he, hb1⟩
  subst he
  have h1 := h0.step hb1
  have l0 := cell_of_blk h1.l 0
  have l1 := cell_of_blk h1.l 1
  have t0 := cell_of_blk h1.t 0
  have t1 := cell_of_blk h1.t 1
  have t2 := cell_of_blk h1.t 2
  simp only [List.getElem?_toArray, List.getElem?_cons_zero, List.getElem?_cons_succ] at l0 l1 t0 t1 t2
  have sl := blk_lt h1.l
  have st := blk_lt h1.t
  go_wp2_with fail
  refine (gmir_noM v c _ HL.out HK.out).mono ?_
  rintro e w2 ⟨he, hb2⟩
  obtain ⟨m, hm⟩ : ∃ m, m = mirB v c := ⟨_, rfl⟩
  try rw [← hm] at he
  have HM := Lib.hid hm
  clear hm
  try simp only [M0] at he
  subst he
  have h2 := h1.step hb2
  clear l0 l1 t0 t1 t2 sl st
  have l0 := cell_of_blk h2.l 0
  have l1 := cell_of_blk h2.l 1
  have t0 := cell_of_blk h2.t 0
  have t1 := cell_of_blk h2.t 1
  have t2 := cell_of_blk h2.t 2
  simp only [List.getElem?_toArray, List.getElem?_cons_zero, List.getElem?_cons_succ] at l0 l1 t0 t1 t2
  have sl := blk_lt h2.l
  have st := blk_lt h2.t
  go_wp2_with fail
  refine (refLine_any v c _).mono ?_
  rintro e w3 ⟨rfl, hb3⟩
  rw [HL.out]
  have h3 := (h2.alloc _).step hb3
  have kb3 := blk_below (heap_alloc_new w2 (.cells #[.int .i64 0, .int .i64 0, .int .i64 0, .int .i64 0, .int .i64 0, .int .i64 0] 51)) hb3 (by simp)
  clear l0 l1 t0 t1 t2 sl st
  have l0 := cell_of_blk h3.l 0
  have l1 := cell_of_blk h3.l 1
  have t0 := cell_of_blk h3.t 0
  have t1 := cell_of_blk h3.t 1
  have t2 := cell_of_blk h3.t 2
  simp only [List.getElem?_toArray, List.getElem?_cons_zero, List.getElem?_cons_succ] at l0 l1 t0 t1 t2
  have sl := blk_lt h3.l
  have st := blk_lt h3.t
  have b0 := cell_of_blk kb3 0
  have b1 := cell_of_blk kb3 1
  have b2 := cell_of_blk kb3 2
  have b3 := cell_of_blk kb3 3
  have b4 := cell_of_blk kb3 4
  have b5 := cell_of_blk kb3 5
  have bs := blk_lt kb3
  simp only [List.getElem?_toArray, List.getElem?_cons_zero, List.getElem?_cons_succ] at b0 b1 b2 b3 b4 b5
  go_wp2_with fail
  refine (refTri_any x y k _).mono ?_
  rintro e w4 ⟨rfl, hb4⟩
  rw [HT.out]
  have h4 := (h3).step hb4
  have kb4 := blk_below kb3 hb4 (blk_lt kb3)
  clear l0 l1 t0 t1 t2 sl st
  clear b0 b1 b2 b3 b4 b5 bs
  have l0 := cell_of_blk h4.l 0
  have l1 := cell_of_blk h4.l 1
  have t0 := cell_of_blk h4.t 0
  have t1 := cell_of_blk h4.t 1
  have t2 := cell_of_blk h4.t 2
  simp only [List.getElem?_toArray, List.getElem?_cons_zero, List.getElem?_cons_succ] at l0 l1 t0 t1 t2
  have sl := blk_lt h4.l
  have st := blk_lt h4.t
  have b0 := cell_of_blk kb4 0
  have b1 := cell_of_blk kb4 1
  have b2 := cell_of_blk kb4 2
  have b3 := cell_of_blk kb4 3
  have b4 := cell_of_blk kb4 4
  have b5 := cell_of_blk kb4 5
  have bs := blk_lt kb4
  simp only [List.getElem?_toArray, List.getElem?_cons_zero, List.getElem?_cons_succ] at b0 b1 b2 b3 b4 b5
  go_wp2_with fail
  refine (refLine_any v c _).mono ?_
  rintro e w5 ⟨rfl, hb5⟩
  rw [HL.out]
  have h5 := (h4).step hb5
  have kb5 := blk_below kb4 hb5 (blk_lt kb4)
  clear l0 l1 t0 t1 t2 sl st
  clear b0 b1 b2 b3 b4 b5 bs
  have l0 := cell_of_blk h5.l 0
  have l1 := cell_of_blk h5.l 1
  have t0 := cell_of_blk h5.t 0
  have t1 := cell_of_blk h5.t 1
  have t2 := cell_of_blk h5.t 2
  simp only [List.getElem?_toArray, List.getElem?_cons_zero, List.getElem?_cons_succ] at l0 l1 t0 t1 t2
  have sl := blk_lt h5.l
  have st := blk_lt h5.t
  have b0 := cell_of_blk kb5 0
  have b1 := cell_of_blk kb5 1
  have b2 := cell_of_blk kb5 2
  have b3 := cell_of_blk kb5 3
  have b4 := cell_of_blk kb5 4
  have b5 := cell_of_blk kb5 5
  have bs := blk_lt kb5
  simp only [List.getElem?_toArray, List.getElem?_cons_zero, List.getElem?_cons_succ] at b0 b1 b2 b3 b4 b5
  go_wp2_with fail
  refine (mirrorOf_any v c _ c1 c2).mono ?_
  rintro e w6 ⟨he, hb6⟩
  rw [← HM.out] at he
  subst he
  have h6 := (h5).step hb6
  have kb6 := blk_below kb5 hb6 (blk_lt kb5)
  clear l0 l1 t0 t1 t2 sl st
  clear b0 b1 b2 b3 b4 b5 bs
  have l0 := cell_of_blk h6.l 0
  have l1 := cell_of_blk h6.l 1
  have t0 := cell_of_blk h6.t 0
  have t1 := cell_of_blk h6.t 1
  have t2 := cell_of_blk h6.t 2
  simp only [List.getElem?_toArray, List.getElem?_cons_zero, List.getElem?_cons_succ] at l0 l1 t0 t1 t2
  have sl := blk_lt h6.l
  have st := blk_lt h6.t
  have b0 := cell_of_blk kb6 0
  have b1 := cell_of_blk kb6 1
  have b2 := cell_of_blk kb6 2
  have b3 := cell_of_blk kb6 3
  have b4 := cell_of_blk kb6 4
  have b5 := cell_of_blk kb6 5
  have bs := blk_lt kb6
  simp only [List.getElem?_toArray, List.getElem?_cons_zero, List.getElem?_cons_succ] at b0 b1 b2 b3 b4 b5
  have HMM : Hid (mapMayB m = false) := Lib.hid (by rw [HM.out]; exact HK.out)
  have hcon : Calls Tryd.prog 21 #[aggM m] (w6.alloc (.cells #[.int .i64 m.1, .int .i64 m.2.1, .int .i64 m.2.2.1, .int .i64 m.2.2.2.1, .int .i64 m.2.2.2.2.1, .int .i64 m.2.2.2.2.2] 51)) fun r w' => r = .returned (.bool (mapMayB m)) ∧ Below (w6.alloc (.cells #[.int .i64 m.1, .int .i64 m.2.1, .int .i64 m.2.2.1, .int .i64 m.2.2.2.1, .int .i64 m.2.2.2.2.1, .int .i64 m.2.2.2.2.2] 51)).heap.size (w6.alloc (.cells #[.int .i64 m.1, .int .i64 m.2.1, .int .i64 m.2.2.1, .int .i64 m.2.2.2.1, .int .i64 m.2.2.2.2.1, .int .i64 m.2.2.2.2.2] 51)) w' := by rw [HM.out]; exact refMap_mir v c _
  have HCON := Lib.hid hcon
  clear hcon
  go_wp2_with fail
  refine (HCON.out).mono ?_
  rintro e w7 ⟨rfl, hb7⟩
  rw [HMM.out]
  have kd7 := blk_below (heap_alloc_new w6 (.cells #[.int .i64 m.1, .int .i64 m.2.1, .int .i64 m.2.2.1, .int .i64 m.2.2.2.1, .int .i64 m.2.2.2.2.1, .int .i64 m.2.2.2.2.2] 51)) hb7 (by simp)
  have h7 := (h6.alloc _).step hb7
  have kb7 := blk_below (blk_alloc kb6 _) hb7 (blk_lt (blk_alloc kb6 _))
  clear l0 l1 t0 t1 t2 sl st
  clear b0 b1 b2 b3 b4 b5 bs
  have l0 := cell_of_blk h7.l 0
  have l1 := cell_of_blk h7.l 1
  have t0 := cell_of_blk h7.t 0
  have t1 := cell_of_blk h7.t 1
  have t2 := cell_of_blk h7.t 2
  simp only [List.getElem?_toArray, List.getElem?_cons_zero, List.getElem?_cons_succ] at l0 l1 t0 t1 t2
  have sl := blk_lt h7.l
  have st := blk_lt h7.t
  have b0 := cell_of_blk kb7 0
  have b1 := cell_of_blk kb7 1
  have b2 := cell_of_blk kb7 2
  have b3 := cell_of_blk kb7 3
  have b4 := cell_of_blk kb7 4
  have b5 := cell_of_blk kb7 5
  have bs := blk_lt kb7
  simp only [List.getElem?_toArray, List.getElem?_cons_zero, List.getElem?_cons_succ] at b0 b1 b2 b3 b4 b5
  have d0 := cell_of_blk kd7 0
  have d1 := cell_of_blk kd7 1
  have d2 := cell_of_blk kd7 2
  have d3 := cell_of_blk kd7 3
  have d4 := cell_of_blk kd7 4
  have d5 := cell_of_blk kd7 5
  have ds := blk_lt kd7
  simp only [List.getElem?_toArray, List.getElem?_cons_zero, List.getElem?_cons_succ] at d0 d1 d2 d3 d4 d5
  go_wp2
  go_ret
  exact ⟨by simp, h7.bel⟩

set_option maxRecDepth 100000 in
set_option maxHeartbeats 3200000 in
theorem lines_noT (v c x y k : Int) (w : World) (hs : Steps w) (hl : lineMayB v c = true) (ht : triMayB x y k = false) (hm : mapMayB (mirB v c) = true) :
    Calls Tryd.prog 4 #[.agg #[.int .i64 v, .int .i64 c], .agg #[.int .i64 x, .int .i64 y, .int .i64 k]] w fun e w' => e = .returned (.bool true) ∧ Below w.heap.size w w' := by
  have HL := Lib.hid hl
  have HT := Lib.hid ht
  have HK := Lib.hid hm
  obtain ⟨⟨_, _⟩, ⟨c1, c2⟩, _⟩ := lineMayB_bd hl
  clear hl ht hm
  have h0 := Lt.start w v c x y k
  go_enter Tryd.func4, Tryd.ntmps4
  go_wp2_with fail
  refine (gside_noT v c x y k _ HL.out HT.out).mono ?_
  rintro e w1 ⟨he, hb1⟩
  subst he
  have h1 := h0.step hb1
  have l0 := cell_of_blk h1.l 0
  have l1 := cell_of_blk h1.l 1
  have t0 := cell_of_blk h1.t 0
  have t1 := cell_of_blk h1.t 1
  have t2 := cell_of_blk h1.t 2
  simp only [List.getElem?_toArray, List.getElem?_cons_zero, List.getElem?_cons_succ] at l0 l1 t0 t1 t2
  have sl := blk_lt h1.l
  have st := blk_lt h1.t
  go_wp2_with fail
  refine (gmir_ok v c _ HL.out HK.out).mono ?_
  rintro e w2 ⟨he, hb2⟩
  obtain ⟨m, hm⟩ : ∃ m, m = mirB v c := ⟨_, rfl⟩
  try rw [← hm] at he
  have HM := Lib.hid hm
  clear hm
  try simp only [M0] at he
  subst he
  have h2 := h1.step hb2
  clear l0 l1 t0 t1 t2 sl st
  have l0 := cell_of_blk h2.l 0
  have l1 := cell_of_blk h2.l 1
  have t0 := cell_of_blk h2.t 0
  have t1 := cell_of_blk h2.t 1
  have t2 := cell_of_blk h2.t 2
  simp only [List.getElem?_toArray, List.getElem?_cons_zero, List.getElem?_cons_succ] at l0 l1 t0 t1 t2
  have sl := blk_lt h2.l
  have st := blk_lt h2.t
  go_wp2_with fail
  refine (refLine_any v c _).mono ?_
  rintro e w3 ⟨rfl, hb3⟩
  rw [HL.out]
  have h3 := (h2.alloc _).step hb3
  have kb3 := blk_below (heap_alloc_new w2 (.cells #[.int .i64 m.1, .int .i64 m.2.1, .int .i64 m.2.2.1, .int .i64 m.2.2.2.1, .int .i64 m.2.2.2.2.1, .int .i64 m.2.2.2.2.2] 51)) hb3 (by simp)
  clear l0 l1 t0 t1 t2 sl st
  have l0 := cell_of_blk h3.l 0
  have l1 := cell_of_blk h3.l 1
  have t0 := cell_of_blk h3.t 0
  have t1 := cell_of_blk h3.t 1
  have t2 := cell_of_blk h3.t 2
  simp only [List.getElem?_toArray, List.getElem?_cons_zero, List.getElem?_cons_succ] at l0 l1 t0 t1 t2
  have sl := blk_lt h3.l
  have st := blk_lt h3.t
  have b0 := cell_of_blk kb3 0
  have b1 := cell_of_blk kb3 1
  have b2 := cell_of_blk kb3 2
  have b3 := cell_of_blk kb3 3
  have b4 := cell_of_blk kb3 4
  have b5 := cell_of_blk kb3 5
  have bs := blk_lt kb3
  simp only [List.getElem?_toArray, List.getElem?_cons_zero, List.getElem?_cons_succ] at b0 b1 b2 b3 b4 b5
  go_wp2_with fail
  refine (refTri_any x y k _).mono ?_
  rintro e w4 ⟨rfl, hb4⟩
  rw [HT.out]
  have h4 := (h3).step hb4
  have kb4 := blk_below kb3 hb4 (blk_lt kb3)
  clear l0 l1 t0 t1 t2 sl st
  clear b0 b1 b2 b3 b4 b5 bs
  have l0 := cell_of_blk h4.l 0
  have l1 := cell_of_blk h4.l 1
  have t0 := cell_of_blk h4.t 0
  have t1 := cell_of_blk h4.t 1
  have t2 := cell_of_blk h4.t 2
  simp only [List.getElem?_toArray, List.getElem?_cons_zero, List.getElem?_cons_succ] at l0 l1 t0 t1 t2
  have sl := blk_lt h4.l
  have st := blk_lt h4.t
  have b0 := cell_of_blk kb4 0
  have b1 := cell_of_blk kb4 1
  have b2 := cell_of_blk kb4 2
  have b3 := cell_of_blk kb4 3
  have b4 := cell_of_blk kb4 4
  have b5 := cell_of_blk kb4 5
  have bs := blk_lt kb4
  simp only [List.getElem?_toArray, List.getElem?_cons_zero, List.getElem?_cons_succ] at b0 b1 b2 b3 b4 b5
  go_wp2_with fail
  refine (refLine_any v c _).mono ?_
  rintro e w5 ⟨rfl, hb5⟩
  rw [HL.out]
  have h5 := (h4).step hb5
  have kb5 := blk_below kb4 hb5 (blk_lt kb4)
  clear l0 l1 t0 t1 t2 sl st
  clear b0 b1 b2 b3 b4 b5 bs
  have l0 := cell_of_blk h5.l 0
  have l1 := cell_of_blk h5.l 1
  have t0 := cell_of_blk h5.t 0
  have t1 := cell_of_blk h5.t 1
  have t2 := cell_of_blk h5.t 2
  simp only [List.getElem?_toArray, List.getElem?_cons_zero, List.getElem?_cons_succ] at l0 l1 t0 t1 t2
  have sl := blk_lt h5.l
  have st := blk_lt h5.t
  have b0 := cell_of_blk kb5 0
  have b1 := cell_of_blk kb5 1
  have b2 := cell_of_blk kb5 2
  have b3 := cell_of_blk kb5 3
  have b4 := cell_of_blk kb5 4
  have b5 := cell_of_blk kb5 5
  have bs := blk_lt kb5
  simp only [List.getElem?_toArray, List.getElem?_cons_zero, List.getElem?_cons_succ] at b0 b1 b2 b3 b4 b5
  go_wp2_with fail
  refine (mirrorOf_any v c _ c1 c2).mono ?_
  rintro e w6 ⟨he, hb6⟩
  rw [← HM.out] at he
  subst he
  have h6 := (h5).step hb6
  have kb6 := blk_below kb5 hb6 (blk_lt kb5)
  clear l0 l1 t0 t1 t2 sl st
  clear b0 b1 b2 b3 b4 b5 bs
  have l0 := cell_of_blk h6.l 0
  have l1 := cell_of_blk h6.l 1
  have t0 := cell_of_blk h6.t 0
  have t1 := cell_of_blk h6.t 1
  have t2 := cell_of_blk h6.t 2
  simp only [List.getElem?_toArray, List.getElem?_cons_zero, List.getElem?_cons_succ] at l0 l1 t0 t1 t2
  have sl := blk_lt h6.l
  have st := blk_lt h6.t
  have b0 := cell_of_blk kb6 0
  have b1 := cell_of_blk kb6 1
  have b2 := cell_of_blk kb6 2
  have b3 := cell_of_blk kb6 3
  have b4 := cell_of_blk kb6 4
  have b5 := cell_of_blk kb6 5
  have bs := blk_lt kb6
  simp only [List.getElem?_toArray, List.getElem?_cons_zero, List.getElem?_cons_succ] at b0 b1 b2 b3 b4 b5
  have HMM : Hid (mapMayB m = true) := Lib.hid (by rw [HM.out]; exact HK.out)
  have hcon : Calls Tryd.prog 21 #[aggM m] (w6.alloc (.cells #[.int .i64 m.1, .int .i64 m.2.1, .int .i64 m.2.2.1, .int .i64 m.2.2.2.1, .int .i64 m.2.2.2.2.1, .int .i64 m.2.2.2.2.2] 51)) fun r w' => r = .returned (.bool (mapMayB m)) ∧ Below (w6.alloc (.cells #[.int .i64 m.1, .int .i64 m.2.1, .int .i64 m.2.2.1, .int .i64 m.2.2.2.1, .int .i64 m.2.2.2.2.1, .int .i64 m.2.2.2.2.2] 51)).heap.size (w6.alloc (.cells #[.int .i64 m.1, .int .i64 m.2.1, .int .i64 m.2.2.1, .int .i64 m.2.2.2.1, .int .i64 m.2.2.2.2.1, .int .i64 m.2.2.2.2.2] 51)) w' := by rw [HM.out]; exact refMap_mir v c _
  have HCON := Lib.hid hcon
  clear hcon
  go_wp2_with fail
  refine (HCON.out).mono ?_
  rintro e w7 ⟨rfl, hb7⟩
  rw [HMM.out]
  have kd7 := blk_below (heap_alloc_new w6 (.cells #[.int .i64 m.1, .int .i64 m.2.1, .int .i64 m.2.2.1, .int .i64 m.2.2.2.1, .int .i64 m.2.2.2.2.1, .int .i64 m.2.2.2.2.2] 51)) hb7 (by simp)
  have h7 := (h6.alloc _).step hb7
  have kb7 := blk_below (blk_alloc kb6 _) hb7 (blk_lt (blk_alloc kb6 _))
  clear l0 l1 t0 t1 t2 sl st
  clear b0 b1 b2 b3 b4 b5 bs
  have l0 := cell_of_blk h7.l 0
  have l1 := cell_of_blk h7.l 1
  have t0 := cell_of_blk h7.t 0
  have t1 := cell_of_blk h7.t 1
  have t2 := cell_of_blk h7.t 2
  simp only [List.getElem?_toArray, List.getElem?_cons_zero, List.getElem?_cons_succ] at l0 l1 t0 t1 t2
  have sl := blk_lt h7.l
  have st := blk_lt h7.t
  have b0 := cell_of_blk kb7 0
  have b1 := cell_of_blk kb7 1
  have b2 := cell_of_blk kb7 2
  have b3 := cell_of_blk kb7 3
  have b4 := cell_of_blk kb7 4
  have b5 := cell_of_blk kb7 5
  have bs := blk_lt kb7
  simp only [List.getElem?_toArray, List.getElem?_cons_zero, List.getElem?_cons_succ] at b0 b1 b2 b3 b4 b5
  have d0 := cell_of_blk kd7 0
  have d1 := cell_of_blk kd7 1
  have d2 := cell_of_blk kd7 2
  have d3 := cell_of_blk kd7 3
  have d4 := cell_of_blk kd7 4
  have d5 := cell_of_blk kd7 5
  have ds := blk_lt kd7
  simp only [List.getElem?_toArray, List.getElem?_cons_zero, List.getElem?_cons_succ] at d0 d1 d2 d3 d4 d5
  go_wp2
  go_ret
  exact ⟨by simp, h7.bel⟩

set_option maxRecDepth 100000 in
set_option maxHeartbeats 3200000 in
theorem lines_okM (v c x y k : Int) (w : World) (hs : Steps w) (hl : lineMayB v c = true) (ht : triMayB x y k = true) (hm : mapMayB (mirB v c) = false) :
    Calls Tryd.prog 4 #[.agg #[.int .i64 v, .int .i64 c], .agg #[.int .i64 x, .int .i64 y, .int .i64 k]] w fun e w' => e = .returned (.bool true) ∧ Below w.heap.size w w' := by
  have HL := Lib.hid hl
  have HT := Lib.hid ht
  have HK := Lib.hid hm
  have HQ := Lib.hid (side_law v c x y k hl ht)
  obtain ⟨⟨_, _⟩, ⟨c1, c2⟩, _⟩ := lineMayB_bd hl
  obtain ⟨⟨x1, x2⟩, ⟨y1, y2⟩, k1, k2⟩ := triMayB_bd ht
  clear hl ht hm
  have h0 := Lt.start w v c x y k
  go_enter Tryd.func4, Tryd.ntmps4
  go_wp2_with fail
  refine (gside_ok v c x y k _ (hs.below (boxes_below w v c x y k)) HL.out HT.out).mono ?_
  rintro e w1 ⟨he, hb1⟩
  obtain ⟨S, hS⟩ : ∃ S, S = sideB v c x y k := ⟨_, rfl⟩
  rw [← hS] at he
  have HS := Lib.hid hS
  clear hS
  subst he
  have h1 := h0.step hb1
  have l0 := cell_of_blk h1.l 0
  have l1 := cell_of_blk h1.l 1
  have t0 := cell_of_blk h1.t 0
  have t1 := cell_of_blk h1.t 1
  have t2 := cell_of_blk h1.t 2
  simp only [List.getElem?_toArray, List.getElem?_cons_zero, List.getElem?_cons_succ] at l0 l1 t0 t1 t2
  have sl := blk_lt h1.l
  have st := blk_lt h1.t
  go_wp2_with fail
  refine (gmir_noM v c _ HL.out HK.out).mono ?_
  rintro e w2 ⟨he, hb2⟩
  obtain ⟨m, hm⟩ : ∃ m, m = mirB v c := ⟨_, rfl⟩
  try rw [← hm] at he
  have HM := Lib.hid hm
  clear hm
  try simp only [M0] at he
  subst he
  have h2 := h1.step hb2
  clear l0 l1 t0 t1 t2 sl st
  have l0 := cell_of_blk h2.l 0
  have l1 := cell_of_blk h2.l 1
  have t0 := cell_of_blk h2.t 0
  have t1 := cell_of_blk h2.t 1
  have t2 := cell_of_blk h2.t 2
  simp only [List.getElem?_toArray, List.getElem?_cons_zero, List.getElem?_cons_succ] at l0 l1 t0 t1 t2
  have sl := blk_lt h2.l
  have st := blk_lt h2.t
  go_wp2_with fail
  refine (refLine_any v c _).mono ?_
  rintro e w3 ⟨rfl, hb3⟩
  rw [HL.out]
  have h3 := (h2.alloc _).step hb3
  have kb3 := blk_below (heap_alloc_new w2 (.cells #[.int .i64 0, .int .i64 0, .int .i64 0, .int .i64 0, .int .i64 0, .int .i64 0] 51)) hb3 (by simp)
  clear l0 l1 t0 t1 t2 sl st
  have l0 := cell_of_blk h3.l 0
  have l1 := cell_of_blk h3.l 1
  have t0 := cell_of_blk h3.t 0
  have t1 := cell_of_blk h3.t 1
  have t2 := cell_of_blk h3.t 2
  simp only [List.getElem?_toArray, List.getElem?_cons_zero, List.getElem?_cons_succ] at l0 l1 t0 t1 t2
  have sl := blk_lt h3.l
  have st := blk_lt h3.t
  have b0 := cell_of_blk kb3 0
  have b1 := cell_of_blk kb3 1
  have b2 := cell_of_blk kb3 2
  have b3 := cell_of_blk kb3 3
  have b4 := cell_of_blk kb3 4
  have b5 := cell_of_blk kb3 5
  have bs := blk_lt kb3
  simp only [List.getElem?_toArray, List.getElem?_cons_zero, List.getElem?_cons_succ] at b0 b1 b2 b3 b4 b5
  go_wp2_with fail
  refine (refTri_any x y k _).mono ?_
  rintro e w4 ⟨rfl, hb4⟩
  rw [HT.out]
  have h4 := (h3).step hb4
  have kb4 := blk_below kb3 hb4 (blk_lt kb3)
  clear l0 l1 t0 t1 t2 sl st
  clear b0 b1 b2 b3 b4 b5 bs
  have l0 := cell_of_blk h4.l 0
  have l1 := cell_of_blk h4.l 1
  have t0 := cell_of_blk h4.t 0
  have t1 := cell_of_blk h4.t 1
  have t2 := cell_of_blk h4.t 2
  simp only [List.getElem?_toArray, List.getElem?_cons_zero, List.getElem?_cons_succ] at l0 l1 t0 t1 t2
  have sl := blk_lt h4.l
  have st := blk_lt h4.t
  have b0 := cell_of_blk kb4 0
  have b1 := cell_of_blk kb4 1
  have b2 := cell_of_blk kb4 2
  have b3 := cell_of_blk kb4 3
  have b4 := cell_of_blk kb4 4
  have b5 := cell_of_blk kb4 5
  have bs := blk_lt kb4
  simp only [List.getElem?_toArray, List.getElem?_cons_zero, List.getElem?_cons_succ] at b0 b1 b2 b3 b4 b5
  go_wp2_with fail
  refine (sideOf_any v c x y k _ c1 c2 x1 x2 y1 y2 k1 k2).mono ?_
  rintro e w5 ⟨rfl, hb5⟩
  rw [← HQ.out, ← HS.out]
  have h5 := (h4).step hb5
  have kb5 := blk_below kb4 hb5 (blk_lt kb4)
  clear l0 l1 t0 t1 t2 sl st
  clear b0 b1 b2 b3 b4 b5 bs
  have l0 := cell_of_blk h5.l 0
  have l1 := cell_of_blk h5.l 1
  have t0 := cell_of_blk h5.t 0
  have t1 := cell_of_blk h5.t 1
  have t2 := cell_of_blk h5.t 2
  simp only [List.getElem?_toArray, List.getElem?_cons_zero, List.getElem?_cons_succ] at l0 l1 t0 t1 t2
  have sl := blk_lt h5.l
  have st := blk_lt h5.t
  have b0 := cell_of_blk kb5 0
  have b1 := cell_of_blk kb5 1
  have b2 := cell_of_blk kb5 2
  have b3 := cell_of_blk kb5 3
  have b4 := cell_of_blk kb5 4
  have b5 := cell_of_blk kb5 5
  have bs := blk_lt kb5
  simp only [List.getElem?_toArray, List.getElem?_cons_zero, List.getElem?_cons_succ] at b0 b1 b2 b3 b4 b5
  go_wp2_with fail
  refine (refLine_any v c _).mono ?_
  rintro e w6 ⟨rfl, hb6⟩
  rw [HL.out]
  have h6 := (h5).step hb6
  have kb6 := blk_below kb5 hb6 (blk_lt kb5)
  clear l0 l1 t0 t1 t2 sl st
  clear b0 b1 b2 b3 b4 b5 bs
  have l0 := cell_of_blk h6.l 0
  have l1 := cell_of_blk h6.l 1
  have t0 := cell_of_blk h6.t 0
  have t1 := cell_of_blk h6.t 1
  have t2 := cell_of_blk h6.t 2
  simp only [List.getElem?_toArray, List.getElem?_cons_zero, List.getElem?_cons_succ] at l0 l1 t0 t1 t2
  have sl := blk_lt h6.l
  have st := blk_lt h6.t
  have b0 := cell_of_blk kb6 0
  have b1 := cell_of_blk kb6 1
  have b2 := cell_of_blk kb6 2
  have b3 := cell_of_blk kb6 3
  have b4 := cell_of_blk kb6 4
  have b5 := cell_of_blk kb6 5
  have bs := blk_lt kb6
  simp only [List.getElem?_toArray, List.getElem?_cons_zero, List.getElem?_cons_succ] at b0 b1 b2 b3 b4 b5
  go_wp2_with fail
  refine (mirrorOf_any v c _ c1 c2).mono ?_
  rintro e w7 ⟨he, hb7⟩
  rw [← HM.out] at he
  subst he
  have h7 := (h6).step hb7
  have kb7 := blk_below kb6 hb7 (blk_lt kb6)
  clear l0 l1 t0 t1 t2 sl st
  clear b0 b1 b2 b3 b4 b5 bs
  have l0 := cell_of_blk h7.l 0
  have l1 := cell_of_blk h7.l 1
  have t0 := cell_of_blk h7.t 0
  have t1 := cell_of_blk h7.t 1
  have t2 := cell_of_blk h7.t 2
  simp only [List.getElem?_toArray, List.getElem?_cons_zero, List.getElem?_cons_succ] at l0 l1 t0 t1 t2
  have sl := blk_lt h7.l
  have st := blk_lt h7.t
  have b0 := cell_of_blk kb7 0
  have b1 := cell_of_blk kb7 1
  have b2 := cell_of_blk kb7 2
  have b3 := cell_of_blk kb7 3
  have b4 := cell_of_blk kb7 4
  have b5 := cell_of_blk kb7 5
  have bs := blk_lt kb7
  simp only [List.getElem?_toArray, List.getElem?_cons_zero, List.getElem?_cons_succ] at b0 b1 b2 b3 b4 b5
  have HMM : Hid (mapMayB m = false) := Lib.hid (by rw [HM.out]; exact HK.out)
  have hcon : Calls Tryd.prog 21 #[aggM m] (w7.alloc (.cells #[.int .i64 m.1, .int .i64 m.2.1, .int .i64 m.2.2.1, .int .i64 m.2.2.2.1, .int .i64 m.2.2.2.2.1, .int .i64 m.2.2.2.2.2] 51)) fun r w' => r = .returned (.bool (mapMayB m)) ∧ Below (w7.alloc (.cells #[.int .i64 m.1, .int .i64 m.2.1, .int .i64 m.2.2.1, .int .i64 m.2.2.2.1, .int .i64 m.2.2.2.2.1, .int .i64 m.2.2.2.2.2] 51)).heap.size (w7.alloc (.cells #[.int .i64 m.1, .int .i64 m.2.1, .int .i64 m.2.2.1, .int .i64 m.2.2.2.1, .int .i64 m.2.2.2.2.1, .int .i64 m.2.2.2.2.2] 51)) w' := by rw [HM.out]; exact refMap_mir v c _
  have HCON := Lib.hid hcon
  clear hcon
  go_wp2_with fail
  refine (HCON.out).mono ?_
  rintro e w8 ⟨rfl, hb8⟩
  rw [HMM.out]
  have kd8 := blk_below (heap_alloc_new w7 (.cells #[.int .i64 m.1, .int .i64 m.2.1, .int .i64 m.2.2.1, .int .i64 m.2.2.2.1, .int .i64 m.2.2.2.2.1, .int .i64 m.2.2.2.2.2] 51)) hb8 (by simp)
  have h8 := (h7.alloc _).step hb8
  have kb8 := blk_below (blk_alloc kb7 _) hb8 (blk_lt (blk_alloc kb7 _))
  clear l0 l1 t0 t1 t2 sl st
  clear b0 b1 b2 b3 b4 b5 bs
  have l0 := cell_of_blk h8.l 0
  have l1 := cell_of_blk h8.l 1
  have t0 := cell_of_blk h8.t 0
  have t1 := cell_of_blk h8.t 1
  have t2 := cell_of_blk h8.t 2
  simp only [List.getElem?_toArray, List.getElem?_cons_zero, List.getElem?_cons_succ] at l0 l1 t0 t1 t2
  have sl := blk_lt h8.l
  have st := blk_lt h8.t
  have b0 := cell_of_blk kb8 0
  have b1 := cell_of_blk kb8 1
  have b2 := cell_of_blk kb8 2
  have b3 := cell_of_blk kb8 3
  have b4 := cell_of_blk kb8 4
  have b5 := cell_of_blk kb8 5
  have bs := blk_lt kb8
  simp only [List.getElem?_toArray, List.getElem?_cons_zero, List.getElem?_cons_succ] at b0 b1 b2 b3 b4 b5
  have d0 := cell_of_blk kd8 0
  have d1 := cell_of_blk kd8 1
  have d2 := cell_of_blk kd8 2
  have d3 := cell_of_blk kd8 3
  have d4 := cell_of_blk kd8 4
  have d5 := cell_of_blk kd8 5
  have ds := blk_lt kd8
  simp only [List.getElem?_toArray, List.getElem?_cons_zero, List.getElem?_cons_succ] at d0 d1 d2 d3 d4 d5
  go_wp2
  go_ret
  exact ⟨by simp, h8.bel⟩

set_option maxRecDepth 100000 in
set_option maxHeartbeats 3200000 in
theorem lines_ok (v c x y k : Int) (w : World) (hs : Steps w) (hl : lineMayB v c = true) (ht : triMayB x y k = true) (hm : mapMayB (mirB v c) = true) :
    Calls Tryd.prog 4 #[.agg #[.int .i64 v, .int .i64 c], .agg #[.int .i64 x, .int .i64 y, .int .i64 k]] w fun e w' => e = .returned (.bool true) ∧ Below w.heap.size w w' := by
  have HL := Lib.hid hl
  have HT := Lib.hid ht
  have HK := Lib.hid hm
  have HQ := Lib.hid (side_law v c x y k hl ht)
  obtain ⟨⟨_, _⟩, ⟨c1, c2⟩, _⟩ := lineMayB_bd hl
  obtain ⟨⟨x1, x2⟩, ⟨y1, y2⟩, k1, k2⟩ := triMayB_bd ht
  clear hl ht hm
  have h0 := Lt.start w v c x y k
  go_enter Tryd.func4, Tryd.ntmps4
  go_wp2_with fail
  refine (gside_ok v c x y k _ (hs.below (boxes_below w v c x y k)) HL.out HT.out).mono ?_
  rintro e w1 ⟨he, hb1⟩
  obtain ⟨S, hS⟩ : ∃ S, S = sideB v c x y k := ⟨_, rfl⟩
  rw [← hS] at he
  have HS := Lib.hid hS
  clear hS
  subst he
  have h1 := h0.step hb1
  have l0 := cell_of_blk h1.l 0
  have l1 := cell_of_blk h1.l 1
  have t0 := cell_of_blk h1.t 0
  have t1 := cell_of_blk h1.t 1
  have t2 := cell_of_blk h1.t 2
  simp only [List.getElem?_toArray, List.getElem?_cons_zero, List.getElem?_cons_succ] at l0 l1 t0 t1 t2
  have sl := blk_lt h1.l
  have st := blk_lt h1.t
  go_wp2_with fail
  refine (gmir_ok v c _ HL.out HK.out).mono ?_
  rintro e w2 ⟨he, hb2⟩
  obtain ⟨m, hm⟩ : ∃ m, m = mirB v c := ⟨_, rfl⟩
  try rw [← hm] at he
  have HM := Lib.hid hm
  clear hm
  try simp only [M0] at he
  subst he
  have h2 := h1.step hb2
  clear l0 l1 t0 t1 t2 sl st
  have l0 := cell_of_blk h2.l 0
  have l1 := cell_of_blk h2.l 1
  have t0 := cell_of_blk h2.t 0
  have t1 := cell_of_blk h2.t 1
  have t2 := cell_of_blk h2.t 2
  simp only [List.getElem?_toArray, List.getElem?_cons_zero, List.getElem?_cons_succ] at l0 l1 t0 t1 t2
  have sl := blk_lt h2.l
  have st := blk_lt h2.t
  go_wp2_with fail
  refine (refLine_any v c _).mono ?_
  rintro e w3 ⟨rfl, hb3⟩
  rw [HL.out]
  have h3 := (h2.alloc _).step hb3
  have kb3 := blk_below (heap_alloc_new w2 (.cells #[.int .i64 m.1, .int .i64 m.2.1, .int .i64 m.2.2.1, .int .i64 m.2.2.2.1, .int .i64 m.2.2.2.2.1, .int .i64 m.2.2.2.2.2] 51)) hb3 (by simp)
  clear l0 l1 t0 t1 t2 sl st
  have l0 := cell_of_blk h3.l 0
  have l1 := cell_of_blk h3.l 1
  have t0 := cell_of_blk h3.t 0
  have t1 := cell_of_blk h3.t 1
  have t2 := cell_of_blk h3.t 2
  simp only [List.getElem?_toArray, List.getElem?_cons_zero, List.getElem?_cons_succ] at l0 l1 t0 t1 t2
  have sl := blk_lt h3.l
  have st := blk_lt h3.t
  have b0 := cell_of_blk kb3 0
  have b1 := cell_of_blk kb3 1
  have b2 := cell_of_blk kb3 2
  have b3 := cell_of_blk kb3 3
  have b4 := cell_of_blk kb3 4
  have b5 := cell_of_blk kb3 5
  have bs := blk_lt kb3
  simp only [List.getElem?_toArray, List.getElem?_cons_zero, List.getElem?_cons_succ] at b0 b1 b2 b3 b4 b5
  go_wp2_with fail
  refine (refTri_any x y k _).mono ?_
  rintro e w4 ⟨rfl, hb4⟩
  rw [HT.out]
  have h4 := (h3).step hb4
  have kb4 := blk_below kb3 hb4 (blk_lt kb3)
  clear l0 l1 t0 t1 t2 sl st
  clear b0 b1 b2 b3 b4 b5 bs
  have l0 := cell_of_blk h4.l 0
  have l1 := cell_of_blk h4.l 1
  have t0 := cell_of_blk h4.t 0
  have t1 := cell_of_blk h4.t 1
  have t2 := cell_of_blk h4.t 2
  simp only [List.getElem?_toArray, List.getElem?_cons_zero, List.getElem?_cons_succ] at l0 l1 t0 t1 t2
  have sl := blk_lt h4.l
  have st := blk_lt h4.t
  have b0 := cell_of_blk kb4 0
  have b1 := cell_of_blk kb4 1
  have b2 := cell_of_blk kb4 2
  have b3 := cell_of_blk kb4 3
  have b4 := cell_of_blk kb4 4
  have b5 := cell_of_blk kb4 5
  have bs := blk_lt kb4
  simp only [List.getElem?_toArray, List.getElem?_cons_zero, List.getElem?_cons_succ] at b0 b1 b2 b3 b4 b5
  go_wp2_with fail
  refine (sideOf_any v c x y k _ c1 c2 x1 x2 y1 y2 k1 k2).mono ?_
  rintro e w5 ⟨rfl, hb5⟩
  rw [← HQ.out, ← HS.out]
  have h5 := (h4).step hb5
  have kb5 := blk_below kb4 hb5 (blk_lt kb4)
  clear l0 l1 t0 t1 t2 sl st
  clear b0 b1 b2 b3 b4 b5 bs
  have l0 := cell_of_blk h5.l 0
  have l1 := cell_of_blk h5.l 1
  have t0 := cell_of_blk h5.t 0
  have t1 := cell_of_blk h5.t 1
  have t2 := cell_of_blk h5.t 2
  simp only [List.getElem?_toArray, List.getElem?_cons_zero, List.getElem?_cons_succ] at l0 l1 t0 t1 t2
  have sl := blk_lt h5.l
  have st := blk_lt h5.t
  have b0 := cell_of_blk kb5 0
  have b1 := cell_of_blk kb5 1
  have b2 := cell_of_blk kb5 2
  have b3 := cell_of_blk kb5 3
  have b4 := cell_of_blk kb5 4
  have b5 := cell_of_blk kb5 5
  have bs := blk_lt kb5
  simp only [List.getElem?_toArray, List.getElem?_cons_zero, List.getElem?_cons_succ] at b0 b1 b2 b3 b4 b5
  go_wp2_with fail
  refine (refLine_any v c _).mono ?_
  rintro e w6 ⟨rfl, hb6⟩
  rw [HL.out]
  have h6 := (h5).step hb6
  have kb6 := blk_below kb5 hb6 (blk_lt kb5)
  clear l0 l1 t0 t1 t2 sl st
  clear b0 b1 b2 b3 b4 b5 bs
  have l0 := cell_of_blk h6.l 0
  have l1 := cell_of_blk h6.l 1
  have t0 := cell_of_blk h6.t 0
  have t1 := cell_of_blk h6.t 1
  have t2 := cell_of_blk h6.t 2
  simp only [List.getElem?_toArray, List.getElem?_cons_zero, List.getElem?_cons_succ] at l0 l1 t0 t1 t2
  have sl := blk_lt h6.l
  have st := blk_lt h6.t
  have b0 := cell_of_blk kb6 0
  have b1 := cell_of_blk kb6 1
  have b2 := cell_of_blk kb6 2
  have b3 := cell_of_blk kb6 3
  have b4 := cell_of_blk kb6 4
  have b5 := cell_of_blk kb6 5
  have bs := blk_lt kb6
  simp only [List.getElem?_toArray, List.getElem?_cons_zero, List.getElem?_cons_succ] at b0 b1 b2 b3 b4 b5
  go_wp2_with fail
  refine (mirrorOf_any v c _ c1 c2).mono ?_
  rintro e w7 ⟨he, hb7⟩
  rw [← HM.out] at he
  subst he
  have h7 := (h6).step hb7
  have kb7 := blk_below kb6 hb7 (blk_lt kb6)
  clear l0 l1 t0 t1 t2 sl st
  clear b0 b1 b2 b3 b4 b5 bs
  have l0 := cell_of_blk h7.l 0
  have l1 := cell_of_blk h7.l 1
  have t0 := cell_of_blk h7.t 0
  have t1 := cell_of_blk h7.t 1
  have t2 := cell_of_blk h7.t 2
  simp only [List.getElem?_toArray, List.getElem?_cons_zero, List.getElem?_cons_succ] at l0 l1 t0 t1 t2
  have sl := blk_lt h7.l
  have st := blk_lt h7.t
  have b0 := cell_of_blk kb7 0
  have b1 := cell_of_blk kb7 1
  have b2 := cell_of_blk kb7 2
  have b3 := cell_of_blk kb7 3
  have b4 := cell_of_blk kb7 4
  have b5 := cell_of_blk kb7 5
  have bs := blk_lt kb7
  simp only [List.getElem?_toArray, List.getElem?_cons_zero, List.getElem?_cons_succ] at b0 b1 b2 b3 b4 b5
  have HMM : Hid (mapMayB m = true) := Lib.hid (by rw [HM.out]; exact HK.out)
  have hcon : Calls Tryd.prog 21 #[aggM m] (w7.alloc (.cells #[.int .i64 m.1, .int .i64 m.2.1, .int .i64 m.2.2.1, .int .i64 m.2.2.2.1, .int .i64 m.2.2.2.2.1, .int .i64 m.2.2.2.2.2] 51)) fun r w' => r = .returned (.bool (mapMayB m)) ∧ Below (w7.alloc (.cells #[.int .i64 m.1, .int .i64 m.2.1, .int .i64 m.2.2.1, .int .i64 m.2.2.2.1, .int .i64 m.2.2.2.2.1, .int .i64 m.2.2.2.2.2] 51)).heap.size (w7.alloc (.cells #[.int .i64 m.1, .int .i64 m.2.1, .int .i64 m.2.2.1, .int .i64 m.2.2.2.1, .int .i64 m.2.2.2.2.1, .int .i64 m.2.2.2.2.2] 51)) w' := by rw [HM.out]; exact refMap_mir v c _
  have HCON := Lib.hid hcon
  clear hcon
  go_wp2_with fail
  refine (HCON.out).mono ?_
  rintro e w8 ⟨rfl, hb8⟩
  rw [HMM.out]
  have kd8 := blk_below (heap_alloc_new w7 (.cells #[.int .i64 m.1, .int .i64 m.2.1, .int .i64 m.2.2.1, .int .i64 m.2.2.2.1, .int .i64 m.2.2.2.2.1, .int .i64 m.2.2.2.2.2] 51)) hb8 (by simp)
  have h8 := (h7.alloc _).step hb8
  have kb8 := blk_below (blk_alloc kb7 _) hb8 (blk_lt (blk_alloc kb7 _))
  clear l0 l1 t0 t1 t2 sl st
  clear b0 b1 b2 b3 b4 b5 bs
  have l0 := cell_of_blk h8.l 0
  have l1 := cell_of_blk h8.l 1
  have t0 := cell_of_blk h8.t 0
  have t1 := cell_of_blk h8.t 1
  have t2 := cell_of_blk h8.t 2
  simp only [List.getElem?_toArray, List.getElem?_cons_zero, List.getElem?_cons_succ] at l0 l1 t0 t1 t2
  have sl := blk_lt h8.l
  have st := blk_lt h8.t
  have b0 := cell_of_blk kb8 0
  have b1 := cell_of_blk kb8 1
  have b2 := cell_of_blk kb8 2
  have b3 := cell_of_blk kb8 3
  have b4 := cell_of_blk kb8 4
  have b5 := cell_of_blk kb8 5
  have bs := blk_lt kb8
  simp only [List.getElem?_toArray, List.getElem?_cons_zero, List.getElem?_cons_succ] at b0 b1 b2 b3 b4 b5
  have d0 := cell_of_blk kd8 0
  have d1 := cell_of_blk kd8 1
  have d2 := cell_of_blk kd8 2
  have d3 := cell_of_blk kd8 3
  have d4 := cell_of_blk kd8 4
  have d5 := cell_of_blk kd8 5
  have ds := blk_lt kd8
  simp only [List.getElem?_toArray, List.getElem?_cons_zero, List.getElem?_cons_succ] at d0 d1 d2 d3 d4 d5
  go_wp2
  go_ret
  exact ⟨by simp, h8.bel⟩

theorem lines_walk (v c x y k : Int) (w : World) (hs : Steps w) :
    Calls Tryd.prog 4 #[.agg #[.int .i64 v, .int .i64 c], .agg #[.int .i64 x, .int .i64 y, .int .i64 k]] w fun e w' => e = .returned (.bool true) ∧ Below w.heap.size w w' := by
  cases hl : lineMayB v c
  · exact lines_noL v c x y k w hs hl
  cases ht : triMayB x y k
  · cases hm : mapMayB (mirB v c)
    · exact lines_noTM v c x y k w hs hl ht hm
    · exact lines_noT v c x y k w hs hl ht hm
  · cases hm : mapMayB (mirB v c)
    · exact lines_okM v c x y k w hs hl ht hm
    · exact lines_ok v c x y k w hs hl ht hm
end Go.Proofs.YthfhkmgegkhljaaDoor
