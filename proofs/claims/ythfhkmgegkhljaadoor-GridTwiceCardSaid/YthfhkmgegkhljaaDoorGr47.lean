/- The walk of GridTwice. Printed by gen_gr47.py. -/
import Derived.Test.YthfhkmgegkhljaaDoorGr46
import Derived.Test.YthfhkmgegkhljaaDoorGr11
import Derived.Test.YthfhkmgegkhljaaDoorGr8
namespace Go.Proofs.YthfhkmgegkhljaaDoor
set_option linter.unusedSimpArgs false
set_option linter.unusedVariables false
open Go.RowKit

set_option maxRecDepth 100000 in
set_option maxHeartbeats 6400000 in
theorem twice_walk (x y k way c : Int) (w : World) (hs : Steps w) (x1 : -9223372036854775808 ≤ x) (x2 : x ≤ 9223372036854775807) (y1 : -9223372036854775808 ≤ y) (y2 : y ≤ 9223372036854775807) (k1 : -9223372036854775808 ≤ k) (k2 : k ≤ 9223372036854775807) (v1 : -9223372036854775808 ≤ way) (v2 : way ≤ 9223372036854775807) (c1 : -9223372036854775808 ≤ c) (c2 : c ≤ 9223372036854775807) :
    Calls Tryd.prog 7 #[.int .i64 x, .int .i64 y, .int .i64 k, .int .i64 way, .int .i64 c] w fun e w' => e = .returned (.bool true) ∧ Below w.heap.size w w' := by
  have hnT := fun w => nearTri_any x y k w x1 x2 y1 y2 k1 k2
  have hnL := fun w => nearLine_any way c w v1 v2 c1 c2
  obtain ⟨tx, htx⟩ : ∃ a, a = pickB x 2001 - 1000 := ⟨_, rfl⟩
  obtain ⟨ty, hty⟩ : ∃ a, a = pickB y 2001 - 1000 := ⟨_, rfl⟩
  obtain ⟨tk, htk⟩ : ∃ a, a = pickB k 4 := ⟨_, rfl⟩
  obtain ⟨v, hv⟩ : ∃ a, a = pickB way 4 := ⟨_, rfl⟩
  obtain ⟨cc, hcc⟩ : ∃ a, a = 2 * (pickB c 2001 - 1000) := ⟨_, rfl⟩
  have p1 := pick_rng (n := x) (m := 2001) (by decide)
  have p2 := pick_rng (n := y) (m := 2001) (by decide)
  have p3 := pick_rng (n := k) (m := 4) (by decide)
  have p4 := pick_rng (n := way) (m := 4) (by decide)
  have p5 := pick_rng (n := c) (m := 2001) (by decide)
  have b1 : -1000 ≤ tx ∧ tx ≤ 1000 := by omega
  have b2 : -1000 ≤ ty ∧ ty ≤ 1000 := by omega
  have b3 : 0 ≤ tk ∧ tk ≤ 3 := by omega
  have b4 : 0 ≤ v ∧ v ≤ 3 := by omega
  have b5 : -2000 ≤ cc ∧ cc ≤ 2000 := by omega
  have b6 : cc % 2 = 0 := by omega
  simp only [← htx, ← hty, ← htk] at hnT
  simp only [← hv, ← hcc] at hnL
  have CT := Lib.hid hnT
  have CL := Lib.hid hnL
  clear hnT hnL htx hty htk hv hcc p1 p2 p3 p4 p5 x1 x2 y1 y2 k1 k2 v1 v2 c1 c2
  have ht := may_of (x := tx) (y := ty) (k := tk) (by omega) (by omega) (by omega) (by omega) b3.1 b3.2
  have hl := line_of (v := v) (c := cc) b4.1 b4.2 (by omega) (by omega) b6
  have hm := mir_may (v := v) (c := cc) b4.1 b4.2 b5.1 b5.2 b6
  have hr := mir_rng (v := v) (c := cc) (x := tx) (y := ty) (k := tk) b4.1 b4.2 b5.1 b5.2 b3.1 b3.2 (by omega) (by omega) (by omega) (by omega)
  have hmv := mir_move (v := v) (c := cc) (x := tx) (y := ty) (k := tk) b4.1 b4.2 b6 b3.1 b3.2
  have htw := mir_twice (v := v) (c := cc) (x := tx) (y := ty) (k := tk) b4.1 b4.2 b6 b3.1 b3.2
  have hsd := mir_side (v := v) (c := cc) (x := tx) (y := ty) (k := tk) b4.1 b4.2 b6 b3.1 b3.2
  obtain ⟨U, hU⟩ : ∃ a : T3, a = mirT v cc tx ty tk := ⟨_, rfl⟩
  rw [← hU] at hr hmv htw hsd
  have hmu := may_of (x := U.1) (y := U.2.1) (k := U.2.2) (by omega) (by omega) (by omega) (by omega) hr.2.2.1 hr.2.2.2
  have hmv2 : moveV (mirB v cc) U.1 U.2.1 U.2.2 = (tx, ty, tk) := by rw [mir_move b4.1 b4.2 b6 hr.2.2.1 hr.2.2.2, htw]
  obtain ⟨M, hM⟩ : ∃ a, a = mirB v cc := ⟨_, rfl⟩
  obtain ⟨E0, hE0⟩ : ∃ a : E4, a = edgeT tx ty tk 0 := ⟨_, rfl⟩
  obtain ⟨E1, hE1⟩ : ∃ a : E4, a = edgeT tx ty tk 1 := ⟨_, rfl⟩
  obtain ⟨E2, hE2⟩ : ∃ a : E4, a = edgeT tx ty tk 2 := ⟨_, rfl⟩
  have nr0 := next_rng (x := tx) (y := ty) (k := tk) (j := 0) b3.1 b3.2 (by decide)
  have nb0 := next_back (x := tx) (y := ty) (k := tk) (j := 0) b3.1 b3.2 (by decide)
  have nn0 := next_ne (x := tx) (y := ty) (k := tk) (j := 0) b3.1 b3.2 (by decide)
  have eb0 := edge_back (x := tx) (y := ty) (k := tk) (j := 0) b3.1 b3.2 (by decide)
  have mn0 := mir_next (v := v) (c := cc) (x := tx) (y := ty) (k := tk) (j := 0) b4.1 b4.2 b3.1 b3.2 (by decide)
  have e1 := fun w hs => across_edge tx ty tk 0 w (by decide) hs ht
  obtain ⟨V0, hV0⟩ : ∃ a : T3, a = nextT tx ty tk 0 := ⟨_, rfl⟩
  rw [← hV0] at nr0 nb0 nn0 eb0 mn0
  simp only [← hV0] at e1
  have mv0 := may_of (x := V0.1) (y := V0.2.1) (k := V0.2.2) (by omega) (by omega) (by omega) (by omega) nr0.2.2.1 nr0.2.2.2
  have rg0 := mir_rng (v := v) (c := cc) (x := V0.1) (y := V0.2.1) (k := V0.2.2) b4.1 b4.2 b5.1 b5.2 nr0.2.2.1 nr0.2.2.2 (by omega) (by omega) (by omega) (by omega)
  have e2 := fun w hs => across_edge V0.1 V0.2.1 V0.2.2 2 w (by decide) hs mv0
  simp only [show (2 - 0 : Nat) = 2 from rfl] at nb0 eb0 mn0
  simp only [nb0, eb0] at e2
  have mm0 := mir_move (v := v) (c := cc) (x := V0.1) (y := V0.2.1) (k := V0.2.2) b4.1 b4.2 b6 nr0.2.2.1 nr0.2.2.2
  obtain ⟨I0, hI0⟩ : ∃ a : T3, a = mirT v cc V0.1 V0.2.1 V0.2.2 := ⟨_, rfl⟩
  rw [← hI0] at mn0 mm0 rg0
  have e3 := fun w hs => gmove_ok (mirB v cc) V0.1 V0.2.1 V0.2.2 w hs hm mv0 (by rw [mm0]; exact may_of (by omega) (by omega) (by omega) (by omega) rg0.2.2.1 rg0.2.2.2)
  simp only [mm0] at e3
  have e4 := fun w hs => beside_at U.1 U.2.1 U.2.2 2 w hs hmu (by decide)
  rw [← hU] at mn0
  simp only [mn0] at e4
  have e5 : ∀ w : World, (binOp .eql 23 (aggT3 V0) (aggT tx ty tk)).run Tryd.prog w = .ok (.bool false) w := fun w => by rw [eqT]; have := nn0; simp only [eqT3] at this; rw [this]
  simp only [← hE0] at e1 e2
  simp only [← hM] at e3
  have D10 := Lib.hid e1
  clear e1
  have D20 := Lib.hid e2
  clear e2
  have D30 := Lib.hid e3
  clear e3
  have D40 := Lib.hid e4
  clear e4
  have D50 := Lib.hid e5
  clear e5
  clear nr0 nb0 nn0 eb0 mn0 mv0 rg0 mm0 hV0 hI0
  have nr1 := next_rng (x := tx) (y := ty) (k := tk) (j := 1) b3.1 b3.2 (by decide)
  have nb1 := next_back (x := tx) (y := ty) (k := tk) (j := 1) b3.1 b3.2 (by decide)
  have nn1 := next_ne (x := tx) (y := ty) (k := tk) (j := 1) b3.1 b3.2 (by decide)
  have eb1 := edge_back (x := tx) (y := ty) (k := tk) (j := 1) b3.1 b3.2 (by decide)
  have mn1 := mir_next (v := v) (c := cc) (x := tx) (y := ty) (k := tk) (j := 1) b4.1 b4.2 b3.1 b3.2 (by decide)
  have e1 := fun w hs => across_edge tx ty tk 1 w (by decide) hs ht
  obtain ⟨V1, hV1⟩ : ∃ a : T3, a = nextT tx ty tk 1 := ⟨_, rfl⟩
  rw [← hV1] at nr1 nb1 nn1 eb1 mn1
  simp only [← hV1] at e1
  have mv1 := may_of (x := V1.1) (y := V1.2.1) (k := V1.2.2) (by omega) (by omega) (by omega) (by omega) nr1.2.2.1 nr1.2.2.2
  have rg1 := mir_rng (v := v) (c := cc) (x := V1.1) (y := V1.2.1) (k := V1.2.2) b4.1 b4.2 b5.1 b5.2 nr1.2.2.1 nr1.2.2.2 (by omega) (by omega) (by omega) (by omega)
  have e2 := fun w hs => across_edge V1.1 V1.2.1 V1.2.2 1 w (by decide) hs mv1
  simp only [show (2 - 1 : Nat) = 1 from rfl] at nb1 eb1 mn1
  simp only [nb1, eb1] at e2
  have mm1 := mir_move (v := v) (c := cc) (x := V1.1) (y := V1.2.1) (k := V1.2.2) b4.1 b4.2 b6 nr1.2.2.1 nr1.2.2.2
  obtain ⟨I1, hI1⟩ : ∃ a : T3, a = mirT v cc V1.1 V1.2.1 V1.2.2 := ⟨_, rfl⟩
  rw [← hI1] at mn1 mm1 rg1
  have e3 := fun w hs => gmove_ok (mirB v cc) V1.1 V1.2.1 V1.2.2 w hs hm mv1 (by rw [mm1]; exact may_of (by omega) (by omega) (by omega) (by omega) rg1.2.2.1 rg1.2.2.2)
  simp only [mm1] at e3
  have e4 := fun w hs => beside_at U.1 U.2.1 U.2.2 1 w hs hmu (by decide)
  rw [← hU] at mn1
  simp only [mn1] at e4
  have e5 : ∀ w : World, (binOp .eql 23 (aggT3 V1) (aggT tx ty tk)).run Tryd.prog w = .ok (.bool false) w := fun w => by rw [eqT]; have := nn1; simp only [eqT3] at this; rw [this]
  simp only [← hE1] at e1 e2
  simp only [← hM] at e3
  have D11 := Lib.hid e1
  clear e1
  have D21 := Lib.hid e2
  clear e2
  have D31 := Lib.hid e3
  clear e3
  have D41 := Lib.hid e4
  clear e4
  have D51 := Lib.hid e5
  clear e5
  clear nr1 nb1 nn1 eb1 mn1 mv1 rg1 mm1 hV1 hI1
  have nr2 := next_rng (x := tx) (y := ty) (k := tk) (j := 2) b3.1 b3.2 (by decide)
  have nb2 := next_back (x := tx) (y := ty) (k := tk) (j := 2) b3.1 b3.2 (by decide)
  have nn2 := next_ne (x := tx) (y := ty) (k := tk) (j := 2) b3.1 b3.2 (by decide)
  have eb2 := edge_back (x := tx) (y := ty) (k := tk) (j := 2) b3.1 b3.2 (by decide)
  have mn2 := mir_next (v := v) (c := cc) (x := tx) (y := ty) (k := tk) (j := 2) b4.1 b4.2 b3.1 b3.2 (by decide)
  have e1 := fun w hs => across_edge tx ty tk 2 w (by decide) hs ht
  obtain ⟨V2, hV2⟩ : ∃ a : T3, a = nextT tx ty tk 2 := ⟨_, rfl⟩
  rw [← hV2] at nr2 nb2 nn2 eb2 mn2
  simp only [← hV2] at e1
  have mv2 := may_of (x := V2.1) (y := V2.2.1) (k := V2.2.2) (by omega) (by omega) (by omega) (by omega) nr2.2.2.1 nr2.2.2.2
  have rg2 := mir_rng (v := v) (c := cc) (x := V2.1) (y := V2.2.1) (k := V2.2.2) b4.1 b4.2 b5.1 b5.2 nr2.2.2.1 nr2.2.2.2 (by omega) (by omega) (by omega) (by omega)
  have e2 := fun w hs => across_edge V2.1 V2.2.1 V2.2.2 0 w (by decide) hs mv2
  simp only [show (2 - 2 : Nat) = 0 from rfl] at nb2 eb2 mn2
  simp only [nb2, eb2] at e2
  have mm2 := mir_move (v := v) (c := cc) (x := V2.1) (y := V2.2.1) (k := V2.2.2) b4.1 b4.2 b6 nr2.2.2.1 nr2.2.2.2
  obtain ⟨I2, hI2⟩ : ∃ a : T3, a = mirT v cc V2.1 V2.2.1 V2.2.2 := ⟨_, rfl⟩
  rw [← hI2] at mn2 mm2 rg2
  have e3 := fun w hs => gmove_ok (mirB v cc) V2.1 V2.2.1 V2.2.2 w hs hm mv2 (by rw [mm2]; exact may_of (by omega) (by omega) (by omega) (by omega) rg2.2.2.1 rg2.2.2.2)
  simp only [mm2] at e3
  have e4 := fun w hs => beside_at U.1 U.2.1 U.2.2 0 w hs hmu (by decide)
  rw [← hU] at mn2
  simp only [mn2] at e4
  have e5 : ∀ w : World, (binOp .eql 23 (aggT3 V2) (aggT tx ty tk)).run Tryd.prog w = .ok (.bool false) w := fun w => by rw [eqT]; have := nn2; simp only [eqT3] at this; rw [this]
  simp only [← hE2] at e1 e2
  simp only [← hM] at e3
  have D12 := Lib.hid e1
  clear e1
  have D22 := Lib.hid e2
  clear e2
  have D32 := Lib.hid e3
  clear e3
  have D42 := Lib.hid e4
  clear e4
  have D52 := Lib.hid e5
  clear e5
  clear nr2 nb2 nn2 eb2 mn2 mv2 rg2 mm2 hV2 hI2
  have cM := fun w => gmir_ok v cc w hl hm
  have cV := fun w hs => gmove_ok (mirB v cc) tx ty tk w hs hm ht (by rw [hmv]; exact hmu)
  have cW := fun w hs => gmove_ok (mirB v cc) U.1 U.2.1 U.2.2 w hs hm hmu (by rw [hmv2]; exact ht)
  simp only [hmv] at cV
  simp only [hmv2] at cW
  have cA := fun w hs => gside_ok v cc tx ty tk w hs hl ht
  have cB := fun w hs => gside_ok v cc U.1 U.2.1 U.2.2 w hs hl hmu
  obtain ⟨sa, hsa⟩ : ∃ a, a = sideB v cc tx ty tk := ⟨_, rfl⟩
  obtain ⟨sb, hsb⟩ : ∃ a, a = sideB v cc U.1 U.2.1 U.2.2 := ⟨_, rfl⟩
  skip
  simp only [← hM] at cM cV cW
  simp only [← hsa] at cA hsd
  simp only [← hsb] at cB hsd
  have cE := fun w hs => gedges_ok tx ty tk w hs ht
  simp only [← hE0, ← hE1, ← hE2] at cE
  have CM := Lib.hid cM
  clear cM
  have CV := Lib.hid cV
  clear cV
  have CW := Lib.hid cW
  clear cW
  have CA := Lib.hid cA
  clear cA
  have CB := Lib.hid cB
  clear cB
  have CE := Lib.hid cE
  clear cE
  have HSD := Lib.hid hsd
  clear hsd htw hmv hmv2 hl hU hsa hsb
  have HM := Lib.hid hM
  have HE0 := Lib.hid hE0
  have HE1 := Lib.hid hE1
  have HE2 := Lib.hid hE2
  clear hM hE0 hE1 hE2
  go_enter Tryd.func7, Tryd.ntmps7
  go_wp2_with fail
  refine (CT.out _).mono ?_
  rintro e w1 ⟨rfl, hb1⟩
  go_wp2_with fail
  refine (CL.out _).mono ?_
  rintro e w2 ⟨rfl, hb2⟩
  have hw_2 : Below w.heap.size w w2 := stay_b hb1 hb2
  have hs_2 : Steps w2 := (hs.below hb1).below hb2
  clear hb1 hb2
  go_wp2_with fail
  refine (CM.out _).mono ?_
  rintro e w3 ⟨rfl, hb3⟩
  have k_t_3 : w3.heap[w2.heap.size]? = some (.cells #[.int .i64 tx, .int .i64 ty, .int .i64 tk] 23 (0, 0)) := blk_below (blk_alloc (new_blk (.cells #[.int .i64 tx, .int .i64 ty, .int .i64 tk] 23) (by first | rfl | (simp; done) | (simp; omega))) _) hb3 (by first | (simp; done) | (simp; omega))
  have k_i_3 : w3.heap[w2.heap.size + 1]? = some (.cells #[.int .i64 v, .int .i64 cc] 47 (0, 0)) := blk_below (new_blk (.cells #[.int .i64 v, .int .i64 cc] 47) (by first | rfl | (simp; done) | (simp; omega))) hb3 (by first | (simp; done) | (simp; omega))
  have hw_3 : Below w.heap.size w w3 := stay_b (ba (ba hw_2 _) _) hb3
  have hs_3 := ((hs_2.alloc _).alloc _).below hb3
  clear hb3 hw_2
  have c_t_0 := cell_of_blk k_t_3 0
  have c_t_1 := cell_of_blk k_t_3 1
  have c_t_2 := cell_of_blk k_t_3 2
  simp only [List.getElem?_toArray, List.getElem?_cons_zero, List.getElem?_cons_succ] at c_t_0 c_t_1 c_t_2
  have f_t := frozen_of_blk k_t_3
  have s_t := blk_lt k_t_3
  have c_i_0 := cell_of_blk k_i_3 0
  have c_i_1 := cell_of_blk k_i_3 1
  simp only [List.getElem?_toArray, List.getElem?_cons_zero, List.getElem?_cons_succ] at c_i_0 c_i_1
  have f_i := frozen_of_blk k_i_3
  have s_i := blk_lt k_i_3
  go_wp2_with fail
  refine (CV.out _ (hs_3.alloc _)).mono ?_
  rintro e w4 ⟨rfl, hb4⟩
  have k_t_4 : w4.heap[w2.heap.size]? = some (.cells #[.int .i64 tx, .int .i64 ty, .int .i64 tk] 23 (0, 0)) := blk_below (blk_alloc k_t_3 _) hb4 (blk_lt (blk_alloc k_t_3 _))
  have k_i_4 : w4.heap[w2.heap.size + 1]? = some (.cells #[.int .i64 v, .int .i64 cc] 47 (0, 0)) := blk_below (blk_alloc k_i_3 _) hb4 (blk_lt (blk_alloc k_i_3 _))
  have k_m_4 : w4.heap[w3.heap.size]? = some (.cells #[.int .i64 (M.1), .int .i64 (M.2.1), .int .i64 (M.2.2.1), .int .i64 (M.2.2.2.1), .int .i64 (M.2.2.2.2.1), .int .i64 (M.2.2.2.2.2)] 51 (0, 0)) := blk_below (new_blk (.cells #[.int .i64 (M.1), .int .i64 (M.2.1), .int .i64 (M.2.2.1), .int .i64 (M.2.2.2.1), .int .i64 (M.2.2.2.2.1), .int .i64 (M.2.2.2.2.2)] 51) (by first | rfl | (simp; done) | (simp; omega))) hb4 (by first | (simp; done) | (simp; omega))
  have hw_4 : Below w.heap.size w w4 := stay_b (ba hw_3 _) hb4
  have hs_4 := (hs_3.alloc _).below hb4
  clear c_t_0 c_t_1 c_t_2 f_t s_t c_i_0 c_i_1 f_i s_i k_t_3 k_i_3 hb4 hw_3
  have c_t_0 := cell_of_blk k_t_4 0
  have c_t_1 := cell_of_blk k_t_4 1
  have c_t_2 := cell_of_blk k_t_4 2
  simp only [List.getElem?_toArray, List.getElem?_cons_zero, List.getElem?_cons_succ] at c_t_0 c_t_1 c_t_2
  have f_t := frozen_of_blk k_t_4
  have s_t := blk_lt k_t_4
  have c_i_0 := cell_of_blk k_i_4 0
  have c_i_1 := cell_of_blk k_i_4 1
  simp only [List.getElem?_toArray, List.getElem?_cons_zero, List.getElem?_cons_succ] at c_i_0 c_i_1
  have f_i := frozen_of_blk k_i_4
  have s_i := blk_lt k_i_4
  have c_m_0 := cell_of_blk k_m_4 0
  have c_m_1 := cell_of_blk k_m_4 1
  have c_m_2 := cell_of_blk k_m_4 2
  have c_m_3 := cell_of_blk k_m_4 3
  have c_m_4 := cell_of_blk k_m_4 4
  have c_m_5 := cell_of_blk k_m_4 5
  simp only [List.getElem?_toArray, List.getElem?_cons_zero, List.getElem?_cons_succ] at c_m_0 c_m_1 c_m_2 c_m_3 c_m_4 c_m_5
  have f_m := frozen_of_blk k_m_4
  have s_m := blk_lt k_m_4
  go_wp2_with fail
  refine (CW.out _ (hs_4.alloc _)).mono ?_
  rintro e w5 ⟨rfl, hb5⟩
  have k_t_5 : w5.heap[w2.heap.size]? = some (.cells #[.int .i64 tx, .int .i64 ty, .int .i64 tk] 23 (0, 0)) := blk_below (blk_alloc k_t_4 _) hb5 (blk_lt (blk_alloc k_t_4 _))
  have k_i_5 : w5.heap[w2.heap.size + 1]? = some (.cells #[.int .i64 v, .int .i64 cc] 47 (0, 0)) := blk_below (blk_alloc k_i_4 _) hb5 (blk_lt (blk_alloc k_i_4 _))
  have k_m_5 : w5.heap[w3.heap.size]? = some (.cells #[.int .i64 (M.1), .int .i64 (M.2.1), .int .i64 (M.2.2.1), .int .i64 (M.2.2.2.1), .int .i64 (M.2.2.2.2.1), .int .i64 (M.2.2.2.2.2)] 51 (0, 0)) := blk_below (blk_alloc k_m_4 _) hb5 (blk_lt (blk_alloc k_m_4 _))
  have k_u_5 : w5.heap[w4.heap.size]? = some (.cells #[.int .i64 (U.1), .int .i64 (U.2.1), .int .i64 (U.2.2)] 23 (0, 0)) := blk_below (new_blk (.cells #[.int .i64 (U.1), .int .i64 (U.2.1), .int .i64 (U.2.2)] 23) (by first | rfl | (simp; done) | (simp; omega))) hb5 (by first | (simp; done) | (simp; omega))
  have hw_5 : Below w.heap.size w w5 := stay_b (ba hw_4 _) hb5
  have hs_5 := (hs_4.alloc _).below hb5
  clear c_t_0 c_t_1 c_t_2 f_t s_t c_i_0 c_i_1 f_i s_i c_m_0 c_m_1 c_m_2 c_m_3 c_m_4 c_m_5 f_m s_m k_t_4 k_i_4 k_m_4 hb5 hw_4
  have c_t_0 := cell_of_blk k_t_5 0
  have c_t_1 := cell_of_blk k_t_5 1
  have c_t_2 := cell_of_blk k_t_5 2
  simp only [List.getElem?_toArray, List.getElem?_cons_zero, List.getElem?_cons_succ] at c_t_0 c_t_1 c_t_2
  have f_t := frozen_of_blk k_t_5
  have s_t := blk_lt k_t_5
  have c_i_0 := cell_of_blk k_i_5 0
  have c_i_1 := cell_of_blk k_i_5 1
  simp only [List.getElem?_toArray, List.getElem?_cons_zero, List.getElem?_cons_succ] at c_i_0 c_i_1
  have f_i := frozen_of_blk k_i_5
  have s_i := blk_lt k_i_5
  have c_m_0 := cell_of_blk k_m_5 0
  have c_m_1 := cell_of_blk k_m_5 1
  have c_m_2 := cell_of_blk k_m_5 2
  have c_m_3 := cell_of_blk k_m_5 3
  have c_m_4 := cell_of_blk k_m_5 4
  have c_m_5 := cell_of_blk k_m_5 5
  simp only [List.getElem?_toArray, List.getElem?_cons_zero, List.getElem?_cons_succ] at c_m_0 c_m_1 c_m_2 c_m_3 c_m_4 c_m_5
  have f_m := frozen_of_blk k_m_5
  have s_m := blk_lt k_m_5
  have c_u_0 := cell_of_blk k_u_5 0
  have c_u_1 := cell_of_blk k_u_5 1
  have c_u_2 := cell_of_blk k_u_5 2
  simp only [List.getElem?_toArray, List.getElem?_cons_zero, List.getElem?_cons_succ] at c_u_0 c_u_1 c_u_2
  have f_u := frozen_of_blk k_u_5
  have s_u := blk_lt k_u_5
  go_wp2_with fail
  refine (CA.out _ (hs_5.alloc _)).mono ?_
  rintro e w6 ⟨rfl, hb6⟩
  have k_t_6 : w6.heap[w2.heap.size]? = some (.cells #[.int .i64 tx, .int .i64 ty, .int .i64 tk] 23 (0, 0)) := blk_below (blk_alloc k_t_5 _) hb6 (blk_lt (blk_alloc k_t_5 _))
  have k_i_6 : w6.heap[w2.heap.size + 1]? = some (.cells #[.int .i64 v, .int .i64 cc] 47 (0, 0)) := blk_below (blk_alloc k_i_5 _) hb6 (blk_lt (blk_alloc k_i_5 _))
  have k_m_6 : w6.heap[w3.heap.size]? = some (.cells #[.int .i64 (M.1), .int .i64 (M.2.1), .int .i64 (M.2.2.1), .int .i64 (M.2.2.2.1), .int .i64 (M.2.2.2.2.1), .int .i64 (M.2.2.2.2.2)] 51 (0, 0)) := blk_below (blk_alloc k_m_5 _) hb6 (blk_lt (blk_alloc k_m_5 _))
  have k_u_6 : w6.heap[w4.heap.size]? = some (.cells #[.int .i64 (U.1), .int .i64 (U.2.1), .int .i64 (U.2.2)] 23 (0, 0)) := blk_below (blk_alloc k_u_5 _) hb6 (blk_lt (blk_alloc k_u_5 _))
  have k_q_6 : w6.heap[w5.heap.size]? = some (.cells #[.int .i64 tx, .int .i64 ty, .int .i64 tk] 23 (0, 0)) := blk_below (new_blk (.cells #[.int .i64 tx, .int .i64 ty, .int .i64 tk] 23) (by first | rfl | (simp; done) | (simp; omega))) hb6 (by first | (simp; done) | (simp; omega))
  have hw_6 : Below w.heap.size w w6 := stay_b (ba hw_5 _) hb6
  have hs_6 := (hs_5.alloc _).below hb6
  clear c_t_0 c_t_1 c_t_2 f_t s_t c_i_0 c_i_1 f_i s_i c_m_0 c_m_1 c_m_2 c_m_3 c_m_4 c_m_5 f_m s_m c_u_0 c_u_1 c_u_2 f_u s_u k_t_5 k_i_5 k_m_5 k_u_5 hb6 hw_5
  have c_t_0 := cell_of_blk k_t_6 0
  have c_t_1 := cell_of_blk k_t_6 1
  have c_t_2 := cell_of_blk k_t_6 2
  simp only [List.getElem?_toArray, List.getElem?_cons_zero, List.getElem?_cons_succ] at c_t_0 c_t_1 c_t_2
  have f_t := frozen_of_blk k_t_6
  have s_t := blk_lt k_t_6
  have c_i_0 := cell_of_blk k_i_6 0
  have c_i_1 := cell_of_blk k_i_6 1
  simp only [List.getElem?_toArray, List.getElem?_cons_zero, List.getElem?_cons_succ] at c_i_0 c_i_1
  have f_i := frozen_of_blk k_i_6
  have s_i := blk_lt k_i_6
  have c_m_0 := cell_of_blk k_m_6 0
  have c_m_1 := cell_of_blk k_m_6 1
  have c_m_2 := cell_of_blk k_m_6 2
  have c_m_3 := cell_of_blk k_m_6 3
  have c_m_4 := cell_of_blk k_m_6 4
  have c_m_5 := cell_of_blk k_m_6 5
  simp only [List.getElem?_toArray, List.getElem?_cons_zero, List.getElem?_cons_succ] at c_m_0 c_m_1 c_m_2 c_m_3 c_m_4 c_m_5
  have f_m := frozen_of_blk k_m_6
  have s_m := blk_lt k_m_6
  have c_u_0 := cell_of_blk k_u_6 0
  have c_u_1 := cell_of_blk k_u_6 1
  have c_u_2 := cell_of_blk k_u_6 2
  simp only [List.getElem?_toArray, List.getElem?_cons_zero, List.getElem?_cons_succ] at c_u_0 c_u_1 c_u_2
  have f_u := frozen_of_blk k_u_6
  have s_u := blk_lt k_u_6
  have c_q_0 := cell_of_blk k_q_6 0
  have c_q_1 := cell_of_blk k_q_6 1
  have c_q_2 := cell_of_blk k_q_6 2
  simp only [List.getElem?_toArray, List.getElem?_cons_zero, List.getElem?_cons_succ] at c_q_0 c_q_1 c_q_2
  have f_q := frozen_of_blk k_q_6
  have s_q := blk_lt k_q_6
  go_wp2_with fail
  refine (CB.out _ hs_6).mono ?_
  rintro e w7 ⟨rfl, hb7⟩
  have k_t_7 : w7.heap[w2.heap.size]? = some (.cells #[.int .i64 tx, .int .i64 ty, .int .i64 tk] 23 (0, 0)) := blk_below k_t_6 hb7 (blk_lt k_t_6)
  have k_i_7 : w7.heap[w2.heap.size + 1]? = some (.cells #[.int .i64 v, .int .i64 cc] 47 (0, 0)) := blk_below k_i_6 hb7 (blk_lt k_i_6)
  have k_m_7 : w7.heap[w3.heap.size]? = some (.cells #[.int .i64 (M.1), .int .i64 (M.2.1), .int .i64 (M.2.2.1), .int .i64 (M.2.2.2.1), .int .i64 (M.2.2.2.2.1), .int .i64 (M.2.2.2.2.2)] 51 (0, 0)) := blk_below k_m_6 hb7 (blk_lt k_m_6)
  have k_u_7 : w7.heap[w4.heap.size]? = some (.cells #[.int .i64 (U.1), .int .i64 (U.2.1), .int .i64 (U.2.2)] 23 (0, 0)) := blk_below k_u_6 hb7 (blk_lt k_u_6)
  have k_q_7 : w7.heap[w5.heap.size]? = some (.cells #[.int .i64 tx, .int .i64 ty, .int .i64 tk] 23 (0, 0)) := blk_below k_q_6 hb7 (blk_lt k_q_6)
  have hw_7 : Below w.heap.size w w7 := stay_b hw_6 hb7
  have hs_7 := hs_6.below hb7
  clear c_t_0 c_t_1 c_t_2 f_t s_t c_i_0 c_i_1 f_i s_i c_m_0 c_m_1 c_m_2 c_m_3 c_m_4 c_m_5 f_m s_m c_u_0 c_u_1 c_u_2 f_u s_u c_q_0 c_q_1 c_q_2 f_q s_q k_t_6 k_i_6 k_m_6 k_u_6 k_q_6 hb7 hw_6
  have c_t_0 := cell_of_blk k_t_7 0
  have c_t_1 := cell_of_blk k_t_7 1
  have c_t_2 := cell_of_blk k_t_7 2
  simp only [List.getElem?_toArray, List.getElem?_cons_zero, List.getElem?_cons_succ] at c_t_0 c_t_1 c_t_2
  have f_t := frozen_of_blk k_t_7
  have s_t := blk_lt k_t_7
  have c_i_0 := cell_of_blk k_i_7 0
  have c_i_1 := cell_of_blk k_i_7 1
  simp only [List.getElem?_toArray, List.getElem?_cons_zero, List.getElem?_cons_succ] at c_i_0 c_i_1
  have f_i := frozen_of_blk k_i_7
  have s_i := blk_lt k_i_7
  have c_m_0 := cell_of_blk k_m_7 0
  have c_m_1 := cell_of_blk k_m_7 1
  have c_m_2 := cell_of_blk k_m_7 2
  have c_m_3 := cell_of_blk k_m_7 3
  have c_m_4 := cell_of_blk k_m_7 4
  have c_m_5 := cell_of_blk k_m_7 5
  simp only [List.getElem?_toArray, List.getElem?_cons_zero, List.getElem?_cons_succ] at c_m_0 c_m_1 c_m_2 c_m_3 c_m_4 c_m_5
  have f_m := frozen_of_blk k_m_7
  have s_m := blk_lt k_m_7
  have c_u_0 := cell_of_blk k_u_7 0
  have c_u_1 := cell_of_blk k_u_7 1
  have c_u_2 := cell_of_blk k_u_7 2
  simp only [List.getElem?_toArray, List.getElem?_cons_zero, List.getElem?_cons_succ] at c_u_0 c_u_1 c_u_2
  have f_u := frozen_of_blk k_u_7
  have s_u := blk_lt k_u_7
  have c_q_0 := cell_of_blk k_q_7 0
  have c_q_1 := cell_of_blk k_q_7 1
  have c_q_2 := cell_of_blk k_q_7 2
  simp only [List.getElem?_toArray, List.getElem?_cons_zero, List.getElem?_cons_succ] at c_q_0 c_q_1 c_q_2
  have f_q := frozen_of_blk k_q_7
  have s_q := blk_lt k_q_7
  have r1 : ∀ w : World, (binOp .neq 23 (aggT tx ty tk) (aggT tx ty tk)).run Tryd.prog w = .ok (.bool false) w := fun w => by rw [neT]; simp [eqL]
  obtain ⟨s1, s2⟩ := HSD.out
  have s3 : sa ≠ 0 := by omega
  have s4 : IntKind.i64.wrap (sa + sb) = 0 := by rw [s1]; rfl
  go_wp2_with fail
  refine (CE.out _ hs_7).mono ?_
  rintro e w8 ⟨rfl, hb8⟩
  have k_t_8 : w8.heap[w2.heap.size]? = some (.cells #[.int .i64 tx, .int .i64 ty, .int .i64 tk] 23 (0, 0)) := blk_below k_t_7 hb8 (blk_lt k_t_7)
  have k_i_8 : w8.heap[w2.heap.size + 1]? = some (.cells #[.int .i64 v, .int .i64 cc] 47 (0, 0)) := blk_below k_i_7 hb8 (blk_lt k_i_7)
  have k_m_8 : w8.heap[w3.heap.size]? = some (.cells #[.int .i64 (M.1), .int .i64 (M.2.1), .int .i64 (M.2.2.1), .int .i64 (M.2.2.2.1), .int .i64 (M.2.2.2.2.1), .int .i64 (M.2.2.2.2.2)] 51 (0, 0)) := blk_below k_m_7 hb8 (blk_lt k_m_7)
  have k_u_8 : w8.heap[w4.heap.size]? = some (.cells #[.int .i64 (U.1), .int .i64 (U.2.1), .int .i64 (U.2.2)] 23 (0, 0)) := blk_below k_u_7 hb8 (blk_lt k_u_7)
  have k_q_8 : w8.heap[w5.heap.size]? = some (.cells #[.int .i64 tx, .int .i64 ty, .int .i64 tk] 23 (0, 0)) := blk_below k_q_7 hb8 (blk_lt k_q_7)
  have hw_8 : Below w.heap.size w w8 := stay_b hw_7 hb8
  have hs_8 := hs_7.below hb8
  clear c_t_0 c_t_1 c_t_2 f_t s_t c_i_0 c_i_1 f_i s_i c_m_0 c_m_1 c_m_2 c_m_3 c_m_4 c_m_5 f_m s_m c_u_0 c_u_1 c_u_2 f_u s_u c_q_0 c_q_1 c_q_2 f_q s_q k_t_7 k_i_7 k_m_7 k_u_7 k_q_7 hb8 hw_7
  have c_t_0 := cell_of_blk k_t_8 0
  have c_t_1 := cell_of_blk k_t_8 1
  have c_t_2 := cell_of_blk k_t_8 2
  simp only [List.getElem?_toArray, List.getElem?_cons_zero, List.getElem?_cons_succ] at c_t_0 c_t_1 c_t_2
  have f_t := frozen_of_blk k_t_8
  have s_t := blk_lt k_t_8
  have c_i_0 := cell_of_blk k_i_8 0
  have c_i_1 := cell_of_blk k_i_8 1
  simp only [List.getElem?_toArray, List.getElem?_cons_zero, List.getElem?_cons_succ] at c_i_0 c_i_1
  have f_i := frozen_of_blk k_i_8
  have s_i := blk_lt k_i_8
  have c_m_0 := cell_of_blk k_m_8 0
  have c_m_1 := cell_of_blk k_m_8 1
  have c_m_2 := cell_of_blk k_m_8 2
  have c_m_3 := cell_of_blk k_m_8 3
  have c_m_4 := cell_of_blk k_m_8 4
  have c_m_5 := cell_of_blk k_m_8 5
  simp only [List.getElem?_toArray, List.getElem?_cons_zero, List.getElem?_cons_succ] at c_m_0 c_m_1 c_m_2 c_m_3 c_m_4 c_m_5
  have f_m := frozen_of_blk k_m_8
  have s_m := blk_lt k_m_8
  have c_u_0 := cell_of_blk k_u_8 0
  have c_u_1 := cell_of_blk k_u_8 1
  have c_u_2 := cell_of_blk k_u_8 2
  simp only [List.getElem?_toArray, List.getElem?_cons_zero, List.getElem?_cons_succ] at c_u_0 c_u_1 c_u_2
  have f_u := frozen_of_blk k_u_8
  have s_u := blk_lt k_u_8
  have c_q_0 := cell_of_blk k_q_8 0
  have c_q_1 := cell_of_blk k_q_8 1
  have c_q_2 := cell_of_blk k_q_8 2
  simp only [List.getElem?_toArray, List.getElem?_cons_zero, List.getElem?_cons_succ] at c_q_0 c_q_1 c_q_2
  have f_q := frozen_of_blk k_q_8
  have s_q := blk_lt k_q_8
  go_upto_region 10 with fail
  have k_t_9 : ((w8.alloc (.cells #[.int .i64 (E0.1), .int .i64 (E0.2.1), .int .i64 (E0.2.2.1), .int .i64 (E0.2.2.2), .int .i64 (E1.1), .int .i64 (E1.2.1), .int .i64 (E1.2.2.1), .int .i64 (E1.2.2.2), .int .i64 (E2.1), .int .i64 (E2.2.1), .int .i64 (E2.2.2.1), .int .i64 (E2.2.2.2)] 32))).heap[w2.heap.size]? = some (.cells #[.int .i64 tx, .int .i64 ty, .int .i64 tk] 23 (0, 0)) := (blk_alloc k_t_8 _)
  have k_i_9 : ((w8.alloc (.cells #[.int .i64 (E0.1), .int .i64 (E0.2.1), .int .i64 (E0.2.2.1), .int .i64 (E0.2.2.2), .int .i64 (E1.1), .int .i64 (E1.2.1), .int .i64 (E1.2.2.1), .int .i64 (E1.2.2.2), .int .i64 (E2.1), .int .i64 (E2.2.1), .int .i64 (E2.2.2.1), .int .i64 (E2.2.2.2)] 32))).heap[w2.heap.size + 1]? = some (.cells #[.int .i64 v, .int .i64 cc] 47 (0, 0)) := (blk_alloc k_i_8 _)
  have k_m_9 : ((w8.alloc (.cells #[.int .i64 (E0.1), .int .i64 (E0.2.1), .int .i64 (E0.2.2.1), .int .i64 (E0.2.2.2), .int .i64 (E1.1), .int .i64 (E1.2.1), .int .i64 (E1.2.2.1), .int .i64 (E1.2.2.2), .int .i64 (E2.1), .int .i64 (E2.2.1), .int .i64 (E2.2.2.1), .int .i64 (E2.2.2.2)] 32))).heap[w3.heap.size]? = some (.cells #[.int .i64 (M.1), .int .i64 (M.2.1), .int .i64 (M.2.2.1), .int .i64 (M.2.2.2.1), .int .i64 (M.2.2.2.2.1), .int .i64 (M.2.2.2.2.2)] 51 (0, 0)) := (blk_alloc k_m_8 _)
  have k_u_9 : ((w8.alloc (.cells #[.int .i64 (E0.1), .int .i64 (E0.2.1), .int .i64 (E0.2.2.1), .int .i64 (E0.2.2.2), .int .i64 (E1.1), .int .i64 (E1.2.1), .int .i64 (E1.2.2.1), .int .i64 (E1.2.2.2), .int .i64 (E2.1), .int .i64 (E2.2.1), .int .i64 (E2.2.2.1), .int .i64 (E2.2.2.2)] 32))).heap[w4.heap.size]? = some (.cells #[.int .i64 (U.1), .int .i64 (U.2.1), .int .i64 (U.2.2)] 23 (0, 0)) := (blk_alloc k_u_8 _)
  have k_q_9 : ((w8.alloc (.cells #[.int .i64 (E0.1), .int .i64 (E0.2.1), .int .i64 (E0.2.2.1), .int .i64 (E0.2.2.2), .int .i64 (E1.1), .int .i64 (E1.2.1), .int .i64 (E1.2.2.1), .int .i64 (E1.2.2.2), .int .i64 (E2.1), .int .i64 (E2.2.1), .int .i64 (E2.2.2.1), .int .i64 (E2.2.2.2)] 32))).heap[w5.heap.size]? = some (.cells #[.int .i64 tx, .int .i64 ty, .int .i64 tk] 23 (0, 0)) := (blk_alloc k_q_8 _)
  have k_l_9 : ((w8.alloc (.cells #[.int .i64 (E0.1), .int .i64 (E0.2.1), .int .i64 (E0.2.2.1), .int .i64 (E0.2.2.2), .int .i64 (E1.1), .int .i64 (E1.2.1), .int .i64 (E1.2.2.1), .int .i64 (E1.2.2.2), .int .i64 (E2.1), .int .i64 (E2.2.1), .int .i64 (E2.2.2.1), .int .i64 (E2.2.2.2)] 32))).heap[w8.heap.size]? = some (.cells #[.int .i64 (E0.1), .int .i64 (E0.2.1), .int .i64 (E0.2.2.1), .int .i64 (E0.2.2.2), .int .i64 (E1.1), .int .i64 (E1.2.1), .int .i64 (E1.2.2.1), .int .i64 (E1.2.2.2), .int .i64 (E2.1), .int .i64 (E2.2.1), .int .i64 (E2.2.2.1), .int .i64 (E2.2.2.2)] 32 (0, 0)) := (new_blk (.cells #[.int .i64 (E0.1), .int .i64 (E0.2.1), .int .i64 (E0.2.2.1), .int .i64 (E0.2.2.2), .int .i64 (E1.1), .int .i64 (E1.2.1), .int .i64 (E1.2.2.1), .int .i64 (E1.2.2.2), .int .i64 (E2.1), .int .i64 (E2.2.1), .int .i64 (E2.2.2.1), .int .i64 (E2.2.2.2)] 32) (by first | rfl | (simp; done) | (simp; omega)))
  have hw_9 : Below w.heap.size w ((w8.alloc (.cells #[.int .i64 (E0.1), .int .i64 (E0.2.1), .int .i64 (E0.2.2.1), .int .i64 (E0.2.2.2), .int .i64 (E1.1), .int .i64 (E1.2.1), .int .i64 (E1.2.2.1), .int .i64 (E1.2.2.2), .int .i64 (E2.1), .int .i64 (E2.2.1), .int .i64 (E2.2.2.1), .int .i64 (E2.2.2.2)] 32))) := (ba hw_8 _)
  have hs_9 : Steps ((w8.alloc (.cells #[.int .i64 (E0.1), .int .i64 (E0.2.1), .int .i64 (E0.2.2.1), .int .i64 (E0.2.2.2), .int .i64 (E1.1), .int .i64 (E1.2.1), .int .i64 (E1.2.2.1), .int .i64 (E1.2.2.2), .int .i64 (E2.1), .int .i64 (E2.2.1), .int .i64 (E2.2.2.1), .int .i64 (E2.2.2.2)] 32))) := (hs_8.alloc _)
  clear c_t_0 c_t_1 c_t_2 f_t s_t c_i_0 c_i_1 f_i s_i c_m_0 c_m_1 c_m_2 c_m_3 c_m_4 c_m_5 f_m s_m c_u_0 c_u_1 c_u_2 f_u s_u c_q_0 c_q_1 c_q_2 f_q s_q k_t_8 k_i_8 k_m_8 k_u_8 k_q_8 hw_8
  generalize ((w8.alloc (.cells #[.int .i64 (E0.1), .int .i64 (E0.2.1), .int .i64 (E0.2.2.1), .int .i64 (E0.2.2.2), .int .i64 (E1.1), .int .i64 (E1.2.1), .int .i64 (E1.2.2.1), .int .i64 (E1.2.2.2), .int .i64 (E2.1), .int .i64 (E2.2.1), .int .i64 (E2.2.2.1), .int .i64 (E2.2.2.2)] 32))) = w0 at k_t_9 k_i_9 k_m_9 k_u_9 k_q_9 k_l_9 hs_9 hw_9 ⊢
  clear k_i_9 k_q_9
  go_wp2
  go_loopw [24] (fun i wr => ∃ n : Nat, n ≤ 3 ∧ i = .int .i64 n ∧ Below w0.heap.size w0 wr) (fun i _ => 3 - (intOf i).toNat)
  case atStart => exact ⟨0, by omega, rfl, Below.refl _ _⟩
  case round =>
    obtain ⟨n, hn, rfl, hbel⟩ := hrel
    have k_t_50 := blk_below k_t_9 hbel (blk_lt k_t_9)
    have k_m_50 := blk_below k_m_9 hbel (blk_lt k_m_9)
    have k_u_50 := blk_below k_u_9 hbel (blk_lt k_u_9)
    have k_l_50 := blk_below k_l_9 hbel (blk_lt k_l_9)
    have hs_50 := hs_9.below hbel
    have hw_50 := hbel
    clear k_t_9 k_m_9 k_u_9 k_l_9 hs_9
    have hn4 : n = 0 ∨ n = 1 ∨ n = 2 ∨ n = 3 := by omega
    rcases hn4 with rfl | rfl | rfl | rfl
    · have r2 := D50.out
      go_wp2_with fail
      have jt : wr.drew.heap[w2.heap.size]? = some (.cells #[.int .i64 tx, .int .i64 ty, .int .i64 tk] 23 (0, 0)) := k_t_50
      have jm : wr.drew.heap[w3.heap.size]? = some (.cells #[.int .i64 (M.1), .int .i64 (M.2.1), .int .i64 (M.2.2.1), .int .i64 (M.2.2.2.1), .int .i64 (M.2.2.2.2.1), .int .i64 (M.2.2.2.2.2)] 51 (0, 0)) := k_m_50
      have ju : wr.drew.heap[w4.heap.size]? = some (.cells #[.int .i64 (U.1), .int .i64 (U.2.1), .int .i64 (U.2.2)] 23 (0, 0)) := k_u_50
      have jl : wr.drew.heap[w8.heap.size]? = some (.cells #[.int .i64 (E0.1), .int .i64 (E0.2.1), .int .i64 (E0.2.2.1), .int .i64 (E0.2.2.2), .int .i64 (E1.1), .int .i64 (E1.2.1), .int .i64 (E1.2.2.1), .int .i64 (E1.2.2.2), .int .i64 (E2.1), .int .i64 (E2.2.1), .int .i64 (E2.2.2.1), .int .i64 (E2.2.2.2)] 32 (0, 0)) := k_l_50
      have dt0 := cell_of_blk jt 0
      have dt1 := cell_of_blk jt 1
      have dt2 := cell_of_blk jt 2
      have dl0 := cell_of_blk jl 0
      have dl1 := cell_of_blk jl 1
      have dl2 := cell_of_blk jl 2
      have dl3 := cell_of_blk jl 3
      have dl4 := cell_of_blk jl 4
      have dl5 := cell_of_blk jl 5
      have dl6 := cell_of_blk jl 6
      have dl7 := cell_of_blk jl 7
      have dl8 := cell_of_blk jl 8
      have dl9 := cell_of_blk jl 9
      have dl10 := cell_of_blk jl 10
      have dl11 := cell_of_blk jl 11
      simp only [List.getElem?_toArray, List.getElem?_cons_zero, List.getElem?_cons_succ] at dt0 dt1 dt2 dl0 dl1 dl2 dl3 dl4 dl5 dl6 dl7 dl8 dl9 dl10 dl11
      have hbw : Below w0.heap.size w0 wr.drew := hw_50.drew
      have hlw : w0.heap.size ≤ wr.heap.size := hbw.size
      have hsd : Steps wr.drew := hs_50.below (Below.refl _ _).drew
      have n_t : wr.heap.size ≠ w2.heap.size := by have := blk_lt k_t_50; omega
      have n_m : wr.heap.size ≠ w3.heap.size := by have := blk_lt k_m_50; omega
      have n_u : wr.heap.size ≠ w4.heap.size := by have := blk_lt k_u_50; omega
      have n_l : wr.heap.size ≠ w8.heap.size := by have := blk_lt k_l_50; omega
      have n_0 : wr.heap.size ≠ 0 := by have := hs_50.lt; omega
      have hS0 := And.intro dt0 (And.intro dt1 (And.intro dt2 (And.intro dl0 (And.intro dl1 (And.intro dl2 (And.intro dl3 (And.intro dl4 (And.intro dl5 (And.intro dl6 (And.intro dl7 (And.intro dl8 (And.intro dl9 (And.intro dl10 (And.intro dl11 (And.intro hbw hsd)))))))))))))))
      clear dt0 dt1 dt2 dl0 dl1 dl2 dl3 dl4 dl5 dl6 dl7 dl8 dl9 dl10 dl11
      go_region_held3 (fun w' => w'.cell? ⟨w2.heap.size, 0, none⟩ = some (.int .i64 tx) ∧ w'.cell? ⟨w2.heap.size, 1, none⟩ = some (.int .i64 ty) ∧ w'.cell? ⟨w2.heap.size, 2, none⟩ = some (.int .i64 tk) ∧ w'.cell? ⟨w8.heap.size, 0, none⟩ = some (.int .i64 E0.1) ∧ w'.cell? ⟨w8.heap.size, 1, none⟩ = some (.int .i64 E0.2.1) ∧ w'.cell? ⟨w8.heap.size, 2, none⟩ = some (.int .i64 E0.2.2.1) ∧ w'.cell? ⟨w8.heap.size, 3, none⟩ = some (.int .i64 E0.2.2.2) ∧ w'.cell? ⟨w8.heap.size, 4, none⟩ = some (.int .i64 E1.1) ∧ w'.cell? ⟨w8.heap.size, 5, none⟩ = some (.int .i64 E1.2.1) ∧ w'.cell? ⟨w8.heap.size, 6, none⟩ = some (.int .i64 E1.2.2.1) ∧ w'.cell? ⟨w8.heap.size, 7, none⟩ = some (.int .i64 E1.2.2.2) ∧ w'.cell? ⟨w8.heap.size, 8, none⟩ = some (.int .i64 E2.1) ∧ w'.cell? ⟨w8.heap.size, 9, none⟩ = some (.int .i64 E2.2.1) ∧ w'.cell? ⟨w8.heap.size, 10, none⟩ = some (.int .i64 E2.2.2.1) ∧ w'.cell? ⟨w8.heap.size, 11, none⟩ = some (.int .i64 E2.2.2.2) ∧ Below w0.heap.size w0 w' ∧ Steps w')
        (first
          | with_reducible exact hS0
          | (go_split_ands; with_reducible exact ⟨al_c ‹_› _, al_c ‹_› _, al_c ‹_› _, al_c ‹_› _, al_c ‹_› _, al_c ‹_› _, al_c ‹_› _, al_c ‹_› _, al_c ‹_› _, al_c ‹_› _, al_c ‹_› _, al_c ‹_› _, al_c ‹_› _, al_c ‹_› _, al_c ‹_› _, ba ‹_› _, Steps.alloc ‹_› _⟩)
          | (go_split_ands; with_reducible exact ⟨al_d ‹_› _, al_d ‹_› _, al_d ‹_› _, al_d ‹_› _, al_d ‹_› _, al_d ‹_› _, al_d ‹_› _, al_d ‹_› _, al_d ‹_› _, al_d ‹_› _, al_d ‹_› _, al_d ‹_› _, al_d ‹_› _, al_d ‹_› _, al_d ‹_› _, bd ‹_› hlw _, stepd ‹_› _⟩)
          | (go_split_ands; with_reducible exact ⟨re_c ‹_› gt, re_c ‹_› gt, re_c ‹_› gt, re_c ‹_› gl, re_c ‹_› gl, re_c ‹_› gl, re_c ‹_› gl, re_c ‹_› gl, re_c ‹_› gl, re_c ‹_› gl, re_c ‹_› gl, re_c ‹_› gl, re_c ‹_› gl, re_c ‹_› gl, re_c ‹_› gl, ba hbw _, Steps.alloc hsq _⟩)
          | (go_split_ands; with_reducible exact ⟨far3 ‹_› n_t _ _ _, far3 ‹_› n_t _ _ _, far3 ‹_› n_t _ _ _, far3 ‹_› n_l _ _ _, far3 ‹_› n_l _ _ _, far3 ‹_› n_l _ _ _, far3 ‹_› n_l _ _ _, far3 ‹_› n_l _ _ _, far3 ‹_› n_l _ _ _, far3 ‹_› n_l _ _ _, far3 ‹_› n_l _ _ _, far3 ‹_› n_l _ _ _, far3 ‹_› n_l _ _ _, far3 ‹_› n_l _ _ _, far3 ‹_› n_l _ _ _, set3_below ‹_› _ hlw _ _ _, Steps.set3' ‹_› n_0 _ _ _⟩)
          | (go_split_ands; with_reducible exact ⟨stay_c ‹_› hbc (Nat.le_refl _), stay_c ‹_› hbc (Nat.le_refl _), stay_c ‹_› hbc (Nat.le_refl _), stay_c ‹_› hbc (Nat.le_refl _), stay_c ‹_› hbc (Nat.le_refl _), stay_c ‹_› hbc (Nat.le_refl _), stay_c ‹_› hbc (Nat.le_refl _), stay_c ‹_› hbc (Nat.le_refl _), stay_c ‹_› hbc (Nat.le_refl _), stay_c ‹_› hbc (Nat.le_refl _), stay_c ‹_› hbc (Nat.le_refl _), stay_c ‹_› hbc (Nat.le_refl _), stay_c ‹_› hbc (Nat.le_refl _), stay_c ‹_› hbc (Nat.le_refl _), stay_c ‹_› hbc (Nat.le_refl _), stay_b ‹_› hbc, Steps.below ‹_› hbc⟩))
        (((with_reducible refine (D10.out _ (by first | exact hsd | exact stepd hsd _)).mono ?_); rintro e' wc ⟨he, hbc⟩; subst he; have hsq := Steps.below (by first | exact hsd | exact stepd hsd _) hbc; (first | (have jt := blk_below jt hbc (blk_lt jt)) | (have jt := blk_below (blk_ad jt _) hbc (blk_lt (blk_ad jt _)))); have gt := blk_lt jt; (first | (have jm := blk_below jm hbc (blk_lt jm)) | (have jm := blk_below (blk_ad jm _) hbc (blk_lt (blk_ad jm _)))); have gm := blk_lt jm; (first | (have ju := blk_below ju hbc (blk_lt ju)) | (have ju := blk_below (blk_ad ju _) hbc (blk_lt (blk_ad ju _)))); have gu := blk_lt ju; (first | (have jl := blk_below jl hbc (blk_lt jl)) | (have jl := blk_below (blk_ad jl _) hbc (blk_lt (blk_ad jl _)))); have gl := blk_lt jl; (first | (have hbw := stay_b hbw hbc) | (have hbw := stay_b (bd hbw hlw _) hbc)); (first | (have qn := blk_below (new_d _ _) hbc (by simp); (try simp only [World.size_alloc] at qn); have z0 := cell_of_blk qn 0; have z1 := cell_of_blk qn 1; have z2 := cell_of_blk qn 2; simp only [List.getElem?_toArray, List.getElem?_cons_zero, List.getElem?_cons_succ] at z0 z1 z2; have zf := frozen_of_blk qn; have zl := blk_lt qn) | skip)))
      all_goals (rename_i hH; clear hH)
      all_goals first
        | (have k_n_70 := set3_blk qn (.int .i64 V0.1) (.int .i64 V0.2.1) (.int .i64 V0.2.2); have k_t_70 := farb3 jt n_t.symm (.int .i64 V0.1) (.int .i64 V0.2.1) (.int .i64 V0.2.2); have k_m_70 := farb3 jm n_m.symm (.int .i64 V0.1) (.int .i64 V0.2.1) (.int .i64 V0.2.2); have k_u_70 := farb3 ju n_u.symm (.int .i64 V0.1) (.int .i64 V0.2.1) (.int .i64 V0.2.2); have k_l_70 := farb3 jl n_l.symm (.int .i64 V0.1) (.int .i64 V0.2.1) (.int .i64 V0.2.2); have hs_70 := Steps.set3' hsq n_0 (.int .i64 V0.1) (.int .i64 V0.2.1) (.int .i64 V0.2.2); have hw_70 := set3_below hbw _ hlw (.int .i64 V0.1) (.int .i64 V0.2.1) (.int .i64 V0.2.2); generalize (((wc.setCell ⟨wr.heap.size, 0, none⟩ (.int .i64 V0.1)).setCell ⟨wr.heap.size, 1, none⟩ (.int .i64 V0.2.1)).setCell ⟨wr.heap.size, 2, none⟩ (.int .i64 V0.2.2)) = x70 at k_n_70 k_t_70 k_m_70 k_u_70 k_l_70 hs_70 hw_70 ⊢; generalize wr.heap.size = g70 at k_n_70 ⊢)
        | (have k_n_70 := heap_alloc_new wc (.cells #[.int .i64 (V0.1), .int .i64 (V0.2.1), .int .i64 (V0.2.2)] 23); have k_t_70 := blk_alloc jt (.cells #[.int .i64 (V0.1), .int .i64 (V0.2.1), .int .i64 (V0.2.2)] 23); have k_m_70 := blk_alloc jm (.cells #[.int .i64 (V0.1), .int .i64 (V0.2.1), .int .i64 (V0.2.2)] 23); have k_u_70 := blk_alloc ju (.cells #[.int .i64 (V0.1), .int .i64 (V0.2.1), .int .i64 (V0.2.2)] 23); have k_l_70 := blk_alloc jl (.cells #[.int .i64 (V0.1), .int .i64 (V0.2.1), .int .i64 (V0.2.2)] 23); have hs_70 := Steps.alloc hsq (.cells #[.int .i64 (V0.1), .int .i64 (V0.2.1), .int .i64 (V0.2.2)] 23); have hw_70 := ba hbw (.cells #[.int .i64 (V0.1), .int .i64 (V0.2.1), .int .i64 (V0.2.2)] 23); generalize (wc.alloc (.cells #[.int .i64 (V0.1), .int .i64 (V0.2.1), .int .i64 (V0.2.2)] 23)) = x70 at k_n_70 k_t_70 k_m_70 k_u_70 k_l_70 hs_70 hw_70 ⊢; generalize wc.heap.size = g70 at k_n_70 ⊢)
      all_goals
        clear hbw hsq hsd hS0 hlw
        (try clear qn z0 z1 z2 zf zl)
        go_wp2_with fail
        have jn : x70.drew.heap[g70]? = some (.cells #[.int .i64 (V0.1), .int .i64 (V0.2.1), .int .i64 (V0.2.2)] 23 (0, 0)) := k_n_70
        have jt : x70.drew.heap[w2.heap.size]? = some (.cells #[.int .i64 tx, .int .i64 ty, .int .i64 tk] 23 (0, 0)) := k_t_70
        have jm : x70.drew.heap[w3.heap.size]? = some (.cells #[.int .i64 (M.1), .int .i64 (M.2.1), .int .i64 (M.2.2.1), .int .i64 (M.2.2.2.1), .int .i64 (M.2.2.2.2.1), .int .i64 (M.2.2.2.2.2)] 51 (0, 0)) := k_m_70
        have ju : x70.drew.heap[w4.heap.size]? = some (.cells #[.int .i64 (U.1), .int .i64 (U.2.1), .int .i64 (U.2.2)] 23 (0, 0)) := k_u_70
        have jl : x70.drew.heap[w8.heap.size]? = some (.cells #[.int .i64 (E0.1), .int .i64 (E0.2.1), .int .i64 (E0.2.2.1), .int .i64 (E0.2.2.2), .int .i64 (E1.1), .int .i64 (E1.2.1), .int .i64 (E1.2.2.1), .int .i64 (E1.2.2.2), .int .i64 (E2.1), .int .i64 (E2.2.1), .int .i64 (E2.2.2.1), .int .i64 (E2.2.2.2)] 32 (0, 0)) := k_l_70
        have dn0 := cell_of_blk jn 0
        have dn1 := cell_of_blk jn 1
        have dn2 := cell_of_blk jn 2
        have dl0 := cell_of_blk jl 0
        have dl1 := cell_of_blk jl 1
        have dl2 := cell_of_blk jl 2
        have dl3 := cell_of_blk jl 3
        have dl4 := cell_of_blk jl 4
        have dl5 := cell_of_blk jl 5
        have dl6 := cell_of_blk jl 6
        have dl7 := cell_of_blk jl 7
        have dl8 := cell_of_blk jl 8
        have dl9 := cell_of_blk jl 9
        have dl10 := cell_of_blk jl 10
        have dl11 := cell_of_blk jl 11
        simp only [List.getElem?_toArray, List.getElem?_cons_zero, List.getElem?_cons_succ] at dn0 dn1 dn2 dl0 dl1 dl2 dl3 dl4 dl5 dl6 dl7 dl8 dl9 dl10 dl11
        have hbw : Below w0.heap.size w0 x70.drew := hw_70.drew
        have hlw : w0.heap.size ≤ x70.heap.size := hbw.size
        have hsd : Steps x70.drew := hs_70.below (Below.refl _ _).drew
        have n_n : x70.heap.size ≠ g70 := by have := blk_lt k_n_70; omega
        have n_t : x70.heap.size ≠ w2.heap.size := by have := blk_lt k_t_70; omega
        have n_m : x70.heap.size ≠ w3.heap.size := by have := blk_lt k_m_70; omega
        have n_u : x70.heap.size ≠ w4.heap.size := by have := blk_lt k_u_70; omega
        have n_l : x70.heap.size ≠ w8.heap.size := by have := blk_lt k_l_70; omega
        have n_0 : x70.heap.size ≠ 0 := by have := hs_70.lt; omega
        have hS0 := And.intro dn0 (And.intro dn1 (And.intro dn2 (And.intro dl0 (And.intro dl1 (And.intro dl2 (And.intro dl3 (And.intro dl4 (And.intro dl5 (And.intro dl6 (And.intro dl7 (And.intro dl8 (And.intro dl9 (And.intro dl10 (And.intro dl11 (And.intro hbw hsd)))))))))))))))
        clear dn0 dn1 dn2 dl0 dl1 dl2 dl3 dl4 dl5 dl6 dl7 dl8 dl9 dl10 dl11
        go_region_held3 (fun w' => w'.cell? ⟨g70, 0, none⟩ = some (.int .i64 V0.1) ∧ w'.cell? ⟨g70, 1, none⟩ = some (.int .i64 V0.2.1) ∧ w'.cell? ⟨g70, 2, none⟩ = some (.int .i64 V0.2.2) ∧ w'.cell? ⟨w8.heap.size, 0, none⟩ = some (.int .i64 E0.1) ∧ w'.cell? ⟨w8.heap.size, 1, none⟩ = some (.int .i64 E0.2.1) ∧ w'.cell? ⟨w8.heap.size, 2, none⟩ = some (.int .i64 E0.2.2.1) ∧ w'.cell? ⟨w8.heap.size, 3, none⟩ = some (.int .i64 E0.2.2.2) ∧ w'.cell? ⟨w8.heap.size, 4, none⟩ = some (.int .i64 E1.1) ∧ w'.cell? ⟨w8.heap.size, 5, none⟩ = some (.int .i64 E1.2.1) ∧ w'.cell? ⟨w8.heap.size, 6, none⟩ = some (.int .i64 E1.2.2.1) ∧ w'.cell? ⟨w8.heap.size, 7, none⟩ = some (.int .i64 E1.2.2.2) ∧ w'.cell? ⟨w8.heap.size, 8, none⟩ = some (.int .i64 E2.1) ∧ w'.cell? ⟨w8.heap.size, 9, none⟩ = some (.int .i64 E2.2.1) ∧ w'.cell? ⟨w8.heap.size, 10, none⟩ = some (.int .i64 E2.2.2.1) ∧ w'.cell? ⟨w8.heap.size, 11, none⟩ = some (.int .i64 E2.2.2.2) ∧ Below w0.heap.size w0 w' ∧ Steps w')
          (first
            | with_reducible exact hS0
            | (go_split_ands; with_reducible exact ⟨al_c ‹_› _, al_c ‹_› _, al_c ‹_› _, al_c ‹_› _, al_c ‹_› _, al_c ‹_› _, al_c ‹_› _, al_c ‹_› _, al_c ‹_› _, al_c ‹_› _, al_c ‹_› _, al_c ‹_› _, al_c ‹_› _, al_c ‹_› _, al_c ‹_› _, ba ‹_› _, Steps.alloc ‹_› _⟩)
            | (go_split_ands; with_reducible exact ⟨al_d ‹_› _, al_d ‹_› _, al_d ‹_› _, al_d ‹_› _, al_d ‹_› _, al_d ‹_› _, al_d ‹_› _, al_d ‹_› _, al_d ‹_› _, al_d ‹_› _, al_d ‹_› _, al_d ‹_› _, al_d ‹_› _, al_d ‹_› _, al_d ‹_› _, bd ‹_› hlw _, stepd ‹_› _⟩)
            | (go_split_ands; with_reducible exact ⟨re_c ‹_› gn, re_c ‹_› gn, re_c ‹_› gn, re_c ‹_› gl, re_c ‹_› gl, re_c ‹_› gl, re_c ‹_› gl, re_c ‹_› gl, re_c ‹_› gl, re_c ‹_› gl, re_c ‹_› gl, re_c ‹_› gl, re_c ‹_› gl, re_c ‹_› gl, re_c ‹_› gl, ba hbw _, Steps.alloc hsq _⟩)
            | (go_split_ands; with_reducible exact ⟨far3 ‹_› n_n _ _ _, far3 ‹_› n_n _ _ _, far3 ‹_› n_n _ _ _, far3 ‹_› n_l _ _ _, far3 ‹_› n_l _ _ _, far3 ‹_› n_l _ _ _, far3 ‹_› n_l _ _ _, far3 ‹_› n_l _ _ _, far3 ‹_› n_l _ _ _, far3 ‹_› n_l _ _ _, far3 ‹_› n_l _ _ _, far3 ‹_› n_l _ _ _, far3 ‹_› n_l _ _ _, far3 ‹_› n_l _ _ _, far3 ‹_› n_l _ _ _, set3_below ‹_› _ hlw _ _ _, Steps.set3' ‹_› n_0 _ _ _⟩)
            | (go_split_ands; with_reducible exact ⟨stay_c ‹_› hbc (Nat.le_refl _), stay_c ‹_› hbc (Nat.le_refl _), stay_c ‹_› hbc (Nat.le_refl _), stay_c ‹_› hbc (Nat.le_refl _), stay_c ‹_› hbc (Nat.le_refl _), stay_c ‹_› hbc (Nat.le_refl _), stay_c ‹_› hbc (Nat.le_refl _), stay_c ‹_› hbc (Nat.le_refl _), stay_c ‹_› hbc (Nat.le_refl _), stay_c ‹_› hbc (Nat.le_refl _), stay_c ‹_› hbc (Nat.le_refl _), stay_c ‹_› hbc (Nat.le_refl _), stay_c ‹_› hbc (Nat.le_refl _), stay_c ‹_› hbc (Nat.le_refl _), stay_c ‹_› hbc (Nat.le_refl _), stay_b ‹_› hbc, Steps.below ‹_› hbc⟩))
          (((with_reducible refine (D20.out _ (by first | exact hsd | exact stepd hsd _)).mono ?_); rintro e' wc ⟨he, hbc⟩; subst he; have hsq := Steps.below (by first | exact hsd | exact stepd hsd _) hbc; (first | (have jn := blk_below jn hbc (blk_lt jn)) | (have jn := blk_below (blk_ad jn _) hbc (blk_lt (blk_ad jn _)))); have gn := blk_lt jn; (first | (have jt := blk_below jt hbc (blk_lt jt)) | (have jt := blk_below (blk_ad jt _) hbc (blk_lt (blk_ad jt _)))); have gt := blk_lt jt; (first | (have jm := blk_below jm hbc (blk_lt jm)) | (have jm := blk_below (blk_ad jm _) hbc (blk_lt (blk_ad jm _)))); have gm := blk_lt jm; (first | (have ju := blk_below ju hbc (blk_lt ju)) | (have ju := blk_below (blk_ad ju _) hbc (blk_lt (blk_ad ju _)))); have gu := blk_lt ju; (first | (have jl := blk_below jl hbc (blk_lt jl)) | (have jl := blk_below (blk_ad jl _) hbc (blk_lt (blk_ad jl _)))); have gl := blk_lt jl; (first | (have hbw := stay_b hbw hbc) | (have hbw := stay_b (bd hbw hlw _) hbc)); (first | (have qn := blk_below (new_d _ _) hbc (by simp); (try simp only [World.size_alloc] at qn); have z0 := cell_of_blk qn 0; have z1 := cell_of_blk qn 1; have z2 := cell_of_blk qn 2; simp only [List.getElem?_toArray, List.getElem?_cons_zero, List.getElem?_cons_succ] at z0 z1 z2; have zf := frozen_of_blk qn; have zl := blk_lt qn) | skip)))
        all_goals (rename_i hH; clear hH)
        all_goals first
          | (have k_b_90 := set3_blk qn (.int .i64 tx) (.int .i64 ty) (.int .i64 tk); have k_n_90 := farb3 jn n_n.symm (.int .i64 tx) (.int .i64 ty) (.int .i64 tk); have k_t_90 := farb3 jt n_t.symm (.int .i64 tx) (.int .i64 ty) (.int .i64 tk); have k_m_90 := farb3 jm n_m.symm (.int .i64 tx) (.int .i64 ty) (.int .i64 tk); have k_u_90 := farb3 ju n_u.symm (.int .i64 tx) (.int .i64 ty) (.int .i64 tk); have k_l_90 := farb3 jl n_l.symm (.int .i64 tx) (.int .i64 ty) (.int .i64 tk); have hs_90 := Steps.set3' hsq n_0 (.int .i64 tx) (.int .i64 ty) (.int .i64 tk); have hw_90 := set3_below hbw _ hlw (.int .i64 tx) (.int .i64 ty) (.int .i64 tk); generalize (((wc.setCell ⟨x70.heap.size, 0, none⟩ (.int .i64 tx)).setCell ⟨x70.heap.size, 1, none⟩ (.int .i64 ty)).setCell ⟨x70.heap.size, 2, none⟩ (.int .i64 tk)) = x90 at k_b_90 k_n_90 k_t_90 k_m_90 k_u_90 k_l_90 hs_90 hw_90 ⊢; generalize x70.heap.size = g90 at k_b_90 ⊢)
          | (have k_b_90 := heap_alloc_new wc (.cells #[.int .i64 tx, .int .i64 ty, .int .i64 tk] 23); have k_n_90 := blk_alloc jn (.cells #[.int .i64 tx, .int .i64 ty, .int .i64 tk] 23); have k_t_90 := blk_alloc jt (.cells #[.int .i64 tx, .int .i64 ty, .int .i64 tk] 23); have k_m_90 := blk_alloc jm (.cells #[.int .i64 tx, .int .i64 ty, .int .i64 tk] 23); have k_u_90 := blk_alloc ju (.cells #[.int .i64 tx, .int .i64 ty, .int .i64 tk] 23); have k_l_90 := blk_alloc jl (.cells #[.int .i64 tx, .int .i64 ty, .int .i64 tk] 23); have hs_90 := Steps.alloc hsq (.cells #[.int .i64 tx, .int .i64 ty, .int .i64 tk] 23); have hw_90 := ba hbw (.cells #[.int .i64 tx, .int .i64 ty, .int .i64 tk] 23); generalize (wc.alloc (.cells #[.int .i64 tx, .int .i64 ty, .int .i64 tk] 23)) = x90 at k_b_90 k_n_90 k_t_90 k_m_90 k_u_90 k_l_90 hs_90 hw_90 ⊢; generalize wc.heap.size = g90 at k_b_90 ⊢)
        all_goals
          clear hbw hsq hsd hS0 hlw
          (try clear qn z0 z1 z2 zf zl)
          have c_n_0 := cell_of_blk k_n_90 0
          have c_n_1 := cell_of_blk k_n_90 1
          have c_n_2 := cell_of_blk k_n_90 2
          simp only [List.getElem?_toArray, List.getElem?_cons_zero, List.getElem?_cons_succ] at c_n_0 c_n_1 c_n_2
          have f_n := frozen_of_blk k_n_90
          have s_n := blk_lt k_n_90
          have c_m_0 := cell_of_blk k_m_90 0
          have c_m_1 := cell_of_blk k_m_90 1
          have c_m_2 := cell_of_blk k_m_90 2
          have c_m_3 := cell_of_blk k_m_90 3
          have c_m_4 := cell_of_blk k_m_90 4
          have c_m_5 := cell_of_blk k_m_90 5
          simp only [List.getElem?_toArray, List.getElem?_cons_zero, List.getElem?_cons_succ] at c_m_0 c_m_1 c_m_2 c_m_3 c_m_4 c_m_5
          have f_m := frozen_of_blk k_m_90
          have s_m := blk_lt k_m_90
          go_wp2_with fail
          refine (D30.out _ hs_90).mono ?_
          rintro e w91 ⟨rfl, hb91⟩
          have k_b_91 : w91.heap[g90]? = some (.cells #[.int .i64 tx, .int .i64 ty, .int .i64 tk] 23 (0, 0)) := blk_below k_b_90 hb91 (blk_lt k_b_90)
          have k_n_91 : w91.heap[g70]? = some (.cells #[.int .i64 (V0.1), .int .i64 (V0.2.1), .int .i64 (V0.2.2)] 23 (0, 0)) := blk_below k_n_90 hb91 (blk_lt k_n_90)
          have k_t_91 : w91.heap[w2.heap.size]? = some (.cells #[.int .i64 tx, .int .i64 ty, .int .i64 tk] 23 (0, 0)) := blk_below k_t_90 hb91 (blk_lt k_t_90)
          have k_m_91 : w91.heap[w3.heap.size]? = some (.cells #[.int .i64 (M.1), .int .i64 (M.2.1), .int .i64 (M.2.2.1), .int .i64 (M.2.2.2.1), .int .i64 (M.2.2.2.2.1), .int .i64 (M.2.2.2.2.2)] 51 (0, 0)) := blk_below k_m_90 hb91 (blk_lt k_m_90)
          have k_u_91 : w91.heap[w4.heap.size]? = some (.cells #[.int .i64 (U.1), .int .i64 (U.2.1), .int .i64 (U.2.2)] 23 (0, 0)) := blk_below k_u_90 hb91 (blk_lt k_u_90)
          have k_l_91 : w91.heap[w8.heap.size]? = some (.cells #[.int .i64 (E0.1), .int .i64 (E0.2.1), .int .i64 (E0.2.2.1), .int .i64 (E0.2.2.2), .int .i64 (E1.1), .int .i64 (E1.2.1), .int .i64 (E1.2.2.1), .int .i64 (E1.2.2.2), .int .i64 (E2.1), .int .i64 (E2.2.1), .int .i64 (E2.2.2.1), .int .i64 (E2.2.2.2)] 32 (0, 0)) := blk_below k_l_90 hb91 (blk_lt k_l_90)
          have hw_91 : Below w0.heap.size w0 w91 := stay_b hw_90 hb91
          have hs_91 := hs_90.below hb91
          clear c_n_0 c_n_1 c_n_2 f_n s_n c_m_0 c_m_1 c_m_2 c_m_3 c_m_4 c_m_5 f_m s_m k_b_90 k_n_90 k_t_90 k_m_90 k_u_90 k_l_90 hb91 hw_90
          have c_b_0 := cell_of_blk k_b_91 0
          have c_b_1 := cell_of_blk k_b_91 1
          have c_b_2 := cell_of_blk k_b_91 2
          simp only [List.getElem?_toArray, List.getElem?_cons_zero, List.getElem?_cons_succ] at c_b_0 c_b_1 c_b_2
          have f_b := frozen_of_blk k_b_91
          have s_b := blk_lt k_b_91
          have c_n_0 := cell_of_blk k_n_91 0
          have c_n_1 := cell_of_blk k_n_91 1
          have c_n_2 := cell_of_blk k_n_91 2
          simp only [List.getElem?_toArray, List.getElem?_cons_zero, List.getElem?_cons_succ] at c_n_0 c_n_1 c_n_2
          have f_n := frozen_of_blk k_n_91
          have s_n := blk_lt k_n_91
          have c_t_0 := cell_of_blk k_t_91 0
          have c_t_1 := cell_of_blk k_t_91 1
          have c_t_2 := cell_of_blk k_t_91 2
          simp only [List.getElem?_toArray, List.getElem?_cons_zero, List.getElem?_cons_succ] at c_t_0 c_t_1 c_t_2
          have f_t := frozen_of_blk k_t_91
          have s_t := blk_lt k_t_91
          have c_m_0 := cell_of_blk k_m_91 0
          have c_m_1 := cell_of_blk k_m_91 1
          have c_m_2 := cell_of_blk k_m_91 2
          have c_m_3 := cell_of_blk k_m_91 3
          have c_m_4 := cell_of_blk k_m_91 4
          have c_m_5 := cell_of_blk k_m_91 5
          simp only [List.getElem?_toArray, List.getElem?_cons_zero, List.getElem?_cons_succ] at c_m_0 c_m_1 c_m_2 c_m_3 c_m_4 c_m_5
          have f_m := frozen_of_blk k_m_91
          have s_m := blk_lt k_m_91
          have c_u_0 := cell_of_blk k_u_91 0
          have c_u_1 := cell_of_blk k_u_91 1
          have c_u_2 := cell_of_blk k_u_91 2
          simp only [List.getElem?_toArray, List.getElem?_cons_zero, List.getElem?_cons_succ] at c_u_0 c_u_1 c_u_2
          have f_u := frozen_of_blk k_u_91
          have s_u := blk_lt k_u_91
          have c_l_0 := cell_of_blk k_l_91 0
          have c_l_1 := cell_of_blk k_l_91 1
          have c_l_2 := cell_of_blk k_l_91 2
          have c_l_3 := cell_of_blk k_l_91 3
          have c_l_4 := cell_of_blk k_l_91 4
          have c_l_5 := cell_of_blk k_l_91 5
          have c_l_6 := cell_of_blk k_l_91 6
          have c_l_7 := cell_of_blk k_l_91 7
          have c_l_8 := cell_of_blk k_l_91 8
          have c_l_9 := cell_of_blk k_l_91 9
          have c_l_10 := cell_of_blk k_l_91 10
          have c_l_11 := cell_of_blk k_l_91 11
          simp only [List.getElem?_toArray, List.getElem?_cons_zero, List.getElem?_cons_succ] at c_l_0 c_l_1 c_l_2 c_l_3 c_l_4 c_l_5 c_l_6 c_l_7 c_l_8 c_l_9 c_l_10 c_l_11
          have f_l := frozen_of_blk k_l_91
          have s_l := blk_lt k_l_91
          go_wp2_with fail
          refine (D40.out _ (hs_91.alloc _)).mono ?_
          rintro e w92 ⟨rfl, hb92⟩
          have k_b_92 : w92.heap[g90]? = some (.cells #[.int .i64 tx, .int .i64 ty, .int .i64 tk] 23 (0, 0)) := blk_below (blk_alloc k_b_91 _) hb92 (blk_lt (blk_alloc k_b_91 _))
          have k_n_92 : w92.heap[g70]? = some (.cells #[.int .i64 (V0.1), .int .i64 (V0.2.1), .int .i64 (V0.2.2)] 23 (0, 0)) := blk_below (blk_alloc k_n_91 _) hb92 (blk_lt (blk_alloc k_n_91 _))
          have k_t_92 : w92.heap[w2.heap.size]? = some (.cells #[.int .i64 tx, .int .i64 ty, .int .i64 tk] 23 (0, 0)) := blk_below (blk_alloc k_t_91 _) hb92 (blk_lt (blk_alloc k_t_91 _))
          have k_m_92 : w92.heap[w3.heap.size]? = some (.cells #[.int .i64 (M.1), .int .i64 (M.2.1), .int .i64 (M.2.2.1), .int .i64 (M.2.2.2.1), .int .i64 (M.2.2.2.2.1), .int .i64 (M.2.2.2.2.2)] 51 (0, 0)) := blk_below (blk_alloc k_m_91 _) hb92 (blk_lt (blk_alloc k_m_91 _))
          have k_u_92 : w92.heap[w4.heap.size]? = some (.cells #[.int .i64 (U.1), .int .i64 (U.2.1), .int .i64 (U.2.2)] 23 (0, 0)) := blk_below (blk_alloc k_u_91 _) hb92 (blk_lt (blk_alloc k_u_91 _))
          have k_l_92 : w92.heap[w8.heap.size]? = some (.cells #[.int .i64 (E0.1), .int .i64 (E0.2.1), .int .i64 (E0.2.2.1), .int .i64 (E0.2.2.2), .int .i64 (E1.1), .int .i64 (E1.2.1), .int .i64 (E1.2.2.1), .int .i64 (E1.2.2.2), .int .i64 (E2.1), .int .i64 (E2.2.1), .int .i64 (E2.2.2.1), .int .i64 (E2.2.2.2)] 32 (0, 0)) := blk_below (blk_alloc k_l_91 _) hb92 (blk_lt (blk_alloc k_l_91 _))
          have k_g_92 : w92.heap[w91.heap.size]? = some (.cells #[.int .i64 (I0.1), .int .i64 (I0.2.1), .int .i64 (I0.2.2)] 23 (0, 0)) := blk_below (new_blk (.cells #[.int .i64 (I0.1), .int .i64 (I0.2.1), .int .i64 (I0.2.2)] 23) (by first | rfl | (simp; done) | (simp; omega))) hb92 (by first | (simp; done) | (simp; omega))
          have hw_92 : Below w0.heap.size w0 w92 := stay_b (ba hw_91 _) hb92
          have hs_92 := (hs_91.alloc _).below hb92
          clear c_b_0 c_b_1 c_b_2 f_b s_b c_n_0 c_n_1 c_n_2 f_n s_n c_t_0 c_t_1 c_t_2 f_t s_t c_m_0 c_m_1 c_m_2 c_m_3 c_m_4 c_m_5 f_m s_m c_u_0 c_u_1 c_u_2 f_u s_u c_l_0 c_l_1 c_l_2 c_l_3 c_l_4 c_l_5 c_l_6 c_l_7 c_l_8 c_l_9 c_l_10 c_l_11 f_l s_l k_b_91 k_n_91 k_t_91 k_m_91 k_u_91 k_l_91 hb92 hw_91
          have c_b_0 := cell_of_blk k_b_92 0
          have c_b_1 := cell_of_blk k_b_92 1
          have c_b_2 := cell_of_blk k_b_92 2
          simp only [List.getElem?_toArray, List.getElem?_cons_zero, List.getElem?_cons_succ] at c_b_0 c_b_1 c_b_2
          have f_b := frozen_of_blk k_b_92
          have s_b := blk_lt k_b_92
          have c_n_0 := cell_of_blk k_n_92 0
          have c_n_1 := cell_of_blk k_n_92 1
          have c_n_2 := cell_of_blk k_n_92 2
          simp only [List.getElem?_toArray, List.getElem?_cons_zero, List.getElem?_cons_succ] at c_n_0 c_n_1 c_n_2
          have f_n := frozen_of_blk k_n_92
          have s_n := blk_lt k_n_92
          have c_t_0 := cell_of_blk k_t_92 0
          have c_t_1 := cell_of_blk k_t_92 1
          have c_t_2 := cell_of_blk k_t_92 2
          simp only [List.getElem?_toArray, List.getElem?_cons_zero, List.getElem?_cons_succ] at c_t_0 c_t_1 c_t_2
          have f_t := frozen_of_blk k_t_92
          have s_t := blk_lt k_t_92
          have c_m_0 := cell_of_blk k_m_92 0
          have c_m_1 := cell_of_blk k_m_92 1
          have c_m_2 := cell_of_blk k_m_92 2
          have c_m_3 := cell_of_blk k_m_92 3
          have c_m_4 := cell_of_blk k_m_92 4
          have c_m_5 := cell_of_blk k_m_92 5
          simp only [List.getElem?_toArray, List.getElem?_cons_zero, List.getElem?_cons_succ] at c_m_0 c_m_1 c_m_2 c_m_3 c_m_4 c_m_5
          have f_m := frozen_of_blk k_m_92
          have s_m := blk_lt k_m_92
          have c_u_0 := cell_of_blk k_u_92 0
          have c_u_1 := cell_of_blk k_u_92 1
          have c_u_2 := cell_of_blk k_u_92 2
          simp only [List.getElem?_toArray, List.getElem?_cons_zero, List.getElem?_cons_succ] at c_u_0 c_u_1 c_u_2
          have f_u := frozen_of_blk k_u_92
          have s_u := blk_lt k_u_92
          have c_l_0 := cell_of_blk k_l_92 0
          have c_l_1 := cell_of_blk k_l_92 1
          have c_l_2 := cell_of_blk k_l_92 2
          have c_l_3 := cell_of_blk k_l_92 3
          have c_l_4 := cell_of_blk k_l_92 4
          have c_l_5 := cell_of_blk k_l_92 5
          have c_l_6 := cell_of_blk k_l_92 6
          have c_l_7 := cell_of_blk k_l_92 7
          have c_l_8 := cell_of_blk k_l_92 8
          have c_l_9 := cell_of_blk k_l_92 9
          have c_l_10 := cell_of_blk k_l_92 10
          have c_l_11 := cell_of_blk k_l_92 11
          simp only [List.getElem?_toArray, List.getElem?_cons_zero, List.getElem?_cons_succ] at c_l_0 c_l_1 c_l_2 c_l_3 c_l_4 c_l_5 c_l_6 c_l_7 c_l_8 c_l_9 c_l_10 c_l_11
          have f_l := frozen_of_blk k_l_92
          have s_l := blk_lt k_l_92
          have c_g_0 := cell_of_blk k_g_92 0
          have c_g_1 := cell_of_blk k_g_92 1
          have c_g_2 := cell_of_blk k_g_92 2
          simp only [List.getElem?_toArray, List.getElem?_cons_zero, List.getElem?_cons_succ] at c_g_0 c_g_1 c_g_2
          have f_g := frozen_of_blk k_g_92
          have s_g := blk_lt k_g_92
          go_wp2
          go_roundw
          case rel => exact ⟨1, by omega, rfl, hw_92⟩
          case measure => simp [intOf]
    · have r2 := D51.out
      go_wp2_with fail
      have jt : wr.drew.heap[w2.heap.size]? = some (.cells #[.int .i64 tx, .int .i64 ty, .int .i64 tk] 23 (0, 0)) := k_t_50
      have jm : wr.drew.heap[w3.heap.size]? = some (.cells #[.int .i64 (M.1), .int .i64 (M.2.1), .int .i64 (M.2.2.1), .int .i64 (M.2.2.2.1), .int .i64 (M.2.2.2.2.1), .int .i64 (M.2.2.2.2.2)] 51 (0, 0)) := k_m_50
      have ju : wr.drew.heap[w4.heap.size]? = some (.cells #[.int .i64 (U.1), .int .i64 (U.2.1), .int .i64 (U.2.2)] 23 (0, 0)) := k_u_50
      have jl : wr.drew.heap[w8.heap.size]? = some (.cells #[.int .i64 (E0.1), .int .i64 (E0.2.1), .int .i64 (E0.2.2.1), .int .i64 (E0.2.2.2), .int .i64 (E1.1), .int .i64 (E1.2.1), .int .i64 (E1.2.2.1), .int .i64 (E1.2.2.2), .int .i64 (E2.1), .int .i64 (E2.2.1), .int .i64 (E2.2.2.1), .int .i64 (E2.2.2.2)] 32 (0, 0)) := k_l_50
      have dt0 := cell_of_blk jt 0
      have dt1 := cell_of_blk jt 1
      have dt2 := cell_of_blk jt 2
      have dl0 := cell_of_blk jl 0
      have dl1 := cell_of_blk jl 1
      have dl2 := cell_of_blk jl 2
      have dl3 := cell_of_blk jl 3
      have dl4 := cell_of_blk jl 4
      have dl5 := cell_of_blk jl 5
      have dl6 := cell_of_blk jl 6
      have dl7 := cell_of_blk jl 7
      have dl8 := cell_of_blk jl 8
      have dl9 := cell_of_blk jl 9
      have dl10 := cell_of_blk jl 10
      have dl11 := cell_of_blk jl 11
      simp only [List.getElem?_toArray, List.getElem?_cons_zero, List.getElem?_cons_succ] at dt0 dt1 dt2 dl0 dl1 dl2 dl3 dl4 dl5 dl6 dl7 dl8 dl9 dl10 dl11
      have hbw : Below w0.heap.size w0 wr.drew := hw_50.drew
      have hlw : w0.heap.size ≤ wr.heap.size := hbw.size
      have hsd : Steps wr.drew := hs_50.below (Below.refl _ _).drew
      have n_t : wr.heap.size ≠ w2.heap.size := by have := blk_lt k_t_50; omega
      have n_m : wr.heap.size ≠ w3.heap.size := by have := blk_lt k_m_50; omega
      have n_u : wr.heap.size ≠ w4.heap.size := by have := blk_lt k_u_50; omega
      have n_l : wr.heap.size ≠ w8.heap.size := by have := blk_lt k_l_50; omega
      have n_0 : wr.heap.size ≠ 0 := by have := hs_50.lt; omega
      have hS0 := And.intro dt0 (And.intro dt1 (And.intro dt2 (And.intro dl0 (And.intro dl1 (And.intro dl2 (And.intro dl3 (And.intro dl4 (And.intro dl5 (And.intro dl6 (And.intro dl7 (And.intro dl8 (And.intro dl9 (And.intro dl10 (And.intro dl11 (And.intro hbw hsd)))))))))))))))
      clear dt0 dt1 dt2 dl0 dl1 dl2 dl3 dl4 dl5 dl6 dl7 dl8 dl9 dl10 dl11
      go_region_held3 (fun w' => w'.cell? ⟨w2.heap.size, 0, none⟩ = some (.int .i64 tx) ∧ w'.cell? ⟨w2.heap.size, 1, none⟩ = some (.int .i64 ty) ∧ w'.cell? ⟨w2.heap.size, 2, none⟩ = some (.int .i64 tk) ∧ w'.cell? ⟨w8.heap.size, 0, none⟩ = some (.int .i64 E0.1) ∧ w'.cell? ⟨w8.heap.size, 1, none⟩ = some (.int .i64 E0.2.1) ∧ w'.cell? ⟨w8.heap.size, 2, none⟩ = some (.int .i64 E0.2.2.1) ∧ w'.cell? ⟨w8.heap.size, 3, none⟩ = some (.int .i64 E0.2.2.2) ∧ w'.cell? ⟨w8.heap.size, 4, none⟩ = some (.int .i64 E1.1) ∧ w'.cell? ⟨w8.heap.size, 5, none⟩ = some (.int .i64 E1.2.1) ∧ w'.cell? ⟨w8.heap.size, 6, none⟩ = some (.int .i64 E1.2.2.1) ∧ w'.cell? ⟨w8.heap.size, 7, none⟩ = some (.int .i64 E1.2.2.2) ∧ w'.cell? ⟨w8.heap.size, 8, none⟩ = some (.int .i64 E2.1) ∧ w'.cell? ⟨w8.heap.size, 9, none⟩ = some (.int .i64 E2.2.1) ∧ w'.cell? ⟨w8.heap.size, 10, none⟩ = some (.int .i64 E2.2.2.1) ∧ w'.cell? ⟨w8.heap.size, 11, none⟩ = some (.int .i64 E2.2.2.2) ∧ Below w0.heap.size w0 w' ∧ Steps w')
        (first
          | with_reducible exact hS0
          | (go_split_ands; with_reducible exact ⟨al_c ‹_› _, al_c ‹_› _, al_c ‹_› _, al_c ‹_› _, al_c ‹_› _, al_c ‹_› _, al_c ‹_› _, al_c ‹_› _, al_c ‹_› _, al_c ‹_› _, al_c ‹_› _, al_c ‹_› _, al_c ‹_› _, al_c ‹_› _, al_c ‹_› _, ba ‹_› _, Steps.alloc ‹_› _⟩)
          | (go_split_ands; with_reducible exact ⟨al_d ‹_› _, al_d ‹_› _, al_d ‹_› _, al_d ‹_› _, al_d ‹_› _, al_d ‹_› _, al_d ‹_› _, al_d ‹_› _, al_d ‹_› _, al_d ‹_› _, al_d ‹_› _, al_d ‹_› _, al_d ‹_› _, al_d ‹_› _, al_d ‹_› _, bd ‹_› hlw _, stepd ‹_› _⟩)
          | (go_split_ands; with_reducible exact ⟨re_c ‹_› gt, re_c ‹_› gt, re_c ‹_› gt, re_c ‹_› gl, re_c ‹_› gl, re_c ‹_› gl, re_c ‹_› gl, re_c ‹_› gl, re_c ‹_› gl, re_c ‹_› gl, re_c ‹_› gl, re_c ‹_› gl, re_c ‹_› gl, re_c ‹_› gl, re_c ‹_› gl, ba hbw _, Steps.alloc hsq _⟩)
          | (go_split_ands; with_reducible exact ⟨far3 ‹_› n_t _ _ _, far3 ‹_› n_t _ _ _, far3 ‹_› n_t _ _ _, far3 ‹_› n_l _ _ _, far3 ‹_› n_l _ _ _, far3 ‹_› n_l _ _ _, far3 ‹_› n_l _ _ _, far3 ‹_› n_l _ _ _, far3 ‹_› n_l _ _ _, far3 ‹_› n_l _ _ _, far3 ‹_› n_l _ _ _, far3 ‹_› n_l _ _ _, far3 ‹_› n_l _ _ _, far3 ‹_› n_l _ _ _, far3 ‹_› n_l _ _ _, set3_below ‹_› _ hlw _ _ _, Steps.set3' ‹_› n_0 _ _ _⟩)
          | (go_split_ands; with_reducible exact ⟨stay_c ‹_› hbc (Nat.le_refl _), stay_c ‹_› hbc (Nat.le_refl _), stay_c ‹_› hbc (Nat.le_refl _), stay_c ‹_› hbc (Nat.le_refl _), stay_c ‹_› hbc (Nat.le_refl _), stay_c ‹_› hbc (Nat.le_refl _), stay_c ‹_› hbc (Nat.le_refl _), stay_c ‹_› hbc (Nat.le_refl _), stay_c ‹_› hbc (Nat.le_refl _), stay_c ‹_› hbc (Nat.le_refl _), stay_c ‹_› hbc (Nat.le_refl _), stay_c ‹_› hbc (Nat.le_refl _), stay_c ‹_› hbc (Nat.le_refl _), stay_c ‹_› hbc (Nat.le_refl _), stay_c ‹_› hbc (Nat.le_refl _), stay_b ‹_› hbc, Steps.below ‹_› hbc⟩))
        (((with_reducible refine (D11.out _ (by first | exact hsd | exact stepd hsd _)).mono ?_); rintro e' wc ⟨he, hbc⟩; subst he; have hsq := Steps.below (by first | exact hsd | exact stepd hsd _) hbc; (first | (have jt := blk_below jt hbc (blk_lt jt)) | (have jt := blk_below (blk_ad jt _) hbc (blk_lt (blk_ad jt _)))); have gt := blk_lt jt; (first | (have jm := blk_below jm hbc (blk_lt jm)) | (have jm := blk_below (blk_ad jm _) hbc (blk_lt (blk_ad jm _)))); have gm := blk_lt jm; (first | (have ju := blk_below ju hbc (blk_lt ju)) | (have ju := blk_below (blk_ad ju _) hbc (blk_lt (blk_ad ju _)))); have gu := blk_lt ju; (first | (have jl := blk_below jl hbc (blk_lt jl)) | (have jl := blk_below (blk_ad jl _) hbc (blk_lt (blk_ad jl _)))); have gl := blk_lt jl; (first | (have hbw := stay_b hbw hbc) | (have hbw := stay_b (bd hbw hlw _) hbc)); (first | (have qn := blk_below (new_d _ _) hbc (by simp); (try simp only [World.size_alloc] at qn); have z0 := cell_of_blk qn 0; have z1 := cell_of_blk qn 1; have z2 := cell_of_blk qn 2; simp only [List.getElem?_toArray, List.getElem?_cons_zero, List.getElem?_cons_succ] at z0 z1 z2; have zf := frozen_of_blk qn; have zl := blk_lt qn) | skip)))
      all_goals (rename_i hH; clear hH)
      all_goals first
        | (have k_n_70 := set3_blk qn (.int .i64 V1.1) (.int .i64 V1.2.1) (.int .i64 V1.2.2); have k_t_70 := farb3 jt n_t.symm (.int .i64 V1.1) (.int .i64 V1.2.1) (.int .i64 V1.2.2); have k_m_70 := farb3 jm n_m.symm (.int .i64 V1.1) (.int .i64 V1.2.1) (.int .i64 V1.2.2); have k_u_70 := farb3 ju n_u.symm (.int .i64 V1.1) (.int .i64 V1.2.1) (.int .i64 V1.2.2); have k_l_70 := farb3 jl n_l.symm (.int .i64 V1.1) (.int .i64 V1.2.1) (.int .i64 V1.2.2); have hs_70 := Steps.set3' hsq n_0 (.int .i64 V1.1) (.int .i64 V1.2.1) (.int .i64 V1.2.2); have hw_70 := set3_below hbw _ hlw (.int .i64 V1.1) (.int .i64 V1.2.1) (.int .i64 V1.2.2); generalize (((wc.setCell ⟨wr.heap.size, 0, none⟩ (.int .i64 V1.1)).setCell ⟨wr.heap.size, 1, none⟩ (.int .i64 V1.2.1)).setCell ⟨wr.heap.size, 2, none⟩ (.int .i64 V1.2.2)) = x70 at k_n_70 k_t_70 k_m_70 k_u_70 k_l_70 hs_70 hw_70 ⊢; generalize wr.heap.size = g70 at k_n_70 ⊢)
        | (have k_n_70 := heap_alloc_new wc (.cells #[.int .i64 (V1.1), .int .i64 (V1.2.1), .int .i64 (V1.2.2)] 23); have k_t_70 := blk_alloc jt (.cells #[.int .i64 (V1.1), .int .i64 (V1.2.1), .int .i64 (V1.2.2)] 23); have k_m_70 := blk_alloc jm (.cells #[.int .i64 (V1.1), .int .i64 (V1.2.1), .int .i64 (V1.2.2)] 23); have k_u_70 := blk_alloc ju (.cells #[.int .i64 (V1.1), .int .i64 (V1.2.1), .int .i64 (V1.2.2)] 23); have k_l_70 := blk_alloc jl (.cells #[.int .i64 (V1.1), .int .i64 (V1.2.1), .int .i64 (V1.2.2)] 23); have hs_70 := Steps.alloc hsq (.cells #[.int .i64 (V1.1), .int .i64 (V1.2.1), .int .i64 (V1.2.2)] 23); have hw_70 := ba hbw (.cells #[.int .i64 (V1.1), .int .i64 (V1.2.1), .int .i64 (V1.2.2)] 23); generalize (wc.alloc (.cells #[.int .i64 (V1.1), .int .i64 (V1.2.1), .int .i64 (V1.2.2)] 23)) = x70 at k_n_70 k_t_70 k_m_70 k_u_70 k_l_70 hs_70 hw_70 ⊢; generalize wc.heap.size = g70 at k_n_70 ⊢)
      all_goals
        clear hbw hsq hsd hS0 hlw
        (try clear qn z0 z1 z2 zf zl)
        go_wp2_with fail
        have jn : x70.drew.heap[g70]? = some (.cells #[.int .i64 (V1.1), .int .i64 (V1.2.1), .int .i64 (V1.2.2)] 23 (0, 0)) := k_n_70
        have jt : x70.drew.heap[w2.heap.size]? = some (.cells #[.int .i64 tx, .int .i64 ty, .int .i64 tk] 23 (0, 0)) := k_t_70
        have jm : x70.drew.heap[w3.heap.size]? = some (.cells #[.int .i64 (M.1), .int .i64 (M.2.1), .int .i64 (M.2.2.1), .int .i64 (M.2.2.2.1), .int .i64 (M.2.2.2.2.1), .int .i64 (M.2.2.2.2.2)] 51 (0, 0)) := k_m_70
        have ju : x70.drew.heap[w4.heap.size]? = some (.cells #[.int .i64 (U.1), .int .i64 (U.2.1), .int .i64 (U.2.2)] 23 (0, 0)) := k_u_70
        have jl : x70.drew.heap[w8.heap.size]? = some (.cells #[.int .i64 (E0.1), .int .i64 (E0.2.1), .int .i64 (E0.2.2.1), .int .i64 (E0.2.2.2), .int .i64 (E1.1), .int .i64 (E1.2.1), .int .i64 (E1.2.2.1), .int .i64 (E1.2.2.2), .int .i64 (E2.1), .int .i64 (E2.2.1), .int .i64 (E2.2.2.1), .int .i64 (E2.2.2.2)] 32 (0, 0)) := k_l_70
        have dn0 := cell_of_blk jn 0
        have dn1 := cell_of_blk jn 1
        have dn2 := cell_of_blk jn 2
        have dl0 := cell_of_blk jl 0
        have dl1 := cell_of_blk jl 1
        have dl2 := cell_of_blk jl 2
        have dl3 := cell_of_blk jl 3
        have dl4 := cell_of_blk jl 4
        have dl5 := cell_of_blk jl 5
        have dl6 := cell_of_blk jl 6
        have dl7 := cell_of_blk jl 7
        have dl8 := cell_of_blk jl 8
        have dl9 := cell_of_blk jl 9
        have dl10 := cell_of_blk jl 10
        have dl11 := cell_of_blk jl 11
        simp only [List.getElem?_toArray, List.getElem?_cons_zero, List.getElem?_cons_succ] at dn0 dn1 dn2 dl0 dl1 dl2 dl3 dl4 dl5 dl6 dl7 dl8 dl9 dl10 dl11
        have hbw : Below w0.heap.size w0 x70.drew := hw_70.drew
        have hlw : w0.heap.size ≤ x70.heap.size := hbw.size
        have hsd : Steps x70.drew := hs_70.below (Below.refl _ _).drew
        have n_n : x70.heap.size ≠ g70 := by have := blk_lt k_n_70; omega
        have n_t : x70.heap.size ≠ w2.heap.size := by have := blk_lt k_t_70; omega
        have n_m : x70.heap.size ≠ w3.heap.size := by have := blk_lt k_m_70; omega
        have n_u : x70.heap.size ≠ w4.heap.size := by have := blk_lt k_u_70; omega
        have n_l : x70.heap.size ≠ w8.heap.size := by have := blk_lt k_l_70; omega
        have n_0 : x70.heap.size ≠ 0 := by have := hs_70.lt; omega
        have hS0 := And.intro dn0 (And.intro dn1 (And.intro dn2 (And.intro dl0 (And.intro dl1 (And.intro dl2 (And.intro dl3 (And.intro dl4 (And.intro dl5 (And.intro dl6 (And.intro dl7 (And.intro dl8 (And.intro dl9 (And.intro dl10 (And.intro dl11 (And.intro hbw hsd)))))))))))))))
        clear dn0 dn1 dn2 dl0 dl1 dl2 dl3 dl4 dl5 dl6 dl7 dl8 dl9 dl10 dl11
        go_region_held3 (fun w' => w'.cell? ⟨g70, 0, none⟩ = some (.int .i64 V1.1) ∧ w'.cell? ⟨g70, 1, none⟩ = some (.int .i64 V1.2.1) ∧ w'.cell? ⟨g70, 2, none⟩ = some (.int .i64 V1.2.2) ∧ w'.cell? ⟨w8.heap.size, 0, none⟩ = some (.int .i64 E0.1) ∧ w'.cell? ⟨w8.heap.size, 1, none⟩ = some (.int .i64 E0.2.1) ∧ w'.cell? ⟨w8.heap.size, 2, none⟩ = some (.int .i64 E0.2.2.1) ∧ w'.cell? ⟨w8.heap.size, 3, none⟩ = some (.int .i64 E0.2.2.2) ∧ w'.cell? ⟨w8.heap.size, 4, none⟩ = some (.int .i64 E1.1) ∧ w'.cell? ⟨w8.heap.size, 5, none⟩ = some (.int .i64 E1.2.1) ∧ w'.cell? ⟨w8.heap.size, 6, none⟩ = some (.int .i64 E1.2.2.1) ∧ w'.cell? ⟨w8.heap.size, 7, none⟩ = some (.int .i64 E1.2.2.2) ∧ w'.cell? ⟨w8.heap.size, 8, none⟩ = some (.int .i64 E2.1) ∧ w'.cell? ⟨w8.heap.size, 9, none⟩ = some (.int .i64 E2.2.1) ∧ w'.cell? ⟨w8.heap.size, 10, none⟩ = some (.int .i64 E2.2.2.1) ∧ w'.cell? ⟨w8.heap.size, 11, none⟩ = some (.int .i64 E2.2.2.2) ∧ Below w0.heap.size w0 w' ∧ Steps w')
          (first
            | with_reducible exact hS0
            | (go_split_ands; with_reducible exact ⟨al_c ‹_› _, al_c ‹_› _, al_c ‹_› _, al_c ‹_› _, al_c ‹_› _, al_c ‹_› _, al_c ‹_› _, al_c ‹_› _, al_c ‹_› _, al_c ‹_› _, al_c ‹_› _, al_c ‹_› _, al_c ‹_› _, al_c ‹_› _, al_c ‹_› _, ba ‹_› _, Steps.alloc ‹_› _⟩)
            | (go_split_ands; with_reducible exact ⟨al_d ‹_› _, al_d ‹_› _, al_d ‹_› _, al_d ‹_› _, al_d ‹_› _, al_d ‹_› _, al_d ‹_› _, al_d ‹_› _, al_d ‹_› _, al_d ‹_› _, al_d ‹_› _, al_d ‹_› _, al_d ‹_› _, al_d ‹_› _, al_d ‹_› _, bd ‹_› hlw _, stepd ‹_› _⟩)
            | (go_split_ands; with_reducible exact ⟨re_c ‹_› gn, re_c ‹_› gn, re_c ‹_› gn, re_c ‹_› gl, re_c ‹_› gl, re_c ‹_› gl, re_c ‹_› gl, re_c ‹_› gl, re_c ‹_› gl, re_c ‹_› gl, re_c ‹_› gl, re_c ‹_› gl, re_c ‹_› gl, re_c ‹_› gl, re_c ‹_› gl, ba hbw _, Steps.alloc hsq _⟩)
            | (go_split_ands; with_reducible exact ⟨far3 ‹_› n_n _ _ _, far3 ‹_› n_n _ _ _, far3 ‹_› n_n _ _ _, far3 ‹_› n_l _ _ _, far3 ‹_› n_l _ _ _, far3 ‹_› n_l _ _ _, far3 ‹_› n_l _ _ _, far3 ‹_› n_l _ _ _, far3 ‹_› n_l _ _ _, far3 ‹_› n_l _ _ _, far3 ‹_› n_l _ _ _, far3 ‹_› n_l _ _ _, far3 ‹_› n_l _ _ _, far3 ‹_› n_l _ _ _, far3 ‹_› n_l _ _ _, set3_below ‹_› _ hlw _ _ _, Steps.set3' ‹_› n_0 _ _ _⟩)
            | (go_split_ands; with_reducible exact ⟨stay_c ‹_› hbc (Nat.le_refl _), stay_c ‹_› hbc (Nat.le_refl _), stay_c ‹_› hbc (Nat.le_refl _), stay_c ‹_› hbc (Nat.le_refl _), stay_c ‹_› hbc (Nat.le_refl _), stay_c ‹_› hbc (Nat.le_refl _), stay_c ‹_› hbc (Nat.le_refl _), stay_c ‹_› hbc (Nat.le_refl _), stay_c ‹_› hbc (Nat.le_refl _), stay_c ‹_› hbc (Nat.le_refl _), stay_c ‹_› hbc (Nat.le_refl _), stay_c ‹_› hbc (Nat.le_refl _), stay_c ‹_› hbc (Nat.le_refl _), stay_c ‹_› hbc (Nat.le_refl _), stay_c ‹_› hbc (Nat.le_refl _), stay_b ‹_› hbc, Steps.below ‹_› hbc⟩))
          (((with_reducible refine (D21.out _ (by first | exact hsd | exact stepd hsd _)).mono ?_); rintro e' wc ⟨he, hbc⟩; subst he; have hsq := Steps.below (by first | exact hsd | exact stepd hsd _) hbc; (first | (have jn := blk_below jn hbc (blk_lt jn)) | (have jn := blk_below (blk_ad jn _) hbc (blk_lt (blk_ad jn _)))); have gn := blk_lt jn; (first | (have jt := blk_below jt hbc (blk_lt jt)) | (have jt := blk_below (blk_ad jt _) hbc (blk_lt (blk_ad jt _)))); have gt := blk_lt jt; (first | (have jm := blk_below jm hbc (blk_lt jm)) | (have jm := blk_below (blk_ad jm _) hbc (blk_lt (blk_ad jm _)))); have gm := blk_lt jm; (first | (have ju := blk_below ju hbc (blk_lt ju)) | (have ju := blk_below (blk_ad ju _) hbc (blk_lt (blk_ad ju _)))); have gu := blk_lt ju; (first | (have jl := blk_below jl hbc (blk_lt jl)) | (have jl := blk_below (blk_ad jl _) hbc (blk_lt (blk_ad jl _)))); have gl := blk_lt jl; (first | (have hbw := stay_b hbw hbc) | (have hbw := stay_b (bd hbw hlw _) hbc)); (first | (have qn := blk_below (new_d _ _) hbc (by simp); (try simp only [World.size_alloc] at qn); have z0 := cell_of_blk qn 0; have z1 := cell_of_blk qn 1; have z2 := cell_of_blk qn 2; simp only [List.getElem?_toArray, List.getElem?_cons_zero, List.getElem?_cons_succ] at z0 z1 z2; have zf := frozen_of_blk qn; have zl := blk_lt qn) | skip)))
        all_goals (rename_i hH; clear hH)
        all_goals first
          | (have k_b_90 := set3_blk qn (.int .i64 tx) (.int .i64 ty) (.int .i64 tk); have k_n_90 := farb3 jn n_n.symm (.int .i64 tx) (.int .i64 ty) (.int .i64 tk); have k_t_90 := farb3 jt n_t.symm (.int .i64 tx) (.int .i64 ty) (.int .i64 tk); have k_m_90 := farb3 jm n_m.symm (.int .i64 tx) (.int .i64 ty) (.int .i64 tk); have k_u_90 := farb3 ju n_u.symm (.int .i64 tx) (.int .i64 ty) (.int .i64 tk); have k_l_90 := farb3 jl n_l.symm (.int .i64 tx) (.int .i64 ty) (.int .i64 tk); have hs_90 := Steps.set3' hsq n_0 (.int .i64 tx) (.int .i64 ty) (.int .i64 tk); have hw_90 := set3_below hbw _ hlw (.int .i64 tx) (.int .i64 ty) (.int .i64 tk); generalize (((wc.setCell ⟨x70.heap.size, 0, none⟩ (.int .i64 tx)).setCell ⟨x70.heap.size, 1, none⟩ (.int .i64 ty)).setCell ⟨x70.heap.size, 2, none⟩ (.int .i64 tk)) = x90 at k_b_90 k_n_90 k_t_90 k_m_90 k_u_90 k_l_90 hs_90 hw_90 ⊢; generalize x70.heap.size = g90 at k_b_90 ⊢)
          | (have k_b_90 := heap_alloc_new wc (.cells #[.int .i64 tx, .int .i64 ty, .int .i64 tk] 23); have k_n_90 := blk_alloc jn (.cells #[.int .i64 tx, .int .i64 ty, .int .i64 tk] 23); have k_t_90 := blk_alloc jt (.cells #[.int .i64 tx, .int .i64 ty, .int .i64 tk] 23); have k_m_90 := blk_alloc jm (.cells #[.int .i64 tx, .int .i64 ty, .int .i64 tk] 23); have k_u_90 := blk_alloc ju (.cells #[.int .i64 tx, .int .i64 ty, .int .i64 tk] 23); have k_l_90 := blk_alloc jl (.cells #[.int .i64 tx, .int .i64 ty, .int .i64 tk] 23); have hs_90 := Steps.alloc hsq (.cells #[.int .i64 tx, .int .i64 ty, .int .i64 tk] 23); have hw_90 := ba hbw (.cells #[.int .i64 tx, .int .i64 ty, .int .i64 tk] 23); generalize (wc.alloc (.cells #[.int .i64 tx, .int .i64 ty, .int .i64 tk] 23)) = x90 at k_b_90 k_n_90 k_t_90 k_m_90 k_u_90 k_l_90 hs_90 hw_90 ⊢; generalize wc.heap.size = g90 at k_b_90 ⊢)
        all_goals
          clear hbw hsq hsd hS0 hlw
          (try clear qn z0 z1 z2 zf zl)
          have c_n_0 := cell_of_blk k_n_90 0
          have c_n_1 := cell_of_blk k_n_90 1
          have c_n_2 := cell_of_blk k_n_90 2
          simp only [List.getElem?_toArray, List.getElem?_cons_zero, List.getElem?_cons_succ] at c_n_0 c_n_1 c_n_2
          have f_n := frozen_of_blk k_n_90
          have s_n := blk_lt k_n_90
          have c_m_0 := cell_of_blk k_m_90 0
          have c_m_1 := cell_of_blk k_m_90 1
          have c_m_2 := cell_of_blk k_m_90 2
          have c_m_3 := cell_of_blk k_m_90 3
          have c_m_4 := cell_of_blk k_m_90 4
          have c_m_5 := cell_of_blk k_m_90 5
          simp only [List.getElem?_toArray, List.getElem?_cons_zero, List.getElem?_cons_succ] at c_m_0 c_m_1 c_m_2 c_m_3 c_m_4 c_m_5
          have f_m := frozen_of_blk k_m_90
          have s_m := blk_lt k_m_90
          go_wp2_with fail
          refine (D31.out _ hs_90).mono ?_
          rintro e w91 ⟨rfl, hb91⟩
          have k_b_91 : w91.heap[g90]? = some (.cells #[.int .i64 tx, .int .i64 ty, .int .i64 tk] 23 (0, 0)) := blk_below k_b_90 hb91 (blk_lt k_b_90)
          have k_n_91 : w91.heap[g70]? = some (.cells #[.int .i64 (V1.1), .int .i64 (V1.2.1), .int .i64 (V1.2.2)] 23 (0, 0)) := blk_below k_n_90 hb91 (blk_lt k_n_90)
          have k_t_91 : w91.heap[w2.heap.size]? = some (.cells #[.int .i64 tx, .int .i64 ty, .int .i64 tk] 23 (0, 0)) := blk_below k_t_90 hb91 (blk_lt k_t_90)
          have k_m_91 : w91.heap[w3.heap.size]? = some (.cells #[.int .i64 (M.1), .int .i64 (M.2.1), .int .i64 (M.2.2.1), .int .i64 (M.2.2.2.1), .int .i64 (M.2.2.2.2.1), .int .i64 (M.2.2.2.2.2)] 51 (0, 0)) := blk_below k_m_90 hb91 (blk_lt k_m_90)
          have k_u_91 : w91.heap[w4.heap.size]? = some (.cells #[.int .i64 (U.1), .int .i64 (U.2.1), .int .i64 (U.2.2)] 23 (0, 0)) := blk_below k_u_90 hb91 (blk_lt k_u_90)
          have k_l_91 : w91.heap[w8.heap.size]? = some (.cells #[.int .i64 (E0.1), .int .i64 (E0.2.1), .int .i64 (E0.2.2.1), .int .i64 (E0.2.2.2), .int .i64 (E1.1), .int .i64 (E1.2.1), .int .i64 (E1.2.2.1), .int .i64 (E1.2.2.2), .int .i64 (E2.1), .int .i64 (E2.2.1), .int .i64 (E2.2.2.1), .int .i64 (E2.2.2.2)] 32 (0, 0)) := blk_below k_l_90 hb91 (blk_lt k_l_90)
          have hw_91 : Below w0.heap.size w0 w91 := stay_b hw_90 hb91
          have hs_91 := hs_90.below hb91
          clear c_n_0 c_n_1 c_n_2 f_n s_n c_m_0 c_m_1 c_m_2 c_m_3 c_m_4 c_m_5 f_m s_m k_b_90 k_n_90 k_t_90 k_m_90 k_u_90 k_l_90 hb91 hw_90
          have c_b_0 := cell_of_blk k_b_91 0
          have c_b_1 := cell_of_blk k_b_91 1
          have c_b_2 := cell_of_blk k_b_91 2
          simp only [List.getElem?_toArray, List.getElem?_cons_zero, List.getElem?_cons_succ] at c_b_0 c_b_1 c_b_2
          have f_b := frozen_of_blk k_b_91
          have s_b := blk_lt k_b_91
          have c_n_0 := cell_of_blk k_n_91 0
          have c_n_1 := cell_of_blk k_n_91 1
          have c_n_2 := cell_of_blk k_n_91 2
          simp only [List.getElem?_toArray, List.getElem?_cons_zero, List.getElem?_cons_succ] at c_n_0 c_n_1 c_n_2
          have f_n := frozen_of_blk k_n_91
          have s_n := blk_lt k_n_91
          have c_t_0 := cell_of_blk k_t_91 0
          have c_t_1 := cell_of_blk k_t_91 1
          have c_t_2 := cell_of_blk k_t_91 2
          simp only [List.getElem?_toArray, List.getElem?_cons_zero, List.getElem?_cons_succ] at c_t_0 c_t_1 c_t_2
          have f_t := frozen_of_blk k_t_91
          have s_t := blk_lt k_t_91
          have c_m_0 := cell_of_blk k_m_91 0
          have c_m_1 := cell_of_blk k_m_91 1
          have c_m_2 := cell_of_blk k_m_91 2
          have c_m_3 := cell_of_blk k_m_91 3
          have c_m_4 := cell_of_blk k_m_91 4
          have c_m_5 := cell_of_blk k_m_91 5
          simp only [List.getElem?_toArray, List.getElem?_cons_zero, List.getElem?_cons_succ] at c_m_0 c_m_1 c_m_2 c_m_3 c_m_4 c_m_5
          have f_m := frozen_of_blk k_m_91
          have s_m := blk_lt k_m_91
          have c_u_0 := cell_of_blk k_u_91 0
          have c_u_1 := cell_of_blk k_u_91 1
          have c_u_2 := cell_of_blk k_u_91 2
          simp only [List.getElem?_toArray, List.getElem?_cons_zero, List.getElem?_cons_succ] at c_u_0 c_u_1 c_u_2
          have f_u := frozen_of_blk k_u_91
          have s_u := blk_lt k_u_91
          have c_l_0 := cell_of_blk k_l_91 0
          have c_l_1 := cell_of_blk k_l_91 1
          have c_l_2 := cell_of_blk k_l_91 2
          have c_l_3 := cell_of_blk k_l_91 3
          have c_l_4 := cell_of_blk k_l_91 4
          have c_l_5 := cell_of_blk k_l_91 5
          have c_l_6 := cell_of_blk k_l_91 6
          have c_l_7 := cell_of_blk k_l_91 7
          have c_l_8 := cell_of_blk k_l_91 8
          have c_l_9 := cell_of_blk k_l_91 9
          have c_l_10 := cell_of_blk k_l_91 10
          have c_l_11 := cell_of_blk k_l_91 11
          simp only [List.getElem?_toArray, List.getElem?_cons_zero, List.getElem?_cons_succ] at c_l_0 c_l_1 c_l_2 c_l_3 c_l_4 c_l_5 c_l_6 c_l_7 c_l_8 c_l_9 c_l_10 c_l_11
          have f_l := frozen_of_blk k_l_91
          have s_l := blk_lt k_l_91
          go_wp2_with fail
          refine (D41.out _ (hs_91.alloc _)).mono ?_
          rintro e w92 ⟨rfl, hb92⟩
          have k_b_92 : w92.heap[g90]? = some (.cells #[.int .i64 tx, .int .i64 ty, .int .i64 tk] 23 (0, 0)) := blk_below (blk_alloc k_b_91 _) hb92 (blk_lt (blk_alloc k_b_91 _))
          have k_n_92 : w92.heap[g70]? = some (.cells #[.int .i64 (V1.1), .int .i64 (V1.2.1), .int .i64 (V1.2.2)] 23 (0, 0)) := blk_below (blk_alloc k_n_91 _) hb92 (blk_lt (blk_alloc k_n_91 _))
          have k_t_92 : w92.heap[w2.heap.size]? = some (.cells #[.int .i64 tx, .int .i64 ty, .int .i64 tk] 23 (0, 0)) := blk_below (blk_alloc k_t_91 _) hb92 (blk_lt (blk_alloc k_t_91 _))
          have k_m_92 : w92.heap[w3.heap.size]? = some (.cells #[.int .i64 (M.1), .int .i64 (M.2.1), .int .i64 (M.2.2.1), .int .i64 (M.2.2.2.1), .int .i64 (M.2.2.2.2.1), .int .i64 (M.2.2.2.2.2)] 51 (0, 0)) := blk_below (blk_alloc k_m_91 _) hb92 (blk_lt (blk_alloc k_m_91 _))
          have k_u_92 : w92.heap[w4.heap.size]? = some (.cells #[.int .i64 (U.1), .int .i64 (U.2.1), .int .i64 (U.2.2)] 23 (0, 0)) := blk_below (blk_alloc k_u_91 _) hb92 (blk_lt (blk_alloc k_u_91 _))
          have k_l_92 : w92.heap[w8.heap.size]? = some (.cells #[.int .i64 (E0.1), .int .i64 (E0.2.1), .int .i64 (E0.2.2.1), .int .i64 (E0.2.2.2), .int .i64 (E1.1), .int .i64 (E1.2.1), .int .i64 (E1.2.2.1), .int .i64 (E1.2.2.2), .int .i64 (E2.1), .int .i64 (E2.2.1), .int .i64 (E2.2.2.1), .int .i64 (E2.2.2.2)] 32 (0, 0)) := blk_below (blk_alloc k_l_91 _) hb92 (blk_lt (blk_alloc k_l_91 _))
          have k_g_92 : w92.heap[w91.heap.size]? = some (.cells #[.int .i64 (I1.1), .int .i64 (I1.2.1), .int .i64 (I1.2.2)] 23 (0, 0)) := blk_below (new_blk (.cells #[.int .i64 (I1.1), .int .i64 (I1.2.1), .int .i64 (I1.2.2)] 23) (by first | rfl | (simp; done) | (simp; omega))) hb92 (by first | (simp; done) | (simp; omega))
          have hw_92 : Below w0.heap.size w0 w92 := stay_b (ba hw_91 _) hb92
          have hs_92 := (hs_91.alloc _).below hb92
          clear c_b_0 c_b_1 c_b_2 f_b s_b c_n_0 c_n_1 c_n_2 f_n s_n c_t_0 c_t_1 c_t_2 f_t s_t c_m_0 c_m_1 c_m_2 c_m_3 c_m_4 c_m_5 f_m s_m c_u_0 c_u_1 c_u_2 f_u s_u c_l_0 c_l_1 c_l_2 c_l_3 c_l_4 c_l_5 c_l_6 c_l_7 c_l_8 c_l_9 c_l_10 c_l_11 f_l s_l k_b_91 k_n_91 k_t_91 k_m_91 k_u_91 k_l_91 hb92 hw_91
          have c_b_0 := cell_of_blk k_b_92 0
          have c_b_1 := cell_of_blk k_b_92 1
          have c_b_2 := cell_of_blk k_b_92 2
          simp only [List.getElem?_toArray, List.getElem?_cons_zero, List.getElem?_cons_succ] at c_b_0 c_b_1 c_b_2
          have f_b := frozen_of_blk k_b_92
          have s_b := blk_lt k_b_92
          have c_n_0 := cell_of_blk k_n_92 0
          have c_n_1 := cell_of_blk k_n_92 1
          have c_n_2 := cell_of_blk k_n_92 2
          simp only [List.getElem?_toArray, List.getElem?_cons_zero, List.getElem?_cons_succ] at c_n_0 c_n_1 c_n_2
          have f_n := frozen_of_blk k_n_92
          have s_n := blk_lt k_n_92
          have c_t_0 := cell_of_blk k_t_92 0
          have c_t_1 := cell_of_blk k_t_92 1
          have c_t_2 := cell_of_blk k_t_92 2
          simp only [List.getElem?_toArray, List.getElem?_cons_zero, List.getElem?_cons_succ] at c_t_0 c_t_1 c_t_2
          have f_t := frozen_of_blk k_t_92
          have s_t := blk_lt k_t_92
          have c_m_0 := cell_of_blk k_m_92 0
          have c_m_1 := cell_of_blk k_m_92 1
          have c_m_2 := cell_of_blk k_m_92 2
          have c_m_3 := cell_of_blk k_m_92 3
          have c_m_4 := cell_of_blk k_m_92 4
          have c_m_5 := cell_of_blk k_m_92 5
          simp only [List.getElem?_toArray, List.getElem?_cons_zero, List.getElem?_cons_succ] at c_m_0 c_m_1 c_m_2 c_m_3 c_m_4 c_m_5
          have f_m := frozen_of_blk k_m_92
          have s_m := blk_lt k_m_92
          have c_u_0 := cell_of_blk k_u_92 0
          have c_u_1 := cell_of_blk k_u_92 1
          have c_u_2 := cell_of_blk k_u_92 2
          simp only [List.getElem?_toArray, List.getElem?_cons_zero, List.getElem?_cons_succ] at c_u_0 c_u_1 c_u_2
          have f_u := frozen_of_blk k_u_92
          have s_u := blk_lt k_u_92
          have c_l_0 := cell_of_blk k_l_92 0
          have c_l_1 := cell_of_blk k_l_92 1
          have c_l_2 := cell_of_blk k_l_92 2
          have c_l_3 := cell_of_blk k_l_92 3
          have c_l_4 := cell_of_blk k_l_92 4
          have c_l_5 := cell_of_blk k_l_92 5
          have c_l_6 := cell_of_blk k_l_92 6
          have c_l_7 := cell_of_blk k_l_92 7
          have c_l_8 := cell_of_blk k_l_92 8
          have c_l_9 := cell_of_blk k_l_92 9
          have c_l_10 := cell_of_blk k_l_92 10
          have c_l_11 := cell_of_blk k_l_92 11
          simp only [List.getElem?_toArray, List.getElem?_cons_zero, List.getElem?_cons_succ] at c_l_0 c_l_1 c_l_2 c_l_3 c_l_4 c_l_5 c_l_6 c_l_7 c_l_8 c_l_9 c_l_10 c_l_11
          have f_l := frozen_of_blk k_l_92
          have s_l := blk_lt k_l_92
          have c_g_0 := cell_of_blk k_g_92 0
          have c_g_1 := cell_of_blk k_g_92 1
          have c_g_2 := cell_of_blk k_g_92 2
          simp only [List.getElem?_toArray, List.getElem?_cons_zero, List.getElem?_cons_succ] at c_g_0 c_g_1 c_g_2
          have f_g := frozen_of_blk k_g_92
          have s_g := blk_lt k_g_92
          go_wp2
          go_roundw
          case rel => exact ⟨2, by omega, rfl, hw_92⟩
          case measure => simp [intOf]
    · have r2 := D52.out
      go_wp2_with fail
      have jt : wr.drew.heap[w2.heap.size]? = some (.cells #[.int .i64 tx, .int .i64 ty, .int .i64 tk] 23 (0, 0)) := k_t_50
      have jm : wr.drew.heap[w3.heap.size]? = some (.cells #[.int .i64 (M.1), .int .i64 (M.2.1), .int .i64 (M.2.2.1), .int .i64 (M.2.2.2.1), .int .i64 (M.2.2.2.2.1), .int .i64 (M.2.2.2.2.2)] 51 (0, 0)) := k_m_50
      have ju : wr.drew.heap[w4.heap.size]? = some (.cells #[.int .i64 (U.1), .int .i64 (U.2.1), .int .i64 (U.2.2)] 23 (0, 0)) := k_u_50
      have jl : wr.drew.heap[w8.heap.size]? = some (.cells #[.int .i64 (E0.1), .int .i64 (E0.2.1), .int .i64 (E0.2.2.1), .int .i64 (E0.2.2.2), .int .i64 (E1.1), .int .i64 (E1.2.1), .int .i64 (E1.2.2.1), .int .i64 (E1.2.2.2), .int .i64 (E2.1), .int .i64 (E2.2.1), .int .i64 (E2.2.2.1), .int .i64 (E2.2.2.2)] 32 (0, 0)) := k_l_50
      have dt0 := cell_of_blk jt 0
      have dt1 := cell_of_blk jt 1
      have dt2 := cell_of_blk jt 2
      have dl0 := cell_of_blk jl 0
      have dl1 := cell_of_blk jl 1
      have dl2 := cell_of_blk jl 2
      have dl3 := cell_of_blk jl 3
      have dl4 := cell_of_blk jl 4
      have dl5 := cell_of_blk jl 5
      have dl6 := cell_of_blk jl 6
      have dl7 := cell_of_blk jl 7
      have dl8 := cell_of_blk jl 8
      have dl9 := cell_of_blk jl 9
      have dl10 := cell_of_blk jl 10
      have dl11 := cell_of_blk jl 11
      simp only [List.getElem?_toArray, List.getElem?_cons_zero, List.getElem?_cons_succ] at dt0 dt1 dt2 dl0 dl1 dl2 dl3 dl4 dl5 dl6 dl7 dl8 dl9 dl10 dl11
      have hbw : Below w0.heap.size w0 wr.drew := hw_50.drew
      have hlw : w0.heap.size ≤ wr.heap.size := hbw.size
      have hsd : Steps wr.drew := hs_50.below (Below.refl _ _).drew
      have n_t : wr.heap.size ≠ w2.heap.size := by have := blk_lt k_t_50; omega
      have n_m : wr.heap.size ≠ w3.heap.size := by have := blk_lt k_m_50; omega
      have n_u : wr.heap.size ≠ w4.heap.size := by have := blk_lt k_u_50; omega
      have n_l : wr.heap.size ≠ w8.heap.size := by have := blk_lt k_l_50; omega
      have n_0 : wr.heap.size ≠ 0 := by have := hs_50.lt; omega
      have hS0 := And.intro dt0 (And.intro dt1 (And.intro dt2 (And.intro dl0 (And.intro dl1 (And.intro dl2 (And.intro dl3 (And.intro dl4 (And.intro dl5 (And.intro dl6 (And.intro dl7 (And.intro dl8 (And.intro dl9 (And.intro dl10 (And.intro dl11 (And.intro hbw hsd)))))))))))))))
      clear dt0 dt1 dt2 dl0 dl1 dl2 dl3 dl4 dl5 dl6 dl7 dl8 dl9 dl10 dl11
      go_region_held3 (fun w' => w'.cell? ⟨w2.heap.size, 0, none⟩ = some (.int .i64 tx) ∧ w'.cell? ⟨w2.heap.size, 1, none⟩ = some (.int .i64 ty) ∧ w'.cell? ⟨w2.heap.size, 2, none⟩ = some (.int .i64 tk) ∧ w'.cell? ⟨w8.heap.size, 0, none⟩ = some (.int .i64 E0.1) ∧ w'.cell? ⟨w8.heap.size, 1, none⟩ = some (.int .i64 E0.2.1) ∧ w'.cell? ⟨w8.heap.size, 2, none⟩ = some (.int .i64 E0.2.2.1) ∧ w'.cell? ⟨w8.heap.size, 3, none⟩ = some (.int .i64 E0.2.2.2) ∧ w'.cell? ⟨w8.heap.size, 4, none⟩ = some (.int .i64 E1.1) ∧ w'.cell? ⟨w8.heap.size, 5, none⟩ = some (.int .i64 E1.2.1) ∧ w'.cell? ⟨w8.heap.size, 6, none⟩ = some (.int .i64 E1.2.2.1) ∧ w'.cell? ⟨w8.heap.size, 7, none⟩ = some (.int .i64 E1.2.2.2) ∧ w'.cell? ⟨w8.heap.size, 8, none⟩ = some (.int .i64 E2.1) ∧ w'.cell? ⟨w8.heap.size, 9, none⟩ = some (.int .i64 E2.2.1) ∧ w'.cell? ⟨w8.heap.size, 10, none⟩ = some (.int .i64 E2.2.2.1) ∧ w'.cell? ⟨w8.heap.size, 11, none⟩ = some (.int .i64 E2.2.2.2) ∧ Below w0.heap.size w0 w' ∧ Steps w')
        (first
          | with_reducible exact hS0
          | (go_split_ands; with_reducible exact ⟨al_c ‹_› _, al_c ‹_› _, al_c ‹_› _, al_c ‹_› _, al_c ‹_› _, al_c ‹_› _, al_c ‹_› _, al_c ‹_› _, al_c ‹_› _, al_c ‹_› _, al_c ‹_› _, al_c ‹_› _, al_c ‹_› _, al_c ‹_› _, al_c ‹_› _, ba ‹_› _, Steps.alloc ‹_› _⟩)
          | (go_split_ands; with_reducible exact ⟨al_d ‹_› _, al_d ‹_› _, al_d ‹_› _, al_d ‹_› _, al_d ‹_› _, al_d ‹_› _, al_d ‹_› _, al_d ‹_› _, al_d ‹_› _, al_d ‹_› _, al_d ‹_› _, al_d ‹_› _, al_d ‹_› _, al_d ‹_› _, al_d ‹_› _, bd ‹_› hlw _, stepd ‹_› _⟩)
          | (go_split_ands; with_reducible exact ⟨re_c ‹_› gt, re_c ‹_› gt, re_c ‹_› gt, re_c ‹_› gl, re_c ‹_› gl, re_c ‹_› gl, re_c ‹_› gl, re_c ‹_› gl, re_c ‹_› gl, re_c ‹_› gl, re_c ‹_› gl, re_c ‹_› gl, re_c ‹_› gl, re_c ‹_› gl, re_c ‹_› gl, ba hbw _, Steps.alloc hsq _⟩)
          | (go_split_ands; with_reducible exact ⟨far3 ‹_› n_t _ _ _, far3 ‹_› n_t _ _ _, far3 ‹_› n_t _ _ _, far3 ‹_› n_l _ _ _, far3 ‹_› n_l _ _ _, far3 ‹_› n_l _ _ _, far3 ‹_› n_l _ _ _, far3 ‹_› n_l _ _ _, far3 ‹_› n_l _ _ _, far3 ‹_› n_l _ _ _, far3 ‹_› n_l _ _ _, far3 ‹_› n_l _ _ _, far3 ‹_› n_l _ _ _, far3 ‹_› n_l _ _ _, far3 ‹_› n_l _ _ _, set3_below ‹_› _ hlw _ _ _, Steps.set3' ‹_› n_0 _ _ _⟩)
          | (go_split_ands; with_reducible exact ⟨stay_c ‹_› hbc (Nat.le_refl _), stay_c ‹_› hbc (Nat.le_refl _), stay_c ‹_› hbc (Nat.le_refl _), stay_c ‹_› hbc (Nat.le_refl _), stay_c ‹_› hbc (Nat.le_refl _), stay_c ‹_› hbc (Nat.le_refl _), stay_c ‹_› hbc (Nat.le_refl _), stay_c ‹_› hbc (Nat.le_refl _), stay_c ‹_› hbc (Nat.le_refl _), stay_c ‹_› hbc (Nat.le_refl _), stay_c ‹_› hbc (Nat.le_refl _), stay_c ‹_› hbc (Nat.le_refl _), stay_c ‹_› hbc (Nat.le_refl _), stay_c ‹_› hbc (Nat.le_refl _), stay_c ‹_› hbc (Nat.le_refl _), stay_b ‹_› hbc, Steps.below ‹_› hbc⟩))
        (((with_reducible refine (D12.out _ (by first | exact hsd | exact stepd hsd _)).mono ?_); rintro e' wc ⟨he, hbc⟩; subst he; have hsq := Steps.below (by first | exact hsd | exact stepd hsd _) hbc; (first | (have jt := blk_below jt hbc (blk_lt jt)) | (have jt := blk_below (blk_ad jt _) hbc (blk_lt (blk_ad jt _)))); have gt := blk_lt jt; (first | (have jm := blk_below jm hbc (blk_lt jm)) | (have jm := blk_below (blk_ad jm _) hbc (blk_lt (blk_ad jm _)))); have gm := blk_lt jm; (first | (have ju := blk_below ju hbc (blk_lt ju)) | (have ju := blk_below (blk_ad ju _) hbc (blk_lt (blk_ad ju _)))); have gu := blk_lt ju; (first | (have jl := blk_below jl hbc (blk_lt jl)) | (have jl := blk_below (blk_ad jl _) hbc (blk_lt (blk_ad jl _)))); have gl := blk_lt jl; (first | (have hbw := stay_b hbw hbc) | (have hbw := stay_b (bd hbw hlw _) hbc)); (first | (have qn := blk_below (new_d _ _) hbc (by simp); (try simp only [World.size_alloc] at qn); have z0 := cell_of_blk qn 0; have z1 := cell_of_blk qn 1; have z2 := cell_of_blk qn 2; simp only [List.getElem?_toArray, List.getElem?_cons_zero, List.getElem?_cons_succ] at z0 z1 z2; have zf := frozen_of_blk qn; have zl := blk_lt qn) | skip)))
      all_goals (rename_i hH; clear hH)
      all_goals first
        | (have k_n_70 := set3_blk qn (.int .i64 V2.1) (.int .i64 V2.2.1) (.int .i64 V2.2.2); have k_t_70 := farb3 jt n_t.symm (.int .i64 V2.1) (.int .i64 V2.2.1) (.int .i64 V2.2.2); have k_m_70 := farb3 jm n_m.symm (.int .i64 V2.1) (.int .i64 V2.2.1) (.int .i64 V2.2.2); have k_u_70 := farb3 ju n_u.symm (.int .i64 V2.1) (.int .i64 V2.2.1) (.int .i64 V2.2.2); have k_l_70 := farb3 jl n_l.symm (.int .i64 V2.1) (.int .i64 V2.2.1) (.int .i64 V2.2.2); have hs_70 := Steps.set3' hsq n_0 (.int .i64 V2.1) (.int .i64 V2.2.1) (.int .i64 V2.2.2); have hw_70 := set3_below hbw _ hlw (.int .i64 V2.1) (.int .i64 V2.2.1) (.int .i64 V2.2.2); generalize (((wc.setCell ⟨wr.heap.size, 0, none⟩ (.int .i64 V2.1)).setCell ⟨wr.heap.size, 1, none⟩ (.int .i64 V2.2.1)).setCell ⟨wr.heap.size, 2, none⟩ (.int .i64 V2.2.2)) = x70 at k_n_70 k_t_70 k_m_70 k_u_70 k_l_70 hs_70 hw_70 ⊢; generalize wr.heap.size = g70 at k_n_70 ⊢)
        | (have k_n_70 := heap_alloc_new wc (.cells #[.int .i64 (V2.1), .int .i64 (V2.2.1), .int .i64 (V2.2.2)] 23); have k_t_70 := blk_alloc jt (.cells #[.int .i64 (V2.1), .int .i64 (V2.2.1), .int .i64 (V2.2.2)] 23); have k_m_70 := blk_alloc jm (.cells #[.int .i64 (V2.1), .int .i64 (V2.2.1), .int .i64 (V2.2.2)] 23); have k_u_70 := blk_alloc ju (.cells #[.int .i64 (V2.1), .int .i64 (V2.2.1), .int .i64 (V2.2.2)] 23); have k_l_70 := blk_alloc jl (.cells #[.int .i64 (V2.1), .int .i64 (V2.2.1), .int .i64 (V2.2.2)] 23); have hs_70 := Steps.alloc hsq (.cells #[.int .i64 (V2.1), .int .i64 (V2.2.1), .int .i64 (V2.2.2)] 23); have hw_70 := ba hbw (.cells #[.int .i64 (V2.1), .int .i64 (V2.2.1), .int .i64 (V2.2.2)] 23); generalize (wc.alloc (.cells #[.int .i64 (V2.1), .int .i64 (V2.2.1), .int .i64 (V2.2.2)] 23)) = x70 at k_n_70 k_t_70 k_m_70 k_u_70 k_l_70 hs_70 hw_70 ⊢; generalize wc.heap.size = g70 at k_n_70 ⊢)
      all_goals
        clear hbw hsq hsd hS0 hlw
        (try clear qn z0 z1 z2 zf zl)
        go_wp2_with fail
        have jn : x70.drew.heap[g70]? = some (.cells #[.int .i64 (V2.1), .int .i64 (V2.2.1), .int .i64 (V2.2.2)] 23 (0, 0)) := k_n_70
        have jt : x70.drew.heap[w2.heap.size]? = some (.cells #[.int .i64 tx, .int .i64 ty, .int .i64 tk] 23 (0, 0)) := k_t_70
        have jm : x70.drew.heap[w3.heap.size]? = some (.cells #[.int .i64 (M.1), .int .i64 (M.2.1), .int .i64 (M.2.2.1), .int .i64 (M.2.2.2.1), .int .i64 (M.2.2.2.2.1), .int .i64 (M.2.2.2.2.2)] 51 (0, 0)) := k_m_70
        have ju : x70.drew.heap[w4.heap.size]? = some (.cells #[.int .i64 (U.1), .int .i64 (U.2.1), .int .i64 (U.2.2)] 23 (0, 0)) := k_u_70
        have jl : x70.drew.heap[w8.heap.size]? = some (.cells #[.int .i64 (E0.1), .int .i64 (E0.2.1), .int .i64 (E0.2.2.1), .int .i64 (E0.2.2.2), .int .i64 (E1.1), .int .i64 (E1.2.1), .int .i64 (E1.2.2.1), .int .i64 (E1.2.2.2), .int .i64 (E2.1), .int .i64 (E2.2.1), .int .i64 (E2.2.2.1), .int .i64 (E2.2.2.2)] 32 (0, 0)) := k_l_70
        have dn0 := cell_of_blk jn 0
        have dn1 := cell_of_blk jn 1
        have dn2 := cell_of_blk jn 2
        have dl0 := cell_of_blk jl 0
        have dl1 := cell_of_blk jl 1
        have dl2 := cell_of_blk jl 2
        have dl3 := cell_of_blk jl 3
        have dl4 := cell_of_blk jl 4
        have dl5 := cell_of_blk jl 5
        have dl6 := cell_of_blk jl 6
        have dl7 := cell_of_blk jl 7
        have dl8 := cell_of_blk jl 8
        have dl9 := cell_of_blk jl 9
        have dl10 := cell_of_blk jl 10
        have dl11 := cell_of_blk jl 11
        simp only [List.getElem?_toArray, List.getElem?_cons_zero, List.getElem?_cons_succ] at dn0 dn1 dn2 dl0 dl1 dl2 dl3 dl4 dl5 dl6 dl7 dl8 dl9 dl10 dl11
        have hbw : Below w0.heap.size w0 x70.drew := hw_70.drew
        have hlw : w0.heap.size ≤ x70.heap.size := hbw.size
        have hsd : Steps x70.drew := hs_70.below (Below.refl _ _).drew
        have n_n : x70.heap.size ≠ g70 := by have := blk_lt k_n_70; omega
        have n_t : x70.heap.size ≠ w2.heap.size := by have := blk_lt k_t_70; omega
        have n_m : x70.heap.size ≠ w3.heap.size := by have := blk_lt k_m_70; omega
        have n_u : x70.heap.size ≠ w4.heap.size := by have := blk_lt k_u_70; omega
        have n_l : x70.heap.size ≠ w8.heap.size := by have := blk_lt k_l_70; omega
        have n_0 : x70.heap.size ≠ 0 := by have := hs_70.lt; omega
        have hS0 := And.intro dn0 (And.intro dn1 (And.intro dn2 (And.intro dl0 (And.intro dl1 (And.intro dl2 (And.intro dl3 (And.intro dl4 (And.intro dl5 (And.intro dl6 (And.intro dl7 (And.intro dl8 (And.intro dl9 (And.intro dl10 (And.intro dl11 (And.intro hbw hsd)))))))))))))))
        clear dn0 dn1 dn2 dl0 dl1 dl2 dl3 dl4 dl5 dl6 dl7 dl8 dl9 dl10 dl11
        go_region_held3 (fun w' => w'.cell? ⟨g70, 0, none⟩ = some (.int .i64 V2.1) ∧ w'.cell? ⟨g70, 1, none⟩ = some (.int .i64 V2.2.1) ∧ w'.cell? ⟨g70, 2, none⟩ = some (.int .i64 V2.2.2) ∧ w'.cell? ⟨w8.heap.size, 0, none⟩ = some (.int .i64 E0.1) ∧ w'.cell? ⟨w8.heap.size, 1, none⟩ = some (.int .i64 E0.2.1) ∧ w'.cell? ⟨w8.heap.size, 2, none⟩ = some (.int .i64 E0.2.2.1) ∧ w'.cell? ⟨w8.heap.size, 3, none⟩ = some (.int .i64 E0.2.2.2) ∧ w'.cell? ⟨w8.heap.size, 4, none⟩ = some (.int .i64 E1.1) ∧ w'.cell? ⟨w8.heap.size, 5, none⟩ = some (.int .i64 E1.2.1) ∧ w'.cell? ⟨w8.heap.size, 6, none⟩ = some (.int .i64 E1.2.2.1) ∧ w'.cell? ⟨w8.heap.size, 7, none⟩ = some (.int .i64 E1.2.2.2) ∧ w'.cell? ⟨w8.heap.size, 8, none⟩ = some (.int .i64 E2.1) ∧ w'.cell? ⟨w8.heap.size, 9, none⟩ = some (.int .i64 E2.2.1) ∧ w'.cell? ⟨w8.heap.size, 10, none⟩ = some (.int .i64 E2.2.2.1) ∧ w'.cell? ⟨w8.heap.size, 11, none⟩ = some (.int .i64 E2.2.2.2) ∧ Below w0.heap.size w0 w' ∧ Steps w')
          (first
            | with_reducible exact hS0
            | (go_split_ands; with_reducible exact ⟨al_c ‹_› _, al_c ‹_› _, al_c ‹_› _, al_c ‹_› _, al_c ‹_› _, al_c ‹_› _, al_c ‹_› _, al_c ‹_› _, al_c ‹_› _, al_c ‹_› _, al_c ‹_› _, al_c ‹_› _, al_c ‹_› _, al_c ‹_› _, al_c ‹_› _, ba ‹_› _, Steps.alloc ‹_› _⟩)
            | (go_split_ands; with_reducible exact ⟨al_d ‹_› _, al_d ‹_› _, al_d ‹_› _, al_d ‹_› _, al_d ‹_› _, al_d ‹_› _, al_d ‹_› _, al_d ‹_› _, al_d ‹_› _, al_d ‹_› _, al_d ‹_› _, al_d ‹_› _, al_d ‹_› _, al_d ‹_› _, al_d ‹_› _, bd ‹_› hlw _, stepd ‹_› _⟩)
            | (go_split_ands; with_reducible exact ⟨re_c ‹_› gn, re_c ‹_› gn, re_c ‹_› gn, re_c ‹_› gl, re_c ‹_› gl, re_c ‹_› gl, re_c ‹_› gl, re_c ‹_› gl, re_c ‹_› gl, re_c ‹_› gl, re_c ‹_› gl, re_c ‹_› gl, re_c ‹_› gl, re_c ‹_› gl, re_c ‹_› gl, ba hbw _, Steps.alloc hsq _⟩)
            | (go_split_ands; with_reducible exact ⟨far3 ‹_› n_n _ _ _, far3 ‹_› n_n _ _ _, far3 ‹_› n_n _ _ _, far3 ‹_› n_l _ _ _, far3 ‹_› n_l _ _ _, far3 ‹_› n_l _ _ _, far3 ‹_› n_l _ _ _, far3 ‹_› n_l _ _ _, far3 ‹_› n_l _ _ _, far3 ‹_› n_l _ _ _, far3 ‹_› n_l _ _ _, far3 ‹_› n_l _ _ _, far3 ‹_› n_l _ _ _, far3 ‹_› n_l _ _ _, far3 ‹_› n_l _ _ _, set3_below ‹_› _ hlw _ _ _, Steps.set3' ‹_› n_0 _ _ _⟩)
            | (go_split_ands; with_reducible exact ⟨stay_c ‹_› hbc (Nat.le_refl _), stay_c ‹_› hbc (Nat.le_refl _), stay_c ‹_› hbc (Nat.le_refl _), stay_c ‹_› hbc (Nat.le_refl _), stay_c ‹_› hbc (Nat.le_refl _), stay_c ‹_› hbc (Nat.le_refl _), stay_c ‹_› hbc (Nat.le_refl _), stay_c ‹_› hbc (Nat.le_refl _), stay_c ‹_› hbc (Nat.le_refl _), stay_c ‹_› hbc (Nat.le_refl _), stay_c ‹_› hbc (Nat.le_refl _), stay_c ‹_› hbc (Nat.le_refl _), stay_c ‹_› hbc (Nat.le_refl _), stay_c ‹_› hbc (Nat.le_refl _), stay_c ‹_› hbc (Nat.le_refl _), stay_b ‹_› hbc, Steps.below ‹_› hbc⟩))
          (((with_reducible refine (D22.out _ (by first | exact hsd | exact stepd hsd _)).mono ?_); rintro e' wc ⟨he, hbc⟩; subst he; have hsq := Steps.below (by first | exact hsd | exact stepd hsd _) hbc; (first | (have jn := blk_below jn hbc (blk_lt jn)) | (have jn := blk_below (blk_ad jn _) hbc (blk_lt (blk_ad jn _)))); have gn := blk_lt jn; (first | (have jt := blk_below jt hbc (blk_lt jt)) | (have jt := blk_below (blk_ad jt _) hbc (blk_lt (blk_ad jt _)))); have gt := blk_lt jt; (first | (have jm := blk_below jm hbc (blk_lt jm)) | (have jm := blk_below (blk_ad jm _) hbc (blk_lt (blk_ad jm _)))); have gm := blk_lt jm; (first | (have ju := blk_below ju hbc (blk_lt ju)) | (have ju := blk_below (blk_ad ju _) hbc (blk_lt (blk_ad ju _)))); have gu := blk_lt ju; (first | (have jl := blk_below jl hbc (blk_lt jl)) | (have jl := blk_below (blk_ad jl _) hbc (blk_lt (blk_ad jl _)))); have gl := blk_lt jl; (first | (have hbw := stay_b hbw hbc) | (have hbw := stay_b (bd hbw hlw _) hbc)); (first | (have qn := blk_below (new_d _ _) hbc (by simp); (try simp only [World.size_alloc] at qn); have z0 := cell_of_blk qn 0; have z1 := cell_of_blk qn 1; have z2 := cell_of_blk qn 2; simp only [List.getElem?_toArray, List.getElem?_cons_zero, List.getElem?_cons_succ] at z0 z1 z2; have zf := frozen_of_blk qn; have zl := blk_lt qn) | skip)))
        all_goals (rename_i hH; clear hH)
        all_goals first
          | (have k_b_90 := set3_blk qn (.int .i64 tx) (.int .i64 ty) (.int .i64 tk); have k_n_90 := farb3 jn n_n.symm (.int .i64 tx) (.int .i64 ty) (.int .i64 tk); have k_t_90 := farb3 jt n_t.symm (.int .i64 tx) (.int .i64 ty) (.int .i64 tk); have k_m_90 := farb3 jm n_m.symm (.int .i64 tx) (.int .i64 ty) (.int .i64 tk); have k_u_90 := farb3 ju n_u.symm (.int .i64 tx) (.int .i64 ty) (.int .i64 tk); have k_l_90 := farb3 jl n_l.symm (.int .i64 tx) (.int .i64 ty) (.int .i64 tk); have hs_90 := Steps.set3' hsq n_0 (.int .i64 tx) (.int .i64 ty) (.int .i64 tk); have hw_90 := set3_below hbw _ hlw (.int .i64 tx) (.int .i64 ty) (.int .i64 tk); generalize (((wc.setCell ⟨x70.heap.size, 0, none⟩ (.int .i64 tx)).setCell ⟨x70.heap.size, 1, none⟩ (.int .i64 ty)).setCell ⟨x70.heap.size, 2, none⟩ (.int .i64 tk)) = x90 at k_b_90 k_n_90 k_t_90 k_m_90 k_u_90 k_l_90 hs_90 hw_90 ⊢; generalize x70.heap.size = g90 at k_b_90 ⊢)
          | (have k_b_90 := heap_alloc_new wc (.cells #[.int .i64 tx, .int .i64 ty, .int .i64 tk] 23); have k_n_90 := blk_alloc jn (.cells #[.int .i64 tx, .int .i64 ty, .int .i64 tk] 23); have k_t_90 := blk_alloc jt (.cells #[.int .i64 tx, .int .i64 ty, .int .i64 tk] 23); have k_m_90 := blk_alloc jm (.cells #[.int .i64 tx, .int .i64 ty, .int .i64 tk] 23); have k_u_90 := blk_alloc ju (.cells #[.int .i64 tx, .int .i64 ty, .int .i64 tk] 23); have k_l_90 := blk_alloc jl (.cells #[.int .i64 tx, .int .i64 ty, .int .i64 tk] 23); have hs_90 := Steps.alloc hsq (.cells #[.int .i64 tx, .int .i64 ty, .int .i64 tk] 23); have hw_90 := ba hbw (.cells #[.int .i64 tx, .int .i64 ty, .int .i64 tk] 23); generalize (wc.alloc (.cells #[.int .i64 tx, .int .i64 ty, .int .i64 tk] 23)) = x90 at k_b_90 k_n_90 k_t_90 k_m_90 k_u_90 k_l_90 hs_90 hw_90 ⊢; generalize wc.heap.size = g90 at k_b_90 ⊢)
        all_goals
          clear hbw hsq hsd hS0 hlw
          (try clear qn z0 z1 z2 zf zl)
          have c_n_0 := cell_of_blk k_n_90 0
          have c_n_1 := cell_of_blk k_n_90 1
          have c_n_2 := cell_of_blk k_n_90 2
          simp only [List.getElem?_toArray, List.getElem?_cons_zero, List.getElem?_cons_succ] at c_n_0 c_n_1 c_n_2
          have f_n := frozen_of_blk k_n_90
          have s_n := blk_lt k_n_90
          have c_m_0 := cell_of_blk k_m_90 0
          have c_m_1 := cell_of_blk k_m_90 1
          have c_m_2 := cell_of_blk k_m_90 2
          have c_m_3 := cell_of_blk k_m_90 3
          have c_m_4 := cell_of_blk k_m_90 4
          have c_m_5 := cell_of_blk k_m_90 5
          simp only [List.getElem?_toArray, List.getElem?_cons_zero, List.getElem?_cons_succ] at c_m_0 c_m_1 c_m_2 c_m_3 c_m_4 c_m_5
          have f_m := frozen_of_blk k_m_90
          have s_m := blk_lt k_m_90
          go_wp2_with fail
          refine (D32.out _ hs_90).mono ?_
          rintro e w91 ⟨rfl, hb91⟩
          have k_b_91 : w91.heap[g90]? = some (.cells #[.int .i64 tx, .int .i64 ty, .int .i64 tk] 23 (0, 0)) := blk_below k_b_90 hb91 (blk_lt k_b_90)
          have k_n_91 : w91.heap[g70]? = some (.cells #[.int .i64 (V2.1), .int .i64 (V2.2.1), .int .i64 (V2.2.2)] 23 (0, 0)) := blk_below k_n_90 hb91 (blk_lt k_n_90)
          have k_t_91 : w91.heap[w2.heap.size]? = some (.cells #[.int .i64 tx, .int .i64 ty, .int .i64 tk] 23 (0, 0)) := blk_below k_t_90 hb91 (blk_lt k_t_90)
          have k_m_91 : w91.heap[w3.heap.size]? = some (.cells #[.int .i64 (M.1), .int .i64 (M.2.1), .int .i64 (M.2.2.1), .int .i64 (M.2.2.2.1), .int .i64 (M.2.2.2.2.1), .int .i64 (M.2.2.2.2.2)] 51 (0, 0)) := blk_below k_m_90 hb91 (blk_lt k_m_90)
          have k_u_91 : w91.heap[w4.heap.size]? = some (.cells #[.int .i64 (U.1), .int .i64 (U.2.1), .int .i64 (U.2.2)] 23 (0, 0)) := blk_below k_u_90 hb91 (blk_lt k_u_90)
          have k_l_91 : w91.heap[w8.heap.size]? = some (.cells #[.int .i64 (E0.1), .int .i64 (E0.2.1), .int .i64 (E0.2.2.1), .int .i64 (E0.2.2.2), .int .i64 (E1.1), .int .i64 (E1.2.1), .int .i64 (E1.2.2.1), .int .i64 (E1.2.2.2), .int .i64 (E2.1), .int .i64 (E2.2.1), .int .i64 (E2.2.2.1), .int .i64 (E2.2.2.2)] 32 (0, 0)) := blk_below k_l_90 hb91 (blk_lt k_l_90)
          have hw_91 : Below w0.heap.size w0 w91 := stay_b hw_90 hb91
          have hs_91 := hs_90.below hb91
          clear c_n_0 c_n_1 c_n_2 f_n s_n c_m_0 c_m_1 c_m_2 c_m_3 c_m_4 c_m_5 f_m s_m k_b_90 k_n_90 k_t_90 k_m_90 k_u_90 k_l_90 hb91 hw_90
          have c_b_0 := cell_of_blk k_b_91 0
          have c_b_1 := cell_of_blk k_b_91 1
          have c_b_2 := cell_of_blk k_b_91 2
          simp only [List.getElem?_toArray, List.getElem?_cons_zero, List.getElem?_cons_succ] at c_b_0 c_b_1 c_b_2
          have f_b := frozen_of_blk k_b_91
          have s_b := blk_lt k_b_91
          have c_n_0 := cell_of_blk k_n_91 0
          have c_n_1 := cell_of_blk k_n_91 1
          have c_n_2 := cell_of_blk k_n_91 2
          simp only [List.getElem?_toArray, List.getElem?_cons_zero, List.getElem?_cons_succ] at c_n_0 c_n_1 c_n_2
          have f_n := frozen_of_blk k_n_91
          have s_n := blk_lt k_n_91
          have c_t_0 := cell_of_blk k_t_91 0
          have c_t_1 := cell_of_blk k_t_91 1
          have c_t_2 := cell_of_blk k_t_91 2
          simp only [List.getElem?_toArray, List.getElem?_cons_zero, List.getElem?_cons_succ] at c_t_0 c_t_1 c_t_2
          have f_t := frozen_of_blk k_t_91
          have s_t := blk_lt k_t_91
          have c_m_0 := cell_of_blk k_m_91 0
          have c_m_1 := cell_of_blk k_m_91 1
          have c_m_2 := cell_of_blk k_m_91 2
          have c_m_3 := cell_of_blk k_m_91 3
          have c_m_4 := cell_of_blk k_m_91 4
          have c_m_5 := cell_of_blk k_m_91 5
          simp only [List.getElem?_toArray, List.getElem?_cons_zero, List.getElem?_cons_succ] at c_m_0 c_m_1 c_m_2 c_m_3 c_m_4 c_m_5
          have f_m := frozen_of_blk k_m_91
          have s_m := blk_lt k_m_91
          have c_u_0 := cell_of_blk k_u_91 0
          have c_u_1 := cell_of_blk k_u_91 1
          have c_u_2 := cell_of_blk k_u_91 2
          simp only [List.getElem?_toArray, List.getElem?_cons_zero, List.getElem?_cons_succ] at c_u_0 c_u_1 c_u_2
          have f_u := frozen_of_blk k_u_91
          have s_u := blk_lt k_u_91
          have c_l_0 := cell_of_blk k_l_91 0
          have c_l_1 := cell_of_blk k_l_91 1
          have c_l_2 := cell_of_blk k_l_91 2
          have c_l_3 := cell_of_blk k_l_91 3
          have c_l_4 := cell_of_blk k_l_91 4
          have c_l_5 := cell_of_blk k_l_91 5
          have c_l_6 := cell_of_blk k_l_91 6
          have c_l_7 := cell_of_blk k_l_91 7
          have c_l_8 := cell_of_blk k_l_91 8
          have c_l_9 := cell_of_blk k_l_91 9
          have c_l_10 := cell_of_blk k_l_91 10
          have c_l_11 := cell_of_blk k_l_91 11
          simp only [List.getElem?_toArray, List.getElem?_cons_zero, List.getElem?_cons_succ] at c_l_0 c_l_1 c_l_2 c_l_3 c_l_4 c_l_5 c_l_6 c_l_7 c_l_8 c_l_9 c_l_10 c_l_11
          have f_l := frozen_of_blk k_l_91
          have s_l := blk_lt k_l_91
          go_wp2_with fail
          refine (D42.out _ (hs_91.alloc _)).mono ?_
          rintro e w92 ⟨rfl, hb92⟩
          have k_b_92 : w92.heap[g90]? = some (.cells #[.int .i64 tx, .int .i64 ty, .int .i64 tk] 23 (0, 0)) := blk_below (blk_alloc k_b_91 _) hb92 (blk_lt (blk_alloc k_b_91 _))
          have k_n_92 : w92.heap[g70]? = some (.cells #[.int .i64 (V2.1), .int .i64 (V2.2.1), .int .i64 (V2.2.2)] 23 (0, 0)) := blk_below (blk_alloc k_n_91 _) hb92 (blk_lt (blk_alloc k_n_91 _))
          have k_t_92 : w92.heap[w2.heap.size]? = some (.cells #[.int .i64 tx, .int .i64 ty, .int .i64 tk] 23 (0, 0)) := blk_below (blk_alloc k_t_91 _) hb92 (blk_lt (blk_alloc k_t_91 _))
          have k_m_92 : w92.heap[w3.heap.size]? = some (.cells #[.int .i64 (M.1), .int .i64 (M.2.1), .int .i64 (M.2.2.1), .int .i64 (M.2.2.2.1), .int .i64 (M.2.2.2.2.1), .int .i64 (M.2.2.2.2.2)] 51 (0, 0)) := blk_below (blk_alloc k_m_91 _) hb92 (blk_lt (blk_alloc k_m_91 _))
          have k_u_92 : w92.heap[w4.heap.size]? = some (.cells #[.int .i64 (U.1), .int .i64 (U.2.1), .int .i64 (U.2.2)] 23 (0, 0)) := blk_below (blk_alloc k_u_91 _) hb92 (blk_lt (blk_alloc k_u_91 _))
          have k_l_92 : w92.heap[w8.heap.size]? = some (.cells #[.int .i64 (E0.1), .int .i64 (E0.2.1), .int .i64 (E0.2.2.1), .int .i64 (E0.2.2.2), .int .i64 (E1.1), .int .i64 (E1.2.1), .int .i64 (E1.2.2.1), .int .i64 (E1.2.2.2), .int .i64 (E2.1), .int .i64 (E2.2.1), .int .i64 (E2.2.2.1), .int .i64 (E2.2.2.2)] 32 (0, 0)) := blk_below (blk_alloc k_l_91 _) hb92 (blk_lt (blk_alloc k_l_91 _))
          have k_g_92 : w92.heap[w91.heap.size]? = some (.cells #[.int .i64 (I2.1), .int .i64 (I2.2.1), .int .i64 (I2.2.2)] 23 (0, 0)) := blk_below (new_blk (.cells #[.int .i64 (I2.1), .int .i64 (I2.2.1), .int .i64 (I2.2.2)] 23) (by first | rfl | (simp; done) | (simp; omega))) hb92 (by first | (simp; done) | (simp; omega))
          have hw_92 : Below w0.heap.size w0 w92 := stay_b (ba hw_91 _) hb92
          have hs_92 := (hs_91.alloc _).below hb92
          clear c_b_0 c_b_1 c_b_2 f_b s_b c_n_0 c_n_1 c_n_2 f_n s_n c_t_0 c_t_1 c_t_2 f_t s_t c_m_0 c_m_1 c_m_2 c_m_3 c_m_4 c_m_5 f_m s_m c_u_0 c_u_1 c_u_2 f_u s_u c_l_0 c_l_1 c_l_2 c_l_3 c_l_4 c_l_5 c_l_6 c_l_7 c_l_8 c_l_9 c_l_10 c_l_11 f_l s_l k_b_91 k_n_91 k_t_91 k_m_91 k_u_91 k_l_91 hb92 hw_91
          have c_b_0 := cell_of_blk k_b_92 0
          have c_b_1 := cell_of_blk k_b_92 1
          have c_b_2 := cell_of_blk k_b_92 2
          simp only [List.getElem?_toArray, List.getElem?_cons_zero, List.getElem?_cons_succ] at c_b_0 c_b_1 c_b_2
          have f_b := frozen_of_blk k_b_92
          have s_b := blk_lt k_b_92
          have c_n_0 := cell_of_blk k_n_92 0
          have c_n_1 := cell_of_blk k_n_92 1
          have c_n_2 := cell_of_blk k_n_92 2
          simp only [List.getElem?_toArray, List.getElem?_cons_zero, List.getElem?_cons_succ] at c_n_0 c_n_1 c_n_2
          have f_n := frozen_of_blk k_n_92
          have s_n := blk_lt k_n_92
          have c_t_0 := cell_of_blk k_t_92 0
          have c_t_1 := cell_of_blk k_t_92 1
          have c_t_2 := cell_of_blk k_t_92 2
          simp only [List.getElem?_toArray, List.getElem?_cons_zero, List.getElem?_cons_succ] at c_t_0 c_t_1 c_t_2
          have f_t := frozen_of_blk k_t_92
          have s_t := blk_lt k_t_92
          have c_m_0 := cell_of_blk k_m_92 0
          have c_m_1 := cell_of_blk k_m_92 1
          have c_m_2 := cell_of_blk k_m_92 2
          have c_m_3 := cell_of_blk k_m_92 3
          have c_m_4 := cell_of_blk k_m_92 4
          have c_m_5 := cell_of_blk k_m_92 5
          simp only [List.getElem?_toArray, List.getElem?_cons_zero, List.getElem?_cons_succ] at c_m_0 c_m_1 c_m_2 c_m_3 c_m_4 c_m_5
          have f_m := frozen_of_blk k_m_92
          have s_m := blk_lt k_m_92
          have c_u_0 := cell_of_blk k_u_92 0
          have c_u_1 := cell_of_blk k_u_92 1
          have c_u_2 := cell_of_blk k_u_92 2
          simp only [List.getElem?_toArray, List.getElem?_cons_zero, List.getElem?_cons_succ] at c_u_0 c_u_1 c_u_2
          have f_u := frozen_of_blk k_u_92
          have s_u := blk_lt k_u_92
          have c_l_0 := cell_of_blk k_l_92 0
          have c_l_1 := cell_of_blk k_l_92 1
          have c_l_2 := cell_of_blk k_l_92 2
          have c_l_3 := cell_of_blk k_l_92 3
          have c_l_4 := cell_of_blk k_l_92 4
          have c_l_5 := cell_of_blk k_l_92 5
          have c_l_6 := cell_of_blk k_l_92 6
          have c_l_7 := cell_of_blk k_l_92 7
          have c_l_8 := cell_of_blk k_l_92 8
          have c_l_9 := cell_of_blk k_l_92 9
          have c_l_10 := cell_of_blk k_l_92 10
          have c_l_11 := cell_of_blk k_l_92 11
          simp only [List.getElem?_toArray, List.getElem?_cons_zero, List.getElem?_cons_succ] at c_l_0 c_l_1 c_l_2 c_l_3 c_l_4 c_l_5 c_l_6 c_l_7 c_l_8 c_l_9 c_l_10 c_l_11
          have f_l := frozen_of_blk k_l_92
          have s_l := blk_lt k_l_92
          have c_g_0 := cell_of_blk k_g_92 0
          have c_g_1 := cell_of_blk k_g_92 1
          have c_g_2 := cell_of_blk k_g_92 2
          simp only [List.getElem?_toArray, List.getElem?_cons_zero, List.getElem?_cons_succ] at c_g_0 c_g_1 c_g_2
          have f_g := frozen_of_blk k_g_92
          have s_g := blk_lt k_g_92
          go_wp2
          go_roundw
          case rel => exact ⟨3, by omega, rfl, hw_92⟩
          case measure => simp [intOf]
    · go_wp2
      go_ret
      exact ⟨rfl, hw_9.trans (hbel.mono hw_9.size)⟩
end Go.Proofs.YthfhkmgegkhljaaDoor
