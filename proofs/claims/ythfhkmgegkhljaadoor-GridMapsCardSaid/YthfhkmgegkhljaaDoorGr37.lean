/- The walk of the document's BackOf. Printed by gen_gr36.py. -/
import Derived.Test.YthfhkmgegkhljaaDoorGr36
namespace Go.Proofs.YthfhkmgegkhljaaDoor
set_option linter.unusedSimpArgs false
set_option linter.unusedVariables false
open Go.RowKit

set_option maxRecDepth 100000 in
set_option maxHeartbeats 12800000 in
theorem backOf_any (A : V6) (w : World) (ha : mapMayB A = true) :
    Calls Tryd.prog 26 #[aggM A] w fun e' w' => e' = .returned (aggM (backV A)) ∧ Below w.heap.size w w' := by
  have HSA := Lib.hid (may_sm ha)
  have hlaw : ∀ i, i < 8 → isId i A = true → backI i A = backV A := fun i hi h => back_law ha hi h
  have HL := Lib.hid hlaw
  have hex := back_ex ha
  have HX := Lib.hid hex
  clear hlaw hex ha
  obtain ⟨T0, hT0⟩ : ∃ a : V6, a = afterV A (1, 0, 0, 1, 0, 0) := ⟨_, rfl⟩
  have C0 : Hid (∀ w : World, Calls Tryd.prog 25 #[aggM A, .agg #[.int .i64 1, .int .i64 0, .int .i64 0, .int .i64 1, .int .i64 0, .int .i64 0]] w fun r w' => r = .returned (aggM T0) ∧ Below w.heap.size w w') := Lib.hid (fun w => by
    rw [hT0]
    exact afterOf_V A (1, 0, 0, 1, 0, 0) w HSA.out (bI_sm 0))
  have I0 : Hid (isId 0 A = (decide (T0.1 = 1) && (decide (T0.2.2.2.1 = 1) && (decide (T0.2.1 = 0) && decide (T0.2.2.1 = 0))))) := Lib.hid (by rw [hT0]; rfl)
  have J0 : Hid (backI 0 A = (1, 0, 0, 1, -T0.2.2.2.2.1, -T0.2.2.2.2.2)) := Lib.hid (by rw [hT0]; rfl)
  have M0 : (-4000000 ≤ T0.2.2.2.2.1 ∧ T0.2.2.2.2.1 ≤ 4000000) ∧ (-4000000 ≤ T0.2.2.2.2.2 ∧ T0.2.2.2.2.2 ≤ 4000000) := by
    obtain ⟨_, _, _, _, _, _, _, _, _, _, _, _⟩ := HSA.out
    rw [hT0]
    simp only [afterV]
    omega
  have HT0 := Lib.hid M0
  clear hT0 M0
  obtain ⟨T1, hT1⟩ : ∃ a : V6, a = afterV A ((-1), 0, 0, 1, 0, 0) := ⟨_, rfl⟩
  have C1 : Hid (∀ w : World, Calls Tryd.prog 25 #[aggM A, .agg #[.int .i64 (-1), .int .i64 0, .int .i64 0, .int .i64 1, .int .i64 0, .int .i64 0]] w fun r w' => r = .returned (aggM T1) ∧ Below w.heap.size w w') := Lib.hid (fun w => by
    rw [hT1]
    exact afterOf_V A ((-1), 0, 0, 1, 0, 0) w HSA.out (bI_sm 1))
  have I1 : Hid (isId 1 A = (decide (T1.1 = 1) && (decide (T1.2.2.2.1 = 1) && (decide (T1.2.1 = 0) && decide (T1.2.2.1 = 0))))) := Lib.hid (by rw [hT1]; rfl)
  have J1 : Hid (backI 1 A = ((-1), 0, 0, 1, -T1.2.2.2.2.1, -T1.2.2.2.2.2)) := Lib.hid (by rw [hT1]; rfl)
  have M1 : (-4000000 ≤ T1.2.2.2.2.1 ∧ T1.2.2.2.2.1 ≤ 4000000) ∧ (-4000000 ≤ T1.2.2.2.2.2 ∧ T1.2.2.2.2.2 ≤ 4000000) := by
    obtain ⟨_, _, _, _, _, _, _, _, _, _, _, _⟩ := HSA.out
    rw [hT1]
    simp only [afterV]
    omega
  have HT1 := Lib.hid M1
  clear hT1 M1
  obtain ⟨T2, hT2⟩ : ∃ a : V6, a = afterV A (1, 0, 0, (-1), 0, 0) := ⟨_, rfl⟩
  have C2 : Hid (∀ w : World, Calls Tryd.prog 25 #[aggM A, .agg #[.int .i64 1, .int .i64 0, .int .i64 0, .int .i64 (-1), .int .i64 0, .int .i64 0]] w fun r w' => r = .returned (aggM T2) ∧ Below w.heap.size w w') := Lib.hid (fun w => by
    rw [hT2]
    exact afterOf_V A (1, 0, 0, (-1), 0, 0) w HSA.out (bI_sm 2))
  have I2 : Hid (isId 2 A = (decide (T2.1 = 1) && (decide (T2.2.2.2.1 = 1) && (decide (T2.2.1 = 0) && decide (T2.2.2.1 = 0))))) := Lib.hid (by rw [hT2]; rfl)
  have J2 : Hid (backI 2 A = (1, 0, 0, (-1), -T2.2.2.2.2.1, -T2.2.2.2.2.2)) := Lib.hid (by rw [hT2]; rfl)
  have M2 : (-4000000 ≤ T2.2.2.2.2.1 ∧ T2.2.2.2.2.1 ≤ 4000000) ∧ (-4000000 ≤ T2.2.2.2.2.2 ∧ T2.2.2.2.2.2 ≤ 4000000) := by
    obtain ⟨_, _, _, _, _, _, _, _, _, _, _, _⟩ := HSA.out
    rw [hT2]
    simp only [afterV]
    omega
  have HT2 := Lib.hid M2
  clear hT2 M2
  obtain ⟨T3, hT3⟩ : ∃ a : V6, a = afterV A ((-1), 0, 0, (-1), 0, 0) := ⟨_, rfl⟩
  have C3 : Hid (∀ w : World, Calls Tryd.prog 25 #[aggM A, .agg #[.int .i64 (-1), .int .i64 0, .int .i64 0, .int .i64 (-1), .int .i64 0, .int .i64 0]] w fun r w' => r = .returned (aggM T3) ∧ Below w.heap.size w w') := Lib.hid (fun w => by
    rw [hT3]
    exact afterOf_V A ((-1), 0, 0, (-1), 0, 0) w HSA.out (bI_sm 3))
  have I3 : Hid (isId 3 A = (decide (T3.1 = 1) && (decide (T3.2.2.2.1 = 1) && (decide (T3.2.1 = 0) && decide (T3.2.2.1 = 0))))) := Lib.hid (by rw [hT3]; rfl)
  have J3 : Hid (backI 3 A = ((-1), 0, 0, (-1), -T3.2.2.2.2.1, -T3.2.2.2.2.2)) := Lib.hid (by rw [hT3]; rfl)
  have M3 : (-4000000 ≤ T3.2.2.2.2.1 ∧ T3.2.2.2.2.1 ≤ 4000000) ∧ (-4000000 ≤ T3.2.2.2.2.2 ∧ T3.2.2.2.2.2 ≤ 4000000) := by
    obtain ⟨_, _, _, _, _, _, _, _, _, _, _, _⟩ := HSA.out
    rw [hT3]
    simp only [afterV]
    omega
  have HT3 := Lib.hid M3
  clear hT3 M3
  obtain ⟨T4, hT4⟩ : ∃ a : V6, a = afterV A (0, 1, 1, 0, 0, 0) := ⟨_, rfl⟩
  have C4 : Hid (∀ w : World, Calls Tryd.prog 25 #[aggM A, .agg #[.int .i64 0, .int .i64 1, .int .i64 1, .int .i64 0, .int .i64 0, .int .i64 0]] w fun r w' => r = .returned (aggM T4) ∧ Below w.heap.size w w') := Lib.hid (fun w => by
    rw [hT4]
    exact afterOf_V A (0, 1, 1, 0, 0, 0) w HSA.out (bI_sm 4))
  have I4 : Hid (isId 4 A = (decide (T4.1 = 1) && (decide (T4.2.2.2.1 = 1) && (decide (T4.2.1 = 0) && decide (T4.2.2.1 = 0))))) := Lib.hid (by rw [hT4]; rfl)
  have J4 : Hid (backI 4 A = (0, 1, 1, 0, -T4.2.2.2.2.1, -T4.2.2.2.2.2)) := Lib.hid (by rw [hT4]; rfl)
  have M4 : (-4000000 ≤ T4.2.2.2.2.1 ∧ T4.2.2.2.2.1 ≤ 4000000) ∧ (-4000000 ≤ T4.2.2.2.2.2 ∧ T4.2.2.2.2.2 ≤ 4000000) := by
    obtain ⟨_, _, _, _, _, _, _, _, _, _, _, _⟩ := HSA.out
    rw [hT4]
    simp only [afterV]
    omega
  have HT4 := Lib.hid M4
  clear hT4 M4
  obtain ⟨T5, hT5⟩ : ∃ a : V6, a = afterV A (0, (-1), 1, 0, 0, 0) := ⟨_, rfl⟩
  have C5 : Hid (∀ w : World, Calls Tryd.prog 25 #[aggM A, .agg #[.int .i64 0, .int .i64 (-1), .int .i64 1, .int .i64 0, .int .i64 0, .int .i64 0]] w fun r w' => r = .returned (aggM T5) ∧ Below w.heap.size w w') := Lib.hid (fun w => by
    rw [hT5]
    exact afterOf_V A (0, (-1), 1, 0, 0, 0) w HSA.out (bI_sm 5))
  have I5 : Hid (isId 5 A = (decide (T5.1 = 1) && (decide (T5.2.2.2.1 = 1) && (decide (T5.2.1 = 0) && decide (T5.2.2.1 = 0))))) := Lib.hid (by rw [hT5]; rfl)
  have J5 : Hid (backI 5 A = (0, (-1), 1, 0, -T5.2.2.2.2.1, -T5.2.2.2.2.2)) := Lib.hid (by rw [hT5]; rfl)
  have M5 : (-4000000 ≤ T5.2.2.2.2.1 ∧ T5.2.2.2.2.1 ≤ 4000000) ∧ (-4000000 ≤ T5.2.2.2.2.2 ∧ T5.2.2.2.2.2 ≤ 4000000) := by
    obtain ⟨_, _, _, _, _, _, _, _, _, _, _, _⟩ := HSA.out
    rw [hT5]
    simp only [afterV]
    omega
  have HT5 := Lib.hid M5
  clear hT5 M5
  obtain ⟨T6, hT6⟩ : ∃ a : V6, a = afterV A (0, 1, (-1), 0, 0, 0) := ⟨_, rfl⟩
  have C6 : Hid (∀ w : World, Calls Tryd.prog 25 #[aggM A, .agg #[.int .i64 0, .int .i64 1, .int .i64 (-1), .int .i64 0, .int .i64 0, .int .i64 0]] w fun r w' => r = .returned (aggM T6) ∧ Below w.heap.size w w') := Lib.hid (fun w => by
    rw [hT6]
    exact afterOf_V A (0, 1, (-1), 0, 0, 0) w HSA.out (bI_sm 6))
  have I6 : Hid (isId 6 A = (decide (T6.1 = 1) && (decide (T6.2.2.2.1 = 1) && (decide (T6.2.1 = 0) && decide (T6.2.2.1 = 0))))) := Lib.hid (by rw [hT6]; rfl)
  have J6 : Hid (backI 6 A = (0, 1, (-1), 0, -T6.2.2.2.2.1, -T6.2.2.2.2.2)) := Lib.hid (by rw [hT6]; rfl)
  have M6 : (-4000000 ≤ T6.2.2.2.2.1 ∧ T6.2.2.2.2.1 ≤ 4000000) ∧ (-4000000 ≤ T6.2.2.2.2.2 ∧ T6.2.2.2.2.2 ≤ 4000000) := by
    obtain ⟨_, _, _, _, _, _, _, _, _, _, _, _⟩ := HSA.out
    rw [hT6]
    simp only [afterV]
    omega
  have HT6 := Lib.hid M6
  clear hT6 M6
  obtain ⟨T7, hT7⟩ : ∃ a : V6, a = afterV A (0, (-1), (-1), 0, 0, 0) := ⟨_, rfl⟩
  have C7 : Hid (∀ w : World, Calls Tryd.prog 25 #[aggM A, .agg #[.int .i64 0, .int .i64 (-1), .int .i64 (-1), .int .i64 0, .int .i64 0, .int .i64 0]] w fun r w' => r = .returned (aggM T7) ∧ Below w.heap.size w w') := Lib.hid (fun w => by
    rw [hT7]
    exact afterOf_V A (0, (-1), (-1), 0, 0, 0) w HSA.out (bI_sm 7))
  have I7 : Hid (isId 7 A = (decide (T7.1 = 1) && (decide (T7.2.2.2.1 = 1) && (decide (T7.2.1 = 0) && decide (T7.2.2.1 = 0))))) := Lib.hid (by rw [hT7]; rfl)
  have J7 : Hid (backI 7 A = (0, (-1), (-1), 0, -T7.2.2.2.2.1, -T7.2.2.2.2.2)) := Lib.hid (by rw [hT7]; rfl)
  have M7 : (-4000000 ≤ T7.2.2.2.2.1 ∧ T7.2.2.2.2.1 ≤ 4000000) ∧ (-4000000 ≤ T7.2.2.2.2.2 ∧ T7.2.2.2.2.2 ≤ 4000000) := by
    obtain ⟨_, _, _, _, _, _, _, _, _, _, _, _⟩ := HSA.out
    rw [hT7]
    simp only [afterV]
    omega
  have HT7 := Lib.hid M7
  clear hT7 M7
  go_enter Tryd.func26, Tryd.ntmps26
  go_upto_region 1 with fail
  have k_m_1 : (((w.alloc (.cells #[.int .i64 (A.1), .int .i64 (A.2.1), .int .i64 (A.2.2.1), .int .i64 (A.2.2.2.1), .int .i64 (A.2.2.2.2.1), .int .i64 (A.2.2.2.2.2)] 51)).alloc (.cells #[.int .i64 0, .int .i64 0, .int .i64 0, .int .i64 0, .int .i64 0, .int .i64 0] 51))).heap[w.heap.size]? = some (.cells #[.int .i64 (A.1), .int .i64 (A.2.1), .int .i64 (A.2.2.1), .int .i64 (A.2.2.2.1), .int .i64 (A.2.2.2.2.1), .int .i64 (A.2.2.2.2.2)] 51 (0, 0)) := (blk_alloc (new_blk (.cells #[.int .i64 (A.1), .int .i64 (A.2.1), .int .i64 (A.2.2.1), .int .i64 (A.2.2.2.1), .int .i64 (A.2.2.2.2.1), .int .i64 (A.2.2.2.2.2)] 51) (by first | rfl | (simp; done) | (simp; omega))) _)
  have k_r_1 : (((w.alloc (.cells #[.int .i64 (A.1), .int .i64 (A.2.1), .int .i64 (A.2.2.1), .int .i64 (A.2.2.2.1), .int .i64 (A.2.2.2.2.1), .int .i64 (A.2.2.2.2.2)] 51)).alloc (.cells #[.int .i64 0, .int .i64 0, .int .i64 0, .int .i64 0, .int .i64 0, .int .i64 0] 51))).heap[w.heap.size + 1]? = some (.cells #[.int .i64 0, .int .i64 0, .int .i64 0, .int .i64 0, .int .i64 0, .int .i64 0] 51 (0, 0)) := (new_blk (.cells #[.int .i64 0, .int .i64 0, .int .i64 0, .int .i64 0, .int .i64 0, .int .i64 0] 51) (by first | rfl | (simp; done) | (simp; omega)))
  have hw_1 : Below w.heap.size w (((w.alloc (.cells #[.int .i64 (A.1), .int .i64 (A.2.1), .int .i64 (A.2.2.1), .int .i64 (A.2.2.2.1), .int .i64 (A.2.2.2.2.1), .int .i64 (A.2.2.2.2.2)] 51)).alloc (.cells #[.int .i64 0, .int .i64 0, .int .i64 0, .int .i64 0, .int .i64 0, .int .i64 0] 51))) := (ba (ba (Below.refl _ _) _) _)
  generalize (((w.alloc (.cells #[.int .i64 (A.1), .int .i64 (A.2.1), .int .i64 (A.2.2.1), .int .i64 (A.2.2.2.1), .int .i64 (A.2.2.2.2.1), .int .i64 (A.2.2.2.2.2)] 51)).alloc (.cells #[.int .i64 0, .int .i64 0, .int .i64 0, .int .i64 0, .int .i64 0, .int .i64 0] 51))) = w0 at k_m_1 k_r_1 hw_1 ⊢
  go_wp2
  go_loopw [3] (fun i wr => ∃ n : Nat, n ≤ 8 ∧ i = .int .i64 n ∧ (∀ j, j < n → isId j A = false) ∧ Below w0.heap.size w0 wr) (fun i _ => 8 - (intOf i).toNat)
  case atStart => exact ⟨0, by omega, rfl, fun j hj => absurd hj (by omega), Below.refl _ _⟩
  case round =>
    obtain ⟨n, hn, rfl, g, hbel⟩ := hrel
    have G := Lib.hid g
    clear g
    have k_m_50 := blk_below k_m_1 hbel (blk_lt k_m_1)
    have k_r_50 := blk_below k_r_1 hbel (blk_lt k_r_1)
    have hw_50 : Below w.heap.size w wr := hw_1.trans (hbel.mono hw_1.size)
    clear k_m_1 k_r_1 hw_1
    have hn9 : n = 0 ∨ n = 1 ∨ n = 2 ∨ n = 3 ∨ n = 4 ∨ n = 5 ∨ n = 6 ∨ n = 7 ∨ n = 8 := by omega
    rcases hn9 with rfl | rfl | rfl | rfl | rfl | rfl | rfl | rfl | rfl
    · clear C1 I1 J1 HT1 C2 I2 J2 HT2 C3 I3 J3 HT3 C4 I4 J4 HT4 C5 I5 J5 HT5 C6 I6 J6 HT6 C7 I7 J7 HT7
      obtain ⟨u0, u1, u2, u3, u4, u5⟩ := T0
      have c5 := C0.out
      have i5 := I0.out
      have j5 := J0.out
      have m5 := HT0.out
      simp only at c5 i5 j5 m5
      clear C0 I0 J0 HT0
      have C5 := Lib.hid c5
      have I5 := Lib.hid i5
      have J5 := Lib.hid j5
      have M5 := Lib.hid m5
      clear c5 i5 j5 m5
      have c_m_0 := cell_of_blk k_m_50 0
      have c_m_1 := cell_of_blk k_m_50 1
      have c_m_2 := cell_of_blk k_m_50 2
      have c_m_3 := cell_of_blk k_m_50 3
      have c_m_4 := cell_of_blk k_m_50 4
      have c_m_5 := cell_of_blk k_m_50 5
      simp only [List.getElem?_toArray, List.getElem?_cons_zero, List.getElem?_cons_succ] at c_m_0 c_m_1 c_m_2 c_m_3 c_m_4 c_m_5
      have f_m := frozen_of_blk k_m_50
      have s_m := blk_lt k_m_50
      have c_r_0 := cell_of_blk k_r_50 0
      have c_r_1 := cell_of_blk k_r_50 1
      have c_r_2 := cell_of_blk k_r_50 2
      have c_r_3 := cell_of_blk k_r_50 3
      have c_r_4 := cell_of_blk k_r_50 4
      have c_r_5 := cell_of_blk k_r_50 5
      simp only [List.getElem?_toArray, List.getElem?_cons_zero, List.getElem?_cons_succ] at c_r_0 c_r_1 c_r_2 c_r_3 c_r_4 c_r_5
      have f_r := frozen_of_blk k_r_50
      have s_r := blk_lt k_r_50
      have hrb : w.heap.size + 1 < wr.heap.size := s_r
      have hrc : w.heap.size + 1 ≠ wr.heap.size := by omega
      have hrd : wr.heap.size ≠ w.heap.size + 1 := by omega
      go_wp2_with fail
      refine (C5.out _).mono ?_
      rintro e w51 ⟨rfl, hb51⟩
      have k_m_51 : w51.heap[w.heap.size]? = some (.cells #[.int .i64 (A.1), .int .i64 (A.2.1), .int .i64 (A.2.2.1), .int .i64 (A.2.2.2.1), .int .i64 (A.2.2.2.2.1), .int .i64 (A.2.2.2.2.2)] 51 (0, 0)) := blk_below (blk_alloc k_m_50 _) hb51 (blk_lt (blk_alloc k_m_50 _))
      have k_r_51 : w51.heap[w.heap.size + 1]? = some (.cells #[.int .i64 0, .int .i64 0, .int .i64 0, .int .i64 0, .int .i64 0, .int .i64 0] 51 (0, 0)) := blk_below (blk_alloc k_r_50 _) hb51 (blk_lt (blk_alloc k_r_50 _))
      have k_b_51 : w51.heap[wr.heap.size]? = some (.cells #[.int .i64 1, .int .i64 0, .int .i64 0, .int .i64 1, .int .i64 0, .int .i64 0] 51 (0, 0)) := blk_below (new_blk (.cells #[.int .i64 1, .int .i64 0, .int .i64 0, .int .i64 1, .int .i64 0, .int .i64 0] 51) (by first | rfl | (simp; done) | (simp; omega))) hb51 (by first | (simp; done) | (simp; omega))
      have hw_51 : Below w.heap.size w w51 := stay_b (ba hw_50 _) hb51
      have hbq := stay_b (ba hbel _) hb51
      clear c_m_0 c_m_1 c_m_2 c_m_3 c_m_4 c_m_5 f_m s_m c_r_0 c_r_1 c_r_2 c_r_3 c_r_4 c_r_5 f_r s_r k_m_50 k_r_50 hb51 hw_50
      have c_m_0 := cell_of_blk k_m_51 0
      have c_m_1 := cell_of_blk k_m_51 1
      have c_m_2 := cell_of_blk k_m_51 2
      have c_m_3 := cell_of_blk k_m_51 3
      have c_m_4 := cell_of_blk k_m_51 4
      have c_m_5 := cell_of_blk k_m_51 5
      simp only [List.getElem?_toArray, List.getElem?_cons_zero, List.getElem?_cons_succ] at c_m_0 c_m_1 c_m_2 c_m_3 c_m_4 c_m_5
      have f_m := frozen_of_blk k_m_51
      have s_m := blk_lt k_m_51
      have c_r_0 := cell_of_blk k_r_51 0
      have c_r_1 := cell_of_blk k_r_51 1
      have c_r_2 := cell_of_blk k_r_51 2
      have c_r_3 := cell_of_blk k_r_51 3
      have c_r_4 := cell_of_blk k_r_51 4
      have c_r_5 := cell_of_blk k_r_51 5
      simp only [List.getElem?_toArray, List.getElem?_cons_zero, List.getElem?_cons_succ] at c_r_0 c_r_1 c_r_2 c_r_3 c_r_4 c_r_5
      have f_r := frozen_of_blk k_r_51
      have s_r := blk_lt k_r_51
      have c_b_0 := cell_of_blk k_b_51 0
      have c_b_1 := cell_of_blk k_b_51 1
      have c_b_2 := cell_of_blk k_b_51 2
      have c_b_3 := cell_of_blk k_b_51 3
      have c_b_4 := cell_of_blk k_b_51 4
      have c_b_5 := cell_of_blk k_b_51 5
      simp only [List.getElem?_toArray, List.getElem?_cons_zero, List.getElem?_cons_succ] at c_b_0 c_b_1 c_b_2 c_b_3 c_b_4 c_b_5
      have f_b := frozen_of_blk k_b_51
      have s_b := blk_lt k_b_51
      skip
      obtain ⟨⟨_, _⟩, _, _⟩ := M5.out
      by_cases t0 : u0 = 1
      rotate_left
      · have Q : Hid (isId 0 A = false) := Lib.hid (by rw [I5.out]; simp [t0])
        go_wp2
        go_roundw
        case rel => exact ⟨1, by omega, rfl, upto_next G.out Q.out, ba hbq _⟩
        case measure => simp [intOf]
      subst t0
      by_cases t1 : u3 = 1
      rotate_left
      · have Q : Hid (isId 0 A = false) := Lib.hid (by rw [I5.out]; simp [t1])
        go_wp2
        go_roundw
        case rel => exact ⟨1, by omega, rfl, upto_next G.out Q.out, ba hbq _⟩
        case measure => simp [intOf]
      subst t1
      by_cases t2 : u1 = 0
      rotate_left
      · have Q : Hid (isId 0 A = false) := Lib.hid (by rw [I5.out]; simp [t2])
        go_wp2
        go_roundw
        case rel => exact ⟨1, by omega, rfl, upto_next G.out Q.out, ba hbq _⟩
        case measure => simp [intOf]
      subst t2
      by_cases t3 : u2 = 0
      rotate_left
      · have Q : Hid (isId 0 A = false) := Lib.hid (by rw [I5.out]; simp [t3])
        go_wp2
        go_roundw
        case rel => exact ⟨1, by omega, rfl, upto_next G.out Q.out, ba hbq _⟩
        case measure => simp [intOf]
      subst t3
      have q0 : isId 0 A = true := by rw [I5.out]; rfl
      have q1 : backI 0 A = backV A := HL.out 0 (by decide) q0
      have q2 := J5.out
      rw [q1] at q2
      have Q := Lib.hid q2
      clear q0 q1 q2
      go_wp2_with fail
      go_region
      all_goals go_wp2
      refine bodyPost_ret (v := .agg #[.int .i64 1, .int .i64 0, .int .i64 0, .int .i64 1, .int .i64 (-u4), .int .i64 (-u5)]) (by simp [results, Tryd.results26, go_sem, c_r_0, c_r_1, c_r_2, c_r_3, c_r_4, c_r_5, World.cell?_alloc_lt, World.size_setCell, s_r]) rfl ⟨by rw [Q.out], ?_⟩
      exact (ba (set6_below ((hw_51.setCell (show w.heap.size ≤ wr.heap.size by omega) _).setCell (show w.heap.size ≤ wr.heap.size by omega) _) _ (by omega) _ _ _ _ _ _) _).drew
    · clear C0 I0 J0 HT0 C2 I2 J2 HT2 C3 I3 J3 HT3 C4 I4 J4 HT4 C5 I5 J5 HT5 C6 I6 J6 HT6 C7 I7 J7 HT7
      obtain ⟨u0, u1, u2, u3, u4, u5⟩ := T1
      have c5 := C1.out
      have i5 := I1.out
      have j5 := J1.out
      have m5 := HT1.out
      simp only at c5 i5 j5 m5
      clear C1 I1 J1 HT1
      have C5 := Lib.hid c5
      have I5 := Lib.hid i5
      have J5 := Lib.hid j5
      have M5 := Lib.hid m5
      clear c5 i5 j5 m5
      have c_m_0 := cell_of_blk k_m_50 0
      have c_m_1 := cell_of_blk k_m_50 1
      have c_m_2 := cell_of_blk k_m_50 2
      have c_m_3 := cell_of_blk k_m_50 3
      have c_m_4 := cell_of_blk k_m_50 4
      have c_m_5 := cell_of_blk k_m_50 5
      simp only [List.getElem?_toArray, List.getElem?_cons_zero, List.getElem?_cons_succ] at c_m_0 c_m_1 c_m_2 c_m_3 c_m_4 c_m_5
      have f_m := frozen_of_blk k_m_50
      have s_m := blk_lt k_m_50
      have c_r_0 := cell_of_blk k_r_50 0
      have c_r_1 := cell_of_blk k_r_50 1
      have c_r_2 := cell_of_blk k_r_50 2
      have c_r_3 := cell_of_blk k_r_50 3
      have c_r_4 := cell_of_blk k_r_50 4
      have c_r_5 := cell_of_blk k_r_50 5
      simp only [List.getElem?_toArray, List.getElem?_cons_zero, List.getElem?_cons_succ] at c_r_0 c_r_1 c_r_2 c_r_3 c_r_4 c_r_5
      have f_r := frozen_of_blk k_r_50
      have s_r := blk_lt k_r_50
      have hrb : w.heap.size + 1 < wr.heap.size := s_r
      have hrc : w.heap.size + 1 ≠ wr.heap.size := by omega
      have hrd : wr.heap.size ≠ w.heap.size + 1 := by omega
      go_wp2_with fail
      refine (C5.out _).mono ?_
      rintro e w51 ⟨rfl, hb51⟩
      have k_m_51 : w51.heap[w.heap.size]? = some (.cells #[.int .i64 (A.1), .int .i64 (A.2.1), .int .i64 (A.2.2.1), .int .i64 (A.2.2.2.1), .int .i64 (A.2.2.2.2.1), .int .i64 (A.2.2.2.2.2)] 51 (0, 0)) := blk_below (blk_alloc k_m_50 _) hb51 (blk_lt (blk_alloc k_m_50 _))
      have k_r_51 : w51.heap[w.heap.size + 1]? = some (.cells #[.int .i64 0, .int .i64 0, .int .i64 0, .int .i64 0, .int .i64 0, .int .i64 0] 51 (0, 0)) := blk_below (blk_alloc k_r_50 _) hb51 (blk_lt (blk_alloc k_r_50 _))
      have k_b_51 : w51.heap[wr.heap.size]? = some (.cells #[.int .i64 (-1), .int .i64 0, .int .i64 0, .int .i64 1, .int .i64 0, .int .i64 0] 51 (0, 0)) := blk_below (new_blk (.cells #[.int .i64 (-1), .int .i64 0, .int .i64 0, .int .i64 1, .int .i64 0, .int .i64 0] 51) (by first | rfl | (simp; done) | (simp; omega))) hb51 (by first | (simp; done) | (simp; omega))
      have hw_51 : Below w.heap.size w w51 := stay_b (ba hw_50 _) hb51
      have hbq := stay_b (ba hbel _) hb51
      clear c_m_0 c_m_1 c_m_2 c_m_3 c_m_4 c_m_5 f_m s_m c_r_0 c_r_1 c_r_2 c_r_3 c_r_4 c_r_5 f_r s_r k_m_50 k_r_50 hb51 hw_50
      have c_m_0 := cell_of_blk k_m_51 0
      have c_m_1 := cell_of_blk k_m_51 1
      have c_m_2 := cell_of_blk k_m_51 2
      have c_m_3 := cell_of_blk k_m_51 3
      have c_m_4 := cell_of_blk k_m_51 4
      have c_m_5 := cell_of_blk k_m_51 5
      simp only [List.getElem?_toArray, List.getElem?_cons_zero, List.getElem?_cons_succ] at c_m_0 c_m_1 c_m_2 c_m_3 c_m_4 c_m_5
      have f_m := frozen_of_blk k_m_51
      have s_m := blk_lt k_m_51
      have c_r_0 := cell_of_blk k_r_51 0
      have c_r_1 := cell_of_blk k_r_51 1
      have c_r_2 := cell_of_blk k_r_51 2
      have c_r_3 := cell_of_blk k_r_51 3
      have c_r_4 := cell_of_blk k_r_51 4
      have c_r_5 := cell_of_blk k_r_51 5
      simp only [List.getElem?_toArray, List.getElem?_cons_zero, List.getElem?_cons_succ] at c_r_0 c_r_1 c_r_2 c_r_3 c_r_4 c_r_5
      have f_r := frozen_of_blk k_r_51
      have s_r := blk_lt k_r_51
      have c_b_0 := cell_of_blk k_b_51 0
      have c_b_1 := cell_of_blk k_b_51 1
      have c_b_2 := cell_of_blk k_b_51 2
      have c_b_3 := cell_of_blk k_b_51 3
      have c_b_4 := cell_of_blk k_b_51 4
      have c_b_5 := cell_of_blk k_b_51 5
      simp only [List.getElem?_toArray, List.getElem?_cons_zero, List.getElem?_cons_succ] at c_b_0 c_b_1 c_b_2 c_b_3 c_b_4 c_b_5
      have f_b := frozen_of_blk k_b_51
      have s_b := blk_lt k_b_51
      skip
      obtain ⟨⟨_, _⟩, _, _⟩ := M5.out
      by_cases t0 : u0 = 1
      rotate_left
      · have Q : Hid (isId 1 A = false) := Lib.hid (by rw [I5.out]; simp [t0])
        go_wp2
        go_roundw
        case rel => exact ⟨2, by omega, rfl, upto_next G.out Q.out, ba hbq _⟩
        case measure => simp [intOf]
      subst t0
      by_cases t1 : u3 = 1
      rotate_left
      · have Q : Hid (isId 1 A = false) := Lib.hid (by rw [I5.out]; simp [t1])
        go_wp2
        go_roundw
        case rel => exact ⟨2, by omega, rfl, upto_next G.out Q.out, ba hbq _⟩
        case measure => simp [intOf]
      subst t1
      by_cases t2 : u1 = 0
      rotate_left
      · have Q : Hid (isId 1 A = false) := Lib.hid (by rw [I5.out]; simp [t2])
        go_wp2
        go_roundw
        case rel => exact ⟨2, by omega, rfl, upto_next G.out Q.out, ba hbq _⟩
        case measure => simp [intOf]
      subst t2
      by_cases t3 : u2 = 0
      rotate_left
      · have Q : Hid (isId 1 A = false) := Lib.hid (by rw [I5.out]; simp [t3])
        go_wp2
        go_roundw
        case rel => exact ⟨2, by omega, rfl, upto_next G.out Q.out, ba hbq _⟩
        case measure => simp [intOf]
      subst t3
      have q0 : isId 1 A = true := by rw [I5.out]; rfl
      have q1 : backI 1 A = backV A := HL.out 1 (by decide) q0
      have q2 := J5.out
      rw [q1] at q2
      have Q := Lib.hid q2
      clear q0 q1 q2
      go_wp2_with fail
      go_region
      all_goals go_wp2
      refine bodyPost_ret (v := .agg #[.int .i64 (-1), .int .i64 0, .int .i64 0, .int .i64 1, .int .i64 (-u4), .int .i64 (-u5)]) (by simp [results, Tryd.results26, go_sem, c_r_0, c_r_1, c_r_2, c_r_3, c_r_4, c_r_5, World.cell?_alloc_lt, World.size_setCell, s_r]) rfl ⟨by rw [Q.out], ?_⟩
      exact (ba (set6_below ((hw_51.setCell (show w.heap.size ≤ wr.heap.size by omega) _).setCell (show w.heap.size ≤ wr.heap.size by omega) _) _ (by omega) _ _ _ _ _ _) _).drew
    · clear C0 I0 J0 HT0 C1 I1 J1 HT1 C3 I3 J3 HT3 C4 I4 J4 HT4 C5 I5 J5 HT5 C6 I6 J6 HT6 C7 I7 J7 HT7
      obtain ⟨u0, u1, u2, u3, u4, u5⟩ := T2
      have c5 := C2.out
      have i5 := I2.out
      have j5 := J2.out
      have m5 := HT2.out
      simp only at c5 i5 j5 m5
      clear C2 I2 J2 HT2
      have C5 := Lib.hid c5
      have I5 := Lib.hid i5
      have J5 := Lib.hid j5
      have M5 := Lib.hid m5
      clear c5 i5 j5 m5
      have c_m_0 := cell_of_blk k_m_50 0
      have c_m_1 := cell_of_blk k_m_50 1
      have c_m_2 := cell_of_blk k_m_50 2
      have c_m_3 := cell_of_blk k_m_50 3
      have c_m_4 := cell_of_blk k_m_50 4
      have c_m_5 := cell_of_blk k_m_50 5
      simp only [List.getElem?_toArray, List.getElem?_cons_zero, List.getElem?_cons_succ] at c_m_0 c_m_1 c_m_2 c_m_3 c_m_4 c_m_5
      have f_m := frozen_of_blk k_m_50
      have s_m := blk_lt k_m_50
      have c_r_0 := cell_of_blk k_r_50 0
      have c_r_1 := cell_of_blk k_r_50 1
      have c_r_2 := cell_of_blk k_r_50 2
      have c_r_3 := cell_of_blk k_r_50 3
      have c_r_4 := cell_of_blk k_r_50 4
      have c_r_5 := cell_of_blk k_r_50 5
      simp only [List.getElem?_toArray, List.getElem?_cons_zero, List.getElem?_cons_succ] at c_r_0 c_r_1 c_r_2 c_r_3 c_r_4 c_r_5
      have f_r := frozen_of_blk k_r_50
      have s_r := blk_lt k_r_50
      have hrb : w.heap.size + 1 < wr.heap.size := s_r
      have hrc : w.heap.size + 1 ≠ wr.heap.size := by omega
      have hrd : wr.heap.size ≠ w.heap.size + 1 := by omega
      go_wp2_with fail
      refine (C5.out _).mono ?_
      rintro e w51 ⟨rfl, hb51⟩
      have k_m_51 : w51.heap[w.heap.size]? = some (.cells #[.int .i64 (A.1), .int .i64 (A.2.1), .int .i64 (A.2.2.1), .int .i64 (A.2.2.2.1), .int .i64 (A.2.2.2.2.1), .int .i64 (A.2.2.2.2.2)] 51 (0, 0)) := blk_below (blk_alloc k_m_50 _) hb51 (blk_lt (blk_alloc k_m_50 _))
      have k_r_51 : w51.heap[w.heap.size + 1]? = some (.cells #[.int .i64 0, .int .i64 0, .int .i64 0, .int .i64 0, .int .i64 0, .int .i64 0] 51 (0, 0)) := blk_below (blk_alloc k_r_50 _) hb51 (blk_lt (blk_alloc k_r_50 _))
      have k_b_51 : w51.heap[wr.heap.size]? = some (.cells #[.int .i64 1, .int .i64 0, .int .i64 0, .int .i64 (-1), .int .i64 0, .int .i64 0] 51 (0, 0)) := blk_below (new_blk (.cells #[.int .i64 1, .int .i64 0, .int .i64 0, .int .i64 (-1), .int .i64 0, .int .i64 0] 51) (by first | rfl | (simp; done) | (simp; omega))) hb51 (by first | (simp; done) | (simp; omega))
      have hw_51 : Below w.heap.size w w51 := stay_b (ba hw_50 _) hb51
      have hbq := stay_b (ba hbel _) hb51
      clear c_m_0 c_m_1 c_m_2 c_m_3 c_m_4 c_m_5 f_m s_m c_r_0 c_r_1 c_r_2 c_r_3 c_r_4 c_r_5 f_r s_r k_m_50 k_r_50 hb51 hw_50
      have c_m_0 := cell_of_blk k_m_51 0
      have c_m_1 := cell_of_blk k_m_51 1
      have c_m_2 := cell_of_blk k_m_51 2
      have c_m_3 := cell_of_blk k_m_51 3
      have c_m_4 := cell_of_blk k_m_51 4
      have c_m_5 := cell_of_blk k_m_51 5
      simp only [List.getElem?_toArray, List.getElem?_cons_zero, List.getElem?_cons_succ] at c_m_0 c_m_1 c_m_2 c_m_3 c_m_4 c_m_5
      have f_m := frozen_of_blk k_m_51
      have s_m := blk_lt k_m_51
      have c_r_0 := cell_of_blk k_r_51 0
      have c_r_1 := cell_of_blk k_r_51 1
      have c_r_2 := cell_of_blk k_r_51 2
      have c_r_3 := cell_of_blk k_r_51 3
      have c_r_4 := cell_of_blk k_r_51 4
      have c_r_5 := cell_of_blk k_r_51 5
      simp only [List.getElem?_toArray, List.getElem?_cons_zero, List.getElem?_cons_succ] at c_r_0 c_r_1 c_r_2 c_r_3 c_r_4 c_r_5
      have f_r := frozen_of_blk k_r_51
      have s_r := blk_lt k_r_51
      have c_b_0 := cell_of_blk k_b_51 0
      have c_b_1 := cell_of_blk k_b_51 1
      have c_b_2 := cell_of_blk k_b_51 2
      have c_b_3 := cell_of_blk k_b_51 3
      have c_b_4 := cell_of_blk k_b_51 4
      have c_b_5 := cell_of_blk k_b_51 5
      simp only [List.getElem?_toArray, List.getElem?_cons_zero, List.getElem?_cons_succ] at c_b_0 c_b_1 c_b_2 c_b_3 c_b_4 c_b_5
      have f_b := frozen_of_blk k_b_51
      have s_b := blk_lt k_b_51
      skip
      obtain ⟨⟨_, _⟩, _, _⟩ := M5.out
      by_cases t0 : u0 = 1
      rotate_left
      · have Q : Hid (isId 2 A = false) := Lib.hid (by rw [I5.out]; simp [t0])
        go_wp2
        go_roundw
        case rel => exact ⟨3, by omega, rfl, upto_next G.out Q.out, ba hbq _⟩
        case measure => simp [intOf]
      subst t0
      by_cases t1 : u3 = 1
      rotate_left
      · have Q : Hid (isId 2 A = false) := Lib.hid (by rw [I5.out]; simp [t1])
        go_wp2
        go_roundw
        case rel => exact ⟨3, by omega, rfl, upto_next G.out Q.out, ba hbq _⟩
        case measure => simp [intOf]
      subst t1
      by_cases t2 : u1 = 0
      rotate_left
      · have Q : Hid (isId 2 A = false) := Lib.hid (by rw [I5.out]; simp [t2])
        go_wp2
        go_roundw
        case rel => exact ⟨3, by omega, rfl, upto_next G.out Q.out, ba hbq _⟩
        case measure => simp [intOf]
      subst t2
      by_cases t3 : u2 = 0
      rotate_left
      · have Q : Hid (isId 2 A = false) := Lib.hid (by rw [I5.out]; simp [t3])
        go_wp2
        go_roundw
        case rel => exact ⟨3, by omega, rfl, upto_next G.out Q.out, ba hbq _⟩
        case measure => simp [intOf]
      subst t3
      have q0 : isId 2 A = true := by rw [I5.out]; rfl
      have q1 : backI 2 A = backV A := HL.out 2 (by decide) q0
      have q2 := J5.out
      rw [q1] at q2
      have Q := Lib.hid q2
      clear q0 q1 q2
      go_wp2_with fail
      go_region
      all_goals go_wp2
      refine bodyPost_ret (v := .agg #[.int .i64 1, .int .i64 0, .int .i64 0, .int .i64 (-1), .int .i64 (-u4), .int .i64 (-u5)]) (by simp [results, Tryd.results26, go_sem, c_r_0, c_r_1, c_r_2, c_r_3, c_r_4, c_r_5, World.cell?_alloc_lt, World.size_setCell, s_r]) rfl ⟨by rw [Q.out], ?_⟩
      exact (ba (set6_below ((hw_51.setCell (show w.heap.size ≤ wr.heap.size by omega) _).setCell (show w.heap.size ≤ wr.heap.size by omega) _) _ (by omega) _ _ _ _ _ _) _).drew
    · clear C0 I0 J0 HT0 C1 I1 J1 HT1 C2 I2 J2 HT2 C4 I4 J4 HT4 C5 I5 J5 HT5 C6 I6 J6 HT6 C7 I7 J7 HT7
      obtain ⟨u0, u1, u2, u3, u4, u5⟩ := T3
      have c5 := C3.out
      have i5 := I3.out
      have j5 := J3.out
      have m5 := HT3.out
      simp only at c5 i5 j5 m5
      clear C3 I3 J3 HT3
      have C5 := Lib.hid c5
      have I5 := Lib.hid i5
      have J5 := Lib.hid j5
      have M5 := Lib.hid m5
      clear c5 i5 j5 m5
      have c_m_0 := cell_of_blk k_m_50 0
      have c_m_1 := cell_of_blk k_m_50 1
      have c_m_2 := cell_of_blk k_m_50 2
      have c_m_3 := cell_of_blk k_m_50 3
      have c_m_4 := cell_of_blk k_m_50 4
      have c_m_5 := cell_of_blk k_m_50 5
      simp only [List.getElem?_toArray, List.getElem?_cons_zero, List.getElem?_cons_succ] at c_m_0 c_m_1 c_m_2 c_m_3 c_m_4 c_m_5
      have f_m := frozen_of_blk k_m_50
      have s_m := blk_lt k_m_50
      have c_r_0 := cell_of_blk k_r_50 0
      have c_r_1 := cell_of_blk k_r_50 1
      have c_r_2 := cell_of_blk k_r_50 2
      have c_r_3 := cell_of_blk k_r_50 3
      have c_r_4 := cell_of_blk k_r_50 4
      have c_r_5 := cell_of_blk k_r_50 5
      simp only [List.getElem?_toArray, List.getElem?_cons_zero, List.getElem?_cons_succ] at c_r_0 c_r_1 c_r_2 c_r_3 c_r_4 c_r_5
      have f_r := frozen_of_blk k_r_50
      have s_r := blk_lt k_r_50
      have hrb : w.heap.size + 1 < wr.heap.size := s_r
      have hrc : w.heap.size + 1 ≠ wr.heap.size := by omega
      have hrd : wr.heap.size ≠ w.heap.size + 1 := by omega
      go_wp2_with fail
      refine (C5.out _).mono ?_
      rintro e w51 ⟨rfl, hb51⟩
      have k_m_51 : w51.heap[w.heap.size]? = some (.cells #[.int .i64 (A.1), .int .i64 (A.2.1), .int .i64 (A.2.2.1), .int .i64 (A.2.2.2.1), .int .i64 (A.2.2.2.2.1), .int .i64 (A.2.2.2.2.2)] 51 (0, 0)) := blk_below (blk_alloc k_m_50 _) hb51 (blk_lt (blk_alloc k_m_50 _))
      have k_r_51 : w51.heap[w.heap.size + 1]? = some (.cells #[.int .i64 0, .int .i64 0, .int .i64 0, .int .i64 0, .int .i64 0, .int .i64 0] 51 (0, 0)) := blk_below (blk_alloc k_r_50 _) hb51 (blk_lt (blk_alloc k_r_50 _))
      have k_b_51 : w51.heap[wr.heap.size]? = some (.cells #[.int .i64 (-1), .int .i64 0, .int .i64 0, .int .i64 (-1), .int .i64 0, .int .i64 0] 51 (0, 0)) := blk_below (new_blk (.cells #[.int .i64 (-1), .int .i64 0, .int .i64 0, .int .i64 (-1), .int .i64 0, .int .i64 0] 51) (by first | rfl | (simp; done) | (simp; omega))) hb51 (by first | (simp; done) | (simp; omega))
      have hw_51 : Below w.heap.size w w51 := stay_b (ba hw_50 _) hb51
      have hbq := stay_b (ba hbel _) hb51
      clear c_m_0 c_m_1 c_m_2 c_m_3 c_m_4 c_m_5 f_m s_m c_r_0 c_r_1 c_r_2 c_r_3 c_r_4 c_r_5 f_r s_r k_m_50 k_r_50 hb51 hw_50
      have c_m_0 := cell_of_blk k_m_51 0
      have c_m_1 := cell_of_blk k_m_51 1
      have c_m_2 := cell_of_blk k_m_51 2
      have c_m_3 := cell_of_blk k_m_51 3
      have c_m_4 := cell_of_blk k_m_51 4
      have c_m_5 := cell_of_blk k_m_51 5
      simp only [List.getElem?_toArray, List.getElem?_cons_zero, List.getElem?_cons_succ] at c_m_0 c_m_1 c_m_2 c_m_3 c_m_4 c_m_5
      have f_m := frozen_of_blk k_m_51
      have s_m := blk_lt k_m_51
      have c_r_0 := cell_of_blk k_r_51 0
      have c_r_1 := cell_of_blk k_r_51 1
      have c_r_2 := cell_of_blk k_r_51 2
      have c_r_3 := cell_of_blk k_r_51 3
      have c_r_4 := cell_of_blk k_r_51 4
      have c_r_5 := cell_of_blk k_r_51 5
      simp only [List.getElem?_toArray, List.getElem?_cons_zero, List.getElem?_cons_succ] at c_r_0 c_r_1 c_r_2 c_r_3 c_r_4 c_r_5
      have f_r := frozen_of_blk k_r_51
      have s_r := blk_lt k_r_51
      have c_b_0 := cell_of_blk k_b_51 0
      have c_b_1 := cell_of_blk k_b_51 1
      have c_b_2 := cell_of_blk k_b_51 2
      have c_b_3 := cell_of_blk k_b_51 3
      have c_b_4 := cell_of_blk k_b_51 4
      have c_b_5 := cell_of_blk k_b_51 5
      simp only [List.getElem?_toArray, List.getElem?_cons_zero, List.getElem?_cons_succ] at c_b_0 c_b_1 c_b_2 c_b_3 c_b_4 c_b_5
      have f_b := frozen_of_blk k_b_51
      have s_b := blk_lt k_b_51
      skip
      obtain ⟨⟨_, _⟩, _, _⟩ := M5.out
      by_cases t0 : u0 = 1
      rotate_left
      · have Q : Hid (isId 3 A = false) := Lib.hid (by rw [I5.out]; simp [t0])
        go_wp2
        go_roundw
        case rel => exact ⟨4, by omega, rfl, upto_next G.out Q.out, ba hbq _⟩
        case measure => simp [intOf]
      subst t0
      by_cases t1 : u3 = 1
      rotate_left
      · have Q : Hid (isId 3 A = false) := Lib.hid (by rw [I5.out]; simp [t1])
        go_wp2
        go_roundw
        case rel => exact ⟨4, by omega, rfl, upto_next G.out Q.out, ba hbq _⟩
        case measure => simp [intOf]
      subst t1
      by_cases t2 : u1 = 0
      rotate_left
      · have Q : Hid (isId 3 A = false) := Lib.hid (by rw [I5.out]; simp [t2])
        go_wp2
        go_roundw
        case rel => exact ⟨4, by omega, rfl, upto_next G.out Q.out, ba hbq _⟩
        case measure => simp [intOf]
      subst t2
      by_cases t3 : u2 = 0
      rotate_left
      · have Q : Hid (isId 3 A = false) := Lib.hid (by rw [I5.out]; simp [t3])
        go_wp2
        go_roundw
        case rel => exact ⟨4, by omega, rfl, upto_next G.out Q.out, ba hbq _⟩
        case measure => simp [intOf]
      subst t3
      have q0 : isId 3 A = true := by rw [I5.out]; rfl
      have q1 : backI 3 A = backV A := HL.out 3 (by decide) q0
      have q2 := J5.out
      rw [q1] at q2
      have Q := Lib.hid q2
      clear q0 q1 q2
      go_wp2_with fail
      go_region
      all_goals go_wp2
      refine bodyPost_ret (v := .agg #[.int .i64 (-1), .int .i64 0, .int .i64 0, .int .i64 (-1), .int .i64 (-u4), .int .i64 (-u5)]) (by simp [results, Tryd.results26, go_sem, c_r_0, c_r_1, c_r_2, c_r_3, c_r_4, c_r_5, World.cell?_alloc_lt, World.size_setCell, s_r]) rfl ⟨by rw [Q.out], ?_⟩
      exact (ba (set6_below ((hw_51.setCell (show w.heap.size ≤ wr.heap.size by omega) _).setCell (show w.heap.size ≤ wr.heap.size by omega) _) _ (by omega) _ _ _ _ _ _) _).drew
    · clear C0 I0 J0 HT0 C1 I1 J1 HT1 C2 I2 J2 HT2 C3 I3 J3 HT3 C5 I5 J5 HT5 C6 I6 J6 HT6 C7 I7 J7 HT7
      obtain ⟨u0, u1, u2, u3, u4, u5⟩ := T4
      have c5 := C4.out
      have i5 := I4.out
      have j5 := J4.out
      have m5 := HT4.out
      simp only at c5 i5 j5 m5
      clear C4 I4 J4 HT4
      have C5 := Lib.hid c5
      have I5 := Lib.hid i5
      have J5 := Lib.hid j5
      have M5 := Lib.hid m5
      clear c5 i5 j5 m5
      have c_m_0 := cell_of_blk k_m_50 0
      have c_m_1 := cell_of_blk k_m_50 1
      have c_m_2 := cell_of_blk k_m_50 2
      have c_m_3 := cell_of_blk k_m_50 3
      have c_m_4 := cell_of_blk k_m_50 4
      have c_m_5 := cell_of_blk k_m_50 5
      simp only [List.getElem?_toArray, List.getElem?_cons_zero, List.getElem?_cons_succ] at c_m_0 c_m_1 c_m_2 c_m_3 c_m_4 c_m_5
      have f_m := frozen_of_blk k_m_50
      have s_m := blk_lt k_m_50
      have c_r_0 := cell_of_blk k_r_50 0
      have c_r_1 := cell_of_blk k_r_50 1
      have c_r_2 := cell_of_blk k_r_50 2
      have c_r_3 := cell_of_blk k_r_50 3
      have c_r_4 := cell_of_blk k_r_50 4
      have c_r_5 := cell_of_blk k_r_50 5
      simp only [List.getElem?_toArray, List.getElem?_cons_zero, List.getElem?_cons_succ] at c_r_0 c_r_1 c_r_2 c_r_3 c_r_4 c_r_5
      have f_r := frozen_of_blk k_r_50
      have s_r := blk_lt k_r_50
      have hrb : w.heap.size + 1 < wr.heap.size := s_r
      have hrc : w.heap.size + 1 ≠ wr.heap.size := by omega
      have hrd : wr.heap.size ≠ w.heap.size + 1 := by omega
      go_wp2_with fail
      refine (C5.out _).mono ?_
      rintro e w51 ⟨rfl, hb51⟩
      have k_m_51 : w51.heap[w.heap.size]? = some (.cells #[.int .i64 (A.1), .int .i64 (A.2.1), .int .i64 (A.2.2.1), .int .i64 (A.2.2.2.1), .int .i64 (A.2.2.2.2.1), .int .i64 (A.2.2.2.2.2)] 51 (0, 0)) := blk_below (blk_alloc k_m_50 _) hb51 (blk_lt (blk_alloc k_m_50 _))
      have k_r_51 : w51.heap[w.heap.size + 1]? = some (.cells #[.int .i64 0, .int .i64 0, .int .i64 0, .int .i64 0, .int .i64 0, .int .i64 0] 51 (0, 0)) := blk_below (blk_alloc k_r_50 _) hb51 (blk_lt (blk_alloc k_r_50 _))
      have k_b_51 : w51.heap[wr.heap.size]? = some (.cells #[.int .i64 0, .int .i64 1, .int .i64 1, .int .i64 0, .int .i64 0, .int .i64 0] 51 (0, 0)) := blk_below (new_blk (.cells #[.int .i64 0, .int .i64 1, .int .i64 1, .int .i64 0, .int .i64 0, .int .i64 0] 51) (by first | rfl | (simp; done) | (simp; omega))) hb51 (by first | (simp; done) | (simp; omega))
      have hw_51 : Below w.heap.size w w51 := stay_b (ba hw_50 _) hb51
      have hbq := stay_b (ba hbel _) hb51
      clear c_m_0 c_m_1 c_m_2 c_m_3 c_m_4 c_m_5 f_m s_m c_r_0 c_r_1 c_r_2 c_r_3 c_r_4 c_r_5 f_r s_r k_m_50 k_r_50 hb51 hw_50
      have c_m_0 := cell_of_blk k_m_51 0
      have c_m_1 := cell_of_blk k_m_51 1
      have c_m_2 := cell_of_blk k_m_51 2
      have c_m_3 := cell_of_blk k_m_51 3
      have c_m_4 := cell_of_blk k_m_51 4
      have c_m_5 := cell_of_blk k_m_51 5
      simp only [List.getElem?_toArray, List.getElem?_cons_zero, List.getElem?_cons_succ] at c_m_0 c_m_1 c_m_2 c_m_3 c_m_4 c_m_5
      have f_m := frozen_of_blk k_m_51
      have s_m := blk_lt k_m_51
      have c_r_0 := cell_of_blk k_r_51 0
      have c_r_1 := cell_of_blk k_r_51 1
      have c_r_2 := cell_of_blk k_r_51 2
      have c_r_3 := cell_of_blk k_r_51 3
      have c_r_4 := cell_of_blk k_r_51 4
      have c_r_5 := cell_of_blk k_r_51 5
      simp only [List.getElem?_toArray, List.getElem?_cons_zero, List.getElem?_cons_succ] at c_r_0 c_r_1 c_r_2 c_r_3 c_r_4 c_r_5
      have f_r := frozen_of_blk k_r_51
      have s_r := blk_lt k_r_51
      have c_b_0 := cell_of_blk k_b_51 0
      have c_b_1 := cell_of_blk k_b_51 1
      have c_b_2 := cell_of_blk k_b_51 2
      have c_b_3 := cell_of_blk k_b_51 3
      have c_b_4 := cell_of_blk k_b_51 4
      have c_b_5 := cell_of_blk k_b_51 5
      simp only [List.getElem?_toArray, List.getElem?_cons_zero, List.getElem?_cons_succ] at c_b_0 c_b_1 c_b_2 c_b_3 c_b_4 c_b_5
      have f_b := frozen_of_blk k_b_51
      have s_b := blk_lt k_b_51
      skip
      obtain ⟨⟨_, _⟩, _, _⟩ := M5.out
      by_cases t0 : u0 = 1
      rotate_left
      · have Q : Hid (isId 4 A = false) := Lib.hid (by rw [I5.out]; simp [t0])
        go_wp2
        go_roundw
        case rel => exact ⟨5, by omega, rfl, upto_next G.out Q.out, ba hbq _⟩
        case measure => simp [intOf]
      subst t0
      by_cases t1 : u3 = 1
      rotate_left
      · have Q : Hid (isId 4 A = false) := Lib.hid (by rw [I5.out]; simp [t1])
        go_wp2
        go_roundw
        case rel => exact ⟨5, by omega, rfl, upto_next G.out Q.out, ba hbq _⟩
        case measure => simp [intOf]
      subst t1
      by_cases t2 : u1 = 0
      rotate_left
      · have Q : Hid (isId 4 A = false) := Lib.hid (by rw [I5.out]; simp [t2])
        go_wp2
        go_roundw
        case rel => exact ⟨5, by omega, rfl, upto_next G.out Q.out, ba hbq _⟩
        case measure => simp [intOf]
      subst t2
      by_cases t3 : u2 = 0
      rotate_left
      · have Q : Hid (isId 4 A = false) := Lib.hid (by rw [I5.out]; simp [t3])
        go_wp2
        go_roundw
        case rel => exact ⟨5, by omega, rfl, upto_next G.out Q.out, ba hbq _⟩
        case measure => simp [intOf]
      subst t3
      have q0 : isId 4 A = true := by rw [I5.out]; rfl
      have q1 : backI 4 A = backV A := HL.out 4 (by decide) q0
      have q2 := J5.out
      rw [q1] at q2
      have Q := Lib.hid q2
      clear q0 q1 q2
      go_wp2_with fail
      go_region
      all_goals go_wp2
      refine bodyPost_ret (v := .agg #[.int .i64 0, .int .i64 1, .int .i64 1, .int .i64 0, .int .i64 (-u4), .int .i64 (-u5)]) (by simp [results, Tryd.results26, go_sem, c_r_0, c_r_1, c_r_2, c_r_3, c_r_4, c_r_5, World.cell?_alloc_lt, World.size_setCell, s_r]) rfl ⟨by rw [Q.out], ?_⟩
      exact (ba (set6_below ((hw_51.setCell (show w.heap.size ≤ wr.heap.size by omega) _).setCell (show w.heap.size ≤ wr.heap.size by omega) _) _ (by omega) _ _ _ _ _ _) _).drew
    · clear C0 I0 J0 HT0 C1 I1 J1 HT1 C2 I2 J2 HT2 C3 I3 J3 HT3 C4 I4 J4 HT4 C6 I6 J6 HT6 C7 I7 J7 HT7
      obtain ⟨u0, u1, u2, u3, u4, u5⟩ := T5
      have c5 := C5.out
      have i5 := I5.out
      have j5 := J5.out
      have m5 := HT5.out
      simp only at c5 i5 j5 m5
      clear C5 I5 J5 HT5
      have C5 := Lib.hid c5
      have I5 := Lib.hid i5
      have J5 := Lib.hid j5
      have M5 := Lib.hid m5
      clear c5 i5 j5 m5
      have c_m_0 := cell_of_blk k_m_50 0
      have c_m_1 := cell_of_blk k_m_50 1
      have c_m_2 := cell_of_blk k_m_50 2
      have c_m_3 := cell_of_blk k_m_50 3
      have c_m_4 := cell_of_blk k_m_50 4
      have c_m_5 := cell_of_blk k_m_50 5
      simp only [List.getElem?_toArray, List.getElem?_cons_zero, List.getElem?_cons_succ] at c_m_0 c_m_1 c_m_2 c_m_3 c_m_4 c_m_5
      have f_m := frozen_of_blk k_m_50
      have s_m := blk_lt k_m_50
      have c_r_0 := cell_of_blk k_r_50 0
      have c_r_1 := cell_of_blk k_r_50 1
      have c_r_2 := cell_of_blk k_r_50 2
      have c_r_3 := cell_of_blk k_r_50 3
      have c_r_4 := cell_of_blk k_r_50 4
      have c_r_5 := cell_of_blk k_r_50 5
      simp only [List.getElem?_toArray, List.getElem?_cons_zero, List.getElem?_cons_succ] at c_r_0 c_r_1 c_r_2 c_r_3 c_r_4 c_r_5
      have f_r := frozen_of_blk k_r_50
      have s_r := blk_lt k_r_50
      have hrb : w.heap.size + 1 < wr.heap.size := s_r
      have hrc : w.heap.size + 1 ≠ wr.heap.size := by omega
      have hrd : wr.heap.size ≠ w.heap.size + 1 := by omega
      go_wp2_with fail
      refine (C5.out _).mono ?_
      rintro e w51 ⟨rfl, hb51⟩
      have k_m_51 : w51.heap[w.heap.size]? = some (.cells #[.int .i64 (A.1), .int .i64 (A.2.1), .int .i64 (A.2.2.1), .int .i64 (A.2.2.2.1), .int .i64 (A.2.2.2.2.1), .int .i64 (A.2.2.2.2.2)] 51 (0, 0)) := blk_below (blk_alloc k_m_50 _) hb51 (blk_lt (blk_alloc k_m_50 _))
      have k_r_51 : w51.heap[w.heap.size + 1]? = some (.cells #[.int .i64 0, .int .i64 0, .int .i64 0, .int .i64 0, .int .i64 0, .int .i64 0] 51 (0, 0)) := blk_below (blk_alloc k_r_50 _) hb51 (blk_lt (blk_alloc k_r_50 _))
      have k_b_51 : w51.heap[wr.heap.size]? = some (.cells #[.int .i64 0, .int .i64 (-1), .int .i64 1, .int .i64 0, .int .i64 0, .int .i64 0] 51 (0, 0)) := blk_below (new_blk (.cells #[.int .i64 0, .int .i64 (-1), .int .i64 1, .int .i64 0, .int .i64 0, .int .i64 0] 51) (by first | rfl | (simp; done) | (simp; omega))) hb51 (by first | (simp; done) | (simp; omega))
      have hw_51 : Below w.heap.size w w51 := stay_b (ba hw_50 _) hb51
      have hbq := stay_b (ba hbel _) hb51
      clear c_m_0 c_m_1 c_m_2 c_m_3 c_m_4 c_m_5 f_m s_m c_r_0 c_r_1 c_r_2 c_r_3 c_r_4 c_r_5 f_r s_r k_m_50 k_r_50 hb51 hw_50
      have c_m_0 := cell_of_blk k_m_51 0
      have c_m_1 := cell_of_blk k_m_51 1
      have c_m_2 := cell_of_blk k_m_51 2
      have c_m_3 := cell_of_blk k_m_51 3
      have c_m_4 := cell_of_blk k_m_51 4
      have c_m_5 := cell_of_blk k_m_51 5
      simp only [List.getElem?_toArray, List.getElem?_cons_zero, List.getElem?_cons_succ] at c_m_0 c_m_1 c_m_2 c_m_3 c_m_4 c_m_5
      have f_m := frozen_of_blk k_m_51
      have s_m := blk_lt k_m_51
      have c_r_0 := cell_of_blk k_r_51 0
      have c_r_1 := cell_of_blk k_r_51 1
      have c_r_2 := cell_of_blk k_r_51 2
      have c_r_3 := cell_of_blk k_r_51 3
      have c_r_4 := cell_of_blk k_r_51 4
      have c_r_5 := cell_of_blk k_r_51 5
      simp only [List.getElem?_toArray, List.getElem?_cons_zero, List.getElem?_cons_succ] at c_r_0 c_r_1 c_r_2 c_r_3 c_r_4 c_r_5
      have f_r := frozen_of_blk k_r_51
      have s_r := blk_lt k_r_51
      have c_b_0 := cell_of_blk k_b_51 0
      have c_b_1 := cell_of_blk k_b_51 1
      have c_b_2 := cell_of_blk k_b_51 2
      have c_b_3 := cell_of_blk k_b_51 3
      have c_b_4 := cell_of_blk k_b_51 4
      have c_b_5 := cell_of_blk k_b_51 5
      simp only [List.getElem?_toArray, List.getElem?_cons_zero, List.getElem?_cons_succ] at c_b_0 c_b_1 c_b_2 c_b_3 c_b_4 c_b_5
      have f_b := frozen_of_blk k_b_51
      have s_b := blk_lt k_b_51
      skip
      obtain ⟨⟨_, _⟩, _, _⟩ := M5.out
      by_cases t0 : u0 = 1
      rotate_left
      · have Q : Hid (isId 5 A = false) := Lib.hid (by rw [I5.out]; simp [t0])
        go_wp2
        go_roundw
        case rel => exact ⟨6, by omega, rfl, upto_next G.out Q.out, ba hbq _⟩
        case measure => simp [intOf]
      subst t0
      by_cases t1 : u3 = 1
      rotate_left
      · have Q : Hid (isId 5 A = false) := Lib.hid (by rw [I5.out]; simp [t1])
        go_wp2
        go_roundw
        case rel => exact ⟨6, by omega, rfl, upto_next G.out Q.out, ba hbq _⟩
        case measure => simp [intOf]
      subst t1
      by_cases t2 : u1 = 0
      rotate_left
      · have Q : Hid (isId 5 A = false) := Lib.hid (by rw [I5.out]; simp [t2])
        go_wp2
        go_roundw
        case rel => exact ⟨6, by omega, rfl, upto_next G.out Q.out, ba hbq _⟩
        case measure => simp [intOf]
      subst t2
      by_cases t3 : u2 = 0
      rotate_left
      · have Q : Hid (isId 5 A = false) := Lib.hid (by rw [I5.out]; simp [t3])
        go_wp2
        go_roundw
        case rel => exact ⟨6, by omega, rfl, upto_next G.out Q.out, ba hbq _⟩
        case measure => simp [intOf]
      subst t3
      have q0 : isId 5 A = true := by rw [I5.out]; rfl
      have q1 : backI 5 A = backV A := HL.out 5 (by decide) q0
      have q2 := J5.out
      rw [q1] at q2
      have Q := Lib.hid q2
      clear q0 q1 q2
      go_wp2_with fail
      go_region
      all_goals go_wp2
      refine bodyPost_ret (v := .agg #[.int .i64 0, .int .i64 (-1), .int .i64 1, .int .i64 0, .int .i64 (-u4), .int .i64 (-u5)]) (by simp [results, Tryd.results26, go_sem, c_r_0, c_r_1, c_r_2, c_r_3, c_r_4, c_r_5, World.cell?_alloc_lt, World.size_setCell, s_r]) rfl ⟨by rw [Q.out], ?_⟩
      exact (ba (set6_below ((hw_51.setCell (show w.heap.size ≤ wr.heap.size by omega) _).setCell (show w.heap.size ≤ wr.heap.size by omega) _) _ (by omega) _ _ _ _ _ _) _).drew
    · clear C0 I0 J0 HT0 C1 I1 J1 HT1 C2 I2 J2 HT2 C3 I3 J3 HT3 C4 I4 J4 HT4 C5 I5 J5 HT5 C7 I7 J7 HT7
      obtain ⟨u0, u1, u2, u3, u4, u5⟩ := T6
      have c5 := C6.out
      have i5 := I6.out
      have j5 := J6.out
      have m5 := HT6.out
      simp only at c5 i5 j5 m5
      clear C6 I6 J6 HT6
      have C5 := Lib.hid c5
      have I5 := Lib.hid i5
      have J5 := Lib.hid j5
      have M5 := Lib.hid m5
      clear c5 i5 j5 m5
      have c_m_0 := cell_of_blk k_m_50 0
      have c_m_1 := cell_of_blk k_m_50 1
      have c_m_2 := cell_of_blk k_m_50 2
      have c_m_3 := cell_of_blk k_m_50 3
      have c_m_4 := cell_of_blk k_m_50 4
      have c_m_5 := cell_of_blk k_m_50 5
      simp only [List.getElem?_toArray, List.getElem?_cons_zero, List.getElem?_cons_succ] at c_m_0 c_m_1 c_m_2 c_m_3 c_m_4 c_m_5
      have f_m := frozen_of_blk k_m_50
      have s_m := blk_lt k_m_50
      have c_r_0 := cell_of_blk k_r_50 0
      have c_r_1 := cell_of_blk k_r_50 1
      have c_r_2 := cell_of_blk k_r_50 2
      have c_r_3 := cell_of_blk k_r_50 3
      have c_r_4 := cell_of_blk k_r_50 4
      have c_r_5 := cell_of_blk k_r_50 5
      simp only [List.getElem?_toArray, List.getElem?_cons_zero, List.getElem?_cons_succ] at c_r_0 c_r_1 c_r_2 c_r_3 c_r_4 c_r_5
      have f_r := frozen_of_blk k_r_50
      have s_r := blk_lt k_r_50
      have hrb : w.heap.size + 1 < wr.heap.size := s_r
      have hrc : w.heap.size + 1 ≠ wr.heap.size := by omega
      have hrd : wr.heap.size ≠ w.heap.size + 1 := by omega
      go_wp2_with fail
      refine (C5.out _).mono ?_
      rintro e w51 ⟨rfl, hb51⟩
      have k_m_51 : w51.heap[w.heap.size]? = some (.cells #[.int .i64 (A.1), .int .i64 (A.2.1), .int .i64 (A.2.2.1), .int .i64 (A.2.2.2.1), .int .i64 (A.2.2.2.2.1), .int .i64 (A.2.2.2.2.2)] 51 (0, 0)) := blk_below (blk_alloc k_m_50 _) hb51 (blk_lt (blk_alloc k_m_50 _))
      have k_r_51 : w51.heap[w.heap.size + 1]? = some (.cells #[.int .i64 0, .int .i64 0, .int .i64 0, .int .i64 0, .int .i64 0, .int .i64 0] 51 (0, 0)) := blk_below (blk_alloc k_r_50 _) hb51 (blk_lt (blk_alloc k_r_50 _))
      have k_b_51 : w51.heap[wr.heap.size]? = some (.cells #[.int .i64 0, .int .i64 1, .int .i64 (-1), .int .i64 0, .int .i64 0, .int .i64 0] 51 (0, 0)) := blk_below (new_blk (.cells #[.int .i64 0, .int .i64 1, .int .i64 (-1), .int .i64 0, .int .i64 0, .int .i64 0] 51) (by first | rfl | (simp; done) | (simp; omega))) hb51 (by first | (simp; done) | (simp; omega))
      have hw_51 : Below w.heap.size w w51 := stay_b (ba hw_50 _) hb51
      have hbq := stay_b (ba hbel _) hb51
      clear c_m_0 c_m_1 c_m_2 c_m_3 c_m_4 c_m_5 f_m s_m c_r_0 c_r_1 c_r_2 c_r_3 c_r_4 c_r_5 f_r s_r k_m_50 k_r_50 hb51 hw_50
      have c_m_0 := cell_of_blk k_m_51 0
      have c_m_1 := cell_of_blk k_m_51 1
      have c_m_2 := cell_of_blk k_m_51 2
      have c_m_3 := cell_of_blk k_m_51 3
      have c_m_4 := cell_of_blk k_m_51 4
      have c_m_5 := cell_of_blk k_m_51 5
      simp only [List.getElem?_toArray, List.getElem?_cons_zero, List.getElem?_cons_succ] at c_m_0 c_m_1 c_m_2 c_m_3 c_m_4 c_m_5
      have f_m := frozen_of_blk k_m_51
      have s_m := blk_lt k_m_51
      have c_r_0 := cell_of_blk k_r_51 0
      have c_r_1 := cell_of_blk k_r_51 1
      have c_r_2 := cell_of_blk k_r_51 2
      have c_r_3 := cell_of_blk k_r_51 3
      have c_r_4 := cell_of_blk k_r_51 4
      have c_r_5 := cell_of_blk k_r_51 5
      simp only [List.getElem?_toArray, List.getElem?_cons_zero, List.getElem?_cons_succ] at c_r_0 c_r_1 c_r_2 c_r_3 c_r_4 c_r_5
      have f_r := frozen_of_blk k_r_51
      have s_r := blk_lt k_r_51
      have c_b_0 := cell_of_blk k_b_51 0
      have c_b_1 := cell_of_blk k_b_51 1
      have c_b_2 := cell_of_blk k_b_51 2
      have c_b_3 := cell_of_blk k_b_51 3
      have c_b_4 := cell_of_blk k_b_51 4
      have c_b_5 := cell_of_blk k_b_51 5
      simp only [List.getElem?_toArray, List.getElem?_cons_zero, List.getElem?_cons_succ] at c_b_0 c_b_1 c_b_2 c_b_3 c_b_4 c_b_5
      have f_b := frozen_of_blk k_b_51
      have s_b := blk_lt k_b_51
      skip
      obtain ⟨⟨_, _⟩, _, _⟩ := M5.out
      by_cases t0 : u0 = 1
      rotate_left
      · have Q : Hid (isId 6 A = false) := Lib.hid (by rw [I5.out]; simp [t0])
        go_wp2
        go_roundw
        case rel => exact ⟨7, by omega, rfl, upto_next G.out Q.out, ba hbq _⟩
        case measure => simp [intOf]
      subst t0
      by_cases t1 : u3 = 1
      rotate_left
      · have Q : Hid (isId 6 A = false) := Lib.hid (by rw [I5.out]; simp [t1])
        go_wp2
        go_roundw
        case rel => exact ⟨7, by omega, rfl, upto_next G.out Q.out, ba hbq _⟩
        case measure => simp [intOf]
      subst t1
      by_cases t2 : u1 = 0
      rotate_left
      · have Q : Hid (isId 6 A = false) := Lib.hid (by rw [I5.out]; simp [t2])
        go_wp2
        go_roundw
        case rel => exact ⟨7, by omega, rfl, upto_next G.out Q.out, ba hbq _⟩
        case measure => simp [intOf]
      subst t2
      by_cases t3 : u2 = 0
      rotate_left
      · have Q : Hid (isId 6 A = false) := Lib.hid (by rw [I5.out]; simp [t3])
        go_wp2
        go_roundw
        case rel => exact ⟨7, by omega, rfl, upto_next G.out Q.out, ba hbq _⟩
        case measure => simp [intOf]
      subst t3
      have q0 : isId 6 A = true := by rw [I5.out]; rfl
      have q1 : backI 6 A = backV A := HL.out 6 (by decide) q0
      have q2 := J5.out
      rw [q1] at q2
      have Q := Lib.hid q2
      clear q0 q1 q2
      go_wp2_with fail
      go_region
      all_goals go_wp2
      refine bodyPost_ret (v := .agg #[.int .i64 0, .int .i64 1, .int .i64 (-1), .int .i64 0, .int .i64 (-u4), .int .i64 (-u5)]) (by simp [results, Tryd.results26, go_sem, c_r_0, c_r_1, c_r_2, c_r_3, c_r_4, c_r_5, World.cell?_alloc_lt, World.size_setCell, s_r]) rfl ⟨by rw [Q.out], ?_⟩
      exact (ba (set6_below ((hw_51.setCell (show w.heap.size ≤ wr.heap.size by omega) _).setCell (show w.heap.size ≤ wr.heap.size by omega) _) _ (by omega) _ _ _ _ _ _) _).drew
    · clear C0 I0 J0 HT0 C1 I1 J1 HT1 C2 I2 J2 HT2 C3 I3 J3 HT3 C4 I4 J4 HT4 C5 I5 J5 HT5 C6 I6 J6 HT6
      obtain ⟨u0, u1, u2, u3, u4, u5⟩ := T7
      have c5 := C7.out
      have i5 := I7.out
      have j5 := J7.out
      have m5 := HT7.out
      simp only at c5 i5 j5 m5
      clear C7 I7 J7 HT7
      have C5 := Lib.hid c5
      have I5 := Lib.hid i5
      have J5 := Lib.hid j5
      have M5 := Lib.hid m5
      clear c5 i5 j5 m5
      have c_m_0 := cell_of_blk k_m_50 0
      have c_m_1 := cell_of_blk k_m_50 1
      have c_m_2 := cell_of_blk k_m_50 2
      have c_m_3 := cell_of_blk k_m_50 3
      have c_m_4 := cell_of_blk k_m_50 4
      have c_m_5 := cell_of_blk k_m_50 5
      simp only [List.getElem?_toArray, List.getElem?_cons_zero, List.getElem?_cons_succ] at c_m_0 c_m_1 c_m_2 c_m_3 c_m_4 c_m_5
      have f_m := frozen_of_blk k_m_50
      have s_m := blk_lt k_m_50
      have c_r_0 := cell_of_blk k_r_50 0
      have c_r_1 := cell_of_blk k_r_50 1
      have c_r_2 := cell_of_blk k_r_50 2
      have c_r_3 := cell_of_blk k_r_50 3
      have c_r_4 := cell_of_blk k_r_50 4
      have c_r_5 := cell_of_blk k_r_50 5
      simp only [List.getElem?_toArray, List.getElem?_cons_zero, List.getElem?_cons_succ] at c_r_0 c_r_1 c_r_2 c_r_3 c_r_4 c_r_5
      have f_r := frozen_of_blk k_r_50
      have s_r := blk_lt k_r_50
      have hrb : w.heap.size + 1 < wr.heap.size := s_r
      have hrc : w.heap.size + 1 ≠ wr.heap.size := by omega
      have hrd : wr.heap.size ≠ w.heap.size + 1 := by omega
      go_wp2_with fail
      refine (C5.out _).mono ?_
      rintro e w51 ⟨rfl, hb51⟩
      have k_m_51 : w51.heap[w.heap.size]? = some (.cells #[.int .i64 (A.1), .int .i64 (A.2.1), .int .i64 (A.2.2.1), .int .i64 (A.2.2.2.1), .int .i64 (A.2.2.2.2.1), .int .i64 (A.2.2.2.2.2)] 51 (0, 0)) := blk_below (blk_alloc k_m_50 _) hb51 (blk_lt (blk_alloc k_m_50 _))
      have k_r_51 : w51.heap[w.heap.size + 1]? = some (.cells #[.int .i64 0, .int .i64 0, .int .i64 0, .int .i64 0, .int .i64 0, .int .i64 0] 51 (0, 0)) := blk_below (blk_alloc k_r_50 _) hb51 (blk_lt (blk_alloc k_r_50 _))
      have k_b_51 : w51.heap[wr.heap.size]? = some (.cells #[.int .i64 0, .int .i64 (-1), .int .i64 (-1), .int .i64 0, .int .i64 0, .int .i64 0] 51 (0, 0)) := blk_below (new_blk (.cells #[.int .i64 0, .int .i64 (-1), .int .i64 (-1), .int .i64 0, .int .i64 0, .int .i64 0] 51) (by first | rfl | (simp; done) | (simp; omega))) hb51 (by first | (simp; done) | (simp; omega))
      have hw_51 : Below w.heap.size w w51 := stay_b (ba hw_50 _) hb51
      have hbq := stay_b (ba hbel _) hb51
      clear c_m_0 c_m_1 c_m_2 c_m_3 c_m_4 c_m_5 f_m s_m c_r_0 c_r_1 c_r_2 c_r_3 c_r_4 c_r_5 f_r s_r k_m_50 k_r_50 hb51 hw_50
      have c_m_0 := cell_of_blk k_m_51 0
      have c_m_1 := cell_of_blk k_m_51 1
      have c_m_2 := cell_of_blk k_m_51 2
      have c_m_3 := cell_of_blk k_m_51 3
      have c_m_4 := cell_of_blk k_m_51 4
      have c_m_5 := cell_of_blk k_m_51 5
      simp only [List.getElem?_toArray, List.getElem?_cons_zero, List.getElem?_cons_succ] at c_m_0 c_m_1 c_m_2 c_m_3 c_m_4 c_m_5
      have f_m := frozen_of_blk k_m_51
      have s_m := blk_lt k_m_51
      have c_r_0 := cell_of_blk k_r_51 0
      have c_r_1 := cell_of_blk k_r_51 1
      have c_r_2 := cell_of_blk k_r_51 2
      have c_r_3 := cell_of_blk k_r_51 3
      have c_r_4 := cell_of_blk k_r_51 4
      have c_r_5 := cell_of_blk k_r_51 5
      simp only [List.getElem?_toArray, List.getElem?_cons_zero, List.getElem?_cons_succ] at c_r_0 c_r_1 c_r_2 c_r_3 c_r_4 c_r_5
      have f_r := frozen_of_blk k_r_51
      have s_r := blk_lt k_r_51
      have c_b_0 := cell_of_blk k_b_51 0
      have c_b_1 := cell_of_blk k_b_51 1
      have c_b_2 := cell_of_blk k_b_51 2
      have c_b_3 := cell_of_blk k_b_51 3
      have c_b_4 := cell_of_blk k_b_51 4
      have c_b_5 := cell_of_blk k_b_51 5
      simp only [List.getElem?_toArray, List.getElem?_cons_zero, List.getElem?_cons_succ] at c_b_0 c_b_1 c_b_2 c_b_3 c_b_4 c_b_5
      have f_b := frozen_of_blk k_b_51
      have s_b := blk_lt k_b_51
      skip
      obtain ⟨⟨_, _⟩, _, _⟩ := M5.out
      by_cases t0 : u0 = 1
      rotate_left
      · have Q : Hid (isId 7 A = false) := Lib.hid (by rw [I5.out]; simp [t0])
        go_wp2
        go_roundw
        case rel => exact ⟨8, by omega, rfl, upto_next G.out Q.out, ba hbq _⟩
        case measure => simp [intOf]
      subst t0
      by_cases t1 : u3 = 1
      rotate_left
      · have Q : Hid (isId 7 A = false) := Lib.hid (by rw [I5.out]; simp [t1])
        go_wp2
        go_roundw
        case rel => exact ⟨8, by omega, rfl, upto_next G.out Q.out, ba hbq _⟩
        case measure => simp [intOf]
      subst t1
      by_cases t2 : u1 = 0
      rotate_left
      · have Q : Hid (isId 7 A = false) := Lib.hid (by rw [I5.out]; simp [t2])
        go_wp2
        go_roundw
        case rel => exact ⟨8, by omega, rfl, upto_next G.out Q.out, ba hbq _⟩
        case measure => simp [intOf]
      subst t2
      by_cases t3 : u2 = 0
      rotate_left
      · have Q : Hid (isId 7 A = false) := Lib.hid (by rw [I5.out]; simp [t3])
        go_wp2
        go_roundw
        case rel => exact ⟨8, by omega, rfl, upto_next G.out Q.out, ba hbq _⟩
        case measure => simp [intOf]
      subst t3
      have q0 : isId 7 A = true := by rw [I5.out]; rfl
      have q1 : backI 7 A = backV A := HL.out 7 (by decide) q0
      have q2 := J5.out
      rw [q1] at q2
      have Q := Lib.hid q2
      clear q0 q1 q2
      go_wp2_with fail
      go_region
      all_goals go_wp2
      refine bodyPost_ret (v := .agg #[.int .i64 0, .int .i64 (-1), .int .i64 (-1), .int .i64 0, .int .i64 (-u4), .int .i64 (-u5)]) (by simp [results, Tryd.results26, go_sem, c_r_0, c_r_1, c_r_2, c_r_3, c_r_4, c_r_5, World.cell?_alloc_lt, World.size_setCell, s_r]) rfl ⟨by rw [Q.out], ?_⟩
      exact (ba (set6_below ((hw_51.setCell (show w.heap.size ≤ wr.heap.size by omega) _).setCell (show w.heap.size ≤ wr.heap.size by omega) _) _ (by omega) _ _ _ _ _ _) _).drew
    · obtain ⟨j, hj, h⟩ := HX.out
      exact absurd (G.out j hj) (by rw [h]; simp)
end Go.Proofs.YthfhkmgegkhljaaDoor
