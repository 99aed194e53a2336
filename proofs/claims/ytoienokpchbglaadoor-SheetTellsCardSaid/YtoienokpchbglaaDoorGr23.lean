/- The document's AcrossOf. Printed by gen_gr23.py. -/
import Derived.Test.YtoienokpchbglaaDoorGr22
namespace Go.Proofs.YtoienokpchbglaaDoor
open Go.RowKit

def eqT3 (a b : T3) : Bool := eqL [(a.1, b.1), (a.2.1, b.2.1), (a.2.2, b.2.2)]
/-- The triangle at (x + d, y + f) with the number j is another one than (x, y, k), and has the edge. -/
def hitB (x y k : Int) (m : E4) (d f j : Int) : Bool := !(eqT3 (x + d, y + f, j) (x, y, k)) && hasE (x + d) (y + f) j m

set_option maxRecDepth 100000 in
set_option maxHeartbeats 1600000 in
theorem acrossOf_no (x y k : Int) (m : E4) (w : World) (x1 : -1000000 ≤ x) (x2 : x ≤ 1000000) (y1 : -1000000 ≤ y) (y2 : y ≤ 1000000) (k1 : 0 ≤ k) (k2 : k ≤ 3) (hq : hasE x y k m = false) :
    Calls Tryd.prog 51 #[aggT x y k, aggE m] w fun e w' => e = .returned (.tuple #[.agg #[.int .i64 0, .int .i64 0, .int .i64 0], .bool false]) ∧ Below w.heap.size w w' := by
  have HQ := Lib.hid hq
  clear hq
  go_enter Tryd.func51, Tryd.ntmps51
  go_wp2_with fail
  refine (has_any x y k m _ (by omega) (by omega) (by omega) (by omega) k1 k2).mono ?_
  rintro e w1 ⟨rfl, hb1⟩
  rw [HQ.out]
  have k_t_1 : w1.heap[w.heap.size]? = some (.cells #[.int .i64 x, .int .i64 y, .int .i64 k] 93 (0, 0)) := blk_below (blk_alloc (blk_alloc (new_blk (.cells #[.int .i64 x, .int .i64 y, .int .i64 k] 93) (by first | rfl | (simp; done) | (simp; omega))) _) _) hb1 (by first | (simp; done) | (simp; omega))
  have k_e_1 : w1.heap[w.heap.size + 1]? = some (.cells #[.int .i64 (m.1), .int .i64 (m.2.1), .int .i64 (m.2.2.1), .int .i64 (m.2.2.2)] 86 (0, 0)) := blk_below (blk_alloc (new_blk (.cells #[.int .i64 (m.1), .int .i64 (m.2.1), .int .i64 (m.2.2.1), .int .i64 (m.2.2.2)] 86) (by first | rfl | (simp; done) | (simp; omega))) _) hb1 (by first | (simp; done) | (simp; omega))
  have k_r_1 : w1.heap[w.heap.size + 1 + 1]? = some (.cells #[.int .i64 0, .int .i64 0, .int .i64 0] 93 (0, 0)) := blk_below (new_blk (.cells #[.int .i64 0, .int .i64 0, .int .i64 0] 93) (by first | rfl | (simp; done) | (simp; omega))) hb1 (by first | (simp; done) | (simp; omega))
  have hw_1 : Below w.heap.size w w1 := stay_b (ba (ba (ba (Below.refl _ _) _) _) _) hb1
  clear hb1
  have c_t_0 := cell_of_blk k_t_1 0
  have c_t_1 := cell_of_blk k_t_1 1
  have c_t_2 := cell_of_blk k_t_1 2
  simp only [List.getElem?_toArray, List.getElem?_cons_zero, List.getElem?_cons_succ] at c_t_0 c_t_1 c_t_2
  have f_t := frozen_of_blk k_t_1
  have s_t := blk_lt k_t_1
  have c_e_0 := cell_of_blk k_e_1 0
  have c_e_1 := cell_of_blk k_e_1 1
  have c_e_2 := cell_of_blk k_e_1 2
  have c_e_3 := cell_of_blk k_e_1 3
  simp only [List.getElem?_toArray, List.getElem?_cons_zero, List.getElem?_cons_succ] at c_e_0 c_e_1 c_e_2 c_e_3
  have f_e := frozen_of_blk k_e_1
  have s_e := blk_lt k_e_1
  have c_r_0 := cell_of_blk k_r_1 0
  have c_r_1 := cell_of_blk k_r_1 1
  have c_r_2 := cell_of_blk k_r_1 2
  simp only [List.getElem?_toArray, List.getElem?_cons_zero, List.getElem?_cons_succ] at c_r_0 c_r_1 c_r_2
  have f_r := frozen_of_blk k_r_1
  have s_r := blk_lt k_r_1
  go_wp2
  refine bodyPost_ret (v := .tuple #[.agg #[.int .i64 0, .int .i64 0, .int .i64 0], .bool false]) (by simp [results, Tryd.results51, go_sem, c_r_0, c_r_1, c_r_2]) rfl ⟨rfl, ?_⟩
  exact set3_below hw_1 _ (by omega) _ _ _
set_option maxRecDepth 100000 in
set_option maxHeartbeats 3200000 in
theorem acrossOf_at (x y k : Int) (m : E4) (d0 f0 j0 : Int) (w : World) (x1 : -1000000 ≤ x) (x2 : x ≤ 1000000) (y1 : -1000000 ≤ y) (y2 : y ≤ 1000000) (k1 : 0 ≤ k) (k2 : k ≤ 3) (hq : hasE x y k m = true) (d1 : -1 ≤ d0) (d2 : d0 ≤ 1) (f1 : -1 ≤ f0) (f2 : f0 ≤ 1) (j1 : 0 ≤ j0) (j2 : j0 ≤ 3)
    (hhit : hitB x y k m d0 f0 j0 = true) (huni : ∀ d f j : Int, -1 ≤ d → d ≤ 1 → -1 ≤ f → f ≤ 1 → 0 ≤ j → j ≤ 3 → hitB x y k m d f j = true → d = d0 ∧ f = f0 ∧ j = j0) :
    Calls Tryd.prog 51 #[aggT x y k, aggE m] w fun e w' => e = .returned (.tuple #[.agg #[.int .i64 (x + d0), .int .i64 (y + f0), .int .i64 j0], .bool true]) ∧ Below w.heap.size w w' := by
  have HQ := Lib.hid hq
  have HU := Lib.hid huni
  have HH := Lib.hid hhit
  clear hq huni hhit
  go_enter Tryd.func51, Tryd.ntmps51
  go_wp2_with fail
  refine (has_any x y k m _ (by omega) (by omega) (by omega) (by omega) k1 k2).mono ?_
  rintro e w1 ⟨rfl, hb1⟩
  rw [HQ.out]
  have k_t_1 : w1.heap[w.heap.size]? = some (.cells #[.int .i64 x, .int .i64 y, .int .i64 k] 93 (0, 0)) := blk_below (blk_alloc (blk_alloc (new_blk (.cells #[.int .i64 x, .int .i64 y, .int .i64 k] 93) (by first | rfl | (simp; done) | (simp; omega))) _) _) hb1 (by first | (simp; done) | (simp; omega))
  have k_e_1 : w1.heap[w.heap.size + 1]? = some (.cells #[.int .i64 (m.1), .int .i64 (m.2.1), .int .i64 (m.2.2.1), .int .i64 (m.2.2.2)] 86 (0, 0)) := blk_below (blk_alloc (new_blk (.cells #[.int .i64 (m.1), .int .i64 (m.2.1), .int .i64 (m.2.2.1), .int .i64 (m.2.2.2)] 86) (by first | rfl | (simp; done) | (simp; omega))) _) hb1 (by first | (simp; done) | (simp; omega))
  have k_r_1 : w1.heap[w.heap.size + 1 + 1]? = some (.cells #[.int .i64 0, .int .i64 0, .int .i64 0] 93 (0, 0)) := blk_below (new_blk (.cells #[.int .i64 0, .int .i64 0, .int .i64 0] 93) (by first | rfl | (simp; done) | (simp; omega))) hb1 (by first | (simp; done) | (simp; omega))
  have hw_1 : Below w.heap.size w w1 := stay_b (ba (ba (ba (Below.refl _ _) _) _) _) hb1
  clear hb1
  have c_t_0 := cell_of_blk k_t_1 0
  have c_t_1 := cell_of_blk k_t_1 1
  have c_t_2 := cell_of_blk k_t_1 2
  simp only [List.getElem?_toArray, List.getElem?_cons_zero, List.getElem?_cons_succ] at c_t_0 c_t_1 c_t_2
  have f_t := frozen_of_blk k_t_1
  have s_t := blk_lt k_t_1
  have c_e_0 := cell_of_blk k_e_1 0
  have c_e_1 := cell_of_blk k_e_1 1
  have c_e_2 := cell_of_blk k_e_1 2
  have c_e_3 := cell_of_blk k_e_1 3
  simp only [List.getElem?_toArray, List.getElem?_cons_zero, List.getElem?_cons_succ] at c_e_0 c_e_1 c_e_2 c_e_3
  have f_e := frozen_of_blk k_e_1
  have s_e := blk_lt k_e_1
  have c_r_0 := cell_of_blk k_r_1 0
  have c_r_1 := cell_of_blk k_r_1 1
  have c_r_2 := cell_of_blk k_r_1 2
  simp only [List.getElem?_toArray, List.getElem?_cons_zero, List.getElem?_cons_succ] at c_r_0 c_r_1 c_r_2
  have f_r := frozen_of_blk k_r_1
  have s_r := blk_lt k_r_1
  clear c_t_0 c_t_1 c_t_2 f_t s_t c_e_0 c_e_1 c_e_2 c_e_3 f_e s_e c_r_0 c_r_1 c_r_2 f_r s_r
  go_wp2
  go_loopw [6] (fun i wr => ∃ d : Int, -1 ≤ d ∧ d ≤ d0 ∧ i = .int .i64 d ∧ Below w1.heap.size w1 wr) (fun i _ => (2 - intOf i).toNat)
  case atStart => exact ⟨-1, by omega, by omega, rfl, Below.refl _ _⟩
  case round =>
    obtain ⟨d, hd1, hd2, rfl, hbel⟩ := hrel
    have hd3 : d ≤ 1 := by omega
    go_wp2
    go_loopw [7] (fun i wr => ∃ f : Int, -1 ≤ f ∧ f ≤ 2 ∧ (d = d0 → f ≤ f0) ∧ i = .int .i64 f ∧ Below w1.heap.size w1 wr) (fun i _ => (2 - intOf i).toNat)
    case atStart => exact ⟨-1, by omega, by omega, fun _ => by omega, rfl, hbel⟩
    case round =>
      obtain ⟨f, hf1, hf2, hf3, rfl, hbel2⟩ := hrel
      have hend2 : Below w.heap.size w wr := hw_1.trans (hbel2.mono hw_1.size)
      by_cases hf : f ≤ 1
      · go_wp2
        go_loopw [8] (fun i wr => ∃ j : Int, 0 ≤ j ∧ j ≤ 4 ∧ (d = d0 ∧ f = f0 → j ≤ j0) ∧ i = .int .i64 j ∧ Below w1.heap.size w1 wr) (fun i _ => (4 - intOf i).toNat)
        case atStart => exact ⟨0, by omega, by omega, fun _ => by omega, rfl, hbel2⟩
        case round =>
          obtain ⟨j, hj1, hj2, hj3, rfl, hbel3⟩ := hrel
          rename_i ws
          have kt := blk_below k_t_1 hbel3 (blk_lt k_t_1)
          have ke := blk_below k_e_1 hbel3 (blk_lt k_e_1)
          have kr := blk_below k_r_1 hbel3 (blk_lt k_r_1)
          have hend : Below w.heap.size w _ := hw_1.trans (hbel3.mono hw_1.size)
          by_cases hj : j ≤ 3
          · have t0 := cell_of_blk kt 0
            have t1 := cell_of_blk kt 1
            have t2 := cell_of_blk kt 2
            have e0 := cell_of_blk ke 0
            have e1 := cell_of_blk ke 1
            have e2 := cell_of_blk ke 2
            have e3 := cell_of_blk ke 3
            simp only [List.getElem?_toArray, List.getElem?_cons_zero, List.getElem?_cons_succ] at t0 t1 t2 e0 e1 e2 e3
            have st := blk_lt kt
            have se := blk_lt ke
            have sr := blk_lt kr
            rcases Bool.eq_false_or_eq_true (eqT3 (x + d, y + f, j) (x, y, k)) with q | q
            · have hn : ¬ (d = d0 ∧ f = f0 ∧ j = j0) := by
                rintro ⟨rfl, rfl, rfl⟩
                have := HH.out
                simp [hitB, q] at this
              have r : ∀ w : World, (binOp .neq 93 (.agg #[.int .i64 (x + d), .int .i64 (y + f), .int .i64 j]) (.agg #[.int .i64 x, .int .i64 y, .int .i64 k])).run Tryd.prog w = .ok (.bool false) w := fun w => by rw [neT]; have := q; simp only [eqT3] at this; rw [this]; rfl
              have Q := Lib.hid q
              clear q kt ke kr
              go_wp2
              go_roundw
              case rel => exact ⟨j + 1, by omega, by omega, by omega, rfl, ba hbel3 _⟩
              case measure => simp [intOf]; omega
            · have r : ∀ w : World, (binOp .neq 93 (.agg #[.int .i64 (x + d), .int .i64 (y + f), .int .i64 j]) (.agg #[.int .i64 x, .int .i64 y, .int .i64 k])).run Tryd.prog w = .ok (.bool true) w := fun w => by rw [neT]; have := q; simp only [eqT3] at this; rw [this]; rfl
              rcases Bool.eq_false_or_eq_true (hasE (x + d) (y + f) j m) with p | p
              · have HE := Lib.hid (HU.out d f j hd1 (by omega) hf1 hf hj1 hj (by simp [hitB, q, p]))
                have Q := Lib.hid q
                have P := Lib.hid p
                clear q p
                go_wp2_with fail
                refine (has_any (x + d) (y + f) j m _ (by omega) (by omega) (by omega) (by omega) hj1 hj).mono ?_
                rintro e wd ⟨rfl, hbd⟩
                rw [P.out]
                have ku := blk_below (new_blk (.cells #[.int .i64 (x + d), .int .i64 (y + f), .int .i64 j] 93) rfl) hbd (by simp)
                have kr2 := blk_below (blk_alloc kr _) hbd (blk_lt (blk_alloc kr _))
                have hend3 : Below w.heap.size w wd := stay_b (ba hend _) hbd
                clear t0 t1 t2 e0 e1 e2 e3 st se sr kt ke kr hbd hend hend2
                have u0 := cell_of_blk ku 0
                have u1 := cell_of_blk ku 1
                have u2 := cell_of_blk ku 2
                have r0 := cell_of_blk kr2 0
                have r1 := cell_of_blk kr2 1
                have r2 := cell_of_blk kr2 2
                simp only [List.getElem?_toArray, List.getElem?_cons_zero, List.getElem?_cons_succ] at u0 u1 u2 r0 r1 r2
                have su := blk_lt ku
                have sr := blk_lt kr2
                have fr := frozen_of_blk kr2
                clear ku kr2
                go_wp2
                refine bodyPost_ret (v := .tuple #[.agg #[.int .i64 (x + d), .int .i64 (y + f), .int .i64 j], .bool true]) (by simp [results, Tryd.results51, go_sem, r0, r1, r2]) rfl ⟨by rw [HE.out.1, HE.out.2.1, HE.out.2.2], ?_⟩
                exact set3_below hend3 _ (by omega) _ _ _
              · have hn : ¬ (d = d0 ∧ f = f0 ∧ j = j0) := by
                  rintro ⟨rfl, rfl, rfl⟩
                  have := HH.out
                  simp [hitB, q, p] at this
                have Q := Lib.hid q
                have P := Lib.hid p
                clear q p
                go_wp2_with fail
                refine (has_any (x + d) (y + f) j m _ (by omega) (by omega) (by omega) (by omega) hj1 hj).mono ?_
                rintro e wd ⟨rfl, hbd⟩
                rw [P.out]
                have hend3 := stay_b (ba hbel3 _) hbd
                clear t0 t1 t2 e0 e1 e2 e3 st se sr kt ke kr hbd hend hend2
                go_wp2
                go_roundw
                case rel => exact ⟨j + 1, by omega, by omega, by omega, rfl, hend3⟩
                case measure => simp [intOf]; omega
          · have hn : ¬ (d = d0 ∧ f = f0) := fun h => by have := hj3 h; omega
            clear kt ke kr
            go_wp2
            go_roundw
            case rel => exact ⟨f + 1, by omega, by omega, by omega, rfl, hbel3⟩
            case measure => simp [intOf]; omega
      · have hn : ¬ d = d0 := fun h => by have := hf3 h; omega
        go_wp2
        go_roundw
        case rel => exact ⟨d + 1, by omega, by omega, rfl, hbel2⟩
        case measure => simp [intOf]; omega
end Go.Proofs.YtoienokpchbglaaDoor
