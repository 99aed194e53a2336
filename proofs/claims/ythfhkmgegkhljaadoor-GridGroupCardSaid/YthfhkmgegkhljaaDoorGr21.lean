/- slices.Index over three edges. Printed by gen_gr21.py. -/
import Derived.Test.YthfhkmgegkhljaaDoorGr20
namespace Go.Proofs.YthfhkmgegkhljaaDoor
open Go.RowKit

set_option maxRecDepth 100000 in
set_option maxHeartbeats 3200000 in
theorem index3_any (a b c m : E4) (g : Nat) (w : World) (k_l_0 : w.heap[g]? = some (.cells #[.int .i64 (a.1), .int .i64 (a.2.1), .int .i64 (a.2.2.1), .int .i64 (a.2.2.2), .int .i64 (b.1), .int .i64 (b.2.1), .int .i64 (b.2.2.1), .int .i64 (b.2.2.2), .int .i64 (c.1), .int .i64 (c.2.1), .int .i64 (c.2.2.1), .int .i64 (c.2.2.2)] 32 (0, 0))) :
    Calls Tryd.prog 38 #[.slice (some ⟨g, 0, none⟩) 3 3, aggE m] w fun e w' => e = .returned (.int .i64 (idxE a b c m)) ∧ Below w.heap.size w w' := by
  obtain ⟨R, hR⟩ : ∃ R, R = idxE a b c m := ⟨_, rfl⟩
  rw [← hR]
  have HR : Hid ((eqE4 m a = true → R = 0) ∧ (eqE4 m a = false → eqE4 m b = true → R = 1) ∧ (eqE4 m a = false → eqE4 m b = false → eqE4 m c = true → R = 2) ∧ (eqE4 m a = false → eqE4 m b = false → eqE4 m c = false → R = -1)) := Lib.hid (by rw [hR]; refine ⟨?_, ?_, ?_, ?_⟩ <;> intros <;> simp [idxE, *])
  clear hR
  have hgl := blk_lt k_l_0
  have c0 := cell_of_blk k_l_0 0
  have c1 := cell_of_blk k_l_0 1
  have c2 := cell_of_blk k_l_0 2
  have c3 := cell_of_blk k_l_0 3
  have c4 := cell_of_blk k_l_0 4
  have c5 := cell_of_blk k_l_0 5
  have c6 := cell_of_blk k_l_0 6
  have c7 := cell_of_blk k_l_0 7
  have c8 := cell_of_blk k_l_0 8
  have c9 := cell_of_blk k_l_0 9
  have c10 := cell_of_blk k_l_0 10
  have c11 := cell_of_blk k_l_0 11
  simp only [List.getElem?_toArray, List.getElem?_cons_zero, List.getElem?_cons_succ] at c0 c1 c2 c3 c4 c5 c6 c7 c8 c9 c10 c11
  have c0 := al_c c0 (.cells #[.int .i64 (m.1), .int .i64 (m.2.1), .int .i64 (m.2.2.1), .int .i64 (m.2.2.2)] 27)
  have c1 := al_c c1 (.cells #[.int .i64 (m.1), .int .i64 (m.2.1), .int .i64 (m.2.2.1), .int .i64 (m.2.2.2)] 27)
  have c2 := al_c c2 (.cells #[.int .i64 (m.1), .int .i64 (m.2.1), .int .i64 (m.2.2.1), .int .i64 (m.2.2.2)] 27)
  have c3 := al_c c3 (.cells #[.int .i64 (m.1), .int .i64 (m.2.1), .int .i64 (m.2.2.1), .int .i64 (m.2.2.2)] 27)
  have c4 := al_c c4 (.cells #[.int .i64 (m.1), .int .i64 (m.2.1), .int .i64 (m.2.2.1), .int .i64 (m.2.2.2)] 27)
  have c5 := al_c c5 (.cells #[.int .i64 (m.1), .int .i64 (m.2.1), .int .i64 (m.2.2.1), .int .i64 (m.2.2.2)] 27)
  have c6 := al_c c6 (.cells #[.int .i64 (m.1), .int .i64 (m.2.1), .int .i64 (m.2.2.1), .int .i64 (m.2.2.2)] 27)
  have c7 := al_c c7 (.cells #[.int .i64 (m.1), .int .i64 (m.2.1), .int .i64 (m.2.2.1), .int .i64 (m.2.2.2)] 27)
  have c8 := al_c c8 (.cells #[.int .i64 (m.1), .int .i64 (m.2.1), .int .i64 (m.2.2.1), .int .i64 (m.2.2.2)] 27)
  have c9 := al_c c9 (.cells #[.int .i64 (m.1), .int .i64 (m.2.1), .int .i64 (m.2.2.1), .int .i64 (m.2.2.2)] 27)
  have c10 := al_c c10 (.cells #[.int .i64 (m.1), .int .i64 (m.2.1), .int .i64 (m.2.2.1), .int .i64 (m.2.2.2)] 27)
  have c11 := al_c c11 (.cells #[.int .i64 (m.1), .int .i64 (m.2.1), .int .i64 (m.2.2.1), .int .i64 (m.2.2.2)] 27)
  clear k_l_0
  have hb0 : Below w.heap.size w (w.alloc (.cells #[.int .i64 (m.1), .int .i64 (m.2.1), .int .i64 (m.2.2.1), .int .i64 (m.2.2.2)] 27)) := ba (Below.refl _ _) _
  have ke := heap_alloc_new w (.cells #[.int .i64 (m.1), .int .i64 (m.2.1), .int .i64 (m.2.2.1), .int .i64 (m.2.2.2)] 27)
  have e0 := cell_of_blk ke 0
  have e1 := cell_of_blk ke 1
  have e2 := cell_of_blk ke 2
  have e3 := cell_of_blk ke 3
  simp only [List.getElem?_toArray, List.getElem?_cons_zero, List.getElem?_cons_succ] at e0 e1 e2 e3
  clear ke
  have hge : w.heap.size ≤ w.heap.size := Nat.le_refl _
  go_enter Tryd.func38, Tryd.ntmps38
  go_wp2
  go_loopw [8] (fun i wr => ∃ n : Nat, n ≤ 3 ∧ i = .int .i64 n ∧ (0 < n → eqE4 m a = false) ∧ (1 < n → eqE4 m b = false) ∧ (2 < n → eqE4 m c = false) ∧ Below (w.alloc (.cells #[.int .i64 (m.1), .int .i64 (m.2.1), .int .i64 (m.2.2.1), .int .i64 (m.2.2.2)] 27)).heap.size (w.alloc (.cells #[.int .i64 (m.1), .int .i64 (m.2.1), .int .i64 (m.2.2.1), .int .i64 (m.2.2.2)] 27)) wr) (fun i _ => 3 - (intOf i).toNat)
  case atStart => exact ⟨0, by omega, rfl, by omega, by omega, by omega, Below.refl _ _⟩
  case round =>
    obtain ⟨n, hn, rfl, g0, g1, g2, hbel⟩ := hrel
    have c0 := stay_c c0 hbel (Nat.le_refl _)
    have c1 := stay_c c1 hbel (Nat.le_refl _)
    have c2 := stay_c c2 hbel (Nat.le_refl _)
    have c3 := stay_c c3 hbel (Nat.le_refl _)
    have c4 := stay_c c4 hbel (Nat.le_refl _)
    have c5 := stay_c c5 hbel (Nat.le_refl _)
    have c6 := stay_c c6 hbel (Nat.le_refl _)
    have c7 := stay_c c7 hbel (Nat.le_refl _)
    have c8 := stay_c c8 hbel (Nat.le_refl _)
    have c9 := stay_c c9 hbel (Nat.le_refl _)
    have c10 := stay_c c10 hbel (Nat.le_refl _)
    have c11 := stay_c c11 hbel (Nat.le_refl _)
    have e0 := stay_c e0 hbel (Nat.le_refl _)
    have e1 := stay_c e1 hbel (Nat.le_refl _)
    have e2 := stay_c e2 hbel (Nat.le_refl _)
    have e3 := stay_c e3 hbel (Nat.le_refl _)
    have hend : Below w.heap.size w wr := hb0.trans (hbel.mono hb0.size)
    have hn4 : n = 0 ∨ n = 1 ∨ n = 2 ∨ n = 3 := by omega
    rcases hn4 with rfl | rfl | rfl | rfl
    · have G0 := Lib.hid g0
      have G1 := Lib.hid g1
      have G2 := Lib.hid g2
      clear g0 g1 g2
      rcases Bool.eq_false_or_eq_true (eqE4 m a) with q | q
      · have Q := Lib.hid q
        clear q
        have r : ∀ w : World, (binOp .eql 27 (aggE m) (aggE a)).run Tryd.prog w = .ok (.bool true) w := fun w => by rw [qE, Q.out]
        go_wp2_with fail
        go_quiet (fail)
        go_wp2
        go_ret
        exact ⟨by rw [HR.out.1 Q.out]; rfl, below_drewN hend _⟩
      · have Q := Lib.hid q
        clear q
        have r : ∀ w : World, (binOp .eql 27 (aggE m) (aggE a)).run Tryd.prog w = .ok (.bool false) w := fun w => by rw [qE, Q.out]
        go_wp2_with fail
        go_quiet (fail)
        go_wp2
        go_roundw
        case rel => exact ⟨1, by omega, rfl, (fun _ => Q.out), (fun h => absurd h (by omega)), (fun h => absurd h (by omega)), below_drewN hbel _⟩
        case measure => simp [intOf]
    · have G0 := Lib.hid g0
      have G1 := Lib.hid g1
      have G2 := Lib.hid g2
      clear g0 g1 g2
      rcases Bool.eq_false_or_eq_true (eqE4 m b) with q | q
      · have Q := Lib.hid q
        clear q
        have r : ∀ w : World, (binOp .eql 27 (aggE m) (aggE b)).run Tryd.prog w = .ok (.bool true) w := fun w => by rw [qE, Q.out]
        go_wp2_with fail
        go_quiet (fail)
        go_wp2
        go_ret
        exact ⟨by rw [HR.out.2.1 (G0.out (by omega)) Q.out]; rfl, below_drewN hend _⟩
      · have Q := Lib.hid q
        clear q
        have r : ∀ w : World, (binOp .eql 27 (aggE m) (aggE b)).run Tryd.prog w = .ok (.bool false) w := fun w => by rw [qE, Q.out]
        go_wp2_with fail
        go_quiet (fail)
        go_wp2
        go_roundw
        case rel => exact ⟨2, by omega, rfl, (fun _ => G0.out (by omega)), (fun _ => Q.out), (fun h => absurd h (by omega)), below_drewN hbel _⟩
        case measure => simp [intOf]
    · have G0 := Lib.hid g0
      have G1 := Lib.hid g1
      have G2 := Lib.hid g2
      clear g0 g1 g2
      rcases Bool.eq_false_or_eq_true (eqE4 m c) with q | q
      · have Q := Lib.hid q
        clear q
        have r : ∀ w : World, (binOp .eql 27 (aggE m) (aggE c)).run Tryd.prog w = .ok (.bool true) w := fun w => by rw [qE, Q.out]
        go_wp2_with fail
        go_quiet (fail)
        go_wp2
        go_ret
        exact ⟨by rw [HR.out.2.2.1 (G0.out (by omega)) (G1.out (by omega)) Q.out]; rfl, below_drewN hend _⟩
      · have Q := Lib.hid q
        clear q
        have r : ∀ w : World, (binOp .eql 27 (aggE m) (aggE c)).run Tryd.prog w = .ok (.bool false) w := fun w => by rw [qE, Q.out]
        go_wp2_with fail
        go_quiet (fail)
        go_wp2
        go_roundw
        case rel => exact ⟨3, by omega, rfl, (fun _ => G0.out (by omega)), (fun _ => G1.out (by omega)), (fun _ => Q.out), below_drewN hbel _⟩
        case measure => simp [intOf]
    · have HL : Hid (R = -1) := Lib.hid (HR.out.2.2.2 (g0 (by omega)) (g1 (by omega)) (g2 (by omega)))
      clear g0 g1 g2
      go_wp2
      go_ret
      exact ⟨by rw [HL.out]; rfl, hend⟩
end Go.Proofs.YthfhkmgegkhljaaDoor
