/- The document's LessTri; its PlaceOf over what lies in memory.. -/
import Derived.Test.YtbnkabmnenginaaGreatDoorK27
import Derived.Test.YtbnkabmnenginaaGreatDoorK30
import Derived.Test.YtbnkabmnenginaaGreatDoorK25
import Derived.Test.YtbnkabmnenginaaGreatDoorK18
namespace Go.Proofs.YtbnkabmnenginaaGreatDoor
set_option linter.unusedSimpArgs false
set_option linter.unusedVariables false
section
open Go.RowKit Go.Maps
open Classical in
noncomputable def ltT (a b : T3) : Bool := decide (triLt a b)
theorem ltT_iff {a b : T3} : ltT a b = true ↔ triLt a b := @decide_eq_true_iff _ (Classical.propDecidable _)
theorem ltT_yes {a b : T3} (h : triLt a b) : ltT a b = true := ltT_iff.2 h
theorem ltT_no {a b : T3} (h : ¬ triLt a b) : ltT a b = false := @decide_eq_false _ (Classical.propDecidable _) h
set_option maxRecDepth 100000 in
set_option maxHeartbeats 3200000 in
theorem lessTri_any (a b c x y z : Int) (w : World) : Calls Tryz.prog 42 #[.agg #[.int .i64 a, .int .i64 b, .int .i64 c], .agg #[.int .i64 x, .int .i64 y, .int .i64 z]] w fun r w' => r = .returned (.bool (ltT (a, b, c) (x, y, z))) ∧ Below w.heap.size w w' := by
 have hb := ba (below_new w (.cells #[.int .i64 a, .int .i64 b, .int .i64 c] 59)) (.cells #[.int .i64 x, .int .i64 y, .int .i64 z] 59)
 obtain ⟨R, hR⟩ : ∃ R, R = ltT (a, b, c) (x, y, z) := ⟨_, rfl⟩
 rw [← hR]
 by_cases h1 : b = y
 ·subst h1
  by_cases h2 : a = x
  ·subst h2
   have hr : R = decide (c < z) := by
    rw [hR]
    by_cases h3 : c < z
    ·rw [decide_eq_true h3]; exact ltT_yes (by unfold triLt; simp; omega)
    ·rw [decide_eq_false h3]; exact ltT_no (by unfold triLt; simp; omega)
   have HR := Lib.hid hr
   clear hR hr
   go_enter Tryz.func42, Tryz.ntmps42
   go_wp2
   go_ret
   exact ⟨ret_bool HR.out.symm, hb⟩
  ·have hr : R = decide (a < x) := by
    rw [hR]
    by_cases h3 : a < x
    ·rw [decide_eq_true h3]; exact ltT_yes (by unfold triLt; simp; omega)
    ·rw [decide_eq_false h3]; exact ltT_no (by unfold triLt; simp; omega)
   have HR := Lib.hid hr
   clear hR hr
   go_enter Tryz.func42, Tryz.ntmps42
   go_wp2
   go_ret
   exact ⟨ret_bool HR.out.symm, hb⟩
 ·have hr : R = decide (b < y) := by
   rw [hR]
   by_cases h3 : b < y
   ·rw [decide_eq_true h3]; exact ltT_yes (by unfold triLt; simp; omega)
   ·rw [decide_eq_false h3]; exact ltT_no (by unfold triLt; simp; omega)
  have HR := Lib.hid hr
  clear hR hr
  go_enter Tryz.func42, Tryz.ntmps42
  go_wp2
  go_ret
  exact ⟨ret_bool HR.out.symm, hb⟩
set_option maxRecDepth 100000 in
set_option maxHeartbeats 3200000 in
theorem placeRd_any (A : Option Addr) (c : Nat) (L : List T3) (t : T3) (w : World) (ho : Rd w 3 A L.length (tcT L)) (hL : L.length ≤ 140737488351232) :
  Calls Tryz.prog 43 #[.slice A L.length c, aggT3 t] w fun r w' => r = .returned (.int .i64 (placeI L t)) ∧ Below w.heap.size w w' := by
 have ke := heap_alloc_new w (.cells #[.int .i64 t.1, .int .i64 t.2.1, .int .i64 t.2.2] 59)
 have hbw : Below w.heap.size w (w.alloc (.cells #[.int .i64 t.1, .int .i64 t.2.1, .int .i64 t.2.2] 59)) := below_new _ _
 have e0 := cell_of_blk ke 0
 have e1 := cell_of_blk ke 1
 have e2 := cell_of_blk ke 2
 simp only [List.getElem?_toArray, List.getElem?_cons_zero, List.getElem?_cons_succ] at e0 e1 e2
 have hrc := ho.below hbw
 obtain ⟨R, hR⟩ : ∃ R, R = placeI L t := ⟨_, rfl⟩
 rw [← hR]
 have HRC := Lib.hid hrc
 have HR := Lib.hid hR
 clear ho ke hrc hR
 go_enter Tryz.func43, Tryz.ntmps43
 go_wp2_with fail
 generalize (w.alloc (.cells #[.int .i64 t.1, .int .i64 t.2.1, .int .i64 t.2.2] 59)) = w0 at e0 e1 e2 hbw HRC
 have hz0 : w.heap.size < w0.heap.size := World.block_lt_of_cell? _ _ e0
 go_loopw [5] (fun i wr => ∃ j : Nat, j ≤ L.length ∧ i = .int .i64 j ∧ Hid (∀ d ∈ L.take j, d ≠ t) ∧ Below w0.heap.size w0 wr) (fun i _ => L.length - (intOf i).toNat)
 case atStart => exact ⟨0, by omega, rfl, Lib.hid (by simp), Below.refl _ _⟩
 case round =>
  obtain ⟨j, hj, rfl, hall, hbr⟩ := hrel
  by_cases hjn : j < L.length
  ·have hji : (j : Int) < (L.length : Int) := by omega
   have hj0 : (0 : Int) ≤ (j : Int) := by omega
   obtain ⟨u, hu⟩ : ∃ u, L[j]? = some u := ⟨_, List.getElem?_eq_getElem (by omega)⟩
   obtain ⟨gv, ov, hv2, x0, x1, x2⟩ := (HRC.out.below hbr).tr hu rfl
   subst hv2
   have hq : ∀ w', (binOp .eql 59 (.agg #[.int .i64 u.1, .int .i64 u.2.1, .int .i64 u.2.2]) (.agg #[.int .i64 t.1, .int .i64 t.2.1, .int .i64 t.2.2])).run Tryz.prog w' = .ok (.bool (decide (u = t))) w' := fun w' => by
    have h := eqT u.1 u.2.1 u.2.2 t.1 t.2.1 t.2.2 w'
    rw [eqT_dec] at h
    exact h
   have k0 := keep_c e0 hbr hz0
   have k1 := keep_c e1 hbr hz0
   have k2 := keep_c e2 hbr hz0
   have HC := Lib.hid hu
   clear hu
   by_cases hce : u = t
   ·rw [decide_eq_true hce] at hq
    have hres : R = j := by rw [HR.out]; exact placeI_at (hce ▸ HC.out) hall.out
    have HRES := Lib.hid hres
    clear hres hce
    go_wp2_with fail
    have hSS : wr.drew.cell? ⟨gv, ov + j * 3, none⟩ = some (.int .i64 u.1) ∧ wr.drew.cell? ⟨gv, ov + j * 3 + 1, none⟩ = some (.int .i64 u.2.1) ∧ wr.drew.cell? ⟨gv, ov + j * 3 + 2, none⟩ = some (.int .i64 u.2.2) ∧ wr.drew.cell? ⟨w.heap.size, 0, none⟩ = some (.int .i64 t.1) ∧ wr.drew.cell? ⟨w.heap.size, 1, none⟩ = some (.int .i64 t.2.1) ∧ wr.drew.cell? ⟨w.heap.size, 2, none⟩ = some (.int .i64 t.2.2) ∧ Below w0.heap.size w0 wr.drew := ⟨x0, x1, x2, k0, k1, k2, hbr.drew⟩
    go_region_held3 (fun w' => w'.cell? ⟨gv, ov + j * 3, none⟩ = some (.int .i64 u.1) ∧ w'.cell? ⟨gv, ov + j * 3 + 1, none⟩ = some (.int .i64 u.2.1) ∧ w'.cell? ⟨gv, ov + j * 3 + 2, none⟩ = some (.int .i64 u.2.2) ∧ w'.cell? ⟨w.heap.size, 0, none⟩ = some (.int .i64 t.1) ∧ w'.cell? ⟨w.heap.size, 1, none⟩ = some (.int .i64 t.2.1) ∧ w'.cell? ⟨w.heap.size, 2, none⟩ = some (.int .i64 t.2.2) ∧ Below w0.heap.size w0 w')
     (first
      | with_reducible exact hSS
      | with_reducible assumption)
     (first
      | fail)
    rename_i hSE
    have hbe : Below w0.heap.size w0 _ := hSE.2.2.2.2.2.2
    clear hSS hSE
    go_wp2
    go_ret
    exact ⟨ret_int HRES.out.symm, stay_b hbw hbe⟩
   ·rw [decide_eq_false hce] at hq
    have hnx := take_no (P := fun d : T3 => d ≠ t) HC.out hall.out hce
    have HNX := Lib.hid hnx
    clear hnx hce
    go_wp2_with fail
    have hSS : wr.drew.cell? ⟨gv, ov + j * 3, none⟩ = some (.int .i64 u.1) ∧ wr.drew.cell? ⟨gv, ov + j * 3 + 1, none⟩ = some (.int .i64 u.2.1) ∧ wr.drew.cell? ⟨gv, ov + j * 3 + 2, none⟩ = some (.int .i64 u.2.2) ∧ wr.drew.cell? ⟨w.heap.size, 0, none⟩ = some (.int .i64 t.1) ∧ wr.drew.cell? ⟨w.heap.size, 1, none⟩ = some (.int .i64 t.2.1) ∧ wr.drew.cell? ⟨w.heap.size, 2, none⟩ = some (.int .i64 t.2.2) ∧ Below w0.heap.size w0 wr.drew := ⟨x0, x1, x2, k0, k1, k2, hbr.drew⟩
    go_region_held3 (fun w' => w'.cell? ⟨gv, ov + j * 3, none⟩ = some (.int .i64 u.1) ∧ w'.cell? ⟨gv, ov + j * 3 + 1, none⟩ = some (.int .i64 u.2.1) ∧ w'.cell? ⟨gv, ov + j * 3 + 2, none⟩ = some (.int .i64 u.2.2) ∧ w'.cell? ⟨w.heap.size, 0, none⟩ = some (.int .i64 t.1) ∧ w'.cell? ⟨w.heap.size, 1, none⟩ = some (.int .i64 t.2.1) ∧ w'.cell? ⟨w.heap.size, 2, none⟩ = some (.int .i64 t.2.2) ∧ Below w0.heap.size w0 w')
     (first
      | with_reducible exact hSS
      | with_reducible assumption)
     (first
      | fail)
    rename_i hSE
    have hbe : Below w0.heap.size w0 _ := hSE.2.2.2.2.2.2
    clear hSS hSE
    go_wp2
    go_roundw
    case rel => exact ⟨j + 1, by omega, by go_num, HNX, hbe⟩
    case measure => simp [intOf]; omega
  ·obtain rfl : j = L.length := by omega
   have hres : R = -1 := by
    rw [HR.out]
    refine placeI_no ?_
    have := hall.out
    rwa [List.take_length] at this
   have HRES := Lib.hid hres
   clear hres
   go_wp2
   go_ret
   exact ⟨ret_int HRES.out.symm, stay_b hbw hbr⟩
end
end Go.Proofs.YtbnkabmnenginaaGreatDoor
