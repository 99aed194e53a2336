/- The document's cellsMay, joinedSheet, LessEdge.. -/
import Derived.Test.YtpkjekedgodccaaGreatDoorK43
namespace Go.Proofs.YtpkjekedgodccaaGreatDoor
set_option linter.unusedSimpArgs false
set_option linter.unusedVariables false
section
open Go.RowKit Go.Maps
theorem compL_closed {l : List T3} {c : E4 → Bool} {a : T3} (hnd : l.Nodup) (ha : a ∈ l) : Closed l c a (compL l c a) where
 nd := by unfold compL; exact hnd.filter _
 fst := (compL_mem ha).2 .refl
 rch t ht := (compL_mem ha).1 ht
 cl t ht i hi hc hm := (compL_mem ha).2 (.step ((compL_mem ha).1 ht) hi hc hm)
theorem joinB_who {l : List T3} {who : List Nat} (hnd : l.Nodup) (hl : ∀ t ∈ l, K4 t) (hg : Grp l (fun _ => true) who) : joinB l = ((who.all fun z => z == 0) && decide (0 < l.length)) := by
 cases l with
 | nil => simp [joinB]
 | cons a l0 =>
  rw [joined_law hnd hl (a := a) rfl hg (compL_closed hnd (List.mem_cons_self))]
  simp [joinB]
set_option maxRecDepth 100000 in
set_option maxHeartbeats 3200000 in
theorem joinedSheet_any (W H : Nat) (Am Ac : Option Addr) (nm cm nc cc : Nat) (mask : List Int) (cs : List C5) (w : World) (hS : ShM w W H Am nm mask Ac nc cs) :
  Calls Tryz.prog 40 #[shV W H Am nm cm Ac nc cc] w fun r w' => r = .returned (.bool (joinB (trisL W mask))) ∧ Below w.heap.size w w' := by
 have hjw := fun who hg => joinB_who (l := trisL W mask) (who := who) (sorted_nodup hS.tris_sorted) (fun t ht => (hS.tris_sm ht).2.2) hg
 have kb0 := heap_alloc_new w (.cells #[.int .i64 W, .int .i64 H, .slice Am nm cm, .slice Ac nc cc] 25)
 have hbw := below_new w (.cells #[.int .i64 W, .int .i64 H, .slice Am nm cm, .slice Ac nc cc] 25)
 have hlen := hS.tris_len
 have cG := groups_any true W H Am Ac nm cm nc cc mask cs _ (hS.below hbw)
 have a0 := cell_of_blk kb0 0
 have a1 := cell_of_blk kb0 1
 have a2 := cell_of_blk kb0 2
 have a3 := cell_of_blk kb0 3
 simp only [List.getElem?_toArray, List.getElem?_cons_zero, List.getElem?_cons_succ] at a0 a1 a2 a3
 obtain ⟨L, hL⟩ : ∃ L, L = trisL W mask := ⟨_, rfl⟩
 rw [← hL] at cG hjw hlen ⊢
 obtain ⟨R, hR⟩ : ∃ R, R = joinB L := ⟨_, rfl⟩
 rw [← hR] at hjw ⊢
 have CG := Lib.hid cG
 have HJ := Lib.hid hjw
 clear cG hL hS kb0 hjw hR
 go_enter Tryz.func40, Tryz.ntmps40
 go_wp2_with (go_at_call 73; refine CG.out.mono ?_; rintro r w1 ⟨who, gw, rfl, hgr, hrow, hge, hb1⟩)
 have hb2 := stay_b hbw hb1
 have hwl := hgr.len
 have hjr := HJ.out who hgr
 have HJR := Lib.hid hjr
 have HROW := Lib.hid hrow
 clear hgr hrow hge hbw hb1 hjr
 go_loopw [4] (fun i wr => ∃ j : Nat, j ≤ L.length ∧ i = .int .i64 j ∧ wr = w1 ∧ Hid (∀ z ∈ who.take j, z = 0)) (fun i _ => L.length - (intOf i).toNat)
 case atStart => exact ⟨0, by omega, rfl, rfl, Lib.hid (by simp)⟩
 case round =>
  obtain ⟨j, hj, rfl, rfl, hall⟩ := hrel
  by_cases hjn : j < L.length
  ·have hji : (j : Int) < (L.length : Int) := by omega
   have hj0 : (0 : Int) ≤ (j : Int) := by omega
   obtain ⟨z, hz⟩ : ∃ z, who[j]? = some z := ⟨_, List.getElem?_eq_getElem (by omega)⟩
   have hc : wr.cell? ⟨gw, j, none⟩ = some (.int .i64 (z : Int)) := by
    rw [cell_of_blk HROW.out j, List.getElem?_toArray, visN, List.getElem?_map, hz]
    rfl
   have HZ := Lib.hid hz
   clear hz
   cases z with
   | zero =>
    have hnx := take_no (P := fun d : Nat => d = 0) HZ.out hall.out rfl
    have HNX := Lib.hid hnx
    clear hnx
    go_wp2
    go_roundw
    case rel => exact ⟨j + 1, by omega, by go_num, trivial, HNX⟩
    case measure => simp [intOf]; omega
   | succ z =>
    have hne : ((((z + 1 : Nat) : Int)) != 0) = true := by simp; omega
    have hres : R = false := by
     rw [HJR.out, Bool.and_eq_false_iff]
     left
     rw [Bool.eq_false_iff]
     intro h
     have := List.all_eq_true.1 h _ (List.mem_of_getElem? HZ.out)
     simp at this
    have HRES := Lib.hid hres
    clear hres
    go_wp2
    go_ret
    exact ⟨ret_bool HRES.out.symm, hb2⟩
  ·obtain rfl : j = L.length := by omega
   have hres : decide (0 < L.length) = R := by
    rw [HJR.out]
    have : (who.all fun z => z == 0) = true := by
     rw [List.all_eq_true]
     intro z hz
     have := hall.out z (by rw [List.take_of_length_le (by omega)]; exact hz)
     simp [this]
    rw [this, Bool.true_and]
   have HRES := Lib.hid hres
   clear hres
   go_wp2
   go_ret
   refine ⟨ret_bool (Eq.trans ?_ HRES.out), hb2⟩
   simp
set_option maxRecDepth 100000 in
set_option maxHeartbeats 3200000 in
theorem cellsMay_any (W H : Int) (Am Ac : Option Addr) (nm cm nc cc : Nat) (mask : List Int) (w : World) (hm : Rd w 1 Am nm (vis mask)) (hn : nm ≤ 140737488351232) :
  Calls Tryz.prog 37 #[.agg #[.int .i64 W, .int .i64 H, .slice Am nm cm, .slice Ac nc cc]] w fun r w' => r = .returned (.bool (cellsB W H mask)) ∧ Below w.heap.size w w' := by
 have hl := hm.ints_len
 have kb0 := heap_alloc_new w (.cells #[.int .i64 W, .int .i64 H, .slice Am nm cm, .slice Ac nc cc] 25)
 have hbw := below_new w (.cells #[.int .i64 W, .int .i64 H, .slice Am nm cm, .slice Ac nc cc] 25)
 have hm2 := hm.below hbw
 have a0 := cell_of_blk kb0 0
 have a1 := cell_of_blk kb0 1
 have a2 := cell_of_blk kb0 2
 have a3 := cell_of_blk kb0 3
 simp only [List.getElem?_toArray, List.getElem?_cons_zero, List.getElem?_cons_succ] at a0 a1 a2 a3
 have c1 := fun (w1 : World) => inB_any W 1 8 w1
 have c2 := fun (w1 : World) => inB_any H 1 8 w1
 obtain ⟨B1, hB1⟩ : ∃ b, b = (decide (1 ≤ W) && decide (W ≤ 8)) := ⟨_, rfl⟩
 obtain ⟨B2, hB2⟩ : ∃ b, b = (decide (1 ≤ H) && decide (H ≤ 8)) := ⟨_, rfl⟩
 rw [← hB1] at c1
 rw [← hB2] at c2
 obtain ⟨R, hR⟩ : ∃ R, R = cellsB W H mask := ⟨_, rfl⟩
 rw [← hR]
 have C1 := Lib.hid c1
 have C2 := Lib.hid c2
 have HR := Lib.hid hR
 have HB1 := Lib.hid hB1
 have HB2 := Lib.hid hB2
 have HM := Lib.hid hm2
 clear c1 c2 hR hB1 hB2 hm hm2 kb0
 cases B1 with
 | false =>
  have hres : R = false := by
   rw [HR.out]
   refine cellsB_no ?_
   have := HB1.out.symm
   simp at this
   omega
  have HRES := Lib.hid hres
  clear hres
  go_enter Tryz.func37, Tryz.ntmps37
  go_wp2_with (first
   | ((with_reducible refine (C1.out _).mono ?_); rintro e wc ⟨he, hw⟩; subst he; subst hw)
   | ((with_reducible refine (C2.out _).mono ?_); rintro e wc ⟨he, hw⟩; subst he; subst hw))
  go_ret
  exact ⟨ret_bool HRES.out.symm, hbw⟩
 | true =>
  cases B2 with
  | false =>
   have hres : R = false := by
    rw [HR.out]
    refine cellsB_no ?_
    have := HB2.out.symm
    simp at this
    omega
   have HRES := Lib.hid hres
   clear hres
   go_enter Tryz.func37, Tryz.ntmps37
   go_wp2_with (first
    | ((with_reducible refine (C1.out _).mono ?_); rintro e wc ⟨he, hw⟩; subst he; subst hw)
    | ((with_reducible refine (C2.out _).mono ?_); rintro e wc ⟨he, hw⟩; subst he; subst hw))
   go_ret
   exact ⟨ret_bool HRES.out.symm, hbw⟩
  | true =>
   have h1 : 1 ≤ W ∧ W ≤ 8 := by have := HB1.out.symm; simp at this; omega
   have h2 : 1 ≤ H ∧ H ≤ 8 := by have := HB2.out.symm; simp at this; omega
   have hwm : IntKind.i64.wrap (W * H) = W * H := by
    have q1 : 0 ≤ W * H := Int.mul_nonneg (by omega) (by omega)
    have q2 : W * H ≤ 8 * 8 := Int.mul_le_mul (by omega) (by omega) (by omega) (by omega)
    exact IntWalk.i64_in _ (by omega)
   by_cases h3 : (nm : Int) = W * H
   ·have hne : ((nm : Int) != W * H) = false := by simpa using h3
    have hre : R = mask.all fun m => decide (0 ≤ m ∧ m ≤ 15) := by rw [HR.out, cellsB_dim h1 h2 (by omega)]
    have HRE := Lib.hid hre
    clear hre h3
    go_enter Tryz.func37, Tryz.ntmps37
    go_wp2_with (first
     | ((with_reducible refine (C1.out _).mono ?_); rintro e wc ⟨he, hw⟩; subst he; subst hw)
     | ((with_reducible refine (C2.out _).mono ?_); rintro e wc ⟨he, hw⟩; subst he; subst hw))
    generalize (w.alloc (.cells #[.int .i64 W, .int .i64 H, .slice Am nm cm, .slice Ac nc cc] 25)) = w0 at a0 a1 a2 a3 hbw HM ⊢
    go_loopw [3] (fun i wr => ∃ j : Nat, j ≤ nm ∧ i = .int .i64 j ∧ wr = w0 ∧ Hid (∀ z ∈ mask.take j, 0 ≤ z ∧ z ≤ 15)) (fun i _ => nm - (intOf i).toNat)
    case atStart => exact ⟨0, by omega, rfl, rfl, Lib.hid (by simp)⟩
    case round =>
     obtain ⟨j, hj, rfl, rfl, hall⟩ := hrel
     by_cases hjn : j < nm
     ·have hji : (j : Int) < (nm : Int) := by omega
      have hj0 : (0 : Int) ≤ (j : Int) := by omega
      obtain ⟨b, off, z, hA, _, hz, hcz⟩ := HM.out.int hjn
      subst hA
      have c3 := fun (w1 : World) => inB_any z 0 15 w1
      obtain ⟨B3, hB3⟩ : ∃ b, b = (decide (0 ≤ z) && decide (z ≤ 15)) := ⟨_, rfl⟩
      rw [← hB3] at c3
      have C3 := Lib.hid c3
      have HB3 := Lib.hid hB3
      have HZ := Lib.hid hz
      clear c3 hB3 hz
      cases B3 with
      | false =>
       have hres : R = false := by
        rw [HRE.out, Bool.eq_false_iff]
        intro h
        have h4 := List.all_eq_true.1 h _ (List.mem_of_getElem? HZ.out)
        have := HB3.out.symm
        simp at this h4
        omega
       have HRES := Lib.hid hres
       clear hres
       go_wp2_with ((with_reducible refine (C3.out _).mono ?_); rintro e wc ⟨he, hw⟩; subst he; subst hw)
       go_ret
       exact ⟨ret_bool HRES.out.symm, hbw⟩
      | true =>
       have hnx := take_no (P := fun d : Int => 0 ≤ d ∧ d ≤ 15) HZ.out hall.out (by have := HB3.out.symm; simp at this; exact this)
       have HNX := Lib.hid hnx
       clear hnx
       go_wp2_with ((with_reducible refine (C3.out _).mono ?_); rintro e wc ⟨he, hw⟩; subst he; subst hw)
       go_roundw
       case rel => exact ⟨j + 1, by omega, by go_num, trivial, HNX⟩
       case measure => simp [intOf]; omega
     ·obtain rfl : j = nm := by omega
      have hres : R = true := by
       rw [HRE.out, List.all_eq_true]
       intro z hz
       have := hall.out z (by rw [List.take_of_length_le (by omega)]; exact hz)
       simp [this]
      have HRES := Lib.hid hres
      clear hres
      go_wp2
      go_ret
      exact ⟨ret_bool HRES.out.symm, hbw⟩
   ·have hne : ((nm : Int) != W * H) = true := by simpa using h3
    have hres : R = false := by
     rw [HR.out]
     exact cellsB_no (.inr (.inr (.inr (.inr (by omega)))))
    have HRES := Lib.hid hres
    clear hres h3
    go_enter Tryz.func37, Tryz.ntmps37
    go_wp2_with (first
     | ((with_reducible refine (C1.out _).mono ?_); rintro e wc ⟨he, hw⟩; subst he; subst hw)
     | ((with_reducible refine (C2.out _).mono ?_); rintro e wc ⟨he, hw⟩; subst he; subst hw))
    go_ret
    exact ⟨ret_bool HRES.out.symm, hbw⟩
theorem lessE_eq (a b : E4) : lessE a b = (lessB a.1 a.2.1 b.1 b.2.1 || (eqL [(a.1, b.1), (a.2.1, b.2.1)] && lessB a.2.2.1 a.2.2.2 b.2.2.1 b.2.2.2)) := by
 have : eqL [(a.1, b.1), (a.2.1, b.2.1)] = decide (a.1 = b.1 ∧ a.2.1 = b.2.1) := by
  rw [Bool.eq_iff_iff]
  simp [eqL]
 rw [this]
 rfl
set_option maxRecDepth 100000 in
set_option maxHeartbeats 3200000 in
theorem lessEdge_any (a b : E4) (w : World) : Calls Tryz.prog 38 #[aggE a, aggE b] w fun r w' => r = .returned (.bool (lessE a b)) ∧ Below w.heap.size w w' := by
 rw [lessE_eq]
 have kb0 := heap_alloc_new w (.cells #[.int .i64 a.1, .int .i64 a.2.1, .int .i64 a.2.2.1, .int .i64 a.2.2.2] 100)
 have kb1 := blk_alloc kb0 (.cells #[.int .i64 b.1, .int .i64 b.2.1, .int .i64 b.2.2.1, .int .i64 b.2.2.2] 100)
 have ke := heap_alloc_new (w.alloc (.cells #[.int .i64 a.1, .int .i64 a.2.1, .int .i64 a.2.2.1, .int .i64 a.2.2.2] 100)) (.cells #[.int .i64 b.1, .int .i64 b.2.1, .int .i64 b.2.2.1, .int .i64 b.2.2.2] 100)
 rw [World.size_alloc] at ke
 have hbw : Below w.heap.size w ((w.alloc (.cells #[.int .i64 a.1, .int .i64 a.2.1, .int .i64 a.2.2.1, .int .i64 a.2.2.2] 100)).alloc (.cells #[.int .i64 b.1, .int .i64 b.2.1, .int .i64 b.2.2.1, .int .i64 b.2.2.2] 100)) := ba (below_new _ _) _
 have a0 := cell_of_blk kb1 0
 have a1 := cell_of_blk kb1 1
 have a2 := cell_of_blk kb1 2
 have a3 := cell_of_blk kb1 3
 have e0 := cell_of_blk ke 0
 have e1 := cell_of_blk ke 1
 have e2 := cell_of_blk ke 2
 have e3 := cell_of_blk ke 3
 simp only [List.getElem?_toArray, List.getElem?_cons_zero, List.getElem?_cons_succ] at a0 a1 a2 a3 e0 e1 e2 e3
 have c1 := fun (w1 : World) => less_any a.1 a.2.1 b.1 b.2.1 w1
 have c2 := fun (w1 : World) => less_any a.2.2.1 a.2.2.2 b.2.2.1 b.2.2.2 w1
 have hq := fun (w1 : World) => eqP a.1 a.2.1 b.1 b.2.1 w1
 obtain ⟨B1, hB1⟩ : ∃ x, x = lessB a.1 a.2.1 b.1 b.2.1 := ⟨_, rfl⟩
 obtain ⟨B2, hB2⟩ : ∃ x, x = lessB a.2.2.1 a.2.2.2 b.2.2.1 b.2.2.2 := ⟨_, rfl⟩
 obtain ⟨B3, hB3⟩ : ∃ x, x = eqL [(a.1, b.1), (a.2.1, b.2.1)] := ⟨_, rfl⟩
 rw [← hB1] at c1
 rw [← hB2] at c2
 rw [← hB3] at hq
 rw [← hB1, ← hB2, ← hB3]
 have C1 := Lib.hid c1
 have C2 := Lib.hid c2
 clear c1 c2 hB1 hB2 hB3 kb0 kb1 ke
 cases B1 with
 | true =>
  go_enter Tryz.func38, Tryz.ntmps38
  go_wp2_with (first
   | ((with_reducible refine (C1.out _).mono ?_); rintro e wc ⟨rfl, hb⟩; have HB := Lib.hid (stay_b hbw hb)))
  go_ret
  exact ⟨rfl, HB.out⟩
 | false =>
  cases B3 with
  | false =>
   go_enter Tryz.func38, Tryz.ntmps38
   go_wp2_with (first
    | ((with_reducible refine (C1.out _).mono ?_); rintro e wc ⟨rfl, hb⟩; have HB := Lib.hid (stay_b hbw hb); have a0 := sd a0 hb; have a1 := sd a1 hb; have e0 := sd e0 hb; have e1 := sd e1 hb))
   go_ret
   exact ⟨rfl, HB.out⟩
  | true =>
   go_enter Tryz.func38, Tryz.ntmps38
   go_wp2_with (first
    | ((with_reducible refine (C1.out _).mono ?_); rintro e wc ⟨rfl, hb⟩; have HB := Lib.hid (stay_b hbw hb); have a0 := sd a0 hb; have a1 := sd a1 hb; have a2 := sd a2 hb; have a3 := sd a3 hb; have e0 := sd e0 hb; have e1 := sd e1 hb; have e2 := sd e2 hb; have e3 := sd e3 hb)
    | ((with_reducible refine (C2.out _).mono ?_); rintro e wc2 ⟨rfl, hb⟩; have HB2 := Lib.hid (stay_b HB.out hb)))
   go_ret
   exact ⟨ret_bool (by simp), HB2.out⟩
end
end Go.Proofs.YtpkjekedgodccaaGreatDoor
