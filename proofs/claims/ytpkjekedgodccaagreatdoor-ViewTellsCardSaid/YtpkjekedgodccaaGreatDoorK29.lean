/- (*Pile).whole: do the maps go together? Printed by gen_wh.py.. -/
import Derived.Test.YtpkjekedgodccaaGreatDoorK24
import Derived.Test.YtpkjekedgodccaaGreatDoorK28
namespace Go.Proofs.YtpkjekedgodccaaGreatDoor
set_option linter.unusedSimpArgs false
set_option linter.unusedVariables false
section
open Go.RowKit Go.Maps
theorem LB.one {w : World} {b : Nat} {m : V6} (h : w.heap[b]? = some (.cells #[.int .i64 m.1, .int .i64 m.2.1, .int .i64 m.2.2.1, .int .i64 m.2.2.2.1, .int .i64 m.2.2.2.2.1, .int .i64 m.2.2.2.2.2] 63 (0, 0))) : LB w b [m] := h
theorem LB.cells1 {w : World} {b : Nat} {m : V6} (h : LB w b [m]) : w.cell? ⟨b, 0, none⟩ = some (.int .i64 m.1) ∧ w.cell? ⟨b, 1, none⟩ = some (.int .i64 m.2.1) ∧ w.cell? ⟨b, 2, none⟩ = some (.int .i64 m.2.2.1) ∧ w.cell? ⟨b, 3, none⟩ = some (.int .i64 m.2.2.2.1) ∧ w.cell? ⟨b, 4, none⟩ = some (.int .i64 m.2.2.2.2.1) ∧ w.cell? ⟨b, 5, none⟩ = some (.int .i64 m.2.2.2.2.2) := by
 have h1 := h.at_ (j := 0) (m := m) rfl
 simpa only [Nat.zero_mul, Nat.zero_add] using h1
theorem may_sm {m : V6} (h : mapMayB m = true) : GB m 1000000 := by
 unfold mapMayB tailB inN at h
 simp only [Bool.and_eq_true, decide_eq_true_eq] at h
 exact ⟨h.1, ⟨h.2.1.1.1.1, h.2.1.1.1.2⟩, h.2.1.1.2.1, h.2.1.1.2.2⟩
open Classical in
noncomputable def wholeB (L : List T3) (C : E4 → Bool) (ms : List V6) : Bool := decide (∀ i k, i < L.length → k < 3 → okI L C ms i k)
theorem wholeB_yes {L : List T3} {C : E4 → Bool} {ms : List V6} (h : ∀ i k, i < L.length → k < 3 → okI L C ms i k) : wholeB L C ms = true := @decide_eq_true _ (Classical.propDecidable _) h
theorem wholeB_no {L : List T3} {C : E4 → Bool} {ms : List V6} (h : ¬ ∀ i k, i < L.length → k < 3 → okI L C ms i k) : wholeB L C ms = false := @decide_eq_false _ (Classical.propDecidable _) h
theorem wholeB_iff {L : List T3} {C : E4 → Bool} {ms : List V6} : wholeB L C ms = true ↔ ∀ i k, i < L.length → k < 3 → okI L C ms i k := @decide_eq_true_iff _ (Classical.propDecidable _)
set_option maxRecDepth 100000 in
set_option maxHeartbeats 12800000 in
theorem whole_any (xb pb nb kb W H B mb : Nat) (vm vc vt va vv : Value) (L : List T3) (mn mk : Nat) (fk : E4 → Option Int) (Ax : Option Addr) (cx : Nat) (ms : List V6) (w : World) (hs : Steps w) (hp : PapI w pb nb kb W H vm vc vt L mn mk fk) (ho : w.ownsRow B 44 3 vt L.length (tcT L))
  (hI : ∀ t ∈ L, In8 t) (hL0 : 0 < L.length) (hLl : L.length ≤ 1000) (hml : ms.length = L.length) (hm : Rd w 6 Ax L.length (mcs ms)) (hx : PilB w xb pb (.slice Ax L.length cx) va vv mb) (hmay : ∀ m ∈ ms, mapMayB m = true) :
  Calls Tryz.prog 30 #[.pointer (some ⟨xb, 0, none⟩)] w fun r w' => r = .returned (.bool (wholeB L (facF fk) ms)) ∧ Below w.heap.size w w' := by
 obtain ⟨C, hC⟩ : ∃ C, C = facF fk := ⟨_, rfl⟩
 rw [← hC]
 obtain ⟨R, hR⟩ : ∃ R, R = wholeB L C ms := ⟨_, rfl⟩
 rw [← hR]
 have hyes : (∀ i k, i < L.length → k < 3 → okI L C ms i k) → R = true := fun h => hR.trans (wholeB_yes h)
 have hnot : (¬ ∀ i k, i < L.length → k < 3 → okI L C ms i k) → R = false := fun h => hR.trans (wholeB_no h)
 have HYES := Lib.hid hyes
 have HNOT := Lib.hid hnot
 clear hyes hnot hR
 have x0 := hx.c0
 have x1 := hx.c1
 have c4 := hp.c4
 have HC := Lib.hid hC
 have HP := Lib.hid hp
 have HO := Lib.hid ho
 have HS := Lib.hid hs
 have HI := Lib.hid hI
 have HM := Lib.hid hm
 have HML := Lib.hid hml
 have HX := Lib.hid hx
 have HMAY := Lib.hid hmay
 clear hp ho hs hI hm hml hC hx hmay
 go_enter Tryz.func30, Tryz.ntmps30
 obtain ⟨gt, ct, curt, hvt, _, _, _, _⟩ := own_addr HO.out hL0
 subst hvt
 go_wp2_with fail
 go_loopw [18] (fun v wr => ∃ i : Nat, i ≤ L.length ∧ v = .int .i64 i ∧ Hid (∀ i' k, i' < i → k < 3 → okI L C ms i' k) ∧ Below w.heap.size w wr) (fun v _ => L.length - (intOf v).toNat)
 case atStart => exact ⟨0, by omega, rfl, Lib.hid (fun i' k h => by omega), Below.refl _ _⟩
 case round =>
  obtain ⟨i, hi, rfl, hok, hbw⟩ := hrel
  by_cases hin : i < L.length
  ·obtain ⟨t, ht⟩ : ∃ t, L[i]? = some t := ⟨_, List.getElem?_eq_getElem hin⟩
   obtain ⟨t0, t1, t2⟩ := own_tri (od HO.out hbw) ht
   have hit := HI.out t (List.mem_of_getElem? ht)
   have hts := hit.sm
   have hii : (i : Int) < (L.length : Int) := by omega
   have hi0 : (0 : Int) ≤ (i : Int) := by omega
   have cE := fun (w1 : World) (hb : Below wr.heap.size wr w1) => edges_any t.1 t.2.1 t.2.2 w1 (HS.out.below (hbw.trans (hb.mono hbw.size))) (by have := hts.1; omega) (by have := hts.1; omega) (by have := hts.2.1; omega) (by have := hts.2.1; omega) hts.2.2.1 hts.2.2.2
   have CE := Lib.hid cE
   have HT := Lib.hid ht
   have HIT := Lib.hid hit
   obtain ⟨wo, hwo⟩ : ∃ x, x = wr := ⟨_, rfl⟩
   subst hwo
   have hbT := below_new wo (.cells #[.int .i64 t.1, .int .i64 t.2.1, .int .i64 t.2.2] 44)
   clear cE ht hit hts
   go_wp2_with (go_at_call 62; refine (CE.out _ hbT).mono ?_; rintro r w3 ⟨rfl, hb3⟩)
   have kT := heap_alloc_new wo (.cells #[.int .i64 t.1, .int .i64 t.2.1, .int .i64 t.2.2] 44)
   have hb4 := stay_b (hbw.trans (hbT.mono hbw.size)) hb3
   have kT := blk_below kT hb3 (blk_lt kT)
   have HKT := Lib.hid kT
   clear t0 t1 t2 CE hb3 hbT kT
   go_loopw [25] (fun v wr => ∃ k : Nat, k ≤ 3 ∧ v = .int .i64 k ∧ Hid (∀ k', k' < k → okI L C ms i k') ∧ Below w3.heap.size w3 wr) (fun v _ => 3 - (intOf v).toNat)
   case atStart => exact ⟨0, by omega, rfl, Lib.hid (fun k' h => by omega), Below.refl _ _⟩
   case round =>
    obtain ⟨k, hk, rfl, hok2, hbr⟩ := hrel
    have hbw5 := hb4.trans (hbr.mono hb4.size)
    by_cases hk3 : k < 3
    ·have hki : (k : Int) < 3 := by omega
     have hix : ∀ w, (Instr.index 126 (agg3E (edgeT t.1 t.2.1 t.2.2 0) (edgeT t.1 t.2.1 t.2.2 1) (edgeT t.1 t.2.1 t.2.2 2)) (.int .i64 k)).run Tryz.prog w = .ok (aggE (eT t k)) w := fun w => idx3 t k hk3 w
     have hts := HIT.out.sm
     have hke := HIT.out.edge hk3
     have hkok := hts.edge hk3
     have hnok := hts.next hk3
     have cX := fun (w4 : World) => next_any t.1 t.2.1 t.2.2 k w4 hk3 (by have := hts.1; omega) (by have := hts.1; omega) (by have := hts.2.1; omega) (by have := hts.2.1; omega) hts.2.2.1 hts.2.2.2
     have hnn := fun h => nbL_none (k := k) HT.out h
     have hns := fun h => nbL_some (k := k) HT.out h
     obtain ⟨bX, oX, m, hA, hmi, hbX, y0, y1, y2, y3, y4, y5⟩ := Rd.mp (by rw [HML.out]; exact HM.out) (show i < ms.length by rw [HML.out]; exact hin)
     subst hA
     have y0 := sd y0 hbw5
     have y1 := sd y1 hbw5
     have y2 := sd y2 hbw5
     have y3 := sd y3 hbw5
     have y4 := sd y4 hbw5
     have y5 := sd y5 hbw5
     have hst := stpL_at (C := C) (k := k) HT.out m
     have hmg : ms.getD i zeroV = m := by rw [List.getD_eq_getElem?_getD, hmi]; rfl
     have hgm := may_sm (HMAY.out m (List.mem_of_getElem? hmi))
     obtain ⟨E, hEE⟩ : ∃ E, E = eT t k := ⟨_, rfl⟩
     obtain ⟨U, hU⟩ : ∃ U, U = nT t k := ⟨_, rfl⟩
     rw [show nextT t.1 t.2.1 t.2.2 k = U from hU.symm] at cX
     rw [← hU] at hnok hnn hns
     rw [← hEE] at hix hke hkok hst
     have CX := Lib.hid cX
     have HNN := Lib.hid hnn
     have HNS := Lib.hid hns
     have HST := Lib.hid hst
     have HKE := Lib.hid hke
     have HKOK := Lib.hid hkok
     have HNOK := Lib.hid hnok
     have HMG := Lib.hid hmg
     have HGM := Lib.hid hgm
     clear cX hnn hns hst hke hkok hnok hEE hU hts hmi hmg hgm
     obtain ⟨wi, hwi⟩ : ∃ x, x = wr := ⟨_, rfl⟩
     subst hwi
     go_wp2_with fail
     have kE := heap_alloc_new wi (.cells #[.int .i64 E.1, .int .i64 E.2.1, .int .i64 E.2.2.1, .int .i64 E.2.2.2] 100)
     have hbE := below_new wi (.cells #[.int .i64 E.1, .int .i64 E.2.1, .int .i64 E.2.2.1, .int .i64 E.2.2.2] 100)
     have e0 := cell_of_blk kE 0
     have e1 := cell_of_blk kE 1
     have e2 := cell_of_blk kE 2
     have e3 := cell_of_blk kE 3
     simp only [List.getElem?_toArray, List.getElem?_cons_zero, List.getElem?_cons_succ] at e0 e1 e2 e3
     have hb8 := hbw5.trans (hbE.mono hbw5.size)
     have y0 := sd y0 hbE
     have y1 := sd y1 hbE
     have y2 := sd y2 hbE
     have y3 := sd y3 hbE
     have y4 := sd y4 hbE
     have y5 := sd y5 hbE
     have hbi8 := hbr.trans (hbE.mono hbr.size)
     clear kE
     generalize wi.alloc (.cells #[.int .i64 E.1, .int .i64 E.2.1, .int .i64 E.2.2.1, .int .i64 E.2.2.2] 100) = w8 at e0 e1 e2 e3 y0 y1 y2 y3 y4 y5 hbE hb8 hbi8 ⊢
     have kT := blk_below HKT.out hbi8 (blk_lt HKT.out)
     have t0 := cell_of_blk kT 0
     have t1 := cell_of_blk kT 1
     have t2 := cell_of_blk kT 2
     simp only [List.getElem?_toArray, List.getElem?_cons_zero, List.getElem?_cons_succ] at t0 t1 t2
     have x0 := sd x0 hb8
     have x1 := sd x1 hb8
     have hp8 := HP.out.below hb8
     have c5 := hp8.c5
     have c6 := hp8.c6
     have hl5 := fun (W' : World) (hb : Below w8.heap.size w8 W') => (hp8.below hb).look HNOK.out
     obtain ⟨D1, hD1⟩ : ∃ b, b = decide (U ∈ L) := ⟨_, rfl⟩
     rw [← hD1] at hl5
     obtain ⟨V1, hV1⟩ : ∃ b, b = (numF L U).getD 0 := ⟨_, rfl⟩
     rw [← hV1] at hl5
     have HD1 := Lib.hid hD1
     have HV1 := Lib.hid hV1
     have HL5 := Lib.hid hl5
     have HP8 := Lib.hid hp8
     clear hD1 hV1 hl5 hp8 kT
     cases D1 with
     | false =>
      refine rg_plain (fin := ?z1) [.pointer (some ⟨xb, 0, none⟩), .pointer (some ⟨xb, 0, none⟩), .pointer (some ⟨xb, 0, none⟩), .pointer (some ⟨pb, 0, none⟩), .pointer (some ⟨pb, 0, none⟩), .pointer (some ⟨pb, 5, none⟩), .map (some nb), aggT3 t, .int .i64 (k : Int), aggT3 U, .tuple #[.int .i64 V1, .bool false], .tuple #[.int .i64 V1, .bool false], .int .i64 V1, .bool false, .int .i64 V1, .bool false] (fun WN => WN.cell? ⟨xb, 0, none⟩ = some (.pointer (some ⟨pb, 0, none⟩)) ∧ WN.cell? ⟨xb, 1, none⟩ = some (.slice (some ⟨bX, oX, none⟩) L.length cx) ∧ WN.cell? ⟨pb, 5, none⟩ = some (.map (some nb)) ∧ WN.cell? ⟨pb, 6, none⟩ = some (.map (some kb)) ∧ WN.cell? ⟨wo.heap.size, 0, none⟩ = some (.int .i64 t.1) ∧ WN.cell? ⟨wo.heap.size, 1, none⟩ = some (.int .i64 t.2.1) ∧ WN.cell? ⟨wo.heap.size, 2, none⟩ = some (.int .i64 t.2.2) ∧ WN.cell? ⟨wi.heap.size, 0, none⟩ = some (.int .i64 E.1) ∧ WN.cell? ⟨wi.heap.size, 1, none⟩ = some (.int .i64 E.2.1) ∧ WN.cell? ⟨wi.heap.size, 2, none⟩ = some (.int .i64 E.2.2.1) ∧ WN.cell? ⟨wi.heap.size, 3, none⟩ = some (.int .i64 E.2.2.2) ∧ WN.cell? ⟨bX, oX + i * 6, none⟩ = some (.int .i64 m.1) ∧ WN.cell? ⟨bX, oX + i * 6 + 1, none⟩ = some (.int .i64 m.2.1) ∧ WN.cell? ⟨bX, oX + i * 6 + 2, none⟩ = some (.int .i64 m.2.2.1) ∧ WN.cell? ⟨bX, oX + i * 6 + 3, none⟩ = some (.int .i64 m.2.2.2.1) ∧ WN.cell? ⟨bX, oX + i * 6 + 4, none⟩ = some (.int .i64 m.2.2.2.2.1) ∧ WN.cell? ⟨bX, oX + i * 6 + 5, none⟩ = some (.int .i64 m.2.2.2.2.2) ∧ Below w8.heap.size w8 WN) ?hf (by kernel_rfl) (by kernel_rfl) rfl ⟨x0, x1, c5, c6, t0, t1, t2, e0, e1, e2, e3, y0, y1, y2, y3, y4, y5, (Below.refl _ _).drew⟩ (fun WN hst => ?hs) (fun WN hst => ?he)
      case hf => simp only [putOps, Act.put, List.setIfInBounds_toArray, List.set_cons_succ, List.set_cons_zero]; exact rfl
      case hs =>
       have HST := Lib.hid hst
       obtain ⟨x0, x1, c5, c6, t0, t1, t2, e0, e1, e2, e3, y0, y1, y2, y3, y4, y5, hbl⟩ := hst
       iterate 16 refine ⟨?_, fun K hK => ?_⟩
       ·trivial
       all_goals try (go_simp; exact hK _ HST.out; done)
       ·have hlk := HL5.out WN hbl
        go_simp
        exact hK _ HST.out
       ·go_simp
        refine (CX.out _).mono ?_
        rintro e' wc ⟨he, hbc⟩
        subst he
        exact hK _ ⟨sd x0 hbc, sd x1 hbc, sd c5 hbc, sd c6 hbc, sd t0 hbc, sd t1 hbc, sd t2 hbc, sd e0 hbc, sd e1 hbc, sd e2 hbc, sd e3 hbc, sd y0 hbc, sd y1 hbc, sd y2 hbc, sd y3 hbc, sd y4 hbc, sd y5 hbc, stay_b hbl hbc⟩
      case he =>
       obtain ⟨x0, x1, c5, c6, t0, t1, t2, e0, e1, e2, e3, y0, y1, y2, y3, y4, y5, hbl⟩ := hst
       have hb9 := hb8.trans (hbl.mono hb8.size)
       have hbi9 := hbi8.trans (hbl.mono hbi8.size)
       obtain ⟨wj, hwj⟩ : ∃ x, x = WN := ⟨_, rfl⟩
       subst hwj
       go_wp2_with fail
       have kM := heap_alloc_new wj (.cells #[.int .i64 m.1, .int .i64 m.2.1, .int .i64 m.2.2.1, .int .i64 m.2.2.2.1, .int .i64 m.2.2.2.2.1, .int .i64 m.2.2.2.2.2] 63)
       have hbM := below_new wj (.cells #[.int .i64 m.1, .int .i64 m.2.1, .int .i64 m.2.2.1, .int .i64 m.2.2.2.1, .int .i64 m.2.2.2.2.1, .int .i64 m.2.2.2.2.2] 63)
       have x0 := sd x0 hbM
       have x1 := sd x1 hbM
       have c6 := sd c6 hbM
       have e0 := sd e0 hbM
       have e1 := sd e1 hbM
       have e2 := sd e2 hbM
       have e3 := sd e3 hbM
       have hbm := hb9.trans (hbM.mono hb9.size)
       have hbim := hbi9.trans (hbM.mono hbi9.size)
       have KM0 := Lib.hid (LB.one kM)
       clear kM y0 y1 y2 y3 y4 y5 c5 t0 t1 t2 hbl hbM
       generalize wj.alloc (.cells #[.int .i64 m.1, .int .i64 m.2.1, .int .i64 m.2.2.1, .int .i64 m.2.2.2.1, .int .i64 m.2.2.2.2.1, .int .i64 m.2.2.2.2.2] 63) = w10 at x0 x1 c6 e0 e1 e2 e3 hbm hbim KM0 ⊢
       refine rg_plain (fin := ?z2) [.bool false, .bool false, undef, undef, undef, undef, undef, undef, undef, undef, undef, undef, .bool false] (fun WN => WN.cell? ⟨xb, 0, none⟩ = some (.pointer (some ⟨pb, 0, none⟩)) ∧ WN.cell? ⟨xb, 1, none⟩ = some (.slice (some ⟨bX, oX, none⟩) L.length cx) ∧ WN.cell? ⟨pb, 6, none⟩ = some (.map (some kb)) ∧ WN.cell? ⟨wi.heap.size, 0, none⟩ = some (.int .i64 E.1) ∧ WN.cell? ⟨wi.heap.size, 1, none⟩ = some (.int .i64 E.2.1) ∧ WN.cell? ⟨wi.heap.size, 2, none⟩ = some (.int .i64 E.2.2.1) ∧ WN.cell? ⟨wi.heap.size, 3, none⟩ = some (.int .i64 E.2.2.2) ∧ Below w10.heap.size w10 WN) ?hf (by kernel_rfl) (by kernel_rfl) rfl ⟨x0, x1, c6, e0, e1, e2, e3, (Below.refl _ _).drew⟩ (fun WN hst => ?hs) (fun WN hst => ?he)
       case hf => simp only [putOps, Act.put, List.setIfInBounds_toArray, List.set_cons_succ, List.set_cons_zero]; exact rfl
       case hs =>
        have HST := Lib.hid hst
        obtain ⟨x0, x1, c6, e0, e1, e2, e3, hbl⟩ := hst
        iterate 13 refine ⟨?_, fun K hK => ?_⟩
        ·trivial
        all_goals try (go_simp; exact hK _ HST.out; done)
       case he =>
        obtain ⟨x0, x1, c6, e0, e1, e2, e3, hbl⟩ := hst
        go_wp2_with fail
        have hb11 := hbm.trans (hbl.mono hbm.size)
        have hbi11 := hbim.trans (hbl.mono hbim.size)
        obtain ⟨w11, hw11⟩ : ∃ x, x = WN := ⟨_, rfl⟩
        subst hw11
        clear hbl
        refine rg_plain (fin := ?z3) [.bool false, .bool false, undef, undef, undef, undef, undef, undef, undef, undef, undef, .bool false] (fun WN => WN.cell? ⟨xb, 0, none⟩ = some (.pointer (some ⟨pb, 0, none⟩)) ∧ WN.cell? ⟨xb, 1, none⟩ = some (.slice (some ⟨bX, oX, none⟩) L.length cx) ∧ WN.cell? ⟨pb, 6, none⟩ = some (.map (some kb)) ∧ WN.cell? ⟨wi.heap.size, 0, none⟩ = some (.int .i64 E.1) ∧ WN.cell? ⟨wi.heap.size, 1, none⟩ = some (.int .i64 E.2.1) ∧ WN.cell? ⟨wi.heap.size, 2, none⟩ = some (.int .i64 E.2.2.1) ∧ WN.cell? ⟨wi.heap.size, 3, none⟩ = some (.int .i64 E.2.2.2) ∧ Below w11.heap.size w11 WN) ?hf (by kernel_rfl) (by kernel_rfl) rfl ⟨x0, x1, c6, e0, e1, e2, e3, (Below.refl _ _).drew⟩ (fun WN hst => ?hs) (fun WN hst => ?he)
        case hf => simp only [putOps, Act.put, List.setIfInBounds_toArray, List.set_cons_succ, List.set_cons_zero]; exact rfl
        case hs =>
         have HST := Lib.hid hst
         obtain ⟨x0, x1, c6, e0, e1, e2, e3, hbl⟩ := hst
         iterate 12 refine ⟨?_, fun K hK => ?_⟩
         ·trivial
         all_goals try (go_simp; exact hK _ HST.out; done)
        case he =>
         obtain ⟨x0, x1, c6, e0, e1, e2, e3, hbl⟩ := hst
         have hUL : U ∉ L := of_decide_eq_false HD1.out.symm
         have hnb := HNN.out hUL
         have hkk : ∀ k', k' < k + 1 → okI L C ms i k' := by
          intro k' hk'
          by_cases e : k' = k
          ·subst e
           intro j' hj'
           rw [hnb] at hj'
           cases hj'
          ·exact hok2.out k' (by omega)
         have HKK := Lib.hid hkk
         have hbf := hbi11.trans (hbl.mono hbi11.size)
         clear hkk hnb hUL
         go_wp2
         go_roundw
         case rel => exact ⟨k + 1, by omega, by go_num, HKK, hbf⟩
         case measure => simp [intOf]; omega
     | true =>
      have hUL : U ∈ L := of_decide_eq_true HD1.out.symm
      obtain ⟨j, hje⟩ : ∃ j, j = L.idxOf U := ⟨_, rfl⟩
      have hjn : j < L.length := by rw [hje]; exact List.idxOf_lt_length_of_mem hUL
      have hV1 : V1 = (j : Int) := by rw [HV1.out, hje]; unfold numF; rw [if_pos hUL]; rfl
      subst hV1
      have hnb := HNS.out hUL
      rw [← hje] at hnb
      have HNB := Lib.hid hnb
      clear hUL hje hnb
      refine rg_plain (fin := ?z4) [.pointer (some ⟨xb, 0, none⟩), .pointer (some ⟨xb, 0, none⟩), .pointer (some ⟨xb, 0, none⟩), .pointer (some ⟨pb, 0, none⟩), .pointer (some ⟨pb, 0, none⟩), .pointer (some ⟨pb, 5, none⟩), .map (some nb), aggT3 t, .int .i64 (k : Int), aggT3 U, .tuple #[.int .i64 (j : Int), .bool true], .tuple #[.int .i64 (j : Int), .bool true], .int .i64 (j : Int), .bool true, .int .i64 (j : Int), .bool true] (fun WN => WN.cell? ⟨xb, 0, none⟩ = some (.pointer (some ⟨pb, 0, none⟩)) ∧ WN.cell? ⟨xb, 1, none⟩ = some (.slice (some ⟨bX, oX, none⟩) L.length cx) ∧ WN.cell? ⟨pb, 5, none⟩ = some (.map (some nb)) ∧ WN.cell? ⟨pb, 6, none⟩ = some (.map (some kb)) ∧ WN.cell? ⟨wo.heap.size, 0, none⟩ = some (.int .i64 t.1) ∧ WN.cell? ⟨wo.heap.size, 1, none⟩ = some (.int .i64 t.2.1) ∧ WN.cell? ⟨wo.heap.size, 2, none⟩ = some (.int .i64 t.2.2) ∧ WN.cell? ⟨wi.heap.size, 0, none⟩ = some (.int .i64 E.1) ∧ WN.cell? ⟨wi.heap.size, 1, none⟩ = some (.int .i64 E.2.1) ∧ WN.cell? ⟨wi.heap.size, 2, none⟩ = some (.int .i64 E.2.2.1) ∧ WN.cell? ⟨wi.heap.size, 3, none⟩ = some (.int .i64 E.2.2.2) ∧ WN.cell? ⟨bX, oX + i * 6, none⟩ = some (.int .i64 m.1) ∧ WN.cell? ⟨bX, oX + i * 6 + 1, none⟩ = some (.int .i64 m.2.1) ∧ WN.cell? ⟨bX, oX + i * 6 + 2, none⟩ = some (.int .i64 m.2.2.1) ∧ WN.cell? ⟨bX, oX + i * 6 + 3, none⟩ = some (.int .i64 m.2.2.2.1) ∧ WN.cell? ⟨bX, oX + i * 6 + 4, none⟩ = some (.int .i64 m.2.2.2.2.1) ∧ WN.cell? ⟨bX, oX + i * 6 + 5, none⟩ = some (.int .i64 m.2.2.2.2.2) ∧ Below w8.heap.size w8 WN) ?hf (by kernel_rfl) (by kernel_rfl) rfl ⟨x0, x1, c5, c6, t0, t1, t2, e0, e1, e2, e3, y0, y1, y2, y3, y4, y5, (Below.refl _ _).drew⟩ (fun WN hst => ?hs) (fun WN hst => ?he)
      case hf => simp only [putOps, Act.put, List.setIfInBounds_toArray, List.set_cons_succ, List.set_cons_zero]; exact rfl
      case hs =>
       have HST := Lib.hid hst
       obtain ⟨x0, x1, c5, c6, t0, t1, t2, e0, e1, e2, e3, y0, y1, y2, y3, y4, y5, hbl⟩ := hst
       iterate 16 refine ⟨?_, fun K hK => ?_⟩
       ·trivial
       all_goals try (go_simp; exact hK _ HST.out; done)
       ·have hlk := HL5.out WN hbl
        go_simp
        exact hK _ HST.out
       ·go_simp
        refine (CX.out _).mono ?_
        rintro e' wc ⟨he, hbc⟩
        subst he
        exact hK _ ⟨sd x0 hbc, sd x1 hbc, sd c5 hbc, sd c6 hbc, sd t0 hbc, sd t1 hbc, sd t2 hbc, sd e0 hbc, sd e1 hbc, sd e2 hbc, sd e3 hbc, sd y0 hbc, sd y1 hbc, sd y2 hbc, sd y3 hbc, sd y4 hbc, sd y5 hbc, stay_b hbl hbc⟩
      case he =>
       obtain ⟨x0, x1, c5, c6, t0, t1, t2, e0, e1, e2, e3, y0, y1, y2, y3, y4, y5, hbl⟩ := hst
       have hb9 := hb8.trans (hbl.mono hb8.size)
       have hbi9 := hbi8.trans (hbl.mono hbi8.size)
       obtain ⟨wj, hwj⟩ : ∃ x, x = WN := ⟨_, rfl⟩
       subst hwj
       go_wp2_with fail
       have kM := heap_alloc_new wj (.cells #[.int .i64 m.1, .int .i64 m.2.1, .int .i64 m.2.2.1, .int .i64 m.2.2.2.1, .int .i64 m.2.2.2.2.1, .int .i64 m.2.2.2.2.2] 63)
       have hbM := below_new wj (.cells #[.int .i64 m.1, .int .i64 m.2.1, .int .i64 m.2.2.1, .int .i64 m.2.2.2.1, .int .i64 m.2.2.2.2.1, .int .i64 m.2.2.2.2.2] 63)
       have x0 := sd x0 hbM
       have x1 := sd x1 hbM
       have c6 := sd c6 hbM
       have e0 := sd e0 hbM
       have e1 := sd e1 hbM
       have e2 := sd e2 hbM
       have e3 := sd e3 hbM
       have hbm := hb9.trans (hbM.mono hb9.size)
       have hbim := hbi9.trans (hbM.mono hbi9.size)
       have KM0 := Lib.hid (LB.one kM)
       clear kM y0 y1 y2 y3 y4 y5 c5 t0 t1 t2 hbl hbM
       generalize wj.alloc (.cells #[.int .i64 m.1, .int .i64 m.2.1, .int .i64 m.2.2.1, .int .i64 m.2.2.2.1, .int .i64 m.2.2.2.2.1, .int .i64 m.2.2.2.2.2] 63) = w10 at x0 x1 c6 e0 e1 e2 e3 hbm hbim KM0 ⊢
       have hp10 := HP.out.below hbm
       have hlk : ∀ W' : World, Below w10.heap.size w10 W' → (Instr.lookup 70 (.map (some kb)) (aggE E) false).run Tryz.prog W' = .ok (.int .i64 ((fk E).getD 0)) W' := fun W' hb => (hp10.kin.below hb hp10.kin.lt).look1 HKOK.out
       obtain ⟨KD, hKD⟩ : ∃ z, z = (fk E).getD 0 := ⟨_, rfl⟩
       rw [← hKD] at hlk
       have hcz : C E = decide (KD = 0) := by rw [HC.out, hKD]; rfl
       have HCZ := Lib.hid hcz
       have HLK := Lib.hid hlk
       clear hKD hcz hlk hp10
       by_cases hkz : KD = 0
       ·have hkn : (KD != 0) = false := by simpa using hkz
        have HKZ := Lib.hid hkz
        clear hkz
        refine rg_plain (fin := ?z5) [.bool true, .bool true, .pointer (some ⟨xb, 0, none⟩), .pointer (some ⟨xb, 0, none⟩), .pointer (some ⟨xb, 0, none⟩), .pointer (some ⟨pb, 0, none⟩), .pointer (some ⟨pb, 0, none⟩), .pointer (some ⟨pb, 6, none⟩), .map (some kb), aggE E, .int .i64 KD, .bool false, .bool false] (fun WN => WN.cell? ⟨xb, 0, none⟩ = some (.pointer (some ⟨pb, 0, none⟩)) ∧ WN.cell? ⟨xb, 1, none⟩ = some (.slice (some ⟨bX, oX, none⟩) L.length cx) ∧ WN.cell? ⟨pb, 6, none⟩ = some (.map (some kb)) ∧ WN.cell? ⟨wi.heap.size, 0, none⟩ = some (.int .i64 E.1) ∧ WN.cell? ⟨wi.heap.size, 1, none⟩ = some (.int .i64 E.2.1) ∧ WN.cell? ⟨wi.heap.size, 2, none⟩ = some (.int .i64 E.2.2.1) ∧ WN.cell? ⟨wi.heap.size, 3, none⟩ = some (.int .i64 E.2.2.2) ∧ Below w10.heap.size w10 WN) ?hf (by kernel_rfl) (by kernel_rfl) rfl ⟨x0, x1, c6, e0, e1, e2, e3, (Below.refl _ _).drew⟩ (fun WN hst => ?hs) (fun WN hst => ?he)
        case hf => simp only [putOps, Act.put, List.setIfInBounds_toArray, List.set_cons_succ, List.set_cons_zero]; exact rfl
        case hs =>
         have HST := Lib.hid hst
         obtain ⟨x0, x1, c6, e0, e1, e2, e3, hbl⟩ := hst
         iterate 13 refine ⟨?_, fun K hK => ?_⟩
         ·trivial
         all_goals try (go_simp; exact hK _ HST.out; done)
         ·have hlk := HLK.out WN hbl
          go_simp
          exact hK _ HST.out
        case he =>
         obtain ⟨x0, x1, c6, e0, e1, e2, e3, hbl⟩ := hst
         have hb11 := hbm.trans (hbl.mono hbm.size)
         have hbi11 := hbim.trans (hbl.mono hbim.size)
         have KM1 := Lib.hid (KM0.out.below hbl)
         obtain ⟨w11, hw11⟩ : ∃ x, x = WN := ⟨_, rfl⟩
         subst hw11
         clear hbl
         have hcE : C E = true := by rw [HCZ.out]; exact decide_eq_true HKZ.out
         have hm' : stpL L C i k m = m := by rw [HST.out]; unfold stpV; rw [if_pos hcE]
         obtain ⟨m', hmm⟩ : ∃ m', m' = m := ⟨_, rfl⟩
         have hm' : stpL L C i k m = m' := hm'.trans hmm.symm
         have HMM := Lib.hid hm'
         have KM := KM1
         rw [← hmm] at KM
         obtain ⟨wz, hwz⟩ : ∃ x, x = w11 := ⟨_, rfl⟩
         subst hwz
         have hbz := hb11
         have hbiz := hbi11
         clear hcE hm' hmm e0 e1 e2 e3 c6
         go_wp2_with fail
         obtain ⟨bY, oY, mj, hA2, hmj, hbY, n0, n1, n2, n3, n4, n5⟩ := Rd.mp (by rw [HML.out]; exact HM.out) (show j < ms.length by rw [HML.out]; exact hjn)
         injection hA2 with hA2
         injection hA2 with e1 e2 _
         subst e1 e2
         have n0 := sd n0 hbz
         have n1 := sd n1 hbz
         have n2 := sd n2 hbz
         have n3 := sd n3 hbz
         have n4 := sd n4 hbz
         have n5 := sd n5 hbz
         obtain ⟨l0, l1, l2, l3, l4, l5⟩ := KM.out.cells1
         have hjj : (j : Int) < (L.length : Int) := by omega
         have hj0 : (0 : Int) ≤ (j : Int) := by omega
         have hne := fun w => neM mj m' w
         have hmgj : ms.getD j zeroV = mj := by rw [List.getD_eq_getElem?_getD, hmj]; rfl
         have HMJ := Lib.hid hmgj
         clear hmgj hmj
         by_cases hq : mj = m'
         ·have hqq : (!decide (mj = m')) = false := by simp [hq]
          have HQ := Lib.hid hq
          clear hq
          refine rg_plain (fin := ?z6) [.bool true, .bool true, .pointer (some ⟨xb, 0, none⟩), .pointer (some ⟨xb, 0, none⟩), .pointer (some ⟨xb, 1, none⟩), .slice (some ⟨bX, oX, none⟩) L.length cx, .int .i64 (j : Int), .pointer (some ⟨bX, oX + j * 6, none⟩), aggM mj, aggM m', .bool false, .bool false] (fun WN => WN.cell? ⟨xb, 0, none⟩ = some (.pointer (some ⟨pb, 0, none⟩)) ∧ WN.cell? ⟨xb, 1, none⟩ = some (.slice (some ⟨bX, oX, none⟩) L.length cx) ∧ WN.cell? ⟨bX, oX + j * 6, none⟩ = some (.int .i64 mj.1) ∧ WN.cell? ⟨bX, oX + j * 6 + 1, none⟩ = some (.int .i64 mj.2.1) ∧ WN.cell? ⟨bX, oX + j * 6 + 2, none⟩ = some (.int .i64 mj.2.2.1) ∧ WN.cell? ⟨bX, oX + j * 6 + 3, none⟩ = some (.int .i64 mj.2.2.2.1) ∧ WN.cell? ⟨bX, oX + j * 6 + 4, none⟩ = some (.int .i64 mj.2.2.2.2.1) ∧ WN.cell? ⟨bX, oX + j * 6 + 5, none⟩ = some (.int .i64 mj.2.2.2.2.2) ∧ WN.cell? ⟨wj.heap.size, 0, none⟩ = some (.int .i64 m'.1) ∧ WN.cell? ⟨wj.heap.size, 1, none⟩ = some (.int .i64 m'.2.1) ∧ WN.cell? ⟨wj.heap.size, 2, none⟩ = some (.int .i64 m'.2.2.1) ∧ WN.cell? ⟨wj.heap.size, 3, none⟩ = some (.int .i64 m'.2.2.2.1) ∧ WN.cell? ⟨wj.heap.size, 4, none⟩ = some (.int .i64 m'.2.2.2.2.1) ∧ WN.cell? ⟨wj.heap.size, 5, none⟩ = some (.int .i64 m'.2.2.2.2.2) ∧ Below wz.heap.size wz WN) ?hf (by kernel_rfl) (by kernel_rfl) rfl ⟨x0, x1, n0, n1, n2, n3, n4, n5, l0, l1, l2, l3, l4, l5, (Below.refl _ _).drew⟩ (fun WN hst => ?hs) (fun WN hst => ?he)
          case hf => simp only [putOps, Act.put, List.setIfInBounds_toArray, List.set_cons_succ, List.set_cons_zero]; exact rfl
          case hs =>
           have HST := Lib.hid hst
           obtain ⟨x0, x1, n0, n1, n2, n3, n4, n5, l0, l1, l2, l3, l4, l5, hbl⟩ := hst
           iterate 12 refine ⟨?_, fun K hK => ?_⟩
           ·trivial
           all_goals try (go_simp; exact hK _ HST.out; done)
          case he =>
           obtain ⟨x0, x1, n0, n1, n2, n3, n4, n5, l0, l1, l2, l3, l4, l5, hbl⟩ := hst
           have hkk : ∀ k', k' < k + 1 → okI L C ms i k' := by
            intro k' hk'
            by_cases e : k' = k
            ·subst e
             intro j' hj'
             rw [HNB.out] at hj'
             cases hj'
             rw [HMG.out, HMM.out, HMJ.out]
             exact HQ.out
            ·exact hok2.out k' (by omega)
           have HKK := Lib.hid hkk
           have hbf := hbiz.trans (hbl.mono hbiz.size)
           clear hkk
           go_wp2
           go_roundw
           case rel => exact ⟨k + 1, by omega, by go_num, HKK, hbf⟩
           case measure => simp [intOf]; omega
         ·have hqq : (!decide (mj = m')) = true := by simp [hq]
          have HQ := Lib.hid hq
          clear hq
          refine rg_plain (fin := ?z7) [.bool true, .bool true, .pointer (some ⟨xb, 0, none⟩), .pointer (some ⟨xb, 0, none⟩), .pointer (some ⟨xb, 1, none⟩), .slice (some ⟨bX, oX, none⟩) L.length cx, .int .i64 (j : Int), .pointer (some ⟨bX, oX + j * 6, none⟩), aggM mj, aggM m', .bool true, .bool true] (fun WN => WN.cell? ⟨xb, 0, none⟩ = some (.pointer (some ⟨pb, 0, none⟩)) ∧ WN.cell? ⟨xb, 1, none⟩ = some (.slice (some ⟨bX, oX, none⟩) L.length cx) ∧ WN.cell? ⟨bX, oX + j * 6, none⟩ = some (.int .i64 mj.1) ∧ WN.cell? ⟨bX, oX + j * 6 + 1, none⟩ = some (.int .i64 mj.2.1) ∧ WN.cell? ⟨bX, oX + j * 6 + 2, none⟩ = some (.int .i64 mj.2.2.1) ∧ WN.cell? ⟨bX, oX + j * 6 + 3, none⟩ = some (.int .i64 mj.2.2.2.1) ∧ WN.cell? ⟨bX, oX + j * 6 + 4, none⟩ = some (.int .i64 mj.2.2.2.2.1) ∧ WN.cell? ⟨bX, oX + j * 6 + 5, none⟩ = some (.int .i64 mj.2.2.2.2.2) ∧ WN.cell? ⟨wj.heap.size, 0, none⟩ = some (.int .i64 m'.1) ∧ WN.cell? ⟨wj.heap.size, 1, none⟩ = some (.int .i64 m'.2.1) ∧ WN.cell? ⟨wj.heap.size, 2, none⟩ = some (.int .i64 m'.2.2.1) ∧ WN.cell? ⟨wj.heap.size, 3, none⟩ = some (.int .i64 m'.2.2.2.1) ∧ WN.cell? ⟨wj.heap.size, 4, none⟩ = some (.int .i64 m'.2.2.2.2.1) ∧ WN.cell? ⟨wj.heap.size, 5, none⟩ = some (.int .i64 m'.2.2.2.2.2) ∧ Below wz.heap.size wz WN) ?hf (by kernel_rfl) (by kernel_rfl) rfl ⟨x0, x1, n0, n1, n2, n3, n4, n5, l0, l1, l2, l3, l4, l5, (Below.refl _ _).drew⟩ (fun WN hst => ?hs) (fun WN hst => ?he)
          case hf => simp only [putOps, Act.put, List.setIfInBounds_toArray, List.set_cons_succ, List.set_cons_zero]; exact rfl
          case hs =>
           have HST := Lib.hid hst
           obtain ⟨x0, x1, n0, n1, n2, n3, n4, n5, l0, l1, l2, l3, l4, l5, hbl⟩ := hst
           iterate 12 refine ⟨?_, fun K hK => ?_⟩
           ·trivial
           all_goals try (go_simp; exact hK _ HST.out; done)
          case he =>
           obtain ⟨x0, x1, n0, n1, n2, n3, n4, n5, l0, l1, l2, l3, l4, l5, hbl⟩ := hst
           have hno : ¬ ∀ i k, i < L.length → k < 3 → okI L C ms i k := by
            intro h
            have h1 := h i k hin hk3 j HNB.out
            rw [HMG.out, HMM.out, HMJ.out] at h1
            exact HQ.out h1
           have hbf := hbz.trans (hbl.mono hbz.size)
           go_wp2
           go_ret
           exact ⟨ret_bool (HNOT.out hno).symm, hbf⟩
       ·have hkn : (KD != 0) = true := by simpa using hkz
        have HKZ := Lib.hid hkz
        clear hkz
        refine rg_plain (fin := ?z8) [.bool true, .bool true, .pointer (some ⟨xb, 0, none⟩), .pointer (some ⟨xb, 0, none⟩), .pointer (some ⟨xb, 0, none⟩), .pointer (some ⟨pb, 0, none⟩), .pointer (some ⟨pb, 0, none⟩), .pointer (some ⟨pb, 6, none⟩), .map (some kb), aggE E, .int .i64 KD, .bool true, .bool true] (fun WN => WN.cell? ⟨xb, 0, none⟩ = some (.pointer (some ⟨pb, 0, none⟩)) ∧ WN.cell? ⟨xb, 1, none⟩ = some (.slice (some ⟨bX, oX, none⟩) L.length cx) ∧ WN.cell? ⟨pb, 6, none⟩ = some (.map (some kb)) ∧ WN.cell? ⟨wi.heap.size, 0, none⟩ = some (.int .i64 E.1) ∧ WN.cell? ⟨wi.heap.size, 1, none⟩ = some (.int .i64 E.2.1) ∧ WN.cell? ⟨wi.heap.size, 2, none⟩ = some (.int .i64 E.2.2.1) ∧ WN.cell? ⟨wi.heap.size, 3, none⟩ = some (.int .i64 E.2.2.2) ∧ Below w10.heap.size w10 WN) ?hf (by kernel_rfl) (by kernel_rfl) rfl ⟨x0, x1, c6, e0, e1, e2, e3, (Below.refl _ _).drew⟩ (fun WN hst => ?hs) (fun WN hst => ?he)
        case hf => simp only [putOps, Act.put, List.setIfInBounds_toArray, List.set_cons_succ, List.set_cons_zero]; exact rfl
        case hs =>
         have HST := Lib.hid hst
         obtain ⟨x0, x1, c6, e0, e1, e2, e3, hbl⟩ := hst
         iterate 13 refine ⟨?_, fun K hK => ?_⟩
         ·trivial
         all_goals try (go_simp; exact hK _ HST.out; done)
         ·have hlk := HLK.out WN hbl
          go_simp
          exact hK _ HST.out
        case he =>
         obtain ⟨x0, x1, c6, e0, e1, e2, e3, hbl⟩ := hst
         have hb11 := hbm.trans (hbl.mono hbm.size)
         have hbi11 := hbim.trans (hbl.mono hbim.size)
         have KM1 := Lib.hid (KM0.out.below hbl)
         obtain ⟨w11, hw11⟩ : ∃ x, x = WN := ⟨_, rfl⟩
         subst hw11
         clear hbl
         have hcE : C E = false := by rw [HCZ.out]; exact decide_eq_false HKZ.out
         have hm' : stpL L C i k m = afterV (mirB (lnW E) (lnC E)) m := by rw [HST.out]; unfold stpV; rw [hcE]; rfl
         have hr := lnW_rng E
         have hc := lnC_bd HKE.out
         have hg1 := gb_mir hr.1 hr.2 hc.1 hc.2
         have cL := fun (W' : World) => lineP_any E W' HKE.out
         obtain ⟨la, hla⟩ : ∃ x, x = lnW E := ⟨_, rfl⟩
         obtain ⟨lc, hlc⟩ : ∃ x, x = lnC E := ⟨_, rfl⟩
         rw [← hla, ← hlc] at hm' hg1
         rw [← hla, ← hlc] at cL
         rw [← hlc] at hc
         have cM := fun (W' : World) => mirror_any la lc W' (by omega) (by omega)
         obtain ⟨M1, hM1⟩ : ∃ x, x = mirB la lc := ⟨_, rfl⟩
         rw [← hM1] at cM hm' hg1
         have cA := fun (W' : World) => after_any M1.1 M1.2.1 M1.2.2.1 M1.2.2.2.1 M1.2.2.2.2.1 M1.2.2.2.2.2 m.1 m.2.1 m.2.2.1 m.2.2.2.1 m.2.2.2.2.1 m.2.2.2.2.2 W' (gb_sm hg1 (by decide)) (gb_sm HGM.out (by decide))
         obtain ⟨m', hmm⟩ : ∃ m', m' = afterV M1 m := ⟨_, rfl⟩
         have cA2 : ∀ W' : World, Calls Tryz.prog 64 #[aggM M1, aggM m] W' fun e' w' => e' = .returned (aggM m') ∧ Below W'.heap.size W' w' := fun W' => by rw [hmm]; exact cA W'
         rw [← hmm] at hm'
         have CL := Lib.hid cL
         have CMI := Lib.hid cM
         have CA := Lib.hid cA2
         have HMM := Lib.hid hm'
         clear hcE hm' hr hc hg1 cL cM cA cA2 hla hlc hM1 hmm
         go_wp2_with fail
         refine rg_chain (fin := ?z9) [5] [4, 2, 3, 1, 0] [true, true, true, true, true, false] [false, false, false, false, false, false] (fun x => [aggE E, aggL la lc, aggM M1, aggM m, aggM m', (x 0)]) (fun j _ WN => match j with | 0 => WN.cell? ⟨xb, 0, none⟩ = some (.pointer (some ⟨pb, 0, none⟩)) ∧ WN.cell? ⟨xb, 1, none⟩ = some (.slice (some ⟨bX, oX, none⟩) L.length cx) ∧ WN.cell? ⟨wi.heap.size, 0, none⟩ = some (.int .i64 E.1) ∧ WN.cell? ⟨wi.heap.size, 1, none⟩ = some (.int .i64 E.2.1) ∧ WN.cell? ⟨wi.heap.size, 2, none⟩ = some (.int .i64 E.2.2.1) ∧ WN.cell? ⟨wi.heap.size, 3, none⟩ = some (.int .i64 E.2.2.2) ∧ Below w11.heap.size w11 WN | _ => ∃ W0 : World, (W0.cell? ⟨xb, 0, none⟩ = some (.pointer (some ⟨pb, 0, none⟩)) ∧ W0.cell? ⟨xb, 1, none⟩ = some (.slice (some ⟨bX, oX, none⟩) L.length cx) ∧ W0.cell? ⟨wi.heap.size, 0, none⟩ = some (.int .i64 E.1) ∧ W0.cell? ⟨wi.heap.size, 1, none⟩ = some (.int .i64 E.2.1) ∧ W0.cell? ⟨wi.heap.size, 2, none⟩ = some (.int .i64 E.2.2.1) ∧ W0.cell? ⟨wi.heap.size, 3, none⟩ = some (.int .i64 E.2.2.2) ∧ Below w11.heap.size w11 W0) ∧ WN = set6 W0 wj.heap.size 0 m') ?hf (by kernel_rfl) (by kernel_rfl) (fun _ => rfl) (by kernel_rfl) ?hv ⟨x0, x1, e0, e1, e2, e3, (Below.refl _ _).drew⟩ (fun x WN hst => ?hs) ?hB ?hT (fun x WN hst => ?he)
         case hf => intro x; simp only [putOps, Act.put, List.setIfInBounds_toArray, List.set_cons_succ, List.set_cons_zero]; exact rfl
         case hv =>
          intro x j t v h; cases j with
          | zero => cases h; rfl
          | succ j => simp at h
         case hs =>
          have HST := Lib.hid hst
          obtain ⟨x0, x1, e0, e1, e2, e3, hbl⟩ := hst
          iterate 5 refine ⟨?_, fun K hK => ?_⟩
          ·trivial
          all_goals try (go_simp; exact hK _ HST.out; done)
          ·go_simp
           refine (CA.out _).mono ?_
           rintro e' wc ⟨he, hbc⟩
           subst he
           exact hK _ ⟨sd x0 hbc, sd x1 hbc, sd e0 hbc, sd e1 hbc, sd e2 hbc, sd e3 hbc, stay_b hbl hbc⟩
          ·have kmW := KM1.out.below hbl
           obtain ⟨l0, l1, l2, l3, l4, l5⟩ := kmW.cells1
           go_simp
           exact hK _ HST.out
          ·go_simp
           refine (CMI.out _).mono ?_
           rintro e' wc ⟨he, hbc⟩
           subst he
           exact hK _ ⟨sd x0 hbc, sd x1 hbc, sd e0 hbc, sd e1 hbc, sd e2 hbc, sd e3 hbc, stay_b hbl hbc⟩
          ·go_simp
           refine (CL.out _).mono ?_
           rintro e' wc ⟨he, hbc⟩
           subst he
           exact hK _ ⟨sd x0 hbc, sd x1 hbc, sd e0 hbc, sd e1 hbc, sd e2 hbc, sd e3 hbc, stay_b hbl hbc⟩
         case hB => intro j x WN _ _ _; trivial
         case hT =>
          intro j t x WN ht hst o ho K hK
          obtain rfl : j = 0 := by cases j with | zero => rfl | succ j => simp at ht
          cases ht; cases ho
          have HST := Lib.hid hst
          obtain ⟨x0, x1, e0, e1, e2, e3, hbl⟩ := hst
          have kmW := KM1.out.below hbl
          obtain ⟨l0, l1, l2, l3, l4, l5⟩ := kmW.cells1
          have fz := kmW.fz
          have hlt := blk_lt (show WN.heap[wj.heap.size]? = _ from kmW)
          go_simp
          exact hK undef _ ⟨_, HST.out, rfl⟩
         case he =>
          obtain ⟨W0, hst, hWN⟩ := hst
          obtain ⟨x0, x1, e0, e1, e2, e3, hbl⟩ := hst
          have hkW := KM1.out.below hbl
          have KM := Lib.hid (hkW.set 0 m')
          have hbW0 := hb11.trans (hbl.mono hb11.size)
          have hbiW0 := hbi11.trans (hbl.mono hbi11.size)
          have hbz := set6_below2 hbW0 hb9.size 0 m'
          have hbiz := set6_below2 hbiW0 hbi9.size 0 m'
          have HXZ := Lib.hid (HX.out.below hbz)
          rw [← hWN] at KM hbz hbiz HXZ
          have KM : Hid (LB WN wj.heap.size [m']) := KM
          obtain ⟨wz, hwz⟩ : ∃ x, x = WN := ⟨_, rfl⟩
          subst hwz
          have x0 := HXZ.out.c0
          have x1 := HXZ.out.c1
          clear hkW hbW0 hbiW0 hWN hbl e0 e1 e2 e3 KM1 HXZ
          go_wp2_with fail
          obtain ⟨bY, oY, mj, hA2, hmj, hbY, n0, n1, n2, n3, n4, n5⟩ := Rd.mp (by rw [HML.out]; exact HM.out) (show j < ms.length by rw [HML.out]; exact hjn)
          injection hA2 with hA2
          injection hA2 with e1 e2 _
          subst e1 e2
          have n0 := sd n0 hbz
          have n1 := sd n1 hbz
          have n2 := sd n2 hbz
          have n3 := sd n3 hbz
          have n4 := sd n4 hbz
          have n5 := sd n5 hbz
          obtain ⟨l0, l1, l2, l3, l4, l5⟩ := KM.out.cells1
          have hjj : (j : Int) < (L.length : Int) := by omega
          have hj0 : (0 : Int) ≤ (j : Int) := by omega
          have hne := fun w => neM mj m' w
          have hmgj : ms.getD j zeroV = mj := by rw [List.getD_eq_getElem?_getD, hmj]; rfl
          have HMJ := Lib.hid hmgj
          clear hmgj hmj
          by_cases hq : mj = m'
          ·have hqq : (!decide (mj = m')) = false := by simp [hq]
           have HQ := Lib.hid hq
           clear hq
           refine rg_plain (fin := ?z10) [.bool true, .bool true, .pointer (some ⟨xb, 0, none⟩), .pointer (some ⟨xb, 0, none⟩), .pointer (some ⟨xb, 1, none⟩), .slice (some ⟨bX, oX, none⟩) L.length cx, .int .i64 (j : Int), .pointer (some ⟨bX, oX + j * 6, none⟩), aggM mj, aggM m', .bool false, .bool false] (fun WN => WN.cell? ⟨xb, 0, none⟩ = some (.pointer (some ⟨pb, 0, none⟩)) ∧ WN.cell? ⟨xb, 1, none⟩ = some (.slice (some ⟨bX, oX, none⟩) L.length cx) ∧ WN.cell? ⟨bX, oX + j * 6, none⟩ = some (.int .i64 mj.1) ∧ WN.cell? ⟨bX, oX + j * 6 + 1, none⟩ = some (.int .i64 mj.2.1) ∧ WN.cell? ⟨bX, oX + j * 6 + 2, none⟩ = some (.int .i64 mj.2.2.1) ∧ WN.cell? ⟨bX, oX + j * 6 + 3, none⟩ = some (.int .i64 mj.2.2.2.1) ∧ WN.cell? ⟨bX, oX + j * 6 + 4, none⟩ = some (.int .i64 mj.2.2.2.2.1) ∧ WN.cell? ⟨bX, oX + j * 6 + 5, none⟩ = some (.int .i64 mj.2.2.2.2.2) ∧ WN.cell? ⟨wj.heap.size, 0, none⟩ = some (.int .i64 m'.1) ∧ WN.cell? ⟨wj.heap.size, 1, none⟩ = some (.int .i64 m'.2.1) ∧ WN.cell? ⟨wj.heap.size, 2, none⟩ = some (.int .i64 m'.2.2.1) ∧ WN.cell? ⟨wj.heap.size, 3, none⟩ = some (.int .i64 m'.2.2.2.1) ∧ WN.cell? ⟨wj.heap.size, 4, none⟩ = some (.int .i64 m'.2.2.2.2.1) ∧ WN.cell? ⟨wj.heap.size, 5, none⟩ = some (.int .i64 m'.2.2.2.2.2) ∧ Below wz.heap.size wz WN) ?hf (by kernel_rfl) (by kernel_rfl) rfl ⟨x0, x1, n0, n1, n2, n3, n4, n5, l0, l1, l2, l3, l4, l5, (Below.refl _ _).drew⟩ (fun WN hst => ?hs) (fun WN hst => ?he)
           case hf => simp only [putOps, Act.put, List.setIfInBounds_toArray, List.set_cons_succ, List.set_cons_zero]; exact rfl
           case hs =>
            have HST := Lib.hid hst
            obtain ⟨x0, x1, n0, n1, n2, n3, n4, n5, l0, l1, l2, l3, l4, l5, hbl⟩ := hst
            iterate 12 refine ⟨?_, fun K hK => ?_⟩
            ·trivial
            all_goals try (go_simp; exact hK _ HST.out; done)
           case he =>
            obtain ⟨x0, x1, n0, n1, n2, n3, n4, n5, l0, l1, l2, l3, l4, l5, hbl⟩ := hst
            have hkk : ∀ k', k' < k + 1 → okI L C ms i k' := by
             intro k' hk'
             by_cases e : k' = k
             ·subst e
              intro j' hj'
              rw [HNB.out] at hj'
              cases hj'
              rw [HMG.out, HMM.out, HMJ.out]
              exact HQ.out
             ·exact hok2.out k' (by omega)
            have HKK := Lib.hid hkk
            have hbf := hbiz.trans (hbl.mono hbiz.size)
            clear hkk
            go_wp2
            go_roundw
            case rel => exact ⟨k + 1, by omega, by go_num, HKK, hbf⟩
            case measure => simp [intOf]; omega
          ·have hqq : (!decide (mj = m')) = true := by simp [hq]
           have HQ := Lib.hid hq
           clear hq
           refine rg_plain (fin := ?z11) [.bool true, .bool true, .pointer (some ⟨xb, 0, none⟩), .pointer (some ⟨xb, 0, none⟩), .pointer (some ⟨xb, 1, none⟩), .slice (some ⟨bX, oX, none⟩) L.length cx, .int .i64 (j : Int), .pointer (some ⟨bX, oX + j * 6, none⟩), aggM mj, aggM m', .bool true, .bool true] (fun WN => WN.cell? ⟨xb, 0, none⟩ = some (.pointer (some ⟨pb, 0, none⟩)) ∧ WN.cell? ⟨xb, 1, none⟩ = some (.slice (some ⟨bX, oX, none⟩) L.length cx) ∧ WN.cell? ⟨bX, oX + j * 6, none⟩ = some (.int .i64 mj.1) ∧ WN.cell? ⟨bX, oX + j * 6 + 1, none⟩ = some (.int .i64 mj.2.1) ∧ WN.cell? ⟨bX, oX + j * 6 + 2, none⟩ = some (.int .i64 mj.2.2.1) ∧ WN.cell? ⟨bX, oX + j * 6 + 3, none⟩ = some (.int .i64 mj.2.2.2.1) ∧ WN.cell? ⟨bX, oX + j * 6 + 4, none⟩ = some (.int .i64 mj.2.2.2.2.1) ∧ WN.cell? ⟨bX, oX + j * 6 + 5, none⟩ = some (.int .i64 mj.2.2.2.2.2) ∧ WN.cell? ⟨wj.heap.size, 0, none⟩ = some (.int .i64 m'.1) ∧ WN.cell? ⟨wj.heap.size, 1, none⟩ = some (.int .i64 m'.2.1) ∧ WN.cell? ⟨wj.heap.size, 2, none⟩ = some (.int .i64 m'.2.2.1) ∧ WN.cell? ⟨wj.heap.size, 3, none⟩ = some (.int .i64 m'.2.2.2.1) ∧ WN.cell? ⟨wj.heap.size, 4, none⟩ = some (.int .i64 m'.2.2.2.2.1) ∧ WN.cell? ⟨wj.heap.size, 5, none⟩ = some (.int .i64 m'.2.2.2.2.2) ∧ Below wz.heap.size wz WN) ?hf (by kernel_rfl) (by kernel_rfl) rfl ⟨x0, x1, n0, n1, n2, n3, n4, n5, l0, l1, l2, l3, l4, l5, (Below.refl _ _).drew⟩ (fun WN hst => ?hs) (fun WN hst => ?he)
           case hf => simp only [putOps, Act.put, List.setIfInBounds_toArray, List.set_cons_succ, List.set_cons_zero]; exact rfl
           case hs =>
            have HST := Lib.hid hst
            obtain ⟨x0, x1, n0, n1, n2, n3, n4, n5, l0, l1, l2, l3, l4, l5, hbl⟩ := hst
            iterate 12 refine ⟨?_, fun K hK => ?_⟩
            ·trivial
            all_goals try (go_simp; exact hK _ HST.out; done)
           case he =>
            obtain ⟨x0, x1, n0, n1, n2, n3, n4, n5, l0, l1, l2, l3, l4, l5, hbl⟩ := hst
            have hno : ¬ ∀ i k, i < L.length → k < 3 → okI L C ms i k := by
             intro h
             have h1 := h i k hin hk3 j HNB.out
             rw [HMG.out, HMM.out, HMJ.out] at h1
             exact HQ.out h1
            have hbf := hbz.trans (hbl.mono hbz.size)
            go_wp2
            go_ret
            exact ⟨ret_bool (HNOT.out hno).symm, hbf⟩
    ·obtain rfl : k = 3 := by omega
     have hkk : ∀ i' k, i' < i + 1 → k < 3 → okI L C ms i' k := by
      intro i' k hi' hk'
      by_cases e : i' = i
      ·subst e
       exact hok2.out k hk'
      ·exact hok.out i' k (by omega) hk'
     have HKK := Lib.hid hkk
     clear hkk
     go_wp2
     go_roundw
     case rel => exact ⟨i + 1, by omega, by go_num, HKK, hbw5⟩
     case measure => simp [intOf]; omega
  ·obtain rfl : i = L.length := by omega
   go_wp2
   go_ret
   exact ⟨ret_bool (HYES.out fun i k hi hk => hok.out i k hi hk).symm, hbw⟩
end
end Go.Proofs.YtpkjekedgodccaaGreatDoor
