/- pile.Open. -/
import Derived.Test.YtpkjekedgodccaaGreatDoorK27
import Derived.Test.YtpkjekedgodccaaGreatDoorK29
import Derived.Test.YtpkjekedgodccaaGreatDoorK19
namespace Go.Proofs.YtpkjekedgodccaaGreatDoor
set_option linter.unusedSimpArgs false
set_option linter.unusedVariables false
section
open Go.RowKit Go.Maps
structure OpnS (w : World) (xb : Nat) (W H : Int) (mask : List Int) (cs : List C5) (ms : List V6) (sts : List Stk) (wb : World) (pb nb kb Wn Hn mn gl mb gm cm : Nat) (vm vc vt va : Value) (w' : World) : Prop where
 dim : W = ((Wn : Nat) : Int) ∧ H = ((Hn : Nat) : Int) ∧ (1 ≤ Wn ∧ Wn ≤ 8) ∧ (1 ≤ Hn ∧ Hn ≤ 8) ∧ mask.length = Wn * Hn
 st : StateP W H mask cs ms sts
 pap : PapI wb pb nb kb Wn Hn vm vc vt (trisL Wn mask) mn cs.length (kindF cs)
 own : wb.ownsRow w.heap.size 44 3 vt (trisL Wn mask).length (tcT (trisL Wn mask))
 map : wb.ownsRow w.heap.size 63 6 (.slice (some ⟨gm, 0, none⟩) (trisL Wn mask).length cm) (trisL Wn mask).length (mcs ms)
 at_ : wb.ownsRow w.heap.size 44 3 va (trisL Wn mask).length (tcT (atsL (trisL Wn mask) ms))
 kp : Kp2 wb w' gl mb
 bel : Below w.heap.size w wb
 lie : LieF wb pb (.slice (some ⟨gm, 0, none⟩) (trisL Wn mask).length cm) va (trisL Wn mask) sts xb gl mb w'
 lw : ∃ cs, wb.heap[gl]? = some (.cells cs 3 (0, 0))
 mw : ∃ es c, wb.heap[mb]? = some (.map es c)
 far : pb ≠ gl ∧ pb ≠ mb ∧ nb ≠ gl ∧ nb ≠ mb ∧ kb ≠ gl ∧ kb ≠ mb ∧ w.heap.size ≤ gl ∧ w.heap.size ≤ mb ∧ w.heap.size ≤ kb
def OpnP (w : World) (xb : Nat) (W H : Int) (mask : List Int) (cs : List C5) (ms : List V6) (sts : List Stk) (w' : World) : Prop :=
 ∃ wb pb nb kb Wn Hn mn gl mb gm cm vm vc vt va, OpnS w xb W H mask cs ms sts wb pb nb kb Wn Hn mn gl mb gm cm vm vc vt va w'
open Classical in
noncomputable def stateB (W H : Int) (mask : List Int) (cs : List C5) (ms : List V6) (sts : List Stk) : Bool := decide (StateP W H mask cs ms sts)
theorem stateB_yes {W H : Int} {mask : List Int} {cs : List C5} {ms : List V6} {sts : List Stk} (h : StateP W H mask cs ms sts) : stateB W H mask cs ms sts = true := @decide_eq_true _ (Classical.propDecidable _) h
theorem stateB_no {W H : Int} {mask : List Int} {cs : List C5} {ms : List V6} {sts : List Stk} (h : ¬ StateP W H mask cs ms sts) : stateB W H mask cs ms sts = false := @decide_eq_false _ (Classical.propDecidable _) h
theorem stateB_iff {W H : Int} {mask : List Int} {cs : List C5} {ms : List V6} {sts : List Stk} : stateB W H mask cs ms sts = true ↔ StateP W H mask cs ms sts := @decide_eq_true_iff _ (Classical.propDecidable _)
set_option maxRecDepth 100000 in
set_option maxHeartbeats 12800000 in
theorem open_any (W H : Int) (Am Ac Ap As : Option Addr) (nm cm nc cc np cp ns cS : Nat) (mask : List Int) (cs : List C5) (ms : List V6) (sts : List Stk) (w : World) (hs : Steps w) (hm : Rd w 1 Am nm (vis mask)) (hc : Rd w 5 Ac nc (ccs cs)) (hp : Rd w 6 Ap np (mcs ms)) (hst : StkR w As ns sts)
  (hnm : nm ≤ 140737488351232) (hnc : nc ≤ 140737488351232) (hnp : np ≤ 140737488351232) :
  Calls Tryz.prog 12 #[.agg #[.int .i64 W, .int .i64 H, .slice Am nm cm, .slice Ac nc cc, .slice Ap np cp, .slice As ns cS]] w fun e w' => Below w.heap.size w w' ∧
   ((stateB W H mask cs ms sts = false ∧ ∃ v, e = .returned (.tuple #[.pointer v, .bool false])) ∨ (stateB W H mask cs ms sts = true ∧ ∃ xb, e = .returned (.tuple #[.pointer (some ⟨xb, 0, none⟩), .bool true]) ∧ OpnP w xb W H mask cs ms sts w')) := by
 have kb0 := heap_alloc_new w (.cells #[.int .i64 W, .int .i64 H, .slice Am nm cm, .slice Ac nc cc, .slice Ap np cp, .slice As ns cS] 29)
 have hb0 := below_new w (.cells #[.int .i64 W, .int .i64 H, .slice Am nm cm, .slice Ac nc cc, .slice Ap np cp, .slice As ns cS] 29)
 have a0 := cell_of_blk kb0 0
 have a1 := cell_of_blk kb0 1
 have a2 := cell_of_blk kb0 2
 have a3 := cell_of_blk kb0 3
 have a4 := cell_of_blk kb0 4
 have a5 := cell_of_blk kb0 5
 simp only [List.getElem?_toArray, List.getElem?_cons_zero, List.getElem?_cons_succ] at a0 a1 a2 a3 a4 a5
 have cN := new_any W H Am Ac nm cm nc cc mask cs (w.alloc (.cells #[.int .i64 W, .int .i64 H, .slice Am nm cm, .slice Ac nc cc, .slice Ap np cp, .slice As ns cS] 29)) (hs.below hb0) (hm.below hb0) (hc.below hb0) hnm hnc
 have hnpl : np = ms.length := by
  have := hp.1
  rw [mcs_len] at this
  omega
 have HNP := Lib.hid hnpl
 have CN := Lib.hid cN
 have HS := Lib.hid (hs.below hb0)
 have HM := Lib.hid (hp.below hb0)
 have HST := Lib.hid hst
 have HB0 := Lib.hid hb0
 have KB0 := Lib.hid kb0
 clear cN hs hm hc hp hst kb0 hb0 hnpl
 go_enter Tryz.func12, Tryz.ntmps12
 go_wp2_with fail
 refine CN.out.mono ?_
 rintro e w1 ⟨hb1, ⟨hF, v, rfl⟩ | ⟨hT, Wn, Hn, pb, b0, nb, kb, mn, vt, rfl, rfl, hW, hH, hml, rfl, hN⟩⟩
 ·have HBF := Lib.hid (stay_b HB0.out hb1)
  have HF := Lib.hid (stateB_no (W := W) (H := H) (mask := mask) (cs := cs) (ms := ms) (sts := sts) (fun h => by have := h.sheet; rw [hF] at this; cases this))
  replace a4 := sd a4 hb1
  clear hb1 hF CN a0 a1 a2 a3 a5
  go_wp2_with fail
  refine rg_plain (fin := ?z2) [.bool false, .bool true, .bool true, undef, undef, undef, undef, undef, undef, undef, undef, undef, .bool true] (fun WN => WN.cell? ⟨w.heap.size, 4, none⟩ = some (.slice Ap np cp) ∧ Below w1.heap.size w1 WN) ?hf (by kernel_rfl) (by kernel_rfl) rfl ⟨a4, (Below.refl _ _).drew⟩ (fun WN hst => ?hs) (fun WN hst => ?he)
  case hf => simp only [putOps, Act.put, List.setIfInBounds_toArray, List.set_cons_succ, List.set_cons_zero]; exact rfl
  case hs =>
   have HST := Lib.hid hst
   obtain ⟨a4, hbl⟩ := hst
   iterate 13 refine ⟨?_, fun K hK => ?_⟩
   ·trivial
   ·(go_simp; exact hK _ HST.out)
   ·(go_simp; exact hK _ HST.out)
   ·(go_simp; exact hK _ HST.out)
   ·(go_simp; exact hK _ HST.out)
   ·(go_simp; exact hK _ HST.out)
   ·(go_simp; exact hK _ HST.out)
   ·(go_simp; exact hK _ HST.out)
   ·(go_simp; exact hK _ HST.out)
   ·(go_simp; exact hK _ HST.out)
   ·(go_simp; exact hK _ HST.out)
   ·(go_simp; exact hK _ HST.out)
   ·(go_simp; exact hK _ HST.out)
   ·(go_simp; exact hK _ HST.out)
  case he =>
   obtain ⟨a4, hbl⟩ := hst
   have HBG := Lib.hid (stay_b HBF.out hbl)
   clear hbl a4 HBF
   go_wp2
   exact bodyPost_ret (v := .tuple #[.pointer none, .bool false]) (by simp [results, Tryz.results12, go_sem]) rfl ⟨HBG.out, .inl ⟨HF.out, _, rfl⟩⟩
 ·have hb1w := stay_b HB0.out hb1
  have hL8 : ∀ t ∈ trisL Wn mask, In8 t := fun t ht => by
   have := trisL_in (by omega) hml ht
   exact ⟨by omega, by omega, this.2.2.2.2⟩
  have hlen : (trisL Wn mask).length ≤ 1000 := by
   have h1 := trisL_len Wn mask
   have h2 : Wn * Hn ≤ 8 * 8 := Nat.mul_le_mul hW.2 hH.2
   omega
  have hL0 : 0 < (trisL Wn mask).length := by
   have h1 := hT
   unfold newB at h1
   simp only [Bool.and_eq_true] at h1
   have h2 := h1.2.2
   rw [show ((Wn : Int)).toNat = Wn by omega] at h2
   cases hl : trisL Wn mask with
   | nil => rw [hl] at h2; simp [joinB] at h2
   | cons a l => simp
  have hfc : facF (kindF cs) = crsF false cs := facF_crs (newB_creases hT)
  replace a4 := sd a4 hb1
  replace a5 := sd a5 hb1
  have HS1 := Lib.hid (HS.out.below hb1)
  have HM1 := Lib.hid (HM.out.below hb1)
  have HB1 := Lib.hid hb1w
  have HDIM := Lib.hid (And.intro hW (And.intro hH (And.intro hml hT)))
  obtain ⟨L, hLe⟩ : ∃ L, L = trisL Wn mask := ⟨_, rfl⟩
  rw [← hLe] at hN hL8 hlen hL0
  have hpap := hN.pap
  rw [List.take_length] at hpap
  have hown := hN.own
  have HLE := Lib.hid hLe
  have HPAP := Lib.hid hpap
  have HOWN := Lib.hid hown
  have hkge := hN.kge
  obtain ⟨At, ct, hvt, hct⟩ : ∃ At ct, vt = .slice At L.length ct ∧ L.length ≤ ct := by obtain ⟨A1, c1, h1, h2, _⟩ := own_slice hown; exact ⟨A1, c1, h1, h2⟩
  subst hvt
  have c4 := hpap.c4
  have HL8 := Lib.hid hL8
  have HFC := Lib.hid hfc
  have hsb1 := hb1.size
  obtain ⟨bn, hbn⟩ : ∃ b, ((np : Int) != (L.length : Int)) = b := ⟨_, rfl⟩
  have HBN := Lib.hid hbn
  clear hb1 hb1w hT hL8 hN hpap hown CN hLe HS a0 a1 a2 a3 hml hW hH hfc HM hbn
  go_wp2_with fail
  refine rg_plain (fin := ?z4) [.bool true, .bool false, .bool false, .pointer (some ⟨w.heap.size, 4, none⟩), .slice Ap np cp, .int .i64 (np : Int), .pointer (some ⟨pb, 0, none⟩), .pointer (some ⟨pb, 0, none⟩), .pointer (some ⟨pb, 4, none⟩), .slice At L.length ct, .int .i64 (L.length : Int), .bool bn, .bool bn] (fun WN => WN.cell? ⟨w.heap.size, 4, none⟩ = some (.slice Ap np cp) ∧ WN.cell? ⟨pb, 4, none⟩ = some (.slice At L.length ct) ∧ Below w1.heap.size w1 WN) ?hf (by kernel_rfl) (by kernel_rfl) rfl ⟨a4, c4, (Below.refl _ _).drew⟩ (fun WN hst => ?hs) (fun WN hst => ?he)
  case hf => simp only [putOps, Act.put, List.setIfInBounds_toArray, List.set_cons_succ, List.set_cons_zero]; exact rfl
  case hs =>
   have HST := Lib.hid hst
   obtain ⟨a4, c4, hbl⟩ := hst
   iterate 13 refine ⟨?_, fun K hK => ?_⟩
   ·trivial
   ·generalize bn = y0 at hK ⊢
    cases y0 <;> (go_simp; exact hK _ HST.out)
   ·have hbn := HBN.out
    (go_simp; exact hK _ HST.out)
   ·(go_simp; exact hK _ HST.out)
   ·(go_simp; exact hK _ HST.out)
   ·(go_simp; exact hK _ HST.out)
   ·(go_simp; exact hK _ HST.out)
   ·(go_simp; exact hK _ HST.out)
   ·(go_simp; exact hK _ HST.out)
   ·(go_simp; exact hK _ HST.out)
   ·(go_simp; exact hK _ HST.out)
   ·(go_simp; exact hK _ HST.out)
   ·(go_simp; exact hK _ HST.out)
   ·(go_simp; exact hK _ HST.out)
  case he =>
   obtain ⟨a4, c4, hbl⟩ := hst
   replace a5 := sd a5 hbl
   have HS2 := Lib.hid (HS1.out.below hbl)
   have HM2 := Lib.hid (HM1.out.below hbl)
   have HP2 := Lib.hid (HPAP.out.below hbl)
   have HO2 := Lib.hid (od HOWN.out hbl)
   have HB2 := Lib.hid (stay_b HB1.out hbl)
   have hsb2 := hbl.size
   obtain ⟨w2, hw2⟩ : ∃ x, x = WN := ⟨_, rfl⟩
   subst hw2
   clear hbl HS1 HM1 HPAP HOWN HB1
   cases bn with
   | true =>
    have hne : np ≠ L.length := by
     intro e
     have h1 := HBN.out
     rw [e] at h1
     simp at h1
    have HF := Lib.hid (stateB_no (W := (Wn : Int)) (H := (Hn : Int)) (mask := mask) (cs := cs) (ms := ms) (sts := sts) (fun h => by
     have h1 := h.maps.len
     rw [show ((Wn : Int)).toNat = Wn by omega, ← HLE.out] at h1
     have := HNP.out
     omega))
    clear hne a4 a5 c4
    go_wp2
    exact bodyPost_ret (v := .tuple #[.pointer none, .bool false]) (by simp [results, Tryz.results12, go_sem]) rfl ⟨HB2.out, .inl ⟨HF.out, _, rfl⟩⟩
   | false =>
    have hnl : np = L.length := by
     have h1 := HBN.out
     have h2 : (np : Int) = (L.length : Int) := by simpa using h1
     omega
    have hml2 : ms.length = L.length := by have := HNP.out; omega
    subst hnl
    go_wp2_with fail
    go_loopw [31] (fun v wr => ∃ i : Nat, i ≤ L.length ∧ v = .int .i64 i ∧ Hid (∀ j, j < i → mayI L ms j) ∧ Hid (Below w2.heap.size w2 wr)) (fun v _ => L.length - (intOf v).toNat)
    case atStart => exact ⟨0, by omega, rfl, Lib.hid (fun j h => by omega), Lib.hid (Below.refl _ _)⟩
    case round =>
     obtain ⟨i, hi, rfl, hmy, hbw⟩ := hrel
     by_cases hin : i < L.length
     ·obtain ⟨bX, oX, m, hA, hmi, hbX, y0, y1, y2, y3, y4, y5⟩ := Rd.mp (by rw [hml2]; exact HM2.out) (show i < ms.length by rw [hml2]; exact hin)
      subst hA
      obtain ⟨t, ht⟩ : ∃ t, L[i]? = some t := ⟨_, List.getElem?_eq_getElem hin⟩
      obtain ⟨gt, ct2, curt, hv2, _⟩ := own_addr HO2.out (by omega)
      injection hv2 with e1 _ e3
      subst e1
      subst e3
      have hbw0 := hbw.out
      replace y0 := sd y0 hbw0
      replace y1 := sd y1 hbw0
      replace y2 := sd y2 hbw0
      replace y3 := sd y3 hbw0
      replace y4 := sd y4 hbw0
      replace y5 := sd y5 hbw0
      have hit := HL8.out t (List.mem_of_getElem? ht)
      have hii : (i : Int) < (L.length : Int) := by omega
      have hi0 : (0 : Int) ≤ (i : Int) := by omega
      have hgm : ms.getD i zeroV = m := by rw [List.getD_eq_getElem?_getD, hmi]; rfl
      have hat : atI L ms i = moveV m t := by unfold atI; rw [hgm, List.getD_eq_getElem?_getD, ht]; rfl
      have cM := fun (h0 : mapMayB m = true) (W : World) (h : Below wr.heap.size wr W) => move_any m.1 m.2.1 m.2.2.1 m.2.2.2.1 m.2.2.2.2.1 m.2.2.2.2.2 t.1 t.2.1 t.2.2 W (HS2.out.below (hbw0.trans (h.mono hbw0.size))) (gb_sm (may_sm h0) (by omega)) (by have := hit.1; omega) (by have := hit.1; omega) (by have := hit.2.1; omega) (by have := hit.2.1; omega) hit.2.2.1 hit.2.2.2
      obtain ⟨U, hU⟩ : ∃ U, U = moveV m t := ⟨_, rfl⟩
      rw [show moveT m.1 m.2.1 m.2.2.1 m.2.2.2.1 m.2.2.2.2.1 m.2.2.2.2.2 t.1 t.2.1 t.2.2 = U from hU.symm] at cM
      have hmay : mayI L ms i ↔ mapMayB m = true ∧ triMayB U.1 U.2.1 U.2.2 = true := by
       unfold mayI triMay3
       rw [hgm, hat, ← hU]
      have cA := fun W : World => mapMay_any m.1 m.2.1 m.2.2.1 m.2.2.2.1 m.2.2.2.2.1 m.2.2.2.2.2 W
      have cT := fun W : World => triMay_any U.1 U.2.1 U.2.2 W
      obtain ⟨m1, hm1⟩ : ∃ b, b = mapMayB m := ⟨_, rfl⟩
      rw [show mapMayB (m.1, m.2.1, m.2.2.1, m.2.2.2.1, m.2.2.2.2.1, m.2.2.2.2.2) = m1 from hm1.symm] at cA
      rw [← hm1] at cM hmay
      obtain ⟨m2, hm2⟩ : ∃ b, b = triMayB U.1 U.2.1 U.2.2 := ⟨_, rfl⟩
      rw [← hm2] at cT hmay
      have CM := Lib.hid cM
      have CA := Lib.hid cA
      have CT := Lib.hid cT
      have HMAY := Lib.hid hmay
      replace c4 := sd c4 hbw0
      have t012 := own_tri (od HO2.out hbw0) ht
      obtain ⟨t0, t1, t2⟩ := t012
      clear cM cA cT hit hat hU hm1 hm2 hmi hgm hmay ht
      obtain ⟨wi, hwi⟩ : ∃ x, x = wr := ⟨_, rfl⟩
      subst hwi
      go_wp2_with fail
      have kM := heap_alloc_new wi (.cells #[.int .i64 m.1, .int .i64 m.2.1, .int .i64 m.2.2.1, .int .i64 m.2.2.2.1, .int .i64 m.2.2.2.2.1, .int .i64 m.2.2.2.2.2] 63)
      have hbM := below_new wi (.cells #[.int .i64 m.1, .int .i64 m.2.1, .int .i64 m.2.2.1, .int .i64 m.2.2.2.1, .int .i64 m.2.2.2.2.1, .int .i64 m.2.2.2.2.2] 63)
      have z0 := cell_of_blk kM 0
      have z1 := cell_of_blk kM 1
      have z2 := cell_of_blk kM 2
      have z3 := cell_of_blk kM 3
      have z4 := cell_of_blk kM 4
      have z5 := cell_of_blk kM 5
      simp only [List.getElem?_toArray, List.getElem?_cons_zero, List.getElem?_cons_succ] at z0 z1 z2 z3 z4 z5
      replace c4 := sd c4 hbM
      replace t0 := sd t0 hbM
      replace t1 := sd t1 hbM
      replace t2 := sd t2 hbM
      clear y0 y1 y2 y3 y4 y5 kM
      generalize wi.alloc (.cells #[.int .i64 m.1, .int .i64 m.2.1, .int .i64 m.2.2.1, .int .i64 m.2.2.2.1, .int .i64 m.2.2.2.2.1, .int .i64 m.2.2.2.2.2] 63) = w6 at z0 z1 z2 z3 z4 z5 c4 t0 t1 t2 hbM ⊢
      obtain ⟨V5_2, H5_2⟩ : ∃ V : Value, Hid (V = .bool (!m1)) := ⟨_, Lib.hid rfl⟩
      obtain ⟨V5_3, H5_3⟩ : ∃ V : Value, Hid (V = .bool (!m1)) := ⟨_, Lib.hid rfl⟩
      obtain ⟨V5_4, H5_4⟩ : ∃ V : Value, Hid (V = (bif m1 then aggM m else undef)) := ⟨_, Lib.hid rfl⟩
      obtain ⟨V5_5, H5_5⟩ : ∃ V : Value, Hid (V = (bif m1 then .pointer (some ⟨pb, 0, none⟩) else undef)) := ⟨_, Lib.hid rfl⟩
      obtain ⟨V5_6, H5_6⟩ : ∃ V : Value, Hid (V = (bif m1 then .pointer (some ⟨pb, 0, none⟩) else undef)) := ⟨_, Lib.hid rfl⟩
      obtain ⟨V5_7, H5_7⟩ : ∃ V : Value, Hid (V = (bif m1 then .pointer (some ⟨pb, 4, none⟩) else undef)) := ⟨_, Lib.hid rfl⟩
      obtain ⟨V5_8, H5_8⟩ : ∃ V : Value, Hid (V = (bif m1 then .slice (some ⟨gt, 0, none⟩) L.length ct else undef)) := ⟨_, Lib.hid rfl⟩
      obtain ⟨V5_9, H5_9⟩ : ∃ V : Value, Hid (V = (bif m1 then .int .i64 i else undef)) := ⟨_, Lib.hid rfl⟩
      obtain ⟨V5_10, H5_10⟩ : ∃ V : Value, Hid (V = (bif m1 then .pointer (some ⟨gt, i * 3, none⟩) else undef)) := ⟨_, Lib.hid rfl⟩
      obtain ⟨V5_11, H5_11⟩ : ∃ V : Value, Hid (V = (bif m1 then aggT3 t else undef)) := ⟨_, Lib.hid rfl⟩
      obtain ⟨V5_12, H5_12⟩ : ∃ V : Value, Hid (V = (bif m1 then aggT3 U else undef)) := ⟨_, Lib.hid rfl⟩
      obtain ⟨V5_13, H5_13⟩ : ∃ V : Value, Hid (V = (bif m1 then .bool m2 else undef)) := ⟨_, Lib.hid rfl⟩
      obtain ⟨V5_14, H5_14⟩ : ∃ V : Value, Hid (V = (bif m1 then .bool (!m2) else undef)) := ⟨_, Lib.hid rfl⟩
      obtain ⟨V5_15, H5_15⟩ : ∃ V : Value, Hid (V = .bool ((!m1) || (!m2))) := ⟨_, Lib.hid rfl⟩
      refine rg_plain (fin := ?z6) [aggM m, .bool m1, V5_2, V5_3, V5_4, V5_5, V5_6, V5_7, V5_8, V5_9, V5_10, V5_11, V5_12, V5_13, V5_14, V5_15] (fun WN => WN.cell? ⟨wi.heap.size, 0, none⟩ = some (.int .i64 m.1) ∧ WN.cell? ⟨wi.heap.size, 1, none⟩ = some (.int .i64 m.2.1) ∧ WN.cell? ⟨wi.heap.size, 2, none⟩ = some (.int .i64 m.2.2.1) ∧ WN.cell? ⟨wi.heap.size, 3, none⟩ = some (.int .i64 m.2.2.2.1) ∧ WN.cell? ⟨wi.heap.size, 4, none⟩ = some (.int .i64 m.2.2.2.2.1) ∧ WN.cell? ⟨wi.heap.size, 5, none⟩ = some (.int .i64 m.2.2.2.2.2) ∧ WN.cell? ⟨pb, 4, none⟩ = some (.slice (some ⟨gt, 0, none⟩) L.length ct) ∧ WN.cell? ⟨gt, i * 3, none⟩ = some (.int .i64 t.1) ∧ WN.cell? ⟨gt, i * 3 + 1, none⟩ = some (.int .i64 t.2.1) ∧ WN.cell? ⟨gt, i * 3 + 2, none⟩ = some (.int .i64 t.2.2) ∧ Below w6.heap.size w6 WN) ?hf (by kernel_rfl) (by kernel_rfl) rfl ⟨z0, z1, z2, z3, z4, z5, c4, t0, t1, t2, (Below.refl _ _).drew⟩ (fun WN hst => ?hs) (fun WN hst => ?he)
      case hf => simp only [putOps, Act.put, List.setIfInBounds_toArray, List.set_cons_succ, List.set_cons_zero]; exact rfl
      case hs =>
       have HST := Lib.hid hst
       obtain ⟨z0, z1, z2, z3, z4, z5, c4, t0, t1, t2, hbl⟩ := hst
       iterate 16 refine ⟨?_, fun K hK => ?_⟩
       ·trivial
       ·obtain rfl := H5_15.out
        obtain rfl := H5_3.out
        obtain rfl := H5_14.out
        generalize (!m2) = y1 at hK ⊢
        cases m1 <;> cases y1 <;> (go_simp; exact hK _ HST.out)
       ·obtain rfl := H5_14.out
        obtain rfl := H5_3.out
        obtain rfl := H5_13.out
        cases m1 <;> cases m2 <;> (go_simp; exact hK _ HST.out)
       ·obtain rfl := H5_13.out
        obtain rfl := H5_3.out
        obtain rfl := H5_12.out
        cases m1 <;> first | (go_simp; exact hK _ HST.out; done) | (go_simp; refine (CT.out WN).mono ?_; rintro e' wc ⟨he, hbc⟩; subst he; exact hK _ ⟨sd z0 hbc, sd z1 hbc, sd z2 hbc, sd z3 hbc, sd z4 hbc, sd z5 hbc, sd c4 hbc, sd t0 hbc, sd t1 hbc, sd t2 hbc, stay_b hbl hbc⟩)
       ·obtain rfl := H5_12.out
        obtain rfl := H5_3.out
        obtain rfl := H5_4.out
        obtain rfl := H5_11.out
        cases m1 <;> first | (go_simp; exact hK _ HST.out; done) | (go_simp; refine (CM.out rfl WN (hbM.trans (hbl.mono hbM.size))).mono ?_; rintro e' wc ⟨he, hbc⟩; subst he; exact hK _ ⟨sd z0 hbc, sd z1 hbc, sd z2 hbc, sd z3 hbc, sd z4 hbc, sd z5 hbc, sd c4 hbc, sd t0 hbc, sd t1 hbc, sd t2 hbc, stay_b hbl hbc⟩)
       ·obtain rfl := H5_11.out
        obtain rfl := H5_3.out
        obtain rfl := H5_10.out
        cases m1 <;> (go_simp; exact hK _ HST.out)
       ·obtain rfl := H5_10.out
        obtain rfl := H5_3.out
        obtain rfl := H5_8.out
        obtain rfl := H5_9.out
        cases m1 <;> (go_simp; exact hK _ HST.out)
       ·obtain rfl := H5_9.out
        obtain rfl := H5_3.out
        cases m1 <;> (go_simp; exact hK _ HST.out)
       ·obtain rfl := H5_8.out
        obtain rfl := H5_3.out
        obtain rfl := H5_7.out
        cases m1 <;> (go_simp; exact hK _ HST.out)
       ·obtain rfl := H5_7.out
        obtain rfl := H5_3.out
        obtain rfl := H5_6.out
        cases m1 <;> (go_simp; exact hK _ HST.out)
       ·obtain rfl := H5_6.out
        obtain rfl := H5_3.out
        obtain rfl := H5_5.out
        cases m1 <;> (go_simp; exact hK _ HST.out)
       ·obtain rfl := H5_5.out
        obtain rfl := H5_3.out
        cases m1 <;> (go_simp; exact hK _ HST.out)
       ·obtain rfl := H5_4.out
        obtain rfl := H5_3.out
        cases m1 <;> (go_simp; exact hK _ HST.out)
       ·obtain rfl := H5_3.out
        obtain rfl := H5_2.out
        generalize (!m1) = y0 at hK ⊢
        cases y0 <;> (go_simp; exact hK _ HST.out)
       ·obtain rfl := H5_2.out
        cases m1 <;> (go_simp; exact hK _ HST.out)
       ·(go_simp; refine (CA.out WN).mono ?_; rintro e' wc ⟨he, hbc⟩; subst he; exact hK _ ⟨sd z0 hbc, sd z1 hbc, sd z2 hbc, sd z3 hbc, sd z4 hbc, sd z5 hbc, sd c4 hbc, sd t0 hbc, sd t1 hbc, sd t2 hbc, stay_b hbl hbc⟩)
       ·(go_simp; exact hK _ HST.out)
      case he =>
       obtain ⟨z0, z1, z2, z3, z4, z5, c4, t0, t1, t2, hbl⟩ := hst
       obtain rfl := H5_15.out
       clear H5_2 H5_3 H5_4 H5_5 H5_6 H5_7 H5_8 H5_9 H5_10 H5_11 H5_12 H5_13 H5_14 H5_15
       have hbi := hbM.trans (hbl.mono hbM.size)
       have HBI := Lib.hid ((hbw.out).trans (hbi.mono hbw.out.size))
       clear hbl hbM z0 z1 z2 z3 z4 z5 t0 t1 t2 c4 hbi
       by_cases hmm : m1 = true ∧ m2 = true
       ·obtain ⟨rfl, rfl⟩ := hmm
        have hmy2 : Hid (∀ j, j < i + 1 → mayI L ms j) := Lib.hid (fun j hj => by
         by_cases e : j = i
         ·subst e; exact HMAY.out.2 ⟨rfl, rfl⟩
         ·exact hmy.out j (by omega))
        clear HMAY CM CA CT hmy
        go_wp2
        go_roundw
        case rel => exact ⟨i + 1, by omega, by go_num, hmy2, HBI⟩
        case measure => simp [intOf]; omega
       ·have hno : ¬ mayI L ms i := fun h => hmm (HMAY.out.1 h)
        have hb12 : (!m1 || !m2) = true := by cases m1 <;> cases m2 <;> simp at hmm ⊢
        have HF := Lib.hid (stateB_no (W := (Wn : Int)) (H := (Hn : Int)) (mask := mask) (cs := cs) (ms := ms) (sts := sts) (fun h => by
         have h1 := h.maps.may i
         rw [show ((Wn : Int)).toNat = Wn by omega, ← HLE.out] at h1
         exact hno (h1 hin)))
        clear HMAY CM CA CT hmy hno hmm
        simp only [hb12]
        go_wp2
        exact bodyPost_ret (v := .tuple #[.pointer none, .bool false]) (by simp [results, Tryz.results12, go_sem]) rfl ⟨stay_b HB2.out HBI.out, .inl ⟨HF.out, _, rfl⟩⟩
     ·obtain rfl : i = L.length := by omega
      obtain ⟨bX, oX, hA, _, _⟩ := HM2.out.2 hL0
      subst hA
      have hmay : ∀ m ∈ ms, mapMayB m = true := fun m hm => by
       obtain ⟨j, hj⟩ := List.getElem?_of_mem hm
       have hjl := (List.getElem?_eq_some_iff.1 hj).1
       have h1 := (hmy.out j (by omega)).1
       rwa [List.getD_eq_getElem?_getD, hj] at h1
      have hsm := fun m hm => gb_sm (may_sm (hmay m hm)) (by omega)
      replace a4 := sd a4 hbw.out
      replace a5 := sd a5 hbw.out
      have CC := Lib.hid (cloneM_any bX oX L.length cp ms wr (HM2.out.below hbw.out) hlen)
      have HS3 := Lib.hid (HS2.out.below hbw.out)
      have HP3 := Lib.hid (HP2.out.below hbw.out)
      have HO3 := Lib.hid (od HO2.out hbw.out)
      have HB3 := Lib.hid (stay_b HB2.out hbw.out)
      have hsb3 := hbw.out.size
      have HMAY := Lib.hid hmay
      have HSM := Lib.hid hsm
      have hplt := blk_lt HP3.out.blk
      have hnlt := HP3.out.num.lt
      have hklt := HP3.out.kin.lt
      clear hmay hsm HS2 HP2 HO2 HB2 HM2 hbw c4
      obtain ⟨w3, hw3⟩ : ∃ x, x = wr := ⟨_, rfl⟩
      subst hw3
      go_wp2_with (first
       | (go_at_call 29; refine CC.out.mono ?_; rintro r w4 ⟨v3, rfl, ho4, hb4⟩; obtain ⟨gm, cmm, curm, hv3, _, _, hgm4, _⟩ := own_addr ho4 hL0; subst hv3; have hs4 := HS3.out.below hb4; have hp4 := HP3.out.below hb4; have hw4 := od HO3.out hb4; have cP := placed_any pb nb kb Wn Hn _ _ _ _ L mn _ _ (some ⟨gm, 0, none⟩) cmm ms w4 hs4 hp4 hw4 HL8.out hlen hml2 (Rd.of_own ho4) HSM.out; have CP := Lib.hid cP; have HS4 := Lib.hid hs4; have HP4 := Lib.hid hp4; have HO4 := Lib.hid hw4; have HM4 := Lib.hid ho4; have HB4 := Lib.hid (stay_b HB3.out hb4); replace a5 := sd a5 hb4; have hsb4 := hb4.size; clear CC hs4 hp4 hw4 cP ho4 hb4 HS3 HP3 HO3 HB3 a4)
       | (go_at_call 28; refine CP.out.mono ?_; rintro r w5 ⟨xb, gl, mb, va, rfl, hP5⟩; have hb5 := hP5.bel; have HS5 := Lib.hid (HS4.out.below hb5); have HP5 := Lib.hid (HP4.out.below hb5); have HO5 := Lib.hid (od HO4.out hb5); have HM5 := Lib.hid (od HM4.out hb5); have HB5 := Lib.hid (stay_b HB4.out hb5); replace a5 := sd a5 hb5; have hsb5 := hb5.size; have HPL := Lib.hid hP5; clear CP HS4 HP4 HO4 HM4 HB4 hP5 hb5))
      have cW := whole_any xb pb nb kb Wn Hn _ mb _ _ _ va _ L mn _ _ (some ⟨gm, 0, none⟩) cmm ms w5 HS5.out HP5.out HO5.out HL8.out hL0 hlen hml2 (Rd.of_own HM5.out) HPL.out.pil HMAY.out
      rw [HFC.out] at cW
      obtain ⟨B1, hB1⟩ : ∃ b, b = wholeB L (crsF false cs) ms := ⟨_, rfl⟩
      rw [← hB1] at cW
      have CW := Lib.hid cW
      have HBW := Lib.hid hB1
      clear cW hB1
      obtain ⟨W5, hW5⟩ : ∃ x, x = w5 := ⟨_, rfl⟩
      have hst5 : StateP (Wn : Int) (Hn : Int) mask cs ms sts ↔ B1 = true ∧ StksP L ms sts := by
       obtain ⟨d1, d2, d3, d4⟩ := HDIM.out
       rw [HBW.out, wholeB_iff]
       have hW : ((Wn : Int)).toNat = Wn := by omega
       constructor
       ·rintro ⟨s1, s2, s3⟩
        rw [hW, ← HLE.out] at s2 s3
        exact ⟨s2.ok, s3⟩
       ·rintro ⟨s1, s2⟩
        refine ⟨d4, ?_, ?_⟩
        ·rw [hW, ← HLE.out]; exact ⟨hml2, hmy.out, s1⟩
        ·rw [hW, ← HLE.out]; exact s2
      have HST5 := Lib.hid hst5
      clear hst5
      subst hW5
      go_wp2_with (go_at_call 30; refine CW.out.mono ?_; rintro r w6 ⟨rfl, hb6⟩; have HB6 := Lib.hid hb6; replace a5 := sd a5 hb6; clear CW hb6)
      ·have hB1 : B1 = true := by assumption
       have hge := HPL.out.ge
       have hne := HPL.out.ne
       have hb6 := HB6.out
       have HBB6 := Lib.hid (stay_b HB5.out hb6)
       have hown6 := od HPL.out.own hb6
       rw [List.take_of_length_le (by rw [atsL_len]; omega)] at hown6
       have hown6 := own_mono hown6 (show w.heap.size ≤ w4.heap.size by simp at hsb1; omega)
       have cL := lies_any w xb pb nb kb Wn Hn 0 gl mb (.slice Am nm cm) (.slice Ac nc cc) _ va L mn _ _ (some ⟨gm, 0, none⟩) As cmm ns cS ms sts w6 (HP5.out.below hb6) ⟨_, _, rfl⟩ hL0 hlen HBB6.out HST.out (HPL.out.pil.below hb6) hown6 (blk_below HPL.out.lev hb6 (blk_lt HPL.out.lev)) (HPL.out.map.stay hb6) (by simp at hsb1; omega) (by simp at hsb1; omega) ⟨by omega, by omega, by omega, by omega⟩
       obtain ⟨B2, hB2⟩ : ∃ b, b = liesB L ms sts := ⟨_, rfl⟩
       rw [← hB2] at cL
       have CL := Lib.hid cL
       have HB2L := Lib.hid hB2
       have HO6 := Lib.hid hown6
       clear cL hB2 hown6 hge hne hb6
       refine CL.out.mono ?_
       rintro r w7 ⟨rfl, hk7, hlie7⟩
       have HK7 := Lib.hid hk7
       have HL7 := Lib.hid hlie7
       clear CL hk7 hlie7
       go_wp2_with fail
       cases B2 with
       | false =>
        have HF := Lib.hid (stateB_no (W := (Wn : Int)) (H := (Hn : Int)) (mask := mask) (cs := cs) (ms := ms) (sts := sts) (fun h => by have h1 := liesB_yes (HST5.out.1 h).2; rw [← HB2L.out] at h1; cases h1))
        have HB7 : Below w.heap.size w w7 := by
         have hge := HPL.out.ge
         have hs6 := HB6.out.size
         exact HBB6.out.trans (HK7.out.out (by simp at hsb1; omega) (by simp at hsb1; omega) (by simp at hsb1; omega))
        exact bodyPost_ret (v := .tuple #[.pointer (some ⟨xb, 0, none⟩), .bool false]) (by simp [results, Tryz.results12, go_sem]) rfl ⟨HB7, .inl ⟨HF.out, _, rfl⟩⟩
       | true =>
        have hl2 := liesB_iff.1 HB2L.out.symm
        have hsp : StateP (Wn : Int) (Hn : Int) mask cs ms sts := HST5.out.2 ⟨hB1, hl2⟩
        have HT := Lib.hid (stateB_yes hsp)
        have HB7 : Below w.heap.size w w7 := by
         have hge := HPL.out.ge
         have hs6 := HB6.out.size
         exact HBB6.out.trans (HK7.out.out (by simp at hsb1; omega) (by simp at hsb1; omega) (by simp at hsb1; omega))
        have HOP : OpnP w xb (Wn : Int) (Hn : Int) mask cs ms sts w7 := by
         have hge := HPL.out.ge
         have hs6 := HB6.out.size
         obtain ⟨d1, d2, d3, d4⟩ := HDIM.out
         have hLe := HLE.out
         subst hLe
         refine ⟨w6, pb, nb, kb, Wn, Hn, mn, gl, mb, gm, cmm, _, _, _, va, ⟨rfl, rfl, d1, d2, d3⟩, hsp, HP5.out.below HB6.out, own_mono (od HO5.out HB6.out) (by simp), own_mono (od HM5.out HB6.out) (by simp at hsb1; omega), HO6.out, HK7.out, HBB6.out, HL7.out hl2, ⟨_, blk_below HPL.out.lev HB6.out (blk_lt HPL.out.lev)⟩, (HPL.out.map.stay HB6.out).is, ?_⟩
         simp at hsb1 hkge
         refine ⟨by omega, by omega, by omega, by omega, by omega, by omega, by omega, by omega, by omega⟩
        exact bodyPost_ret (v := .tuple #[.pointer (some ⟨xb, 0, none⟩), .bool true]) (by simp [results, Tryz.results12, go_sem]) rfl ⟨HB7, .inr ⟨HT.out, _, rfl, HOP⟩⟩
      ·have hB1 : B1 = false := by simpa using (show ¬ B1 = true by assumption)
       have HF := Lib.hid (stateB_no (W := (Wn : Int)) (H := (Hn : Int)) (mask := mask) (cs := cs) (ms := ms) (sts := sts) (fun h => by have := (HST5.out.1 h).1; rw [hB1] at this; cases this))
       exact bodyPost_ret (v := .tuple #[.pointer (some ⟨xb, 0, none⟩), .bool false]) (by simp [results, Tryz.results12, go_sem]) rfl ⟨stay_b HB5.out HB6.out, .inl ⟨HF.out, _, rfl⟩⟩
end
end Go.Proofs.YtpkjekedgodccaaGreatDoor
