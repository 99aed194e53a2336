/- The document's MapsMay. -/
import Derived.Test.YtpkjekedgodccaaGreatDoorK30
import Derived.Test.YtpkjekedgodccaaGreatDoorK37
import Derived.Test.YtpkjekedgodccaaGreatDoorK38
import Derived.Test.YtpkjekedgodccaaGreatDoorK14
import Derived.Test.YtpkjekedgodccaaGreatDoorK20
import Derived.Test.YtpkjekedgodccaaGreatDoorK04
namespace Go.Proofs.YtpkjekedgodccaaGreatDoor
set_option linter.unusedSimpArgs false
set_option linter.unusedVariables false
section
open Go.RowKit Go.Maps
open Classical in
noncomputable def mapsB (L : List T3) (C : E4 → Bool) (ms : List V6) : Bool := decide (MapsP L C ms)
theorem mapsB_yes {L : List T3} {C : E4 → Bool} {ms : List V6} (h : MapsP L C ms) : mapsB L C ms = true := @decide_eq_true _ (Classical.propDecidable _) h
theorem mapsB_no {L : List T3} {C : E4 → Bool} {ms : List V6} (h : ¬ MapsP L C ms) : mapsB L C ms = false := @decide_eq_false _ (Classical.propDecidable _) h
theorem mapsB_iff {L : List T3} {C : E4 → Bool} {ms : List V6} : mapsB L C ms = true ↔ MapsP L C ms := @decide_eq_true_iff _ (Classical.propDecidable _)
theorem may_even {m : V6} (h : mapMayB m = true) : turnedB m.1 m.2.1 m.2.2.1 m.2.2.2.1 = true ∧ m.2.2.2.2.1 % 2 = 0 ∧ m.2.2.2.2.2 % 2 = 0 := by
 unfold mapMayB tailB inN at h
 simp only [Bool.and_eq_true, decide_eq_true_eq] at h
 refine ⟨h.1, ?_, ?_⟩ <;> omega
set_option maxRecDepth 100000 in
set_option maxHeartbeats 12800000 in
theorem mapsMay_any (W H : Nat) (Am Ac Ap : Option Addr) (nm cm nc cc np cp : Nat) (mask : List Int) (cs : List C5) (ms : List V6) (w : World) (hS : ShM w W H Am nm mask Ac nc cs) (hp : Rd w 6 Ap np (mcs ms)) (hnp : np ≤ 140737488351232) :
  Calls Tryz.prog 17 #[shV W H Am nm cm Ac nc cc, .slice Ap np cp] w fun r w' => r = .returned (.bool (mapsB (trisL W mask) (crsF false cs) ms)) ∧ Below w.heap.size w w' := by
 have kb0 := heap_alloc_new w (.cells #[.int .i64 W, .int .i64 H, .slice Am nm cm, .slice Ac nc cc] 25)
 have hb0 := below_new w (.cells #[.int .i64 W, .int .i64 H, .slice Am nm cm, .slice Ac nc cc] 25)
 have a0 := cell_of_blk kb0 0
 have a1 := cell_of_blk kb0 1
 have a2 := cell_of_blk kb0 2
 have a3 := cell_of_blk kb0 3
 simp only [List.getElem?_toArray, List.getElem?_cons_zero, List.getElem?_cons_succ] at a0 a1 a2 a3
 have hS0 := hS.below hb0
 have cT := trisOf_any W H Am Ac nm cm nc cc mask cs (w.alloc (.cells #[.int .i64 W, .int .i64 H, .slice Am nm cm, .slice Ac nc cc] 25)) hS0
 have hnpl : np = ms.length := by
  have := hp.1
  rw [mcs_len] at this
  omega
 have hin8 : ∀ t ∈ trisL W mask, In8 t := fun t ht => by
  have := trisL_in (by have := hS.dW; omega) hS.len ht
  have h1 := hS.dW
  have h2 := hS.dH
  exact ⟨by omega, by omega, this.2.2.2.2⟩
 have hlen : (trisL W mask).length ≤ 1000 := by
  have h1 := trisL_len W mask
  have h2 : W * H ≤ 8 * 8 := Nat.mul_le_mul hS.dW.2 hS.dH.2
  have h3 := hS.len
  omega
 obtain ⟨L, hLe⟩ : ∃ L, L = trisL W mask := ⟨_, rfl⟩
 obtain ⟨C, hC⟩ : ∃ C, C = crsF false cs := ⟨_, rfl⟩
 rw [← hLe] at cT hin8 hlen ⊢
 rw [← hC]
 obtain ⟨R, hR⟩ : ∃ R, R = mapsB L C ms := ⟨_, rfl⟩
 rw [← hR]
 have hyes : MapsP L C ms → R = true := fun h => hR.trans (mapsB_yes h)
 have hnot : ¬ MapsP L C ms → R = false := fun h => hR.trans (mapsB_no h)
 have HYES := Lib.hid hyes
 have HNOT := Lib.hid hnot
 have HC := Lib.hid hC
 have HS0 := Lib.hid hS0
 have HM := Lib.hid (hp.below hb0)
 have CT := Lib.hid cT
 have HB0 := Lib.hid hb0
 have HIN := Lib.hid hin8
 have HNP := Lib.hid hnpl
 clear hyes hnot hR hC hS hS0 hp cT hin8 hLe hnpl kb0
 go_enter Tryz.func17, Tryz.ntmps17
 by_cases hnl : np = L.length
 rotate_left
 ·have hno : ¬ MapsP L C ms := fun h => hnl (by rw [HNP.out]; exact h.len)
  have hb1 : ((np : Int) != (L.length : Int)) = true := by
   rw [bne_iff_ne]
   omega
  have HN := Lib.hid hno
  clear hno hnl
  go_wp2_with (go_at_call 18; refine CT.out.mono ?_; rintro r w1 ⟨v, rfl, ho1, hb1⟩; obtain ⟨Av, cv, rfl, _⟩ := own_slice ho1; have HB1 := Lib.hid (stay_b HB0.out hb1); clear ho1 hb1)
  go_ret
  exact ⟨ret_bool (HNOT.out HN.out).symm, HB1.out⟩
 subst hnl
 have hbn : ((L.length : Int) != (L.length : Int)) = false := by simp
 go_wp2_with (go_at_call 18; refine CT.out.mono ?_; rintro r w1 ⟨v, rfl, ho1, hb1⟩; obtain ⟨Av, cv, rfl, _⟩ := own_slice ho1; have HB1 := Lib.hid (stay_b HB0.out hb1); have HO1 := Lib.hid (own_mono ho1 (show w.heap.size ≤ _ by simp)); have HS1 := Lib.hid (HS0.out.below hb1); have HM1 := Lib.hid (HM.out.below hb1); replace a0 := sd a0 hb1; replace a1 := sd a1 hb1; replace a2 := sd a2 hb1; replace a3 := sd a3 hb1; clear ho1 hb1 CT)
 have hml2 : ms.length = L.length := HNP.out.symm
 clear HS0 HM HB0 hb0
 go_loopw [6] (fun v wr => ∃ i : Nat, i ≤ L.length ∧ v = .int .i64 i ∧ Hid ((∀ j, j < i → mayI L ms j) ∧ ∀ j k, j < i → k < 3 → okI L C ms j k) ∧ Hid (Below w1.heap.size w1 wr)) (fun v _ => L.length - (intOf v).toNat)
 case atStart => exact ⟨0, by omega, rfl, Lib.hid ⟨fun j h => by omega, fun j k h => by omega⟩, Lib.hid (Below.refl _ _)⟩
 case round =>
  obtain ⟨i, hi, rfl, hmy, hbw⟩ := hrel
  by_cases hin : i < L.length
  ·obtain ⟨bX, oX, m, hA, hmi, hbX, y0, y1, y2, y3, y4, y5⟩ := Rd.mp (by rw [hml2]; exact HM1.out) (show i < ms.length by rw [hml2]; exact hin)
   subst hA
   obtain ⟨t, ht⟩ : ∃ t, L[i]? = some t := ⟨_, List.getElem?_eq_getElem hin⟩
   obtain ⟨gt, ct2, curt, hv2, _⟩ := own_addr HO1.out (by omega)
   injection hv2 with e1 _ e3
   subst e1
   subst e3
   have hbw0 := hbw.out
   have hit := HIN.out t (List.mem_of_getElem? ht)
   have hii : (i : Int) < (L.length : Int) := by omega
   have hi0 : (0 : Int) ≤ (i : Int) := by omega
   have hgm : ms.getD i zeroV = m := by rw [List.getD_eq_getElem?_getD, hmi]; rfl
   have hat : atI L ms i = moveV m t := by unfold atI; rw [hgm, List.getD_eq_getElem?_getD, ht]; rfl
   have cM := fun (h0 : mapMayB m = true) (W : World) => moveOf_any m.1 m.2.1 m.2.2.1 m.2.2.2.1 m.2.2.2.2.1 m.2.2.2.2.2 t.1 t.2.1 t.2.2 W (gb_sm (may_sm h0) (by omega)) (may_even h0).1 (may_even h0).2.1 (may_even h0).2.2 (by have := hit.1; omega) (by have := hit.1; omega) (by have := hit.2.1; omega) (by have := hit.2.1; omega) hit.2.2.1 hit.2.2.2
   obtain ⟨U, hU⟩ : ∃ U, U = moveV m t := ⟨_, rfl⟩
   rw [show moveT m.1 m.2.1 m.2.2.1 m.2.2.2.1 m.2.2.2.2.1 m.2.2.2.2.2 t.1 t.2.1 t.2.2 = U from hU.symm] at cM
   have hmay : mayI L ms i ↔ mapMayB m = true ∧ triMayB U.1 U.2.1 U.2.2 = true := by
    unfold mayI triMay3
    rw [hgm, hat, ← hU]
   have cA := fun W : World => refMap_any m W
   have cT := fun W : World => refTri_any U.1 U.2.1 U.2.2 W
   have HGM0 := Lib.hid (fun (h0 : mapMayB m = true) => may_sm h0)
   obtain ⟨m1, hm1⟩ : ∃ b, b = mapMayB m := ⟨_, rfl⟩
   rw [← hm1] at cA cM hmay HGM0
   obtain ⟨m2, hm2⟩ : ∃ b, b = triMayB U.1 U.2.1 U.2.2 := ⟨_, rfl⟩
   rw [← hm2] at cT hmay
   have CM := Lib.hid cM
   have CA := Lib.hid cA
   have CT := Lib.hid cT
   have HMAY := Lib.hid hmay
   have HMG := Lib.hid hgm
   have HT := Lib.hid ht
   have HIT := Lib.hid hit
   have HY := Lib.hid (And.intro y0 (And.intro y1 (And.intro y2 (And.intro y3 (And.intro y4 y5)))))
   replace y0 := sd y0 hbw0
   replace y1 := sd y1 hbw0
   replace y2 := sd y2 hbw0
   replace y3 := sd y3 hbw0
   replace y4 := sd y4 hbw0
   replace y5 := sd y5 hbw0
   obtain ⟨t0, t1, t2⟩ := own_tri (od HO1.out hbw0) ht
   clear cM cA cT hit hat hU hm1 hm2 hmi hgm hmay ht
   obtain ⟨wi, hwi⟩ : ∃ x, x = wr := ⟨_, rfl⟩
   subst hwi
   go_wp2_with fail
   obtain ⟨V1_5, H1_5⟩ : ∃ V : Value, Hid (V = .bool (!m1)) := ⟨_, Lib.hid rfl⟩
   obtain ⟨V1_6, H1_6⟩ : ∃ V : Value, Hid (V = .bool (!m1)) := ⟨_, Lib.hid rfl⟩
   obtain ⟨V1_7, H1_7⟩ : ∃ V : Value, Hid (V = (bif m1 then .slice (some ⟨bX, oX, none⟩) L.length cp else undef)) := ⟨_, Lib.hid rfl⟩
   obtain ⟨V1_8, H1_8⟩ : ∃ V : Value, Hid (V = (bif m1 then .int .i64 i else undef)) := ⟨_, Lib.hid rfl⟩
   obtain ⟨V1_9, H1_9⟩ : ∃ V : Value, Hid (V = (bif m1 then .pointer (some ⟨bX, oX + i * 6, none⟩) else undef)) := ⟨_, Lib.hid rfl⟩
   obtain ⟨V1_10, H1_10⟩ : ∃ V : Value, Hid (V = (bif m1 then aggM m else undef)) := ⟨_, Lib.hid rfl⟩
   obtain ⟨V1_11, H1_11⟩ : ∃ V : Value, Hid (V = (bif m1 then .slice (some ⟨gt, 0, none⟩) L.length cv else undef)) := ⟨_, Lib.hid rfl⟩
   obtain ⟨V1_12, H1_12⟩ : ∃ V : Value, Hid (V = (bif m1 then .int .i64 i else undef)) := ⟨_, Lib.hid rfl⟩
   obtain ⟨V1_13, H1_13⟩ : ∃ V : Value, Hid (V = (bif m1 then .pointer (some ⟨gt, i * 3, none⟩) else undef)) := ⟨_, Lib.hid rfl⟩
   obtain ⟨V1_14, H1_14⟩ : ∃ V : Value, Hid (V = (bif m1 then aggT3 t else undef)) := ⟨_, Lib.hid rfl⟩
   obtain ⟨V1_15, H1_15⟩ : ∃ V : Value, Hid (V = (bif m1 then aggT3 U else undef)) := ⟨_, Lib.hid rfl⟩
   obtain ⟨V1_16, H1_16⟩ : ∃ V : Value, Hid (V = (bif m1 then .bool m2 else undef)) := ⟨_, Lib.hid rfl⟩
   obtain ⟨V1_17, H1_17⟩ : ∃ V : Value, Hid (V = (bif m1 then .bool (!m2) else undef)) := ⟨_, Lib.hid rfl⟩
   obtain ⟨V1_18, H1_18⟩ : ∃ V : Value, Hid (V = .bool ((!m1) || (!m2))) := ⟨_, Lib.hid rfl⟩
   refine rg_plain (fin := ?z2) [.slice (some ⟨bX, oX, none⟩) L.length cp, .int .i64 i, .pointer (some ⟨bX, oX + i * 6, none⟩), aggM m, .bool m1, V1_5, V1_6, V1_7, V1_8, V1_9, V1_10, V1_11, V1_12, V1_13, V1_14, V1_15, V1_16, V1_17, V1_18] (fun WN => WN.cell? ⟨bX, oX + i * 6, none⟩ = some (.int .i64 m.1) ∧ WN.cell? ⟨bX, oX + i * 6 + 1, none⟩ = some (.int .i64 m.2.1) ∧ WN.cell? ⟨bX, oX + i * 6 + 2, none⟩ = some (.int .i64 m.2.2.1) ∧ WN.cell? ⟨bX, oX + i * 6 + 3, none⟩ = some (.int .i64 m.2.2.2.1) ∧ WN.cell? ⟨bX, oX + i * 6 + 4, none⟩ = some (.int .i64 m.2.2.2.2.1) ∧ WN.cell? ⟨bX, oX + i * 6 + 5, none⟩ = some (.int .i64 m.2.2.2.2.2) ∧ WN.cell? ⟨gt, i * 3, none⟩ = some (.int .i64 t.1) ∧ WN.cell? ⟨gt, i * 3 + 1, none⟩ = some (.int .i64 t.2.1) ∧ WN.cell? ⟨gt, i * 3 + 2, none⟩ = some (.int .i64 t.2.2) ∧ Below wi.heap.size wi WN) ?hf (by kernel_rfl) (by kernel_rfl) rfl ⟨y0, y1, y2, y3, y4, y5, t0, t1, t2, (Below.refl _ _).drew⟩ (fun WN hst => ?hs) (fun WN hst => ?he)
   case hf => simp only [putOps, Act.put, List.setIfInBounds_toArray, List.set_cons_succ, List.set_cons_zero]; exact rfl
   case hs =>
    have HST := Lib.hid hst
    obtain ⟨y0, y1, y2, y3, y4, y5, t0, t1, t2, hbl⟩ := hst
    iterate 19 refine ⟨?_, fun K hK => ?_⟩
    ·trivial
    ·obtain rfl := H1_18.out
     obtain rfl := H1_6.out
     obtain rfl := H1_17.out
     generalize (!m2) = y1 at hK ⊢
     cases m1 <;> cases y1 <;> (go_simp; exact hK _ HST.out)
    ·obtain rfl := H1_17.out
     obtain rfl := H1_6.out
     obtain rfl := H1_16.out
     cases m1 <;> cases m2 <;> (go_simp; exact hK _ HST.out)
    ·obtain rfl := H1_16.out
     obtain rfl := H1_6.out
     obtain rfl := H1_15.out
     cases m1 <;> first | (go_simp; exact hK _ HST.out; done) | (go_simp; refine (CT.out WN).mono ?_; rintro e' wc ⟨he, hbc⟩; subst he; exact hK _ ⟨sd y0 hbc, sd y1 hbc, sd y2 hbc, sd y3 hbc, sd y4 hbc, sd y5 hbc, sd t0 hbc, sd t1 hbc, sd t2 hbc, stay_b hbl hbc⟩)
    ·obtain rfl := H1_15.out
     obtain rfl := H1_6.out
     obtain rfl := H1_10.out
     obtain rfl := H1_14.out
     cases m1 <;> first | (go_simp; exact hK _ HST.out; done) | (go_simp; refine (CM.out rfl WN).mono ?_; rintro e' wc ⟨he, hbc⟩; subst he; exact hK _ ⟨sd y0 hbc, sd y1 hbc, sd y2 hbc, sd y3 hbc, sd y4 hbc, sd y5 hbc, sd t0 hbc, sd t1 hbc, sd t2 hbc, stay_b hbl hbc⟩)
    ·obtain rfl := H1_14.out
     obtain rfl := H1_6.out
     obtain rfl := H1_13.out
     cases m1 <;> (go_simp; exact hK _ HST.out)
    ·obtain rfl := H1_13.out
     obtain rfl := H1_6.out
     obtain rfl := H1_11.out
     obtain rfl := H1_12.out
     cases m1 <;> (go_simp; exact hK _ HST.out)
    ·obtain rfl := H1_12.out
     obtain rfl := H1_6.out
     cases m1 <;> (go_simp; exact hK _ HST.out)
    ·obtain rfl := H1_11.out
     obtain rfl := H1_6.out
     cases m1 <;> (go_simp; exact hK _ HST.out)
    ·obtain rfl := H1_10.out
     obtain rfl := H1_6.out
     obtain rfl := H1_9.out
     cases m1 <;> (go_simp; exact hK _ HST.out)
    ·obtain rfl := H1_9.out
     obtain rfl := H1_6.out
     obtain rfl := H1_7.out
     obtain rfl := H1_8.out
     cases m1 <;> (go_simp; exact hK _ HST.out)
    ·obtain rfl := H1_8.out
     obtain rfl := H1_6.out
     cases m1 <;> (go_simp; exact hK _ HST.out)
    ·obtain rfl := H1_7.out
     obtain rfl := H1_6.out
     cases m1 <;> (go_simp; exact hK _ HST.out)
    ·obtain rfl := H1_6.out
     obtain rfl := H1_5.out
     generalize (!m1) = y0 at hK ⊢
     cases y0 <;> (go_simp; exact hK _ HST.out)
    ·obtain rfl := H1_5.out
     cases m1 <;> (go_simp; exact hK _ HST.out)
    ·(go_simp; refine (CA.out WN).mono ?_; rintro e' wc ⟨he, hbc⟩; subst he; exact hK _ ⟨sd y0 hbc, sd y1 hbc, sd y2 hbc, sd y3 hbc, sd y4 hbc, sd y5 hbc, sd t0 hbc, sd t1 hbc, sd t2 hbc, stay_b hbl hbc⟩)
    ·(go_simp; exact hK _ HST.out)
    ·(go_simp; exact hK _ HST.out)
    ·(go_simp; exact hK _ HST.out)
    ·(go_simp; exact hK _ HST.out)
   case he =>
    obtain ⟨y0, y1, y2, y3, y4, y5, t0, t1, t2, hbl⟩ := hst
    obtain rfl := H1_18.out
    clear H1_5 H1_6 H1_7 H1_8 H1_9 H1_10 H1_11 H1_12 H1_13 H1_14 H1_15 H1_16 H1_17 H1_18
    by_cases hmm : m1 = true ∧ m2 = true
    rotate_left
    ·have hno : ¬ mayI L ms i := fun h => hmm (HMAY.out.1 h)
     have hb12 : (!m1 || !m2) = true := by cases m1 <;> cases m2 <;> simp at hmm ⊢
     have HN := Lib.hid (show ¬ MapsP L C ms from fun h => hno (h.may i hin))
     have HBF := Lib.hid (stay_b (stay_b HB1.out hbw.out) hbl)
     clear HMAY CM CA CT hmy hno hmm hbl y0 y1 y2 y3 y4 y5 t0 t1 t2
     simp only [hb12]
     go_wp2
     go_ret
     exact ⟨ret_bool (HNOT.out HN.out).symm, HBF.out⟩
    obtain ⟨rfl, rfl⟩ := hmm
    have hmay := HMAY.out.2 ⟨rfl, rfl⟩
    have hgm := HGM0.out rfl
    have HMI := Lib.hid hmay
    have HGM := Lib.hid hgm
    have hts := HIT.out.sm
    have HB2 := Lib.hid (hbw.out.trans (hbl.mono hbw.out.size))
    have CE := Lib.hid (fun W : World => edgesOf_any t.1 t.2.1 t.2.2 W (by have := hts.1; omega) (by have := hts.1; omega) (by have := hts.2.1; omega) (by have := hts.2.1; omega) hts.2.2.1 hts.2.2.2)
    clear HMAY CM CA CT HGM0 hmay hgm hts y0 y1 y2 y3 y4 y5
    obtain ⟨w2, hw2⟩ : ∃ x, x = WN := ⟨_, rfl⟩
    subst hw2
    go_wp2_with (go_at_call 43; refine (CE.out _).mono ?_; rintro r w3 ⟨⟨ge, rfl, hke⟩, hb3⟩; have HED := Lib.hid (show EdB w3 ge t from hke); have HB3 := Lib.hid (HB2.out.trans (hb3.mono HB2.out.size)); clear hke hb3 CE t0 t1 t2 hbl)
    go_loopw [8] (fun v wr => ∃ k : Nat, k ≤ 3 ∧ v = .int .i64 k ∧ Hid (∀ k', k' < k → okI L C ms i k') ∧ Hid (Below w3.heap.size w3 wr)) (fun v _ => 3 - (intOf v).toNat)
    case atStart => exact ⟨0, by omega, rfl, Lib.hid (fun k' h => by omega), Lib.hid (Below.refl _ _)⟩
    case round =>
     obtain ⟨k, hk, rfl, hok2, hbr⟩ := hrel
     by_cases hk3 : k < 3
     ·have hki : (k : Int) < 3 := by omega
      have hk0 : (0 : Int) ≤ (k : Int) := by omega
      have hbr1 := HB3.out.trans (hbr.out.mono HB3.out.size)
      have hED4 := HED.out.below hbr.out
      obtain ⟨e0, e1, e2, e3⟩ := hED4.at_ hk3
      obtain ⟨t0, t1, t2⟩ := own_tri (od HO1.out hbr1) HT.out
      have hts := HIT.out.sm
      have cX := fun (w4 : World) => acrossOf_edge t.1 t.2.1 t.2.2 k w4 hk3 (by have := hts.1; omega) (by have := hts.1; omega) (by have := hts.2.1; omega) (by have := hts.2.1; omega) hts.2.2.1 hts.2.2.2
      have hnn := fun h => nbL_none (k := k) HT.out h
      have hns := fun h => nbL_some (k := k) HT.out h
      have hst := stpL_at (C := C) (k := k) HT.out m
      have hke := HIT.out.edge hk3
      obtain ⟨E, hE⟩ : ∃ E, E = eT t k := ⟨_, rfl⟩
      obtain ⟨Nb, hU⟩ : ∃ U, U = nT t k := ⟨_, rfl⟩
      rw [show nextT t.1 t.2.1 t.2.2 k = Nb from hU.symm, show edgeT t.1 t.2.1 t.2.2 k = E from hE.symm] at cX
      rw [← hU] at hnn hns
      rw [← hE] at hst hke e0 e1 e2 e3
      have CX := Lib.hid cX
      have HNN := Lib.hid hnn
      have HNS := Lib.hid hns
      have HST := Lib.hid hst
      have HKE := Lib.hid hke
      have HC4 := Lib.hid (And.intro t0 (And.intro t1 (And.intro t2 (And.intro e0 (And.intro e1 (And.intro e2 e3))))))
      have HB4 := Lib.hid hbr1
      clear cX hnn hns hst hke hE hU hts hED4 hbr1
      obtain ⟨w4, hw4⟩ : ∃ x, x = wr := ⟨_, rfl⟩
      subst hw4
      go_wp2_with fail
      refine rg_chn (fin := ?z3) [12, 13] [[true, true, true, true, true, true, true, true, true, true, true, true, false, false, true], [true, true, true, true, true, true, true, true, true, true, true, true, false, false, true], [false, false, false, false, false, false, false, false, false, false, false, true, false, false, true]] [[], [12, 10, 9, 8, 3, 7, 2, 6, 0, 1, 4, 5]] (fun x => [.slice (some ⟨gt, 0, none⟩) L.length cv, .int .i64 i, .pointer (some ⟨gt, i * 3, none⟩), aggT3 t, .slice (some ⟨ge, 0, none⟩) 3 3, .int .i64 k, .pointer (some ⟨ge, k * 4, none⟩), aggE E, .tuple #[aggT3 Nb, .bool true], .tuple #[aggT3 Nb, .bool true], aggT3 Nb, .bool true, (x 0), (x 1), .bool true]) (fun j x WN => match j with | 0 => WN.cell? ⟨gt, i * 3, none⟩ = some (.int .i64 t.1) ∧ WN.cell? ⟨gt, i * 3 + 1, none⟩ = some (.int .i64 t.2.1) ∧ WN.cell? ⟨gt, i * 3 + 2, none⟩ = some (.int .i64 t.2.2) ∧ WN.cell? ⟨ge, k * 4, none⟩ = some (.int .i64 E.1) ∧ WN.cell? ⟨ge, k * 4 + 1, none⟩ = some (.int .i64 E.2.1) ∧ WN.cell? ⟨ge, k * 4 + 2, none⟩ = some (.int .i64 E.2.2.1) ∧ WN.cell? ⟨ge, k * 4 + 3, none⟩ = some (.int .i64 E.2.2.2) ∧ Below w4.heap.size w4 WN | 1 => WN.cell? ⟨gt, i * 3, none⟩ = some (.int .i64 t.1) ∧ WN.cell? ⟨gt, i * 3 + 1, none⟩ = some (.int .i64 t.2.1) ∧ WN.cell? ⟨gt, i * 3 + 2, none⟩ = some (.int .i64 t.2.2) ∧ WN.cell? ⟨ge, k * 4, none⟩ = some (.int .i64 E.1) ∧ WN.cell? ⟨ge, k * 4 + 1, none⟩ = some (.int .i64 E.2.1) ∧ WN.cell? ⟨ge, k * 4 + 2, none⟩ = some (.int .i64 E.2.2.1) ∧ WN.cell? ⟨ge, k * 4 + 3, none⟩ = some (.int .i64 E.2.2.2) ∧ Below w4.heap.size w4 WN ∧ ∃ g, Hid (x 0 = .pointer (some ⟨g, 0, none⟩)) ∧ WN.heap[g]? = some (.cells #[.int .i64 0, .int .i64 0, .int .i64 0] 44 (0, 0)) ∧ Hid (w4.heap.size ≤ g) | _ => Below w4.heap.size w4 WN ∧ ∃ g, Hid (x 0 = .pointer (some ⟨g, 0, none⟩)) ∧ WN.heap[g]? = some (.cells #[.int .i64 Nb.1, .int .i64 Nb.2.1, .int .i64 Nb.2.2] 44 (0, 0)) ∧ Hid (w4.heap.size ≤ g)) ?hf (by kernel_rfl) (by kernel_rfl) (fun _ => rfl) (by kernel_rfl) ?hv ⟨t0, t1, t2, e0, e1, e2, e3, (Below.refl _ _).drew⟩ ?hA ?hT (fun x WN hst => ?he)
      case hf => intro x; simp only [putOps, Act.put, List.setIfInBounds_toArray, List.set_cons_succ, List.set_cons_zero]; exact rfl
      case hv =>
       intro x j t v h
       cases j with
       | zero => cases h; rfl
       | succ j =>
        cases j with
        | zero => cases h; rfl
        | succ j =>
         simp at h
      case hA =>
       intro j x WN hj hst
       have hj : j ≤ 2 := hj
       rcases (show j = 0 ∨ j = 1 ∨ j = 2 by omega) with rfl | rfl | rfl
       ·have HST := Lib.hid hst
        obtain ⟨t0, t1, t2, e0, e1, e2, e3, hbl⟩ := hst
        iterate 13 refine ⟨?_, fun K hK => ?_⟩
        ·trivial
        all_goals try (go_simp; exact hK _ HST.out; done)
        ·go_simp
         refine (CX.out WN).mono ?_
         rintro e' wc ⟨he, hbc⟩
         subst he
         exact hK _ ⟨sd t0 hbc, sd t1 hbc, sd t2 hbc, sd e0 hbc, sd e1 hbc, sd e2 hbc, sd e3 hbc, stay_b hbl hbc⟩
       ·have HST := Lib.hid hst
        obtain ⟨t0, t1, t2, e0, e1, e2, e3, hbl, g, hx0, hkg, hgw⟩ := hst
        iterate 13 refine ⟨?_, fun K hK => ?_⟩
        ·trivial
        all_goals try (go_simp; exact hK _ HST.out; done)
        ·go_simp
         refine (CX.out WN).mono ?_
         rintro e' wc ⟨he, hbc⟩
         subst he
         exact hK _ ⟨sd t0 hbc, sd t1 hbc, sd t2 hbc, sd e0 hbc, sd e1 hbc, sd e2 hbc, sd e3 hbc, stay_b hbl hbc, g, hx0, blk_below hkg hbc (blk_lt hkg), hgw⟩
       ·have HST := Lib.hid hst
        obtain ⟨hbl, g, hx0, hkg, hgw⟩ := hst
        iterate 2 refine ⟨?_, fun K hK => ?_⟩
        ·trivial
        all_goals try (go_simp; exact hK _ HST.out; done)
      case hT =>
       intro j t x WN ht hst o ho K hK
       cases j with
       | zero =>
        cases ht; cases ho
        obtain ⟨t0, t1, t2, e0, e1, e2, e3, hbl⟩ := hst
        go_simp
        exact hK (.pointer (some ⟨WN.heap.size, 0, none⟩)) _ ⟨al_c t0 (.cells #[.int .i64 0, .int .i64 0, .int .i64 0] 44), al_c t1 (.cells #[.int .i64 0, .int .i64 0, .int .i64 0] 44), al_c t2 (.cells #[.int .i64 0, .int .i64 0, .int .i64 0] 44), al_c e0 (.cells #[.int .i64 0, .int .i64 0, .int .i64 0] 44), al_c e1 (.cells #[.int .i64 0, .int .i64 0, .int .i64 0] 44), al_c e2 (.cells #[.int .i64 0, .int .i64 0, .int .i64 0] 44), al_c e3 (.cells #[.int .i64 0, .int .i64 0, .int .i64 0] 44), hbl.alloc hbl.size (.cells #[.int .i64 0, .int .i64 0, .int .i64 0] 44), WN.heap.size, Lib.hid rfl, heap_alloc_new WN (.cells #[.int .i64 0, .int .i64 0, .int .i64 0] 44), Lib.hid hbl.size⟩
       | succ j =>
        cases j with
        | zero =>
         cases ht; cases ho
         obtain ⟨t0, t1, t2, e0, e1, e2, e3, hbl, g, hx0, hkg, hgw⟩ := hst
         have hx := hx0.out
         have z0 := cell_of_blk hkg 0
         have z1 := cell_of_blk hkg 1
         have z2 := cell_of_blk hkg 2
         simp only [List.getElem?_toArray, List.getElem?_cons_zero, List.getElem?_cons_succ] at z0 z1 z2
         have zf := frozen_of_blk hkg
         have zl := blk_lt hkg
         rw [hx] at hK ⊢
         go_simp
         have kk := blk_set (blk_set (blk_set hkg 0 (.int .i64 Nb.1)) 1 (.int .i64 Nb.2.1)) 2 (.int .i64 Nb.2.2)
         exact hK undef _ ⟨set3_below hbl g hgw.out _ _ _, g, hx0, by simpa using kk, hgw⟩
        | succ j =>
         simp at ht
      case he =>
       obtain ⟨hbl, g, hx0, hkg, hgw⟩ := hst
       rw [hx0.out]
       have n0 := cell_of_blk hkg 0
       have n1 := cell_of_blk hkg 1
       have n2 := cell_of_blk hkg 2
       simp only [List.getElem?_toArray, List.getElem?_cons_zero, List.getElem?_cons_succ] at n0 n1 n2
       have hb5 := HB4.out.trans (hbl.mono HB4.out.size)
       have hbi5 := hbr.out.trans (hbl.mono hbr.out.size)
       obtain ⟨y0, y1, y2, y3, y4, y5⟩ := HY.out
       replace y0 := sd y0 hb5
       replace y1 := sd y1 hb5
       replace y2 := sd y2 hb5
       replace y3 := sd y3 hb5
       replace y4 := sd y4 hb5
       replace y5 := sd y5 hb5
       obtain ⟨t0, t1, t2, e0, e1, e2, e3⟩ := HC4.out
       replace e0 := sd e0 hbl
       replace e1 := sd e1 hbl
       replace e2 := sd e2 hbl
       replace e3 := sd e3 hbl
       obtain ⟨w5, hw5⟩ : ∃ x, x = WN := ⟨_, rfl⟩
       subst hw5
       have cP := placeOf_any _ (some ⟨gt, 0, none⟩) cv L Nb w5 (od HO1.out hb5) hlen
       obtain ⟨PL, hPL⟩ : ∃ z, z = placeI L Nb := ⟨_, rfl⟩
       rw [← hPL] at cP
       have HPL := Lib.hid hPL
       have CP := Lib.hid cP
       have HB5 := Lib.hid hb5
       have HBI5 := Lib.hid hbi5
       clear hPL cP hb5 hbi5 t0 t1 t2 HC4 hx0 hkg hgw hbl
       go_wp2_with (go_at_call 20; refine CP.out.mono ?_; rintro r w6 ⟨rfl, hb6⟩; replace y0 := sd y0 hb6; replace y1 := sd y1 hb6; replace y2 := sd y2 hb6; replace y3 := sd y3 hb6; replace y4 := sd y4 hb6; replace y5 := sd y5 hb6; replace e0 := sd e0 hb6; replace e1 := sd e1 hb6; replace e2 := sd e2 hb6; replace e3 := sd e3 hb6; have HB6 := Lib.hid (HB5.out.trans (hb6.mono HB5.out.size)); have HBI6 := Lib.hid (HBI5.out.trans (hb6.mono HBI5.out.size)); clear CP hb6 HB5 HBI5 n0 n1 n2)
       obtain ⟨wj, hwj⟩ : ∃ x, x = w6 := ⟨_, rfl⟩
       subst hwj
       have kM := heap_alloc_new wj (.cells #[.int .i64 m.1, .int .i64 m.2.1, .int .i64 m.2.2.1, .int .i64 m.2.2.2.1, .int .i64 m.2.2.2.2.1, .int .i64 m.2.2.2.2.2] 63)
       have hbM := below_new wj (.cells #[.int .i64 m.1, .int .i64 m.2.1, .int .i64 m.2.2.1, .int .i64 m.2.2.2.1, .int .i64 m.2.2.2.2.1, .int .i64 m.2.2.2.2.2] 63)
       replace e0 := sd e0 hbM
       replace e1 := sd e1 hbM
       replace e2 := sd e2 hbM
       replace e3 := sd e3 hbM
       have hb9 := HB6.out
       have hbm := hb9.trans (hbM.mono hb9.size)
       have hbim := HBI6.out.trans (hbM.mono HBI6.out.size)
       have KM0 := Lib.hid (LB.one kM)
       clear kM y0 y1 y2 y3 y4 y5 hbM
       generalize wj.alloc (.cells #[.int .i64 m.1, .int .i64 m.2.1, .int .i64 m.2.2.1, .int .i64 m.2.2.2.1, .int .i64 m.2.2.2.2.1, .int .i64 m.2.2.2.2.2] 63) = w10 at e0 e1 e2 e3 hbm hbim KM0 ⊢
       have b0 := sd a0 hbm
       have b1 := sd a1 hbm
       have b2 := sd a2 hbm
       have b3 := sd a3 hbm
       have cK := fun (W' : World) (hb : Below w10.heap.size w10 W') => kindOf_any W H Am Ac nm cm nc cc mask cs E W' (HS1.out.below (hbm.trans (hb.mono hbm.size)))
       obtain ⟨KD, hKD⟩ : ∃ z, z = kindD cs E := ⟨_, rfl⟩
       rw [← hKD] at cK
       have hcz : C E = decide (KD = 0) := by rw [HC.out, hKD]; unfold crsF; simp
       have HCZ := Lib.hid hcz
       have CK := Lib.hid cK
       clear hKD hcz cK
       by_cases hkz : KD = 0
       ·have hkn : (KD != 0) = false := by simpa using hkz
        have HKZ := Lib.hid hkz
        clear hkz
        refine rg_plain (fin := ?z4) [.agg #[.int .i64 W, .int .i64 H, .slice Am nm cm, .slice Ac nc cc], .slice (some ⟨ge, 0, none⟩) 3 3, .int .i64 k, .pointer (some ⟨ge, k * 4, none⟩), aggE E, .int .i64 KD, .bool false] (fun WN => WN.cell? ⟨w.heap.size, 0, none⟩ = some (.int .i64 W) ∧ WN.cell? ⟨w.heap.size, 1, none⟩ = some (.int .i64 H) ∧ WN.cell? ⟨w.heap.size, 2, none⟩ = some (.slice Am nm cm) ∧ WN.cell? ⟨w.heap.size, 3, none⟩ = some (.slice Ac nc cc) ∧ WN.cell? ⟨ge, k * 4, none⟩ = some (.int .i64 E.1) ∧ WN.cell? ⟨ge, k * 4 + 1, none⟩ = some (.int .i64 E.2.1) ∧ WN.cell? ⟨ge, k * 4 + 2, none⟩ = some (.int .i64 E.2.2.1) ∧ WN.cell? ⟨ge, k * 4 + 3, none⟩ = some (.int .i64 E.2.2.2) ∧ Below w10.heap.size w10 WN) ?hf (by kernel_rfl) (by kernel_rfl) rfl ⟨b0, b1, b2, b3, e0, e1, e2, e3, (Below.refl _ _).drew⟩ (fun WN hst => ?hs) (fun WN hst => ?he)
        case hf => simp only [putOps, Act.put, List.setIfInBounds_toArray, List.set_cons_succ, List.set_cons_zero]; exact rfl
        case hs =>
         have HST := Lib.hid hst
         obtain ⟨b0, b1, b2, b3, e0, e1, e2, e3, hbl⟩ := hst
         iterate 7 refine ⟨?_, fun K hK => ?_⟩
         ·trivial
         all_goals try (go_simp; exact hK _ HST.out; done)
         ·go_simp
          refine (CK.out WN hbl).mono ?_
          rintro e' wc ⟨he, hbc⟩
          subst he
          exact hK _ ⟨sd b0 hbc, sd b1 hbc, sd b2 hbc, sd b3 hbc, sd e0 hbc, sd e1 hbc, sd e2 hbc, sd e3 hbc, stay_b hbl hbc⟩
        case he =>
         obtain ⟨b0, b1, b2, b3, e0, e1, e2, e3, hbl⟩ := hst
         have hb11 := hbm.trans (hbl.mono hbm.size)
         have hbi11 := hbim.trans (hbl.mono hbim.size)
         have KM1 := Lib.hid (KM0.out.below hbl)
         obtain ⟨w11, hw11⟩ : ∃ x, x = WN := ⟨_, rfl⟩
         subst hw11
         clear hbl b0 b1 b2 b3
         have hcE : C E = true := by rw [HCZ.out]; exact decide_eq_true HKZ.out
         have hm' : stpL L C i k m = m := by rw [HST.out]; unfold stpV; rw [if_pos hcE]
         obtain ⟨m', hmm⟩ : ∃ m', m' = m := ⟨_, rfl⟩
         have hm' : stpL L C i k m = m' := hm'.trans hmm.symm
         have HMM := Lib.hid hm'
         have KM := KM1
         rw [← hmm] at KM
         obtain ⟨wz, hwz⟩ : ∃ x, x = w11 := ⟨_, rfl⟩
         subst hwz
         have hbz := hb11
         have hbiz := hbi11
         clear hcE hm' hmm e0 e1 e2 e3
         go_wp2_with fail
         obtain ⟨l0, l1, l2, l3, l4, l5⟩ := KM.out.cells1
         by_cases hD : Nb ∈ L
         rotate_left
         ·have hnb := HNN.out hD
          have hpl : PL = -1 := by rw [HPL.out]; unfold placeI; rw [if_neg hD]
          subst hpl
          have hcmp : (decide ((0 : Int) ≤ -1)) = false := by decide
          have hkk : ∀ k', k' < k + 1 → okI L C ms i k' := by
           intro k' hk'
           by_cases e : k' = k
           ·subst e
            intro j' hj'
            rw [hnb] at hj'
            cases hj'
           ·exact hok2.out k' (by omega)
          have HKK := Lib.hid hkk
          clear hkk hnb hD
          refine rg_plain (fin := ?z5) [.int .i64 (-1), .bool false, .bool false, undef, undef, undef, undef, undef, undef, .bool false] (fun WN => WN.cell? ⟨wj.heap.size, 0, none⟩ = some (.int .i64 m'.1) ∧ WN.cell? ⟨wj.heap.size, 1, none⟩ = some (.int .i64 m'.2.1) ∧ WN.cell? ⟨wj.heap.size, 2, none⟩ = some (.int .i64 m'.2.2.1) ∧ WN.cell? ⟨wj.heap.size, 3, none⟩ = some (.int .i64 m'.2.2.2.1) ∧ WN.cell? ⟨wj.heap.size, 4, none⟩ = some (.int .i64 m'.2.2.2.2.1) ∧ WN.cell? ⟨wj.heap.size, 5, none⟩ = some (.int .i64 m'.2.2.2.2.2) ∧ Below wz.heap.size wz WN) ?hf (by kernel_rfl) (by kernel_rfl) rfl ⟨l0, l1, l2, l3, l4, l5, (Below.refl _ _).drew⟩ (fun WN hst => ?hs) (fun WN hst => ?he)
          case hf => simp only [putOps, Act.put, List.setIfInBounds_toArray, List.set_cons_succ, List.set_cons_zero]; exact rfl
          case hs =>
           have HST := Lib.hid hst
           obtain ⟨l0, l1, l2, l3, l4, l5, hbl⟩ := hst
           iterate 10 refine ⟨?_, fun K hK => ?_⟩
           ·trivial
           all_goals try (go_simp; exact hK _ HST.out; done)
          case he =>
           obtain ⟨l0, l1, l2, l3, l4, l5, hbl⟩ := hst
           have HBF := Lib.hid (hbiz.trans (hbl.mono hbiz.size))
           clear hbl l0 l1 l2 l3 l4 l5 hbz hbiz
           go_wp2
           go_roundw
           case rel => exact ⟨k + 1, by omega, by go_num, HKK, HBF⟩
           case measure => simp [intOf]; omega
         obtain ⟨j, hje⟩ : ∃ j, j = L.idxOf Nb := ⟨_, rfl⟩
         have hjn : j < L.length := by rw [hje]; exact List.idxOf_lt_length_of_mem hD
         have hpl : PL = (j : Int) := by rw [HPL.out, hje]; unfold placeI; rw [if_pos hD]
         subst hpl
         have hnb := HNS.out hD
         rw [← hje] at hnb
         have HNB := Lib.hid hnb
         clear hnb hje hD
         obtain ⟨bY, oY, mj, hA2, hmj, hbY, n0, n1, n2, n3, n4, n5⟩ := Rd.mp (by rw [hml2]; exact HM1.out) (show j < ms.length by rw [hml2]; exact hjn)
         injection hA2 with hA2
         injection hA2 with g1 g2 _
         subst g1 g2
         replace n0 := sd n0 hbz
         replace n1 := sd n1 hbz
         replace n2 := sd n2 hbz
         replace n3 := sd n3 hbz
         replace n4 := sd n4 hbz
         replace n5 := sd n5 hbz
         have hjj : (j : Int) < (L.length : Int) := by omega
         have hj0 : (0 : Int) ≤ (j : Int) := by omega
         have hne := fun w => neM mj m' w
         have hmgj : ms.getD j zeroV = mj := by rw [List.getD_eq_getElem?_getD, hmj]; rfl
         have HMJ := Lib.hid hmgj
         clear hmgj hmj
         by_cases hq : mj = m'
         ·have hqq : (!decide (mj = m')) = false := by simp [hq]
          have HQ := Lib.hid hq
          clear hq
          refine rg_plain (fin := ?z6) [.int .i64 (j : Int), .bool true, .bool true, .slice (some ⟨bX, oX, none⟩) L.length cp, .int .i64 (j : Int), .pointer (some ⟨bX, oX + j * 6, none⟩), aggM mj, aggM m', .bool false, .bool false] (fun WN => WN.cell? ⟨bX, oX + j * 6, none⟩ = some (.int .i64 mj.1) ∧ WN.cell? ⟨bX, oX + j * 6 + 1, none⟩ = some (.int .i64 mj.2.1) ∧ WN.cell? ⟨bX, oX + j * 6 + 2, none⟩ = some (.int .i64 mj.2.2.1) ∧ WN.cell? ⟨bX, oX + j * 6 + 3, none⟩ = some (.int .i64 mj.2.2.2.1) ∧ WN.cell? ⟨bX, oX + j * 6 + 4, none⟩ = some (.int .i64 mj.2.2.2.2.1) ∧ WN.cell? ⟨bX, oX + j * 6 + 5, none⟩ = some (.int .i64 mj.2.2.2.2.2) ∧ WN.cell? ⟨wj.heap.size, 0, none⟩ = some (.int .i64 m'.1) ∧ WN.cell? ⟨wj.heap.size, 1, none⟩ = some (.int .i64 m'.2.1) ∧ WN.cell? ⟨wj.heap.size, 2, none⟩ = some (.int .i64 m'.2.2.1) ∧ WN.cell? ⟨wj.heap.size, 3, none⟩ = some (.int .i64 m'.2.2.2.1) ∧ WN.cell? ⟨wj.heap.size, 4, none⟩ = some (.int .i64 m'.2.2.2.2.1) ∧ WN.cell? ⟨wj.heap.size, 5, none⟩ = some (.int .i64 m'.2.2.2.2.2) ∧ Below wz.heap.size wz WN) ?hf (by kernel_rfl) (by kernel_rfl) rfl ⟨n0, n1, n2, n3, n4, n5, l0, l1, l2, l3, l4, l5, (Below.refl _ _).drew⟩ (fun WN hst => ?hs) (fun WN hst => ?he)
          case hf => simp only [putOps, Act.put, List.setIfInBounds_toArray, List.set_cons_succ, List.set_cons_zero]; exact rfl
          case hs =>
           have HST := Lib.hid hst
           obtain ⟨n0, n1, n2, n3, n4, n5, l0, l1, l2, l3, l4, l5, hbl⟩ := hst
           iterate 10 refine ⟨?_, fun K hK => ?_⟩
           ·trivial
           all_goals try (go_simp; exact hK _ HST.out; done)
          case he =>
           obtain ⟨n0, n1, n2, n3, n4, n5, l0, l1, l2, l3, l4, l5, hbl⟩ := hst
           have hkk : ∀ k', k' < k + 1 → okI L C ms i k' := by
            intro k' hk'
            by_cases e : k' = k
            ·subst e
             intro j' hj'
             rw [HNB.out] at hj'
             cases hj'
             rw [HMG.out, HMM.out, HMJ.out]
             exact HQ.out
            ·exact hok2.out k' (by omega)
           have HKK := Lib.hid hkk
           have HBF := Lib.hid (hbiz.trans (hbl.mono hbiz.size))
           clear hkk hbl l0 l1 l2 l3 l4 l5 n0 n1 n2 n3 n4 n5 hbz hbiz
           go_wp2
           go_roundw
           case rel => exact ⟨k + 1, by omega, by go_num, HKK, HBF⟩
           case measure => simp [intOf]; omega
         ·have hqq : (!decide (mj = m')) = true := by simp [hq]
          have HQ := Lib.hid hq
          clear hq
          refine rg_plain (fin := ?z7) [.int .i64 (j : Int), .bool true, .bool true, .slice (some ⟨bX, oX, none⟩) L.length cp, .int .i64 (j : Int), .pointer (some ⟨bX, oX + j * 6, none⟩), aggM mj, aggM m', .bool true, .bool true] (fun WN => WN.cell? ⟨bX, oX + j * 6, none⟩ = some (.int .i64 mj.1) ∧ WN.cell? ⟨bX, oX + j * 6 + 1, none⟩ = some (.int .i64 mj.2.1) ∧ WN.cell? ⟨bX, oX + j * 6 + 2, none⟩ = some (.int .i64 mj.2.2.1) ∧ WN.cell? ⟨bX, oX + j * 6 + 3, none⟩ = some (.int .i64 mj.2.2.2.1) ∧ WN.cell? ⟨bX, oX + j * 6 + 4, none⟩ = some (.int .i64 mj.2.2.2.2.1) ∧ WN.cell? ⟨bX, oX + j * 6 + 5, none⟩ = some (.int .i64 mj.2.2.2.2.2) ∧ WN.cell? ⟨wj.heap.size, 0, none⟩ = some (.int .i64 m'.1) ∧ WN.cell? ⟨wj.heap.size, 1, none⟩ = some (.int .i64 m'.2.1) ∧ WN.cell? ⟨wj.heap.size, 2, none⟩ = some (.int .i64 m'.2.2.1) ∧ WN.cell? ⟨wj.heap.size, 3, none⟩ = some (.int .i64 m'.2.2.2.1) ∧ WN.cell? ⟨wj.heap.size, 4, none⟩ = some (.int .i64 m'.2.2.2.2.1) ∧ WN.cell? ⟨wj.heap.size, 5, none⟩ = some (.int .i64 m'.2.2.2.2.2) ∧ Below wz.heap.size wz WN) ?hf (by kernel_rfl) (by kernel_rfl) rfl ⟨n0, n1, n2, n3, n4, n5, l0, l1, l2, l3, l4, l5, (Below.refl _ _).drew⟩ (fun WN hst => ?hs) (fun WN hst => ?he)
          case hf => simp only [putOps, Act.put, List.setIfInBounds_toArray, List.set_cons_succ, List.set_cons_zero]; exact rfl
          case hs =>
           have HST := Lib.hid hst
           obtain ⟨n0, n1, n2, n3, n4, n5, l0, l1, l2, l3, l4, l5, hbl⟩ := hst
           iterate 10 refine ⟨?_, fun K hK => ?_⟩
           ·trivial
           all_goals try (go_simp; exact hK _ HST.out; done)
          case he =>
           obtain ⟨n0, n1, n2, n3, n4, n5, l0, l1, l2, l3, l4, l5, hbl⟩ := hst
           have HN := Lib.hid (show ¬ MapsP L C ms from fun h => by
            have h1 := h.ok i k hin hk3 j HNB.out
            rw [HMG.out, HMM.out, HMJ.out] at h1
            exact HQ.out h1)
           have HBF := Lib.hid (stay_b HB1.out (hbz.trans (hbl.mono hbz.size)))
           clear hbl hbz hbiz
           go_wp2
           go_ret
           exact ⟨ret_bool (HNOT.out HN.out).symm, HBF.out⟩
       ·have hkn : (KD != 0) = true := by simpa using hkz
        have HKZ := Lib.hid hkz
        clear hkz
        refine rg_plain (fin := ?z8) [.agg #[.int .i64 W, .int .i64 H, .slice Am nm cm, .slice Ac nc cc], .slice (some ⟨ge, 0, none⟩) 3 3, .int .i64 k, .pointer (some ⟨ge, k * 4, none⟩), aggE E, .int .i64 KD, .bool true] (fun WN => WN.cell? ⟨w.heap.size, 0, none⟩ = some (.int .i64 W) ∧ WN.cell? ⟨w.heap.size, 1, none⟩ = some (.int .i64 H) ∧ WN.cell? ⟨w.heap.size, 2, none⟩ = some (.slice Am nm cm) ∧ WN.cell? ⟨w.heap.size, 3, none⟩ = some (.slice Ac nc cc) ∧ WN.cell? ⟨ge, k * 4, none⟩ = some (.int .i64 E.1) ∧ WN.cell? ⟨ge, k * 4 + 1, none⟩ = some (.int .i64 E.2.1) ∧ WN.cell? ⟨ge, k * 4 + 2, none⟩ = some (.int .i64 E.2.2.1) ∧ WN.cell? ⟨ge, k * 4 + 3, none⟩ = some (.int .i64 E.2.2.2) ∧ Below w10.heap.size w10 WN) ?hf (by kernel_rfl) (by kernel_rfl) rfl ⟨b0, b1, b2, b3, e0, e1, e2, e3, (Below.refl _ _).drew⟩ (fun WN hst => ?hs) (fun WN hst => ?he)
        case hf => simp only [putOps, Act.put, List.setIfInBounds_toArray, List.set_cons_succ, List.set_cons_zero]; exact rfl
        case hs =>
         have HST := Lib.hid hst
         obtain ⟨b0, b1, b2, b3, e0, e1, e2, e3, hbl⟩ := hst
         iterate 7 refine ⟨?_, fun K hK => ?_⟩
         ·trivial
         all_goals try (go_simp; exact hK _ HST.out; done)
         ·go_simp
          refine (CK.out WN hbl).mono ?_
          rintro e' wc ⟨he, hbc⟩
          subst he
          exact hK _ ⟨sd b0 hbc, sd b1 hbc, sd b2 hbc, sd b3 hbc, sd e0 hbc, sd e1 hbc, sd e2 hbc, sd e3 hbc, stay_b hbl hbc⟩
        case he =>
         obtain ⟨b0, b1, b2, b3, e0, e1, e2, e3, hbl⟩ := hst
         have hb11 := hbm.trans (hbl.mono hbm.size)
         have hbi11 := hbim.trans (hbl.mono hbim.size)
         have KM1 := Lib.hid (KM0.out.below hbl)
         obtain ⟨w11, hw11⟩ : ∃ x, x = WN := ⟨_, rfl⟩
         subst hw11
         clear hbl b0 b1 b2 b3
         have hcE : C E = false := by rw [HCZ.out]; exact decide_eq_false HKZ.out
         have hm' : stpL L C i k m = afterV (mirB (lnW E) (lnC E)) m := by rw [HST.out]; unfold stpV; rw [hcE]; rfl
         have hr := lnW_rng E
         have hc := lnC_bd HKE.out
         have hg1 := gb_mir hr.1 hr.2 hc.1 hc.2
         have cL := fun (W' : World) => lineD_any E W' HKE.out
         obtain ⟨la, hla⟩ : ∃ x, x = lnW E := ⟨_, rfl⟩
         obtain ⟨lc, hlc⟩ : ∃ x, x = lnC E := ⟨_, rfl⟩
         rw [← hla, ← hlc] at hm' hg1
         rw [← hla, ← hlc] at cL
         rw [← hlc] at hc
         have cM := fun (W' : World) => mirrorOf_any la lc W' (by omega) (by omega)
         obtain ⟨M1, hM1⟩ : ∃ x, x = mirB la lc := ⟨_, rfl⟩
         rw [← hM1] at cM hm' hg1
         have cA := fun (W' : World) => afterOf_any M1.1 M1.2.1 M1.2.2.1 M1.2.2.2.1 M1.2.2.2.2.1 M1.2.2.2.2.2 m.1 m.2.1 m.2.2.1 m.2.2.2.1 m.2.2.2.2.1 m.2.2.2.2.2 W' (gb_sm hg1 (by decide)) (gb_sm HGM.out (by decide))
         obtain ⟨m', hmm⟩ : ∃ m', m' = afterV M1 m := ⟨_, rfl⟩
         have cA2 : ∀ W' : World, Calls Tryz.prog 46 #[aggM M1, aggM m] W' fun e' w' => e' = .returned (aggM m') ∧ Below W'.heap.size W' w' := fun W' => by rw [hmm]; exact cA W'
         rw [← hmm] at hm'
         have CL := Lib.hid cL
         have CMI := Lib.hid cM
         have CA := Lib.hid cA2
         have HMM := Lib.hid hm'
         clear hcE hm' hr hc hg1 cL cM cA cA2 hla hlc hM1 hmm
         go_wp2_with fail
         refine rg_chain (fin := ?z9) [8] [7, 5, 6, 4, 3, 2, 0, 1] [true, true, true, true, true, true, true, true, false] [false, false, false, false, false, false, false, false, false] (fun x => [.slice (some ⟨ge, 0, none⟩) 3 3, .int .i64 k, .pointer (some ⟨ge, k * 4, none⟩), aggE E, aggL la lc, aggM M1, aggM m, aggM m', (x 0)]) (fun j _ WN => match j with | 0 => WN.cell? ⟨ge, k * 4, none⟩ = some (.int .i64 E.1) ∧ WN.cell? ⟨ge, k * 4 + 1, none⟩ = some (.int .i64 E.2.1) ∧ WN.cell? ⟨ge, k * 4 + 2, none⟩ = some (.int .i64 E.2.2.1) ∧ WN.cell? ⟨ge, k * 4 + 3, none⟩ = some (.int .i64 E.2.2.2) ∧ Below w11.heap.size w11 WN | _ => ∃ W0 : World, (W0.cell? ⟨ge, k * 4, none⟩ = some (.int .i64 E.1) ∧ W0.cell? ⟨ge, k * 4 + 1, none⟩ = some (.int .i64 E.2.1) ∧ W0.cell? ⟨ge, k * 4 + 2, none⟩ = some (.int .i64 E.2.2.1) ∧ W0.cell? ⟨ge, k * 4 + 3, none⟩ = some (.int .i64 E.2.2.2) ∧ Below w11.heap.size w11 W0) ∧ WN = set6 W0 wj.heap.size 0 m') ?hf (by kernel_rfl) (by kernel_rfl) (fun _ => rfl) (by kernel_rfl) ?hv ⟨e0, e1, e2, e3, (Below.refl _ _).drew⟩ (fun x WN hst => ?hs) ?hB ?hT (fun x WN hst => ?he)
         case hf => intro x; simp only [putOps, Act.put, List.setIfInBounds_toArray, List.set_cons_succ, List.set_cons_zero]; exact rfl
         case hv =>
          intro x j t v h; cases j with
          | zero => cases h; rfl
          | succ j => simp at h
         case hs =>
          have HST := Lib.hid hst
          obtain ⟨e0, e1, e2, e3, hbl⟩ := hst
          iterate 8 refine ⟨?_, fun K hK => ?_⟩
          ·trivial
          all_goals try (go_simp; exact hK _ HST.out; done)
          ·go_simp
           refine (CA.out _).mono ?_
           rintro e' wc ⟨he, hbc⟩
           subst he
           exact hK _ ⟨sd e0 hbc, sd e1 hbc, sd e2 hbc, sd e3 hbc, stay_b hbl hbc⟩
          ·have kmW := KM1.out.below hbl
           obtain ⟨l0, l1, l2, l3, l4, l5⟩ := kmW.cells1
           go_simp
           exact hK _ HST.out
          ·go_simp
           refine (CMI.out _).mono ?_
           rintro e' wc ⟨he, hbc⟩
           subst he
           exact hK _ ⟨sd e0 hbc, sd e1 hbc, sd e2 hbc, sd e3 hbc, stay_b hbl hbc⟩
          ·go_simp
           refine (CL.out _).mono ?_
           rintro e' wc ⟨he, hbc⟩
           subst he
           exact hK _ ⟨sd e0 hbc, sd e1 hbc, sd e2 hbc, sd e3 hbc, stay_b hbl hbc⟩
         case hB => intro j x WN _ _ _; trivial
         case hT =>
          intro j t x WN ht hst o ho K hK
          obtain rfl : j = 0 := by cases j with | zero => rfl | succ j => simp at ht
          cases ht; cases ho
          have HST := Lib.hid hst
          obtain ⟨e0, e1, e2, e3, hbl⟩ := hst
          have kmW := KM1.out.below hbl
          obtain ⟨l0, l1, l2, l3, l4, l5⟩ := kmW.cells1
          have fz := kmW.fz
          have hlt := blk_lt (show WN.heap[wj.heap.size]? = _ from kmW)
          go_simp
          exact hK undef _ ⟨_, HST.out, rfl⟩
         case he =>
          obtain ⟨W0, hst, hWN⟩ := hst
          obtain ⟨e0, e1, e2, e3, hbl⟩ := hst
          have hkW := KM1.out.below hbl
          have KM := Lib.hid (hkW.set 0 m')
          have hbW0 := hb11.trans (hbl.mono hb11.size)
          have hbiW0 := hbi11.trans (hbl.mono hbi11.size)
          have hbz := set6_below2 hbW0 hb9.size 0 m'
          have hbiz := set6_below2 hbiW0 HBI6.out.size 0 m'
          rw [← hWN] at KM hbz hbiz
          have KM : Hid (LB WN wj.heap.size [m']) := KM
          obtain ⟨wz, hwz⟩ : ∃ x, x = WN := ⟨_, rfl⟩
          subst hwz
          clear hkW hbW0 hbiW0 hWN hbl e0 e1 e2 e3 KM1
          go_wp2_with fail
          obtain ⟨l0, l1, l2, l3, l4, l5⟩ := KM.out.cells1
          by_cases hD : Nb ∈ L
          rotate_left
          ·have hnb := HNN.out hD
           have hpl : PL = -1 := by rw [HPL.out]; unfold placeI; rw [if_neg hD]
           subst hpl
           have hcmp : (decide ((0 : Int) ≤ -1)) = false := by decide
           have hkk : ∀ k', k' < k + 1 → okI L C ms i k' := by
            intro k' hk'
            by_cases e : k' = k
            ·subst e
             intro j' hj'
             rw [hnb] at hj'
             cases hj'
            ·exact hok2.out k' (by omega)
           have HKK := Lib.hid hkk
           clear hkk hnb hD
           refine rg_plain (fin := ?z10) [.int .i64 (-1), .bool false, .bool false, undef, undef, undef, undef, undef, undef, .bool false] (fun WN => WN.cell? ⟨wj.heap.size, 0, none⟩ = some (.int .i64 m'.1) ∧ WN.cell? ⟨wj.heap.size, 1, none⟩ = some (.int .i64 m'.2.1) ∧ WN.cell? ⟨wj.heap.size, 2, none⟩ = some (.int .i64 m'.2.2.1) ∧ WN.cell? ⟨wj.heap.size, 3, none⟩ = some (.int .i64 m'.2.2.2.1) ∧ WN.cell? ⟨wj.heap.size, 4, none⟩ = some (.int .i64 m'.2.2.2.2.1) ∧ WN.cell? ⟨wj.heap.size, 5, none⟩ = some (.int .i64 m'.2.2.2.2.2) ∧ Below wz.heap.size wz WN) ?hf (by kernel_rfl) (by kernel_rfl) rfl ⟨l0, l1, l2, l3, l4, l5, (Below.refl _ _).drew⟩ (fun WN hst => ?hs) (fun WN hst => ?he)
           case hf => simp only [putOps, Act.put, List.setIfInBounds_toArray, List.set_cons_succ, List.set_cons_zero]; exact rfl
           case hs =>
            have HST := Lib.hid hst
            obtain ⟨l0, l1, l2, l3, l4, l5, hbl⟩ := hst
            iterate 10 refine ⟨?_, fun K hK => ?_⟩
            ·trivial
            all_goals try (go_simp; exact hK _ HST.out; done)
           case he =>
            obtain ⟨l0, l1, l2, l3, l4, l5, hbl⟩ := hst
            have HBF := Lib.hid (hbiz.trans (hbl.mono hbiz.size))
            clear hbl l0 l1 l2 l3 l4 l5 hbz hbiz
            go_wp2
            go_roundw
            case rel => exact ⟨k + 1, by omega, by go_num, HKK, HBF⟩
            case measure => simp [intOf]; omega
          obtain ⟨j, hje⟩ : ∃ j, j = L.idxOf Nb := ⟨_, rfl⟩
          have hjn : j < L.length := by rw [hje]; exact List.idxOf_lt_length_of_mem hD
          have hpl : PL = (j : Int) := by rw [HPL.out, hje]; unfold placeI; rw [if_pos hD]
          subst hpl
          have hnb := HNS.out hD
          rw [← hje] at hnb
          have HNB := Lib.hid hnb
          clear hnb hje hD
          obtain ⟨bY, oY, mj, hA2, hmj, hbY, n0, n1, n2, n3, n4, n5⟩ := Rd.mp (by rw [hml2]; exact HM1.out) (show j < ms.length by rw [hml2]; exact hjn)
          injection hA2 with hA2
          injection hA2 with g1 g2 _
          subst g1 g2
          replace n0 := sd n0 hbz
          replace n1 := sd n1 hbz
          replace n2 := sd n2 hbz
          replace n3 := sd n3 hbz
          replace n4 := sd n4 hbz
          replace n5 := sd n5 hbz
          have hjj : (j : Int) < (L.length : Int) := by omega
          have hj0 : (0 : Int) ≤ (j : Int) := by omega
          have hne := fun w => neM mj m' w
          have hmgj : ms.getD j zeroV = mj := by rw [List.getD_eq_getElem?_getD, hmj]; rfl
          have HMJ := Lib.hid hmgj
          clear hmgj hmj
          by_cases hq : mj = m'
          ·have hqq : (!decide (mj = m')) = false := by simp [hq]
           have HQ := Lib.hid hq
           clear hq
           refine rg_plain (fin := ?z11) [.int .i64 (j : Int), .bool true, .bool true, .slice (some ⟨bX, oX, none⟩) L.length cp, .int .i64 (j : Int), .pointer (some ⟨bX, oX + j * 6, none⟩), aggM mj, aggM m', .bool false, .bool false] (fun WN => WN.cell? ⟨bX, oX + j * 6, none⟩ = some (.int .i64 mj.1) ∧ WN.cell? ⟨bX, oX + j * 6 + 1, none⟩ = some (.int .i64 mj.2.1) ∧ WN.cell? ⟨bX, oX + j * 6 + 2, none⟩ = some (.int .i64 mj.2.2.1) ∧ WN.cell? ⟨bX, oX + j * 6 + 3, none⟩ = some (.int .i64 mj.2.2.2.1) ∧ WN.cell? ⟨bX, oX + j * 6 + 4, none⟩ = some (.int .i64 mj.2.2.2.2.1) ∧ WN.cell? ⟨bX, oX + j * 6 + 5, none⟩ = some (.int .i64 mj.2.2.2.2.2) ∧ WN.cell? ⟨wj.heap.size, 0, none⟩ = some (.int .i64 m'.1) ∧ WN.cell? ⟨wj.heap.size, 1, none⟩ = some (.int .i64 m'.2.1) ∧ WN.cell? ⟨wj.heap.size, 2, none⟩ = some (.int .i64 m'.2.2.1) ∧ WN.cell? ⟨wj.heap.size, 3, none⟩ = some (.int .i64 m'.2.2.2.1) ∧ WN.cell? ⟨wj.heap.size, 4, none⟩ = some (.int .i64 m'.2.2.2.2.1) ∧ WN.cell? ⟨wj.heap.size, 5, none⟩ = some (.int .i64 m'.2.2.2.2.2) ∧ Below wz.heap.size wz WN) ?hf (by kernel_rfl) (by kernel_rfl) rfl ⟨n0, n1, n2, n3, n4, n5, l0, l1, l2, l3, l4, l5, (Below.refl _ _).drew⟩ (fun WN hst => ?hs) (fun WN hst => ?he)
           case hf => simp only [putOps, Act.put, List.setIfInBounds_toArray, List.set_cons_succ, List.set_cons_zero]; exact rfl
           case hs =>
            have HST := Lib.hid hst
            obtain ⟨n0, n1, n2, n3, n4, n5, l0, l1, l2, l3, l4, l5, hbl⟩ := hst
            iterate 10 refine ⟨?_, fun K hK => ?_⟩
            ·trivial
            all_goals try (go_simp; exact hK _ HST.out; done)
           case he =>
            obtain ⟨n0, n1, n2, n3, n4, n5, l0, l1, l2, l3, l4, l5, hbl⟩ := hst
            have hkk : ∀ k', k' < k + 1 → okI L C ms i k' := by
             intro k' hk'
             by_cases e : k' = k
             ·subst e
              intro j' hj'
              rw [HNB.out] at hj'
              cases hj'
              rw [HMG.out, HMM.out, HMJ.out]
              exact HQ.out
             ·exact hok2.out k' (by omega)
            have HKK := Lib.hid hkk
            have HBF := Lib.hid (hbiz.trans (hbl.mono hbiz.size))
            clear hkk hbl l0 l1 l2 l3 l4 l5 n0 n1 n2 n3 n4 n5 hbz hbiz
            go_wp2
            go_roundw
            case rel => exact ⟨k + 1, by omega, by go_num, HKK, HBF⟩
            case measure => simp [intOf]; omega
          ·have hqq : (!decide (mj = m')) = true := by simp [hq]
           have HQ := Lib.hid hq
           clear hq
           refine rg_plain (fin := ?z12) [.int .i64 (j : Int), .bool true, .bool true, .slice (some ⟨bX, oX, none⟩) L.length cp, .int .i64 (j : Int), .pointer (some ⟨bX, oX + j * 6, none⟩), aggM mj, aggM m', .bool true, .bool true] (fun WN => WN.cell? ⟨bX, oX + j * 6, none⟩ = some (.int .i64 mj.1) ∧ WN.cell? ⟨bX, oX + j * 6 + 1, none⟩ = some (.int .i64 mj.2.1) ∧ WN.cell? ⟨bX, oX + j * 6 + 2, none⟩ = some (.int .i64 mj.2.2.1) ∧ WN.cell? ⟨bX, oX + j * 6 + 3, none⟩ = some (.int .i64 mj.2.2.2.1) ∧ WN.cell? ⟨bX, oX + j * 6 + 4, none⟩ = some (.int .i64 mj.2.2.2.2.1) ∧ WN.cell? ⟨bX, oX + j * 6 + 5, none⟩ = some (.int .i64 mj.2.2.2.2.2) ∧ WN.cell? ⟨wj.heap.size, 0, none⟩ = some (.int .i64 m'.1) ∧ WN.cell? ⟨wj.heap.size, 1, none⟩ = some (.int .i64 m'.2.1) ∧ WN.cell? ⟨wj.heap.size, 2, none⟩ = some (.int .i64 m'.2.2.1) ∧ WN.cell? ⟨wj.heap.size, 3, none⟩ = some (.int .i64 m'.2.2.2.1) ∧ WN.cell? ⟨wj.heap.size, 4, none⟩ = some (.int .i64 m'.2.2.2.2.1) ∧ WN.cell? ⟨wj.heap.size, 5, none⟩ = some (.int .i64 m'.2.2.2.2.2) ∧ Below wz.heap.size wz WN) ?hf (by kernel_rfl) (by kernel_rfl) rfl ⟨n0, n1, n2, n3, n4, n5, l0, l1, l2, l3, l4, l5, (Below.refl _ _).drew⟩ (fun WN hst => ?hs) (fun WN hst => ?he)
           case hf => simp only [putOps, Act.put, List.setIfInBounds_toArray, List.set_cons_succ, List.set_cons_zero]; exact rfl
           case hs =>
            have HST := Lib.hid hst
            obtain ⟨n0, n1, n2, n3, n4, n5, l0, l1, l2, l3, l4, l5, hbl⟩ := hst
            iterate 10 refine ⟨?_, fun K hK => ?_⟩
            ·trivial
            all_goals try (go_simp; exact hK _ HST.out; done)
           case he =>
            obtain ⟨n0, n1, n2, n3, n4, n5, l0, l1, l2, l3, l4, l5, hbl⟩ := hst
            have HN := Lib.hid (show ¬ MapsP L C ms from fun h => by
             have h1 := h.ok i k hin hk3 j HNB.out
             rw [HMG.out, HMM.out, HMJ.out] at h1
             exact HQ.out h1)
            have HBF := Lib.hid (stay_b HB1.out (hbz.trans (hbl.mono hbz.size)))
            clear hbl hbz hbiz
            go_wp2
            go_ret
            exact ⟨ret_bool (HNOT.out HN.out).symm, HBF.out⟩
     ·obtain rfl : k = 3 := by omega
      have hkk : (∀ j, j < i + 1 → mayI L ms j) ∧ ∀ j k, j < i + 1 → k < 3 → okI L C ms j k := by
       constructor
       ·intro j hj
        by_cases e : j = i
        ·subst e; exact HMI.out
        ·exact hmy.out.1 j (by omega)
       ·intro j k hj hk'
        by_cases e : j = i
        ·subst e; exact hok2.out k hk'
        ·exact hmy.out.2 j k (by omega) hk'
      have HKK := Lib.hid hkk
      have HBF := Lib.hid (HB3.out.trans (hbr.out.mono HB3.out.size))
      clear hkk hbr hok2
      go_wp2
      go_roundw
      case rel => exact ⟨i + 1, by omega, by go_num, HKK, HBF⟩
      case measure => simp [intOf]; omega
  ·obtain rfl : i = L.length := by omega
   have HY := Lib.hid (HYES.out ⟨hml2, hmy.out.1, hmy.out.2⟩)
   have HBF := Lib.hid (stay_b HB1.out hbw.out)
   clear hmy hbw
   go_wp2
   go_ret
   exact ⟨ret_bool HY.out.symm, HBF.out⟩
end
end Go.Proofs.YtpkjekedgodccaaGreatDoor
