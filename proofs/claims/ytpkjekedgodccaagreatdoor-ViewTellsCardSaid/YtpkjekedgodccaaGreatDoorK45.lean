/- The document's SheetMay. -/
import Derived.Test.YtpkjekedgodccaaGreatDoorK44
namespace Go.Proofs.YtpkjekedgodccaaGreatDoor
set_option linter.unusedSimpArgs false
set_option linter.unusedVariables false
section
open Go.RowKit Go.Maps
set_option maxRecDepth 100000 in
set_option maxHeartbeats 12800000 in
theorem sheetMay_any (W H : Int) (Am Ac : Option Addr) (nm cm nc cc : Nat) (mask : List Int) (cs : List C5) (w : World) (hm : Rd w 1 Am nm (vis mask)) (hc : Rd w 5 Ac nc (ccs cs)) (hnm : nm ≤ 140737488351232) (hnc : nc ≤ 140737488351232) :
  Calls Tryz.prog 16 #[.agg #[.int .i64 W, .int .i64 H, .slice Am nm cm, .slice Ac nc cc]] w fun e w' => e = .returned (.bool (newB W H mask cs)) ∧ Below w.heap.size w w' := by
 have kb0 := heap_alloc_new w (.cells #[.int .i64 W, .int .i64 H, .slice Am nm cm, .slice Ac nc cc] 25)
 have hb0 := below_new w (.cells #[.int .i64 W, .int .i64 H, .slice Am nm cm, .slice Ac nc cc] 25)
 have e0 := cell_of_blk kb0 0
 have e1 := cell_of_blk kb0 1
 have e2 := cell_of_blk kb0 2
 have e3 := cell_of_blk kb0 3
 simp only [List.getElem?_toArray, List.getElem?_cons_zero, List.getElem?_cons_succ] at e0 e1 e2 e3
 have hz : w.heap.size < (w.alloc (.cells #[.int .i64 W, .int .i64 H, .slice Am nm cm, .slice Ac nc cc] 25)).heap.size := by simp
 have cL := cellsMay_any W H Am Ac nm cm nc cc mask _ (hm.alloc (.cells #[.int .i64 W, .int .i64 H, .slice Am nm cm, .slice Ac nc cc] 25)) hnm
 obtain ⟨NB, hNB⟩ : ∃ NB, NB = newB W H mask cs := ⟨_, rfl⟩
 rw [← hNB]
 obtain ⟨CB, hCB⟩ : ∃ CB, CB = cellsB W H mask := ⟨_, rfl⟩
 rw [← hCB] at cL
 have HNB := Lib.hid hNB
 have HCB := Lib.hid hCB
 have HC := Lib.hid (hc.alloc (.cells #[.int .i64 W, .int .i64 H, .slice Am nm cm, .slice Ac nc cc] 25))
 have HM := Lib.hid (hm.alloc (.cells #[.int .i64 W, .int .i64 H, .slice Am nm cm, .slice Ac nc cc] 25))
 have CL := Lib.hid cL
 clear cL hNB hc hm hCB kb0
 go_enter Tryz.func16, Tryz.ntmps16
 cases CB with
 | false =>
  have hres : NB = false := by rw [HNB.out]; unfold newB; rw [← HCB.out]; rfl
  have HRES := Lib.hid hres
  clear hres
  go_wp2_with (go_at_call 37; refine CL.out.mono ?_; rintro r w1 ⟨rfl, hb1⟩; have HB1 := Lib.hid (stay_b hb0 hb1))
  go_ret
  exact ⟨ret_bool HRES.out.symm, HB1.out⟩
 | true =>
  have hdim : ∃ Wn Hn : Nat, W = Wn ∧ H = Hn ∧ (1 ≤ Wn ∧ Wn ≤ 8) ∧ (1 ≤ Hn ∧ Hn ≤ 8) ∧ mask.length = Wn * Hn := by
   have h := HCB.out
   have h1 : 1 ≤ W ∧ W ≤ 8 := by
    apply Classical.byContradiction; intro hn; rw [cellsB_no (by omega)] at h; cases h
   have h2 : 1 ≤ H ∧ H ≤ 8 := by
    apply Classical.byContradiction; intro hn; rw [cellsB_no (by omega)] at h; cases h
   have h3 : (mask.length : Int) = W * H := by
    apply Classical.byContradiction; intro hn; rw [cellsB_no (.inr (.inr (.inr (.inr hn))))] at h; cases h
   obtain ⟨Wn, rfl⟩ := Int.eq_ofNat_of_zero_le (show 0 ≤ W by omega)
   obtain ⟨Hn, rfl⟩ := Int.eq_ofNat_of_zero_le (show 0 ≤ H by omega)
   refine ⟨Wn, Hn, rfl, rfl, by omega, by omega, ?_⟩
   have : (mask.length : Int) = ((Wn * Hn : Nat) : Int) := by rw [h3]; simp
   omega
  obtain ⟨Wn, Hn, rfl, rfl, hW, hH, hml⟩ := hdim
  have hSM : ShM (w.alloc (.cells #[.int .i64 (Wn : Int), .int .i64 (Hn : Int), .slice Am nm cm, .slice Ac nc cc] 25)) Wn Hn Am nm mask Ac nc cs := ⟨hW, hH, hml, HM.out, HC.out, hnc⟩
  have hcl := HC.out.creases_len
  have hnb2 : NB = (creasesB (trisL Wn mask) none cs && joinB (trisL Wn mask)) := by rw [HNB.out]; unfold newB; rw [← HCB.out]; rfl
  have cI := fun (w2 : World) (hb : Below (w.alloc (.cells #[.int .i64 (Wn : Int), .int .i64 (Hn : Int), .slice Am nm cm, .slice Ac nc cc] 25)).heap.size (w.alloc (.cells #[.int .i64 (Wn : Int), .int .i64 (Hn : Int), .slice Am nm cm, .slice Ac nc cc] 25)) w2) (e : E4) => innerEdge_any Wn Hn Am Ac nm cm nc cc mask cs e w2 (hSM.below hb)
  have cJ := fun (w2 : World) (hb : Below (w.alloc (.cells #[.int .i64 (Wn : Int), .int .i64 (Hn : Int), .slice Am nm cm, .slice Ac nc cc] 25)).heap.size (w.alloc (.cells #[.int .i64 (Wn : Int), .int .i64 (Hn : Int), .slice Am nm cm, .slice Ac nc cc] 25)) w2) => joinedSheet_any Wn Hn Am Ac nm cm nc cc mask cs w2 (hSM.below hb)
  obtain ⟨L, hLe⟩ : ∃ L, L = trisL Wn mask := ⟨_, rfl⟩
  rw [← hLe] at hnb2 cI cJ
  have HNB2 := Lib.hid hnb2
  have CI := Lib.hid cI
  have CJ := Lib.hid cJ
  clear hnb2 cI cJ hSM HNB hLe HCB HM
  go_wp2_with (go_at_call 37; refine CL.out.mono ?_; rintro r w1 ⟨rfl, hb1⟩; have HB1 := Lib.hid hb1; have f3 := sd e3 hb1; clear hb1)
  generalize w.alloc (.cells #[.int .i64 (Wn : Int), .int .i64 (Hn : Int), .slice Am nm cm, .slice Ac nc cc] 25) = w0 at e0 e1 e2 e3 hz hb0 HC CI CJ HB1
  have f0 := sd e0 HB1.out
  have f1 := sd e1 HB1.out
  have f2 := sd e2 HB1.out
  have hz1 : w.heap.size < w1.heap.size := Nat.lt_of_lt_of_le hz HB1.out.size
  clear e0 e1 e2 e3 CL
  go_loopw [3] (fun x wr => ∃ i : Nat, i ≤ nc ∧ x = .int .i64 i ∧ Hid (creasesB L none (cs.take i) = true) ∧ Below w1.heap.size w1 wr) (fun x _ => nc - (intOf x).toNat)
  case atStart => exact ⟨0, by omega, rfl, Lib.hid rfl, Below.refl _ _⟩
  case round =>
   obtain ⟨i, hi, rfl, hcr, hbr⟩ := hrel
   have b3 := keep_c f3 hbr hz1
   by_cases hin : i < nc
   ·obtain ⟨c, hci⟩ : ∃ c, cs[i]? = some c := ⟨_, List.getElem?_eq_getElem (by omega)⟩
    obtain ⟨bC, oC, hA, hbC, _⟩ := HC.out.2 (by omega)
    subst hA
    have hCr := (HC.out.below HB1.out).below hbr
    obtain ⟨x0, x1, x2, x3, x4⟩ := hCr.crease hci
    have HCI := Lib.hid hci
    have hfail := fun h => creases_fail (l := L) hci h
    have hstep := fun h => creases_take (l := L) hci hcr.out h
    have HF := Lib.hid hfail
    have HST := Lib.hid hstep
    have hib : (i : Int) < 140737488351232 := by omega
    have hii : (i : Int) < (nc : Int) := by omega
    have hi0' : (0 : Int) ≤ (i : Int) := by omega
    clear hci hfail hstep
    obtain ⟨e, kd⟩ := c
    simp only at x0 x1 x2 x3 x4
    have hprev : ∀ j, i = j + 1 → ∃ pc, cs[j]? = some pc := fun j hj => ⟨_, List.getElem?_eq_getElem (by omega)⟩
    go_wp2_with fail
    have kc := heap_alloc_new wr (.cells #[.int .i64 e.1, .int .i64 e.2.1, .int .i64 e.2.2.1, .int .i64 e.2.2.2, .int .i64 kd] 102)
    have hbw : Below w1.heap.size w1 (wr.alloc (.cells #[.int .i64 e.1, .int .i64 e.2.1, .int .i64 e.2.2.1, .int .i64 e.2.2.2, .int .i64 kd] 102)) := hbr.alloc hbr.size _
    have hC2 := hCr.alloc (.cells #[.int .i64 e.1, .int .i64 e.2.1, .int .i64 e.2.2.1, .int .i64 e.2.2.2, .int .i64 kd] 102)
    have b0 := al_c (keep_c f0 hbr hz1) (.cells #[.int .i64 e.1, .int .i64 e.2.1, .int .i64 e.2.2.1, .int .i64 e.2.2.2, .int .i64 kd] 102)
    have b1 := al_c (keep_c f1 hbr hz1) (.cells #[.int .i64 e.1, .int .i64 e.2.1, .int .i64 e.2.2.1, .int .i64 e.2.2.2, .int .i64 kd] 102)
    have b2 := al_c (keep_c f2 hbr hz1) (.cells #[.int .i64 e.1, .int .i64 e.2.1, .int .i64 e.2.2.1, .int .i64 e.2.2.2, .int .i64 kd] 102)
    have b3 := al_c b3 (.cells #[.int .i64 e.1, .int .i64 e.2.1, .int .i64 e.2.2.1, .int .i64 e.2.2.2, .int .i64 kd] 102)
    clear x0 x1 x2 x3 x4 hCr
    generalize wr.alloc (.cells #[.int .i64 e.1, .int .i64 e.2.1, .int .i64 e.2.2.1, .int .i64 e.2.2.2, .int .i64 kd] 102) = w2 at kc hC2 hbw b0 b1 b2 b3 ⊢
    have g0 := cell_of_blk kc 0
    have g1 := cell_of_blk kc 1
    have g2 := cell_of_blk kc 2
    have g3 := cell_of_blk kc 3
    have g4 := cell_of_blk kc 4
    simp only [List.getElem?_toArray, List.getElem?_cons_zero, List.getElem?_cons_succ] at g0 g1 g2 g3 g4
    have cI := fun (w3 : World) (hb : Below w2.heap.size w2 w3) => CI.out w3 (HB1.out.trans ((hbw.trans (hb.mono hbw.size)).mono HB1.out.size)) e
    obtain ⟨IB, hIB⟩ : ∃ IB, IB = innerB L e := ⟨_, rfl⟩
    rw [← hIB] at cI
    have CI2 := Lib.hid cI
    have HIB := Lib.hid hIB
    have HC2 := Lib.hid hC2
    clear cI hIB kc hC2
    have hnb : creasesB L none cs = false → NB = false := fun h => by rw [HNB2.out, h]; rfl
    have HNF := Lib.hid hnb
    clear hnb
    by_cases hi0 : i = 0
    ·have hp0 : decide (0 < i) = false := decide_eq_false (by omega)
     have hp1 : decide ((0:Int) < (i : Int)) = false := decide_eq_false (by omega)
     have hpv : prevOk (prevC cs i) e = true := by unfold prevC; rw [if_pos hi0]; rfl
     have HPV := Lib.hid hpv
     clear hpv hi0 hprev
     by_cases hk1 : kd = 1
     ·subst hk1
      have hkk : ((1:Int) != 1) = false := by decide
      refine rg_plain (fin := ?z1) [.int .i64 i, .bool false, .bool false, undef, undef, undef, undef, undef, undef, undef, undef, undef, undef, undef, .bool false, .bool false, .pointer (some ⟨wr.heap.size, 4, none⟩), .int .i64 1, .bool false, .bool false, undef, undef, undef, .bool false, .bool false, .bool false, .agg #[.int .i64 (Wn : Int), .int .i64 (Hn : Int), .slice Am nm cm, .slice (some ⟨bC, oC, none⟩) nc cc], .pointer (some ⟨wr.heap.size, 0, none⟩), .agg #[.int .i64 e.1, .int .i64 e.2.1, .int .i64 e.2.2.1, .int .i64 e.2.2.2], .bool IB, .bool (!IB), .bool (!IB)] (fun WN => WN.cell? ⟨w.heap.size, 0, none⟩ = some (.int .i64 (Wn : Int)) ∧ WN.cell? ⟨w.heap.size, 1, none⟩ = some (.int .i64 (Hn : Int)) ∧ WN.cell? ⟨w.heap.size, 2, none⟩ = some (.slice Am nm cm) ∧ WN.cell? ⟨w.heap.size, 3, none⟩ = some (.slice (some ⟨bC, oC, none⟩) nc cc) ∧ WN.cell? ⟨wr.heap.size, 0, none⟩ = some (.int .i64 e.1) ∧ WN.cell? ⟨wr.heap.size, 1, none⟩ = some (.int .i64 e.2.1) ∧ WN.cell? ⟨wr.heap.size, 2, none⟩ = some (.int .i64 e.2.2.1) ∧ WN.cell? ⟨wr.heap.size, 3, none⟩ = some (.int .i64 e.2.2.2) ∧ WN.cell? ⟨wr.heap.size, 4, none⟩ = some (.int .i64 1) ∧ Below w2.heap.size w2 WN) ?hf (by kernel_rfl) (by kernel_rfl) rfl ⟨b0, b1, b2, b3, g0, g1, g2, g3, g4, (Below.refl _ _).drew⟩ (fun WN hst => ?hs) (fun WN hst => ?he)
      case hf => simp only [putOps, Act.put, List.setIfInBounds_toArray, List.set_cons_succ, List.set_cons_zero]; exact rfl
      case hs =>
       have HST := Lib.hid hst
       obtain ⟨q0, q1, q2, q3, q4, q5, q6, q7, q8, hbl⟩ := hst
       iterate 32 refine ⟨?_, fun K hK => ?_⟩
       ·trivial
       all_goals try (go_simp; exact hK _ HST.out; done)
       ·go_simp
        refine (CI2.out _ hbl).mono ?_
        rintro e' wc ⟨he, hbc⟩
        subst he
        exact hK _ ⟨sd q0 hbc, sd q1 hbc, sd q2 hbc, sd q3 hbc, sd q4 hbc, sd q5 hbc, sd q6 hbc, sd q7 hbc, sd q8 hbc, stay_b hbl hbc⟩
      case he =>
       obtain ⟨q0, q1, q2, q3, q4, q5, q6, q7, q8, hbl⟩ := hst
       cases IB with
       | false =>
        simp only [Bool.not_false]
        have hkd : creaseB L (prevC cs i) (e, 1) = false := by rw [creaseB_eq]; simp only; rw [← HIB.out, Bool.and_false]
        have HKD := Lib.hid hkd
        clear hkd
        have hbfin := hb0.trans ((HB1.out.trans ((hbw.trans (hbl.mono hbw.size)).mono HB1.out.size)).mono hb0.size)
        have HBF := Lib.hid hbfin
        clear hbfin
        go_wp2
        go_ret
        exact ⟨ret_bool (HNF.out (HF.out HKD.out)).symm, HBF.out⟩
       | true =>
        simp only [Bool.not_true]
        have hkd : creaseB L (prevC cs i) (e, 1) = true := by rw [creaseB_eq]; simp only; rw [← HIB.out, HPV.out]; decide
        have HKD := Lib.hid hkd
        clear hkd
        have hbfin := hbw.trans (hbl.mono hbw.size)
        go_wp2
        go_roundw
        case rel => exact ⟨i + 1, by omega, by go_num, Lib.hid (HST.out HKD.out), hbfin⟩
        case measure => simp [intOf]; omega
     ·by_cases hk2 : kd = 2
      ·subst hk2
       have hkk : ((2:Int) != 1) = true := by decide
       have hkk2 : ((2:Int) != 2) = false := by decide
       clear hk1
       refine rg_plain (fin := ?z2) [.int .i64 i, .bool false, .bool false, undef, undef, undef, undef, undef, undef, undef, undef, undef, undef, undef, .bool false, .bool false, .pointer (some ⟨wr.heap.size, 4, none⟩), .int .i64 2, .bool true, .bool true, .pointer (some ⟨wr.heap.size, 4, none⟩), .int .i64 2, .bool false, .bool false, .bool false, .bool false, .agg #[.int .i64 (Wn : Int), .int .i64 (Hn : Int), .slice Am nm cm, .slice (some ⟨bC, oC, none⟩) nc cc], .pointer (some ⟨wr.heap.size, 0, none⟩), .agg #[.int .i64 e.1, .int .i64 e.2.1, .int .i64 e.2.2.1, .int .i64 e.2.2.2], .bool IB, .bool (!IB), .bool (!IB)] (fun WN => WN.cell? ⟨w.heap.size, 0, none⟩ = some (.int .i64 (Wn : Int)) ∧ WN.cell? ⟨w.heap.size, 1, none⟩ = some (.int .i64 (Hn : Int)) ∧ WN.cell? ⟨w.heap.size, 2, none⟩ = some (.slice Am nm cm) ∧ WN.cell? ⟨w.heap.size, 3, none⟩ = some (.slice (some ⟨bC, oC, none⟩) nc cc) ∧ WN.cell? ⟨wr.heap.size, 0, none⟩ = some (.int .i64 e.1) ∧ WN.cell? ⟨wr.heap.size, 1, none⟩ = some (.int .i64 e.2.1) ∧ WN.cell? ⟨wr.heap.size, 2, none⟩ = some (.int .i64 e.2.2.1) ∧ WN.cell? ⟨wr.heap.size, 3, none⟩ = some (.int .i64 e.2.2.2) ∧ WN.cell? ⟨wr.heap.size, 4, none⟩ = some (.int .i64 2) ∧ Below w2.heap.size w2 WN) ?hf (by kernel_rfl) (by kernel_rfl) rfl ⟨b0, b1, b2, b3, g0, g1, g2, g3, g4, (Below.refl _ _).drew⟩ (fun WN hst => ?hs) (fun WN hst => ?he)
       case hf => simp only [putOps, Act.put, List.setIfInBounds_toArray, List.set_cons_succ, List.set_cons_zero]; exact rfl
       case hs =>
        have HST := Lib.hid hst
        obtain ⟨q0, q1, q2, q3, q4, q5, q6, q7, q8, hbl⟩ := hst
        iterate 32 refine ⟨?_, fun K hK => ?_⟩
        ·trivial
        all_goals try (go_simp; exact hK _ HST.out; done)
        ·go_simp
         refine (CI2.out _ hbl).mono ?_
         rintro e' wc ⟨he, hbc⟩
         subst he
         exact hK _ ⟨sd q0 hbc, sd q1 hbc, sd q2 hbc, sd q3 hbc, sd q4 hbc, sd q5 hbc, sd q6 hbc, sd q7 hbc, sd q8 hbc, stay_b hbl hbc⟩
       case he =>
        obtain ⟨q0, q1, q2, q3, q4, q5, q6, q7, q8, hbl⟩ := hst
        cases IB with
        | false =>
         simp only [Bool.not_false]
         have hkd : creaseB L (prevC cs i) (e, 2) = false := by rw [creaseB_eq]; simp only; rw [← HIB.out, Bool.and_false]
         have HKD := Lib.hid hkd
         clear hkd
         have hbfin := hb0.trans ((HB1.out.trans ((hbw.trans (hbl.mono hbw.size)).mono HB1.out.size)).mono hb0.size)
         have HBF := Lib.hid hbfin
         clear hbfin
         go_wp2
         go_ret
         exact ⟨ret_bool (HNF.out (HF.out HKD.out)).symm, HBF.out⟩
        | true =>
         simp only [Bool.not_true]
         have hkd : creaseB L (prevC cs i) (e, 2) = true := by rw [creaseB_eq]; simp only; rw [← HIB.out, HPV.out]; decide
         have HKD := Lib.hid hkd
         clear hkd
         have hbfin := hbw.trans (hbl.mono hbw.size)
         go_wp2
         go_roundw
         case rel => exact ⟨i + 1, by omega, by go_num, Lib.hid (HST.out HKD.out), hbfin⟩
         case measure => simp [intOf]; omega
      ·have hkk : (kd != 1) = true := by simpa using hk1
       have hkk2 : (kd != 2) = true := by simpa using hk2
       have hkd : creaseB L (prevC cs i) (e, kd) = false := by rw [creaseB_eq, decide_eq_false (show ¬ (kd = 1 ∨ kd = 2) by omega)]; simp
       have HKD := Lib.hid hkd
       clear hkd hk1 hk2
       refine rg_plain (fin := ?z3) [.int .i64 i, .bool false, .bool false, undef, undef, undef, undef, undef, undef, undef, undef, undef, undef, undef, .bool false, .bool false, .pointer (some ⟨wr.heap.size, 4, none⟩), .int .i64 kd, .bool true, .bool true, .pointer (some ⟨wr.heap.size, 4, none⟩), .int .i64 kd, .bool true, .bool true, .bool true, .bool true, undef, undef, undef, undef, undef, .bool true] (fun WN => WN.cell? ⟨w.heap.size, 0, none⟩ = some (.int .i64 (Wn : Int)) ∧ WN.cell? ⟨w.heap.size, 1, none⟩ = some (.int .i64 (Hn : Int)) ∧ WN.cell? ⟨w.heap.size, 2, none⟩ = some (.slice Am nm cm) ∧ WN.cell? ⟨w.heap.size, 3, none⟩ = some (.slice (some ⟨bC, oC, none⟩) nc cc) ∧ WN.cell? ⟨wr.heap.size, 0, none⟩ = some (.int .i64 e.1) ∧ WN.cell? ⟨wr.heap.size, 1, none⟩ = some (.int .i64 e.2.1) ∧ WN.cell? ⟨wr.heap.size, 2, none⟩ = some (.int .i64 e.2.2.1) ∧ WN.cell? ⟨wr.heap.size, 3, none⟩ = some (.int .i64 e.2.2.2) ∧ WN.cell? ⟨wr.heap.size, 4, none⟩ = some (.int .i64 kd) ∧ Below w2.heap.size w2 WN) ?hf (by kernel_rfl) (by kernel_rfl) rfl ⟨b0, b1, b2, b3, g0, g1, g2, g3, g4, (Below.refl _ _).drew⟩ (fun WN hst => ?hs) (fun WN hst => ?he)
       case hf => simp only [putOps, Act.put, List.setIfInBounds_toArray, List.set_cons_succ, List.set_cons_zero]; exact rfl
       case hs =>
        have HST := Lib.hid hst
        obtain ⟨q0, q1, q2, q3, q4, q5, q6, q7, q8, hbl⟩ := hst
        iterate 32 refine ⟨?_, fun K hK => ?_⟩
        ·trivial
        all_goals try (go_simp; exact hK _ HST.out; done)
       case he =>
        obtain ⟨q0, q1, q2, q3, q4, q5, q6, q7, q8, hbl⟩ := hst
        have hbfin := hb0.trans ((HB1.out.trans ((hbw.trans (hbl.mono hbw.size)).mono HB1.out.size)).mono hb0.size)
        have HBF := Lib.hid hbfin
        clear hbfin
        go_wp2
        go_ret
        exact ⟨ret_bool (HNF.out (HF.out HKD.out)).symm, HBF.out⟩
    ·obtain ⟨j, hj⟩ : ∃ j, i = j + 1 := ⟨i - 1, by omega⟩
     obtain ⟨pc, hpc⟩ := hprev j hj
     obtain ⟨pe, pk⟩ := pc
     have hp0 : decide (0 < i) = true := decide_eq_true (by omega)
     have hp1 : decide ((0:Int) < (i : Int)) = true := decide_eq_true (by omega)
     have hsub : IntKind.i64.wrap ((i : Int) - 1) = (j : Int) := by rw [IntWalk.i64_in _ (by omega)]; omega
     have hjn : j < nc := by omega
     have hjn2 : (j : Int) < (nc : Int) := by omega
     have hj0 : (0 : Int) ≤ (j : Int) := by omega
     have hpvc : prevC cs i = some (pe, pk) := by unfold prevC; rw [if_neg hi0, hj, Nat.add_sub_cancel]; exact hpc
     obtain ⟨y0, y1, y2, y3, _⟩ := HC2.out.crease hpc
     simp only at y0 y1 y2 y3
     have cC := fun (w3 : World) => lessEdge_any pe e w3
     obtain ⟨Z, hZ⟩ : ∃ Z, Z = lessE pe e := ⟨_, rfl⟩
     rw [← hZ] at cC
     have CC := Lib.hid cC
     have HPVC := Lib.hid hpvc
     have HZ := Lib.hid hZ
     clear cC hZ hpvc hj hi0 hpc hprev
     cases Z with
     | false =>
      have hkd : creaseB L (prevC cs i) (e, kd) = false := by rw [creaseB_eq, HPVC.out]; simp [prevOk, ← HZ.out]
      have HKD := Lib.hid hkd
      clear hkd
      refine rg_plain (fin := ?z4) [.int .i64 i, .bool true, .bool true, .pointer (some ⟨w.heap.size, 3, none⟩), .slice (some ⟨bC, oC, none⟩) nc cc, .int .i64 i, .int .i64 j, .pointer (some ⟨bC, oC + j * 5, none⟩), .pointer (some ⟨bC, oC + j * 5, none⟩), .agg #[.int .i64 pe.1, .int .i64 pe.2.1, .int .i64 pe.2.2.1, .int .i64 pe.2.2.2], .pointer (some ⟨wr.heap.size, 0, none⟩), .agg #[.int .i64 e.1, .int .i64 e.2.1, .int .i64 e.2.2.1, .int .i64 e.2.2.2], .bool false, .bool true, .bool true, .bool true, undef, undef, undef, undef, undef, undef, undef, undef, .bool true, .bool true, undef, undef, undef, undef, undef, .bool true] (fun WN => WN.cell? ⟨w.heap.size, 0, none⟩ = some (.int .i64 (Wn : Int)) ∧ WN.cell? ⟨w.heap.size, 1, none⟩ = some (.int .i64 (Hn : Int)) ∧ WN.cell? ⟨w.heap.size, 2, none⟩ = some (.slice Am nm cm) ∧ WN.cell? ⟨w.heap.size, 3, none⟩ = some (.slice (some ⟨bC, oC, none⟩) nc cc) ∧ WN.cell? ⟨wr.heap.size, 0, none⟩ = some (.int .i64 e.1) ∧ WN.cell? ⟨wr.heap.size, 1, none⟩ = some (.int .i64 e.2.1) ∧ WN.cell? ⟨wr.heap.size, 2, none⟩ = some (.int .i64 e.2.2.1) ∧ WN.cell? ⟨wr.heap.size, 3, none⟩ = some (.int .i64 e.2.2.2) ∧ WN.cell? ⟨wr.heap.size, 4, none⟩ = some (.int .i64 kd) ∧ WN.cell? ⟨bC, oC + j * 5, none⟩ = some (.int .i64 pe.1) ∧ WN.cell? ⟨bC, oC + j * 5 + 1, none⟩ = some (.int .i64 pe.2.1) ∧ WN.cell? ⟨bC, oC + j * 5 + 2, none⟩ = some (.int .i64 pe.2.2.1) ∧ WN.cell? ⟨bC, oC + j * 5 + 3, none⟩ = some (.int .i64 pe.2.2.2) ∧ Below w2.heap.size w2 WN) ?hf (by kernel_rfl) (by kernel_rfl) rfl ⟨b0, b1, b2, b3, g0, g1, g2, g3, g4, y0, y1, y2, y3, (Below.refl _ _).drew⟩ (fun WN hst => ?hs) (fun WN hst => ?he)
      case hf => simp only [putOps, Act.put, List.setIfInBounds_toArray, List.set_cons_succ, List.set_cons_zero]; exact rfl
      case hs =>
       have HST := Lib.hid hst
       obtain ⟨q0, q1, q2, q3, q4, q5, q6, q7, q8, q9, q10, q11, q12, hbl⟩ := hst
       iterate 32 refine ⟨?_, fun K hK => ?_⟩
       ·trivial
       all_goals try (go_simp; exact hK _ HST.out; done)
       ·go_simp
        refine (CC.out _).mono ?_
        rintro e' wc ⟨he, hbc⟩
        subst he
        exact hK _ ⟨sd q0 hbc, sd q1 hbc, sd q2 hbc, sd q3 hbc, sd q4 hbc, sd q5 hbc, sd q6 hbc, sd q7 hbc, sd q8 hbc, sd q9 hbc, sd q10 hbc, sd q11 hbc, sd q12 hbc, stay_b hbl hbc⟩
      case he =>
       obtain ⟨q0, q1, q2, q3, q4, q5, q6, q7, q8, q9, q10, q11, q12, hbl⟩ := hst
       have hbfin := hb0.trans ((HB1.out.trans ((hbw.trans (hbl.mono hbw.size)).mono HB1.out.size)).mono hb0.size)
       have HBF := Lib.hid hbfin
       clear hbfin
       go_wp2
       go_ret
       exact ⟨ret_bool (HNF.out (HF.out HKD.out)).symm, HBF.out⟩
     | true =>
      have hpv : prevOk (prevC cs i) e = true := by rw [HPVC.out]; simp [prevOk, ← HZ.out]
      have HPV := Lib.hid hpv
      clear hpv
      by_cases hk1 : kd = 1
      ·subst hk1
       have hkk : ((1:Int) != 1) = false := by decide
       refine rg_plain (fin := ?z5) [.int .i64 i, .bool true, .bool true, .pointer (some ⟨w.heap.size, 3, none⟩), .slice (some ⟨bC, oC, none⟩) nc cc, .int .i64 i, .int .i64 j, .pointer (some ⟨bC, oC + j * 5, none⟩), .pointer (some ⟨bC, oC + j * 5, none⟩), .agg #[.int .i64 pe.1, .int .i64 pe.2.1, .int .i64 pe.2.2.1, .int .i64 pe.2.2.2], .pointer (some ⟨wr.heap.size, 0, none⟩), .agg #[.int .i64 e.1, .int .i64 e.2.1, .int .i64 e.2.2.1, .int .i64 e.2.2.2], .bool true, .bool false, .bool false, .bool false, .pointer (some ⟨wr.heap.size, 4, none⟩), .int .i64 1, .bool false, .bool false, undef, undef, undef, .bool false, .bool false, .bool false, .agg #[.int .i64 (Wn : Int), .int .i64 (Hn : Int), .slice Am nm cm, .slice (some ⟨bC, oC, none⟩) nc cc], .pointer (some ⟨wr.heap.size, 0, none⟩), .agg #[.int .i64 e.1, .int .i64 e.2.1, .int .i64 e.2.2.1, .int .i64 e.2.2.2], .bool IB, .bool (!IB), .bool (!IB)] (fun WN => WN.cell? ⟨w.heap.size, 0, none⟩ = some (.int .i64 (Wn : Int)) ∧ WN.cell? ⟨w.heap.size, 1, none⟩ = some (.int .i64 (Hn : Int)) ∧ WN.cell? ⟨w.heap.size, 2, none⟩ = some (.slice Am nm cm) ∧ WN.cell? ⟨w.heap.size, 3, none⟩ = some (.slice (some ⟨bC, oC, none⟩) nc cc) ∧ WN.cell? ⟨wr.heap.size, 0, none⟩ = some (.int .i64 e.1) ∧ WN.cell? ⟨wr.heap.size, 1, none⟩ = some (.int .i64 e.2.1) ∧ WN.cell? ⟨wr.heap.size, 2, none⟩ = some (.int .i64 e.2.2.1) ∧ WN.cell? ⟨wr.heap.size, 3, none⟩ = some (.int .i64 e.2.2.2) ∧ WN.cell? ⟨wr.heap.size, 4, none⟩ = some (.int .i64 1) ∧ WN.cell? ⟨bC, oC + j * 5, none⟩ = some (.int .i64 pe.1) ∧ WN.cell? ⟨bC, oC + j * 5 + 1, none⟩ = some (.int .i64 pe.2.1) ∧ WN.cell? ⟨bC, oC + j * 5 + 2, none⟩ = some (.int .i64 pe.2.2.1) ∧ WN.cell? ⟨bC, oC + j * 5 + 3, none⟩ = some (.int .i64 pe.2.2.2) ∧ Below w2.heap.size w2 WN) ?hf (by kernel_rfl) (by kernel_rfl) rfl ⟨b0, b1, b2, b3, g0, g1, g2, g3, g4, y0, y1, y2, y3, (Below.refl _ _).drew⟩ (fun WN hst => ?hs) (fun WN hst => ?he)
       case hf => simp only [putOps, Act.put, List.setIfInBounds_toArray, List.set_cons_succ, List.set_cons_zero]; exact rfl
       case hs =>
        have HST := Lib.hid hst
        obtain ⟨q0, q1, q2, q3, q4, q5, q6, q7, q8, q9, q10, q11, q12, hbl⟩ := hst
        iterate 32 refine ⟨?_, fun K hK => ?_⟩
        ·trivial
        all_goals try (go_simp; exact hK _ HST.out; done)
        ·go_simp
         refine (CI2.out _ hbl).mono ?_
         rintro e' wc ⟨he, hbc⟩
         subst he
         exact hK _ ⟨sd q0 hbc, sd q1 hbc, sd q2 hbc, sd q3 hbc, sd q4 hbc, sd q5 hbc, sd q6 hbc, sd q7 hbc, sd q8 hbc, sd q9 hbc, sd q10 hbc, sd q11 hbc, sd q12 hbc, stay_b hbl hbc⟩
        ·go_simp
         refine (CC.out _).mono ?_
         rintro e' wc ⟨he, hbc⟩
         subst he
         exact hK _ ⟨sd q0 hbc, sd q1 hbc, sd q2 hbc, sd q3 hbc, sd q4 hbc, sd q5 hbc, sd q6 hbc, sd q7 hbc, sd q8 hbc, sd q9 hbc, sd q10 hbc, sd q11 hbc, sd q12 hbc, stay_b hbl hbc⟩
       case he =>
        obtain ⟨q0, q1, q2, q3, q4, q5, q6, q7, q8, q9, q10, q11, q12, hbl⟩ := hst
        cases IB with
        | false =>
         simp only [Bool.not_false]
         have hkd : creaseB L (prevC cs i) (e, 1) = false := by rw [creaseB_eq]; simp only; rw [← HIB.out, Bool.and_false]
         have HKD := Lib.hid hkd
         clear hkd
         have hbfin := hb0.trans ((HB1.out.trans ((hbw.trans (hbl.mono hbw.size)).mono HB1.out.size)).mono hb0.size)
         have HBF := Lib.hid hbfin
         clear hbfin
         go_wp2
         go_ret
         exact ⟨ret_bool (HNF.out (HF.out HKD.out)).symm, HBF.out⟩
        | true =>
         simp only [Bool.not_true]
         have hkd : creaseB L (prevC cs i) (e, 1) = true := by rw [creaseB_eq]; simp only; rw [← HIB.out, HPV.out]; decide
         have HKD := Lib.hid hkd
         clear hkd
         have hbfin := hbw.trans (hbl.mono hbw.size)
         go_wp2
         go_roundw
         case rel => exact ⟨i + 1, by omega, by go_num, Lib.hid (HST.out HKD.out), hbfin⟩
         case measure => simp [intOf]; omega
      ·by_cases hk2 : kd = 2
       ·subst hk2
        have hkk : ((2:Int) != 1) = true := by decide
        have hkk2 : ((2:Int) != 2) = false := by decide
        clear hk1
        refine rg_plain (fin := ?z6) [.int .i64 i, .bool true, .bool true, .pointer (some ⟨w.heap.size, 3, none⟩), .slice (some ⟨bC, oC, none⟩) nc cc, .int .i64 i, .int .i64 j, .pointer (some ⟨bC, oC + j * 5, none⟩), .pointer (some ⟨bC, oC + j * 5, none⟩), .agg #[.int .i64 pe.1, .int .i64 pe.2.1, .int .i64 pe.2.2.1, .int .i64 pe.2.2.2], .pointer (some ⟨wr.heap.size, 0, none⟩), .agg #[.int .i64 e.1, .int .i64 e.2.1, .int .i64 e.2.2.1, .int .i64 e.2.2.2], .bool true, .bool false, .bool false, .bool false, .pointer (some ⟨wr.heap.size, 4, none⟩), .int .i64 2, .bool true, .bool true, .pointer (some ⟨wr.heap.size, 4, none⟩), .int .i64 2, .bool false, .bool false, .bool false, .bool false, .agg #[.int .i64 (Wn : Int), .int .i64 (Hn : Int), .slice Am nm cm, .slice (some ⟨bC, oC, none⟩) nc cc], .pointer (some ⟨wr.heap.size, 0, none⟩), .agg #[.int .i64 e.1, .int .i64 e.2.1, .int .i64 e.2.2.1, .int .i64 e.2.2.2], .bool IB, .bool (!IB), .bool (!IB)] (fun WN => WN.cell? ⟨w.heap.size, 0, none⟩ = some (.int .i64 (Wn : Int)) ∧ WN.cell? ⟨w.heap.size, 1, none⟩ = some (.int .i64 (Hn : Int)) ∧ WN.cell? ⟨w.heap.size, 2, none⟩ = some (.slice Am nm cm) ∧ WN.cell? ⟨w.heap.size, 3, none⟩ = some (.slice (some ⟨bC, oC, none⟩) nc cc) ∧ WN.cell? ⟨wr.heap.size, 0, none⟩ = some (.int .i64 e.1) ∧ WN.cell? ⟨wr.heap.size, 1, none⟩ = some (.int .i64 e.2.1) ∧ WN.cell? ⟨wr.heap.size, 2, none⟩ = some (.int .i64 e.2.2.1) ∧ WN.cell? ⟨wr.heap.size, 3, none⟩ = some (.int .i64 e.2.2.2) ∧ WN.cell? ⟨wr.heap.size, 4, none⟩ = some (.int .i64 2) ∧ WN.cell? ⟨bC, oC + j * 5, none⟩ = some (.int .i64 pe.1) ∧ WN.cell? ⟨bC, oC + j * 5 + 1, none⟩ = some (.int .i64 pe.2.1) ∧ WN.cell? ⟨bC, oC + j * 5 + 2, none⟩ = some (.int .i64 pe.2.2.1) ∧ WN.cell? ⟨bC, oC + j * 5 + 3, none⟩ = some (.int .i64 pe.2.2.2) ∧ Below w2.heap.size w2 WN) ?hf (by kernel_rfl) (by kernel_rfl) rfl ⟨b0, b1, b2, b3, g0, g1, g2, g3, g4, y0, y1, y2, y3, (Below.refl _ _).drew⟩ (fun WN hst => ?hs) (fun WN hst => ?he)
        case hf => simp only [putOps, Act.put, List.setIfInBounds_toArray, List.set_cons_succ, List.set_cons_zero]; exact rfl
        case hs =>
         have HST := Lib.hid hst
         obtain ⟨q0, q1, q2, q3, q4, q5, q6, q7, q8, q9, q10, q11, q12, hbl⟩ := hst
         iterate 32 refine ⟨?_, fun K hK => ?_⟩
         ·trivial
         all_goals try (go_simp; exact hK _ HST.out; done)
         ·go_simp
          refine (CI2.out _ hbl).mono ?_
          rintro e' wc ⟨he, hbc⟩
          subst he
          exact hK _ ⟨sd q0 hbc, sd q1 hbc, sd q2 hbc, sd q3 hbc, sd q4 hbc, sd q5 hbc, sd q6 hbc, sd q7 hbc, sd q8 hbc, sd q9 hbc, sd q10 hbc, sd q11 hbc, sd q12 hbc, stay_b hbl hbc⟩
         ·go_simp
          refine (CC.out _).mono ?_
          rintro e' wc ⟨he, hbc⟩
          subst he
          exact hK _ ⟨sd q0 hbc, sd q1 hbc, sd q2 hbc, sd q3 hbc, sd q4 hbc, sd q5 hbc, sd q6 hbc, sd q7 hbc, sd q8 hbc, sd q9 hbc, sd q10 hbc, sd q11 hbc, sd q12 hbc, stay_b hbl hbc⟩
        case he =>
         obtain ⟨q0, q1, q2, q3, q4, q5, q6, q7, q8, q9, q10, q11, q12, hbl⟩ := hst
         cases IB with
         | false =>
          simp only [Bool.not_false]
          have hkd : creaseB L (prevC cs i) (e, 2) = false := by rw [creaseB_eq]; simp only; rw [← HIB.out, Bool.and_false]
          have HKD := Lib.hid hkd
          clear hkd
          have hbfin := hb0.trans ((HB1.out.trans ((hbw.trans (hbl.mono hbw.size)).mono HB1.out.size)).mono hb0.size)
          have HBF := Lib.hid hbfin
          clear hbfin
          go_wp2
          go_ret
          exact ⟨ret_bool (HNF.out (HF.out HKD.out)).symm, HBF.out⟩
         | true =>
          simp only [Bool.not_true]
          have hkd : creaseB L (prevC cs i) (e, 2) = true := by rw [creaseB_eq]; simp only; rw [← HIB.out, HPV.out]; decide
          have HKD := Lib.hid hkd
          clear hkd
          have hbfin := hbw.trans (hbl.mono hbw.size)
          go_wp2
          go_roundw
          case rel => exact ⟨i + 1, by omega, by go_num, Lib.hid (HST.out HKD.out), hbfin⟩
          case measure => simp [intOf]; omega
       ·have hkk : (kd != 1) = true := by simpa using hk1
        have hkk2 : (kd != 2) = true := by simpa using hk2
        have hkd : creaseB L (prevC cs i) (e, kd) = false := by rw [creaseB_eq, decide_eq_false (show ¬ (kd = 1 ∨ kd = 2) by omega)]; simp
        have HKD := Lib.hid hkd
        clear hkd hk1 hk2
        refine rg_plain (fin := ?z7) [.int .i64 i, .bool true, .bool true, .pointer (some ⟨w.heap.size, 3, none⟩), .slice (some ⟨bC, oC, none⟩) nc cc, .int .i64 i, .int .i64 j, .pointer (some ⟨bC, oC + j * 5, none⟩), .pointer (some ⟨bC, oC + j * 5, none⟩), .agg #[.int .i64 pe.1, .int .i64 pe.2.1, .int .i64 pe.2.2.1, .int .i64 pe.2.2.2], .pointer (some ⟨wr.heap.size, 0, none⟩), .agg #[.int .i64 e.1, .int .i64 e.2.1, .int .i64 e.2.2.1, .int .i64 e.2.2.2], .bool true, .bool false, .bool false, .bool false, .pointer (some ⟨wr.heap.size, 4, none⟩), .int .i64 kd, .bool true, .bool true, .pointer (some ⟨wr.heap.size, 4, none⟩), .int .i64 kd, .bool true, .bool true, .bool true, .bool true, undef, undef, undef, undef, undef, .bool true] (fun WN => WN.cell? ⟨w.heap.size, 0, none⟩ = some (.int .i64 (Wn : Int)) ∧ WN.cell? ⟨w.heap.size, 1, none⟩ = some (.int .i64 (Hn : Int)) ∧ WN.cell? ⟨w.heap.size, 2, none⟩ = some (.slice Am nm cm) ∧ WN.cell? ⟨w.heap.size, 3, none⟩ = some (.slice (some ⟨bC, oC, none⟩) nc cc) ∧ WN.cell? ⟨wr.heap.size, 0, none⟩ = some (.int .i64 e.1) ∧ WN.cell? ⟨wr.heap.size, 1, none⟩ = some (.int .i64 e.2.1) ∧ WN.cell? ⟨wr.heap.size, 2, none⟩ = some (.int .i64 e.2.2.1) ∧ WN.cell? ⟨wr.heap.size, 3, none⟩ = some (.int .i64 e.2.2.2) ∧ WN.cell? ⟨wr.heap.size, 4, none⟩ = some (.int .i64 kd) ∧ WN.cell? ⟨bC, oC + j * 5, none⟩ = some (.int .i64 pe.1) ∧ WN.cell? ⟨bC, oC + j * 5 + 1, none⟩ = some (.int .i64 pe.2.1) ∧ WN.cell? ⟨bC, oC + j * 5 + 2, none⟩ = some (.int .i64 pe.2.2.1) ∧ WN.cell? ⟨bC, oC + j * 5 + 3, none⟩ = some (.int .i64 pe.2.2.2) ∧ Below w2.heap.size w2 WN) ?hf (by kernel_rfl) (by kernel_rfl) rfl ⟨b0, b1, b2, b3, g0, g1, g2, g3, g4, y0, y1, y2, y3, (Below.refl _ _).drew⟩ (fun WN hst => ?hs) (fun WN hst => ?he)
        case hf => simp only [putOps, Act.put, List.setIfInBounds_toArray, List.set_cons_succ, List.set_cons_zero]; exact rfl
        case hs =>
         have HST := Lib.hid hst
         obtain ⟨q0, q1, q2, q3, q4, q5, q6, q7, q8, q9, q10, q11, q12, hbl⟩ := hst
         iterate 32 refine ⟨?_, fun K hK => ?_⟩
         ·trivial
         all_goals try (go_simp; exact hK _ HST.out; done)
         ·go_simp
          refine (CC.out _).mono ?_
          rintro e' wc ⟨he, hbc⟩
          subst he
          exact hK _ ⟨sd q0 hbc, sd q1 hbc, sd q2 hbc, sd q3 hbc, sd q4 hbc, sd q5 hbc, sd q6 hbc, sd q7 hbc, sd q8 hbc, sd q9 hbc, sd q10 hbc, sd q11 hbc, sd q12 hbc, stay_b hbl hbc⟩
        case he =>
         obtain ⟨q0, q1, q2, q3, q4, q5, q6, q7, q8, q9, q10, q11, q12, hbl⟩ := hst
         have hbfin := hb0.trans ((HB1.out.trans ((hbw.trans (hbl.mono hbw.size)).mono HB1.out.size)).mono hb0.size)
         have HBF := Lib.hid hbfin
         clear hbfin
         go_wp2
         go_ret
         exact ⟨ret_bool (HNF.out (HF.out HKD.out)).symm, HBF.out⟩
   ·obtain rfl : i = nc := by omega
    have hii : ¬ (i : Int) < (i : Int) := by omega
    have b0 := keep_c f0 hbr hz1
    have b1 := keep_c f1 hbr hz1
    have b2 := keep_c f2 hbr hz1
    have cJ := CJ.out wr (HB1.out.trans (hbr.mono HB1.out.size))
    have hall : creasesB L none cs = true := by have := hcr.out; rwa [List.take_of_length_le (by omega)] at this
    have hnb : joinB L = NB := by rw [HNB2.out, hall, Bool.true_and]
    have CJ2 := Lib.hid cJ
    have HNJ := Lib.hid hnb
    clear cJ hnb hall
    go_wp2_with (go_at_call 40; refine CJ2.out.mono ?_; rintro r w9 ⟨rfl, hb9⟩)
    go_ret
    exact ⟨ret_bool HNJ.out, hb0.trans ((HB1.out.trans ((stay_b hbr hb9).mono HB1.out.size)).mono hb0.size)⟩
end
end Go.Proofs.YtpkjekedgodccaaGreatDoor
