/- The document's SheetMay. Printed by gen_smay.py. -/
import Derived.Test.YtoienokpchbglaaDoorRf5
namespace Go.Proofs.YtoienokpchbglaaDoor
set_option linter.unusedSimpArgs false
set_option linter.unusedVariables false
open Go.RowKit Go.Maps
set_option maxRecDepth 100000 in
set_option maxHeartbeats 12800000 in
theorem sheetMay_any (W H : Int) (Am Ac : Option Addr) (nm cm nc cc : Nat) (mask : List Int) (cs : List C5) (w : World) (hm : Rd w 1 Am nm (vis mask)) (hc : Rd w 5 Ac nc (ccs cs)) (hnm : nm ≤ 140737488351232) (hnc : nc ≤ 140737488351232) :
  Calls Tryd.prog 12 #[.agg #[.int .i64 W, .int .i64 H, .slice Am nm cm, .slice Ac nc cc]] w fun e w' => e = .returned (.bool (newB W H mask cs)) ∧ Below w.heap.size w w' := by
 have kb0 := heap_alloc_new w (.cells #[.int .i64 W, .int .i64 H, .slice Am nm cm, .slice Ac nc cc] 25)
 have hb0 := below_new w (.cells #[.int .i64 W, .int .i64 H, .slice Am nm cm, .slice Ac nc cc] 25)
 have e0 := cell_of_blk kb0 0
 have e1 := cell_of_blk kb0 1
 have e2 := cell_of_blk kb0 2
 have e3 := cell_of_blk kb0 3
 simp only [List.getElem?_toArray, List.getElem?_cons_zero, List.getElem?_cons_succ] at e0 e1 e2 e3
 have hz : w.heap.size < (w.alloc (.cells #[.int .i64 W, .int .i64 H, .slice Am nm cm, .slice Ac nc cc] 25)).heap.size := by simp
 have cL := cellsMay_any W H Am Ac nm cm nc cc mask _ (hm.alloc (.cells #[.int .i64 W, .int .i64 H, .slice Am nm cm, .slice Ac nc cc] 25)) hnm
 obtain ⟨NB, hNB⟩ : ∃ NB, NB = newB W H mask cs := ⟨_, rfl⟩
 rw [← hNB]
 obtain ⟨CB, hCB⟩ : ∃ CB, CB = cellsB W H mask := ⟨_, rfl⟩
 rw [← hCB] at cL
 have HNB := Lib.hid hNB
 have HCB := Lib.hid hCB
 have HC := Lib.hid (hc.alloc (.cells #[.int .i64 W, .int .i64 H, .slice Am nm cm, .slice Ac nc cc] 25))
 have HM := Lib.hid (hm.alloc (.cells #[.int .i64 W, .int .i64 H, .slice Am nm cm, .slice Ac nc cc] 25))
 have CL := Lib.hid cL
 clear cL hNB hc hm hCB kb0
 go_enter Tryd.func12, Tryd.ntmps12
 cases CB with
 | false =>
  have hres : NB = false := by rw [HNB.out]; unfold newB; rw [← HCB.out]; rfl
  have HRES := Lib.hid hres
  clear hres
  go_wp2_with (go_at_call 33; refine CL.out.mono ?_; rintro r w1 ⟨rfl, hb1⟩; have HB1 := Lib.hid (stay_b hb0 hb1))
  go_ret
  exact ⟨ret_bool HRES.out.symm, HB1.out⟩
 | true =>
  have hdim : ∃ Wn Hn : Nat, W = Wn ∧ H = Hn ∧ (1 ≤ Wn ∧ Wn ≤ 8) ∧ (1 ≤ Hn ∧ Hn ≤ 8) ∧ mask.length = Wn * Hn := by
   have h := HCB.out
   have h1 : 1 ≤ W ∧ W ≤ 8 := by
    apply Classical.byContradiction; intro hn; rw [cellsB_no (by omega)] at h; cases h
   have h2 : 1 ≤ H ∧ H ≤ 8 := by
    apply Classical.byContradiction; intro hn; rw [cellsB_no (by omega)] at h; cases h
   have h3 : (mask.length : Int) = W * H := by
    apply Classical.byContradiction; intro hn; rw [cellsB_no (.inr (.inr (.inr (.inr hn))))] at h; cases h
   obtain ⟨Wn, rfl⟩ := Int.eq_ofNat_of_zero_le (show 0 ≤ W by omega)
   obtain ⟨Hn, rfl⟩ := Int.eq_ofNat_of_zero_le (show 0 ≤ H by omega)
   refine ⟨Wn, Hn, rfl, rfl, by omega, by omega, ?_⟩
   have : (mask.length : Int) = ((Wn * Hn : Nat) : Int) := by rw [h3]; simp
   omega
  obtain ⟨Wn, Hn, rfl, rfl, hW, hH, hml⟩ := hdim
  have hSM : ShM (w.alloc (.cells #[.int .i64 (Wn : Int), .int .i64 (Hn : Int), .slice Am nm cm, .slice Ac nc cc] 25)) Wn Hn Am nm mask Ac nc cs := ⟨hW, hH, hml, HM.out, HC.out, hnc⟩
  have hcl := HC.out.creases_len
  have hnb2 : NB = (creasesB (trisL Wn mask) none cs && joinB (trisL Wn mask)) := by rw [HNB.out]; unfold newB; rw [← HCB.out]; rfl
  have cI := fun (w2 : World) (hb : Below (w.alloc (.cells #[.int .i64 (Wn : Int), .int .i64 (Hn : Int), .slice Am nm cm, .slice Ac nc cc] 25)).heap.size (w.alloc (.cells #[.int .i64 (Wn : Int), .int .i64 (Hn : Int), .slice Am nm cm, .slice Ac nc cc] 25)) w2) (e : E4) => innerEdge_any Wn Hn Am Ac nm cm nc cc mask cs e w2 (hSM.below hb)
  have cJ := fun (w2 : World) (hb : Below (w.alloc (.cells #[.int .i64 (Wn : Int), .int .i64 (Hn : Int), .slice Am nm cm, .slice Ac nc cc] 25)).heap.size (w.alloc (.cells #[.int .i64 (Wn : Int), .int .i64 (Hn : Int), .slice Am nm cm, .slice Ac nc cc] 25)) w2) => joinedSheet_any Wn Hn Am Ac nm cm nc cc mask cs w2 (hSM.below hb)
  obtain ⟨L, hLe⟩ : ∃ L, L = trisL Wn mask := ⟨_, rfl⟩
  rw [← hLe] at hnb2 cI cJ
  have HNB2 := Lib.hid hnb2
  have CI := Lib.hid cI
  have CJ := Lib.hid cJ
  clear hnb2 cI cJ hSM HNB hLe HCB HM
  go_wp2_with (go_at_call 33; refine CL.out.mono ?_; rintro r w1 ⟨rfl, hb1⟩; have HB1 := Lib.hid hb1; have f3 := stay_c e3 hb1 (Nat.le_refl _); clear hb1)
  generalize w.alloc (.cells #[.int .i64 (Wn : Int), .int .i64 (Hn : Int), .slice Am nm cm, .slice Ac nc cc] 25) = w0 at e0 e1 e2 e3 hz hb0 HC CI CJ HB1
  have f0 := stay_c e0 HB1.out (Nat.le_refl _)
  have f1 := stay_c e1 HB1.out (Nat.le_refl _)
  have f2 := stay_c e2 HB1.out (Nat.le_refl _)
  have hz1 : w.heap.size < w1.heap.size := Nat.lt_of_lt_of_le hz HB1.out.size
  clear e0 e1 e2 e3 CL
  go_loopw [3] (fun x wr => ∃ i : Nat, i ≤ nc ∧ x = .int .i64 i ∧ Hid (creasesB L none (cs.take i) = true) ∧ Below w1.heap.size w1 wr) (fun x _ => nc - (intOf x).toNat)
  case atStart => exact ⟨0, by omega, rfl, Lib.hid rfl, Below.refl _ _⟩
  case round =>
   obtain ⟨i, hi, rfl, hcr, hbr⟩ := hrel
   have b3 := keep_c f3 hbr hz1
   by_cases hin : i < nc
   ·obtain ⟨c, hci⟩ : ∃ c, cs[i]? = some c := ⟨_, List.getElem?_eq_getElem (by omega)⟩
    obtain ⟨bC, oC, hA, hbC, _⟩ := HC.out.2 (by omega)
    subst hA
    have hCr := (HC.out.below HB1.out).below hbr
    obtain ⟨x0, x1, x2, x3, x4⟩ := hCr.crease hci
    have HCI := Lib.hid hci
    have hfail := fun h => creases_fail (l := L) hci h
    have hstep := fun h => creases_take (l := L) hci hcr.out h
    have HF := Lib.hid hfail
    have HST := Lib.hid hstep
    have hib : (i : Int) < 140737488351232 := by omega
    have hii : (i : Int) < (nc : Int) := by omega
    have hi0' : (0 : Int) ≤ (i : Int) := by omega
    clear hci hfail hstep
    obtain ⟨e, kd⟩ := c
    simp only at x0 x1 x2 x3 x4
    have hprev : ∀ j, i = j + 1 → ∃ pc, cs[j]? = some pc := fun j hj => ⟨_, List.getElem?_eq_getElem (by omega)⟩
    go_wp2_with fail
    have kc := heap_alloc_new wr (.cells #[.int .i64 e.1, .int .i64 e.2.1, .int .i64 e.2.2.1, .int .i64 e.2.2.2, .int .i64 kd] 88)
    have hbw : Below w1.heap.size w1 (wr.alloc (.cells #[.int .i64 e.1, .int .i64 e.2.1, .int .i64 e.2.2.1, .int .i64 e.2.2.2, .int .i64 kd] 88)) := hbr.alloc hbr.size _
    have hC2 := hCr.alloc (.cells #[.int .i64 e.1, .int .i64 e.2.1, .int .i64 e.2.2.1, .int .i64 e.2.2.2, .int .i64 kd] 88)
    have b0 := al_c (keep_c f0 hbr hz1) (.cells #[.int .i64 e.1, .int .i64 e.2.1, .int .i64 e.2.2.1, .int .i64 e.2.2.2, .int .i64 kd] 88)
    have b1 := al_c (keep_c f1 hbr hz1) (.cells #[.int .i64 e.1, .int .i64 e.2.1, .int .i64 e.2.2.1, .int .i64 e.2.2.2, .int .i64 kd] 88)
    have b2 := al_c (keep_c f2 hbr hz1) (.cells #[.int .i64 e.1, .int .i64 e.2.1, .int .i64 e.2.2.1, .int .i64 e.2.2.2, .int .i64 kd] 88)
    have b3 := al_c b3 (.cells #[.int .i64 e.1, .int .i64 e.2.1, .int .i64 e.2.2.1, .int .i64 e.2.2.2, .int .i64 kd] 88)
    clear x0 x1 x2 x3 x4 hCr
    generalize wr.alloc (.cells #[.int .i64 e.1, .int .i64 e.2.1, .int .i64 e.2.2.1, .int .i64 e.2.2.2, .int .i64 kd] 88) = w2 at kc hC2 hbw b0 b1 b2 b3 ⊢
    have g0 := cell_of_blk kc 0
    have g1 := cell_of_blk kc 1
    have g2 := cell_of_blk kc 2
    have g3 := cell_of_blk kc 3
    have g4 := cell_of_blk kc 4
    simp only [List.getElem?_toArray, List.getElem?_cons_zero, List.getElem?_cons_succ] at g0 g1 g2 g3 g4
    have cI := fun (w3 : World) (hb : Below w2.heap.size w2 w3) => CI.out w3 (HB1.out.trans ((hbw.trans (hb.mono hbw.size)).mono HB1.out.size)) e
    obtain ⟨IB, hIB⟩ : ∃ IB, IB = innerB L e := ⟨_, rfl⟩
    rw [← hIB] at cI
    have CI2 := Lib.hid cI
    have HIB := Lib.hid hIB
    have HC2 := Lib.hid hC2
    clear cI hIB kc hC2
    have hnb : creasesB L none cs = false → NB = false := fun h => by rw [HNB2.out, h]; rfl
    have HNF := Lib.hid hnb
    clear hnb
    by_cases hi0 : i = 0
    ·have hp0 : decide (0 < i) = false := decide_eq_false (by omega)
     have hp1 : decide ((0:Int) < (i : Int)) = false := decide_eq_false (by omega)
     have hpv : prevOk (prevC cs i) e = true := by unfold prevC; rw [if_pos hi0]; rfl
     have HPV := Lib.hid hpv
     clear hpv hi0 hprev
     by_cases hk1 : kd = 1
     ·subst hk1
      have hkk : ((1:Int) != 1) = false := by decide
      refine wp_region_inv (fun Lq aq WN => ∃ s : Nat → Value, aq = { tmps := #[.agg #[.int .i64 (Wn : Int), .int .i64 (Hn : Int), .slice Am nm cm, .slice (some ⟨bC, oC, none⟩) nc cc], .pointer (some ⟨w.heap.size, 0, none⟩), u2, .int .i64 i, .pointer (some ⟨wr.heap.size, 0, none⟩), .agg #[.int .i64 (Wn : Int), .int .i64 (Hn : Int), .slice Am nm cm, .slice (some ⟨bC, oC, none⟩) nc cc], .bool true, .bool false, .int .i64 i, .pointer (some ⟨w.heap.size, 3, none⟩), .slice (some ⟨bC, oC, none⟩) nc cc, .int .i64 nc, .bool true, u13, u14, .pointer (some ⟨w.heap.size, 3, none⟩), .slice (some ⟨bC, oC, none⟩) nc cc, .int .i64 i, .pointer (some ⟨bC, oC + i * 5, none⟩), .agg #[.int .i64 e.1, .int .i64 e.2.1, .int .i64 e.2.2.1, .int .i64 e.2.2.2, .int .i64 1], (s 0), (s 1), (s 2), (s 3), (s 4), (s 5), (s 6), (s 7), (s 8), (s 9), (s 10), (s 11), (s 12), (s 13), (s 14), (s 15), (s 16), (s 17), (s 18), (s 19), (s 20), (s 21), (s 22), (s 23), (s 24), (s 25), (s 26), (s 27), (s 28), (s 29), (s 30), (s 31), undef, undef], defers := [] } ∧ Sv 32 [some (.int .i64 i), some (.bool false), some (.bool false), some (undef), some (undef), some (undef), some (undef), some (undef), some (undef), some (undef), some (undef), some (undef), some (undef), some (undef), some (.bool false), some (.bool false), some (.pointer (some ⟨wr.heap.size, 4, none⟩)), some (.int .i64 1), some (.bool false), some (.bool false), some (undef), some (undef), some (undef), some (.bool false), some (.bool false), some (.bool false), some (.agg #[.int .i64 (Wn : Int), .int .i64 (Hn : Int), .slice Am nm cm, .slice (some ⟨bC, oC, none⟩) nc cc]), some (.pointer (some ⟨wr.heap.size, 0, none⟩)), some (.agg #[.int .i64 e.1, .int .i64 e.2.1, .int .i64 e.2.2.1, .int .i64 e.2.2.2]), some (.bool IB), some (.bool (!IB)), some (.bool (!IB))] Lq s ∧ (WN.cell? ⟨w.heap.size, 0, none⟩ = some (.int .i64 (Wn : Int)) ∧ WN.cell? ⟨w.heap.size, 1, none⟩ = some (.int .i64 (Hn : Int)) ∧ WN.cell? ⟨w.heap.size, 2, none⟩ = some (.slice Am nm cm) ∧ WN.cell? ⟨w.heap.size, 3, none⟩ = some (.slice (some ⟨bC, oC, none⟩) nc cc) ∧ WN.cell? ⟨wr.heap.size, 0, none⟩ = some (.int .i64 e.1) ∧ WN.cell? ⟨wr.heap.size, 1, none⟩ = some (.int .i64 e.2.1) ∧ WN.cell? ⟨wr.heap.size, 2, none⟩ = some (.int .i64 e.2.2.1) ∧ WN.cell? ⟨wr.heap.size, 3, none⟩ = some (.int .i64 e.2.2.2) ∧ WN.cell? ⟨wr.heap.size, 4, none⟩ = some (.int .i64 1) ∧ Below w2.heap.size w2 WN)) (by kernel_rfl) ?_ ?_ ?_
      ·exact ⟨listF [u20, u21, u22, u23, u24, u25, u26, u27, u28, u29, u30, u31, u32, u33, u34, u35, u36, u37, u38, u39, u40, u41, u42, u43, u44, u45, u46, u47, u48, u49, u50, u51], rfl, Sv.start 32 _ _, ⟨b0, b1, b2, b3, g0, g1, g2, g3, g4, (Below.refl _ _).drew⟩⟩
      ·intro Lq aq WN i0 hI hr
       obtain ⟨s, rfl, hv, hst⟩ := hI
       have hi0 : i0 < 32 := ready_lt hr
       have HV := Lib.hid hv
       have HST := Lib.hid hst
       clear hv hst
       have hii : i0 = 0 ∨ i0 = 1 ∨ i0 = 2 ∨ i0 = 3 ∨ i0 = 4 ∨ i0 = 5 ∨ i0 = 6 ∨ i0 = 7 ∨ i0 = 8 ∨ i0 = 9 ∨ i0 = 10 ∨ i0 = 11 ∨ i0 = 12 ∨ i0 = 13 ∨ i0 = 14 ∨ i0 = 15 ∨ i0 = 16 ∨ i0 = 17 ∨ i0 = 18 ∨ i0 = 19 ∨ i0 = 20 ∨ i0 = 21 ∨ i0 = 22 ∨ i0 = 23 ∨ i0 = 24 ∨ i0 = 25 ∨ i0 = 26 ∨ i0 = 27 ∨ i0 = 28 ∨ i0 = 29 ∨ i0 = 30 ∨ i0 = 31 := by omega
       clear hi0
       rcases hii with rfl | rfl | rfl | rfl | rfl | rfl | rfl | rfl | rfl | rfl | rfl | rfl | rfl | rfl | rfl | rfl | rfl | rfl | rfl | rfl | rfl | rfl | rfl | rfl | rfl | rfl | rfl | rfl | rfl | rfl | rfl | rfl
       ·clear hr
        refine wpOp_step rfl (fun K hK => ?_)
        go_simp
        refine hK _ _ ?_
        exact ⟨upd s 0 (.int .i64 i), rfl, Sv.put HV.out (fun u hu => by cases hu; rfl), HST.out⟩
       ·have d0 := ready_dep hr (k := 0) (by kernel_rfl)
        clear hr
        have e0 : s 0 = .int .i64 i := HV.out.v d0 rfl
        refine wpOp_step rfl (fun K hK => ?_)
        go_simp
        refine hK _ _ ?_
        exact ⟨upd (upd s 0 (.int .i64 i)) 1 (.bool false), rfl, Sv.put (Sv.re (j := 0) (v := .int .i64 i) HV.out e0) (fun u hu => by cases hu; rfl), HST.out⟩
       ·have d1 := ready_dep hr (k := 1) (by kernel_rfl)
        clear hr
        have e1 : s 1 = .bool false := HV.out.v d1 rfl
        refine wpOp_step rfl (fun K hK => ?_)
        go_simp
        refine hK _ _ ?_
        exact ⟨upd (upd s 1 (.bool false)) 2 (.bool false), rfl, Sv.put (Sv.re (j := 1) (v := .bool false) HV.out e1) (fun u hu => by cases hu; rfl), HST.out⟩
       ·have d2 := ready_dep hr (k := 2) (by kernel_rfl)
        clear hr
        have e2 : s 2 = .bool false := HV.out.v d2 rfl
        refine wpOp_step rfl (fun K hK => ?_)
        go_simp
        refine hK _ _ ?_
        exact ⟨upd (upd s 2 (.bool false)) 3 (undef), rfl, Sv.put (Sv.re (j := 2) (v := .bool false) HV.out e2) (fun u hu => by cases hu; rfl), HST.out⟩
       ·have d2 := ready_dep hr (k := 2) (by kernel_rfl)
        clear hr
        have e2 : s 2 = .bool false := HV.out.v d2 rfl
        refine wpOp_step rfl (fun K hK => ?_)
        go_simp
        refine hK _ _ ?_
        exact ⟨upd (upd s 2 (.bool false)) 4 (undef), rfl, Sv.put (Sv.re (j := 2) (v := .bool false) HV.out e2) (fun u hu => by cases hu; rfl), HST.out⟩
       ·have d2 := ready_dep hr (k := 2) (by kernel_rfl)
        clear hr
        have e2 : s 2 = .bool false := HV.out.v d2 rfl
        refine wpOp_step rfl (fun K hK => ?_)
        go_simp
        refine hK _ _ ?_
        exact ⟨upd (upd s 2 (.bool false)) 5 (undef), rfl, Sv.put (Sv.re (j := 2) (v := .bool false) HV.out e2) (fun u hu => by cases hu; rfl), HST.out⟩
       ·have d2 := ready_dep hr (k := 2) (by kernel_rfl)
        clear hr
        have e2 : s 2 = .bool false := HV.out.v d2 rfl
        refine wpOp_step rfl (fun K hK => ?_)
        go_simp
        refine hK _ _ ?_
        exact ⟨upd (upd s 2 (.bool false)) 6 (undef), rfl, Sv.put (Sv.re (j := 2) (v := .bool false) HV.out e2) (fun u hu => by cases hu; rfl), HST.out⟩
       ·have d2 := ready_dep hr (k := 2) (by kernel_rfl)
        clear hr
        have e2 : s 2 = .bool false := HV.out.v d2 rfl
        refine wpOp_step rfl (fun K hK => ?_)
        go_simp
        refine hK _ _ ?_
        exact ⟨upd (upd s 2 (.bool false)) 7 (undef), rfl, Sv.put (Sv.re (j := 2) (v := .bool false) HV.out e2) (fun u hu => by cases hu; rfl), HST.out⟩
       ·have d2 := ready_dep hr (k := 2) (by kernel_rfl)
        clear hr
        have e2 : s 2 = .bool false := HV.out.v d2 rfl
        refine wpOp_step rfl (fun K hK => ?_)
        go_simp
        refine hK _ _ ?_
        exact ⟨upd (upd s 2 (.bool false)) 8 (undef), rfl, Sv.put (Sv.re (j := 2) (v := .bool false) HV.out e2) (fun u hu => by cases hu; rfl), HST.out⟩
       ·have d2 := ready_dep hr (k := 2) (by kernel_rfl)
        clear hr
        have e2 : s 2 = .bool false := HV.out.v d2 rfl
        refine wpOp_step rfl (fun K hK => ?_)
        go_simp
        refine hK _ _ ?_
        exact ⟨upd (upd s 2 (.bool false)) 9 (undef), rfl, Sv.put (Sv.re (j := 2) (v := .bool false) HV.out e2) (fun u hu => by cases hu; rfl), HST.out⟩
       ·have d2 := ready_dep hr (k := 2) (by kernel_rfl)
        clear hr
        have e2 : s 2 = .bool false := HV.out.v d2 rfl
        refine wpOp_step rfl (fun K hK => ?_)
        go_simp
        refine hK _ _ ?_
        exact ⟨upd (upd s 2 (.bool false)) 10 (undef), rfl, Sv.put (Sv.re (j := 2) (v := .bool false) HV.out e2) (fun u hu => by cases hu; rfl), HST.out⟩
       ·have d2 := ready_dep hr (k := 2) (by kernel_rfl)
        clear hr
        have e2 : s 2 = .bool false := HV.out.v d2 rfl
        refine wpOp_step rfl (fun K hK => ?_)
        go_simp
        refine hK _ _ ?_
        exact ⟨upd (upd s 2 (.bool false)) 11 (undef), rfl, Sv.put (Sv.re (j := 2) (v := .bool false) HV.out e2) (fun u hu => by cases hu; rfl), HST.out⟩
       ·have d2 := ready_dep hr (k := 2) (by kernel_rfl)
        clear hr
        have e2 : s 2 = .bool false := HV.out.v d2 rfl
        refine wpOp_step rfl (fun K hK => ?_)
        go_simp
        refine hK _ _ ?_
        exact ⟨upd (upd s 2 (.bool false)) 12 (undef), rfl, Sv.put (Sv.re (j := 2) (v := .bool false) HV.out e2) (fun u hu => by cases hu; rfl), HST.out⟩
       ·have d2 := ready_dep hr (k := 2) (by kernel_rfl)
        clear hr
        have e2 : s 2 = .bool false := HV.out.v d2 rfl
        refine wpOp_step rfl (fun K hK => ?_)
        go_simp
        refine hK _ _ ?_
        exact ⟨upd (upd s 2 (.bool false)) 13 (undef), rfl, Sv.put (Sv.re (j := 2) (v := .bool false) HV.out e2) (fun u hu => by cases hu; rfl), HST.out⟩
       ·have d2 := ready_dep hr (k := 2) (by kernel_rfl)
        have d13 := ready_dep hr (k := 13) (by kernel_rfl)
        clear hr
        have e2 : s 2 = .bool false := HV.out.v d2 rfl
        have e13 : s 13 = undef := HV.out.v d13 rfl
        refine wpOp_step rfl (fun K hK => ?_)
        go_simp
        refine hK _ _ ?_
        exact ⟨upd (upd (upd s 2 (.bool false)) 13 (undef)) 14 (.bool false), rfl, Sv.put (Sv.re (j := 13) (v := undef) (Sv.re (j := 2) (v := .bool false) HV.out e2) e13) (fun u hu => by cases hu; rfl), HST.out⟩
       ·have d14 := ready_dep hr (k := 14) (by kernel_rfl)
        clear hr
        have e14 : s 14 = .bool false := HV.out.v d14 rfl
        refine wpOp_step rfl (fun K hK => ?_)
        go_simp
        refine hK _ _ ?_
        exact ⟨upd (upd s 14 (.bool false)) 15 (.bool false), rfl, Sv.put (Sv.re (j := 14) (v := .bool false) HV.out e14) (fun u hu => by cases hu; rfl), HST.out⟩
       ·have d15 := ready_dep hr (k := 15) (by kernel_rfl)
        clear hr
        have e15 : s 15 = .bool false := HV.out.v d15 rfl
        refine wpOp_step rfl (fun K hK => ?_)
        go_simp
        refine hK _ _ ?_
        exact ⟨upd (upd s 15 (.bool false)) 16 (.pointer (some ⟨wr.heap.size, 4, none⟩)), rfl, Sv.put (Sv.re (j := 15) (v := .bool false) HV.out e15) (fun u hu => by cases hu; rfl), HST.out⟩
       ·have d15 := ready_dep hr (k := 15) (by kernel_rfl)
        have d16 := ready_dep hr (k := 16) (by kernel_rfl)
        clear hr
        have e15 : s 15 = .bool false := HV.out.v d15 rfl
        have e16 : s 16 = .pointer (some ⟨wr.heap.size, 4, none⟩) := HV.out.v d16 rfl
        obtain ⟨q0, q1, q2, q3, q4, q5, q6, q7, q8, hbl⟩ := HST.out
        refine wpOp_step rfl (fun K hK => ?_)
        go_simp
        refine hK _ _ ?_
        exact ⟨upd (upd (upd s 15 (.bool false)) 16 (.pointer (some ⟨wr.heap.size, 4, none⟩))) 17 (.int .i64 1), rfl, Sv.put (Sv.re (j := 16) (v := .pointer (some ⟨wr.heap.size, 4, none⟩)) (Sv.re (j := 15) (v := .bool false) HV.out e15) e16) (fun u hu => by cases hu; rfl), HST.out⟩
       ·have d15 := ready_dep hr (k := 15) (by kernel_rfl)
        have d17 := ready_dep hr (k := 17) (by kernel_rfl)
        clear hr
        have e15 : s 15 = .bool false := HV.out.v d15 rfl
        have e17 : s 17 = .int .i64 1 := HV.out.v d17 rfl
        refine wpOp_step rfl (fun K hK => ?_)
        go_simp
        refine hK _ _ ?_
        exact ⟨upd (upd (upd s 15 (.bool false)) 17 (.int .i64 1)) 18 (.bool false), rfl, Sv.put (Sv.re (j := 17) (v := .int .i64 1) (Sv.re (j := 15) (v := .bool false) HV.out e15) e17) (fun u hu => by cases hu; rfl), HST.out⟩
       ·have d15 := ready_dep hr (k := 15) (by kernel_rfl)
        have d18 := ready_dep hr (k := 18) (by kernel_rfl)
        clear hr
        have e15 : s 15 = .bool false := HV.out.v d15 rfl
        have e18 : s 18 = .bool false := HV.out.v d18 rfl
        refine wpOp_step rfl (fun K hK => ?_)
        go_simp
        refine hK _ _ ?_
        exact ⟨upd (upd (upd s 15 (.bool false)) 18 (.bool false)) 19 (.bool false), rfl, Sv.put (Sv.re (j := 18) (v := .bool false) (Sv.re (j := 15) (v := .bool false) HV.out e15) e18) (fun u hu => by cases hu; rfl), HST.out⟩
       ·have d19 := ready_dep hr (k := 19) (by kernel_rfl)
        clear hr
        have e19 : s 19 = .bool false := HV.out.v d19 rfl
        refine wpOp_step rfl (fun K hK => ?_)
        go_simp
        refine hK _ _ ?_
        exact ⟨upd (upd s 19 (.bool false)) 20 (undef), rfl, Sv.put (Sv.re (j := 19) (v := .bool false) HV.out e19) (fun u hu => by cases hu; rfl), HST.out⟩
       ·have d19 := ready_dep hr (k := 19) (by kernel_rfl)
        clear hr
        have e19 : s 19 = .bool false := HV.out.v d19 rfl
        refine wpOp_step rfl (fun K hK => ?_)
        go_simp
        refine hK _ _ ?_
        exact ⟨upd (upd s 19 (.bool false)) 21 (undef), rfl, Sv.put (Sv.re (j := 19) (v := .bool false) HV.out e19) (fun u hu => by cases hu; rfl), HST.out⟩
       ·have d19 := ready_dep hr (k := 19) (by kernel_rfl)
        clear hr
        have e19 : s 19 = .bool false := HV.out.v d19 rfl
        refine wpOp_step rfl (fun K hK => ?_)
        go_simp
        refine hK _ _ ?_
        exact ⟨upd (upd s 19 (.bool false)) 22 (undef), rfl, Sv.put (Sv.re (j := 19) (v := .bool false) HV.out e19) (fun u hu => by cases hu; rfl), HST.out⟩
       ·have d15 := ready_dep hr (k := 15) (by kernel_rfl)
        have d19 := ready_dep hr (k := 19) (by kernel_rfl)
        have d22 := ready_dep hr (k := 22) (by kernel_rfl)
        clear hr
        have e15 : s 15 = .bool false := HV.out.v d15 rfl
        have e19 : s 19 = .bool false := HV.out.v d19 rfl
        have e22 : s 22 = undef := HV.out.v d22 rfl
        refine wpOp_step rfl (fun K hK => ?_)
        go_simp
        refine hK _ _ ?_
        exact ⟨upd (upd (upd (upd s 15 (.bool false)) 19 (.bool false)) 22 (undef)) 23 (.bool false), rfl, Sv.put (Sv.re (j := 22) (v := undef) (Sv.re (j := 19) (v := .bool false) (Sv.re (j := 15) (v := .bool false) HV.out e15) e19) e22) (fun u hu => by cases hu; rfl), HST.out⟩
       ·have d15 := ready_dep hr (k := 15) (by kernel_rfl)
        have d23 := ready_dep hr (k := 23) (by kernel_rfl)
        clear hr
        have e15 : s 15 = .bool false := HV.out.v d15 rfl
        have e23 : s 23 = .bool false := HV.out.v d23 rfl
        refine wpOp_step rfl (fun K hK => ?_)
        go_simp
        refine hK _ _ ?_
        exact ⟨upd (upd (upd s 15 (.bool false)) 23 (.bool false)) 24 (.bool false), rfl, Sv.put (Sv.re (j := 23) (v := .bool false) (Sv.re (j := 15) (v := .bool false) HV.out e15) e23) (fun u hu => by cases hu; rfl), HST.out⟩
       ·have d24 := ready_dep hr (k := 24) (by kernel_rfl)
        clear hr
        have e24 : s 24 = .bool false := HV.out.v d24 rfl
        refine wpOp_step rfl (fun K hK => ?_)
        go_simp
        refine hK _ _ ?_
        exact ⟨upd (upd s 24 (.bool false)) 25 (.bool false), rfl, Sv.put (Sv.re (j := 24) (v := .bool false) HV.out e24) (fun u hu => by cases hu; rfl), HST.out⟩
       ·have d25 := ready_dep hr (k := 25) (by kernel_rfl)
        clear hr
        have e25 : s 25 = .bool false := HV.out.v d25 rfl
        obtain ⟨q0, q1, q2, q3, q4, q5, q6, q7, q8, hbl⟩ := HST.out
        refine wpOp_step rfl (fun K hK => ?_)
        go_simp
        refine hK _ _ ?_
        exact ⟨upd (upd s 25 (.bool false)) 26 (.agg #[.int .i64 (Wn : Int), .int .i64 (Hn : Int), .slice Am nm cm, .slice (some ⟨bC, oC, none⟩) nc cc]), rfl, Sv.put (Sv.re (j := 25) (v := .bool false) HV.out e25) (fun u hu => by cases hu; rfl), HST.out⟩
       ·have d25 := ready_dep hr (k := 25) (by kernel_rfl)
        clear hr
        have e25 : s 25 = .bool false := HV.out.v d25 rfl
        refine wpOp_step rfl (fun K hK => ?_)
        go_simp
        refine hK _ _ ?_
        exact ⟨upd (upd s 25 (.bool false)) 27 (.pointer (some ⟨wr.heap.size, 0, none⟩)), rfl, Sv.put (Sv.re (j := 25) (v := .bool false) HV.out e25) (fun u hu => by cases hu; rfl), HST.out⟩
       ·have d25 := ready_dep hr (k := 25) (by kernel_rfl)
        have d27 := ready_dep hr (k := 27) (by kernel_rfl)
        clear hr
        have e25 : s 25 = .bool false := HV.out.v d25 rfl
        have e27 : s 27 = .pointer (some ⟨wr.heap.size, 0, none⟩) := HV.out.v d27 rfl
        obtain ⟨q0, q1, q2, q3, q4, q5, q6, q7, q8, hbl⟩ := HST.out
        refine wpOp_step rfl (fun K hK => ?_)
        go_simp
        refine hK _ _ ?_
        exact ⟨upd (upd (upd s 25 (.bool false)) 27 (.pointer (some ⟨wr.heap.size, 0, none⟩))) 28 (.agg #[.int .i64 e.1, .int .i64 e.2.1, .int .i64 e.2.2.1, .int .i64 e.2.2.2]), rfl, Sv.put (Sv.re (j := 27) (v := .pointer (some ⟨wr.heap.size, 0, none⟩)) (Sv.re (j := 25) (v := .bool false) HV.out e25) e27) (fun u hu => by cases hu; rfl), HST.out⟩
       ·have d25 := ready_dep hr (k := 25) (by kernel_rfl)
        have d26 := ready_dep hr (k := 26) (by kernel_rfl)
        have d28 := ready_dep hr (k := 28) (by kernel_rfl)
        clear hr
        have e25 : s 25 = .bool false := HV.out.v d25 rfl
        have e26 : s 26 = .agg #[.int .i64 (Wn : Int), .int .i64 (Hn : Int), .slice Am nm cm, .slice (some ⟨bC, oC, none⟩) nc cc] := HV.out.v d26 rfl
        have e28 : s 28 = .agg #[.int .i64 e.1, .int .i64 e.2.1, .int .i64 e.2.2.1, .int .i64 e.2.2.2] := HV.out.v d28 rfl
        obtain ⟨q0, q1, q2, q3, q4, q5, q6, q7, q8, hbl⟩ := HST.out
        refine wpOp_step rfl (fun K hK => ?_)
        go_simp
        refine (CI2.out _ hbl).mono ?_
        rintro e' wc ⟨he, hbc⟩
        subst he
        refine hK _ _ ?_
        exact ⟨upd (upd (upd (upd s 25 (.bool false)) 26 (.agg #[.int .i64 (Wn : Int), .int .i64 (Hn : Int), .slice Am nm cm, .slice (some ⟨bC, oC, none⟩) nc cc])) 28 (.agg #[.int .i64 e.1, .int .i64 e.2.1, .int .i64 e.2.2.1, .int .i64 e.2.2.2])) 29 (.bool IB), rfl, Sv.put (Sv.re (j := 28) (v := .agg #[.int .i64 e.1, .int .i64 e.2.1, .int .i64 e.2.2.1, .int .i64 e.2.2.2]) (Sv.re (j := 26) (v := .agg #[.int .i64 (Wn : Int), .int .i64 (Hn : Int), .slice Am nm cm, .slice (some ⟨bC, oC, none⟩) nc cc]) (Sv.re (j := 25) (v := .bool false) HV.out e25) e26) e28) (fun u hu => by cases hu; rfl), ⟨stay_c q0 hbc (Nat.le_refl _), stay_c q1 hbc (Nat.le_refl _), stay_c q2 hbc (Nat.le_refl _), stay_c q3 hbc (Nat.le_refl _), stay_c q4 hbc (Nat.le_refl _), stay_c q5 hbc (Nat.le_refl _), stay_c q6 hbc (Nat.le_refl _), stay_c q7 hbc (Nat.le_refl _), stay_c q8 hbc (Nat.le_refl _), stay_b hbl hbc⟩⟩
       ·have d25 := ready_dep hr (k := 25) (by kernel_rfl)
        have d29 := ready_dep hr (k := 29) (by kernel_rfl)
        clear hr
        have e25 : s 25 = .bool false := HV.out.v d25 rfl
        have e29 : s 29 = .bool IB := HV.out.v d29 rfl
        refine wpOp_step rfl (fun K hK => ?_)
        go_simp
        refine hK _ _ ?_
        exact ⟨upd (upd (upd s 25 (.bool false)) 29 (.bool IB)) 30 (.bool (!IB)), rfl, Sv.put (Sv.re (j := 29) (v := .bool IB) (Sv.re (j := 25) (v := .bool false) HV.out e25) e29) (fun u hu => by cases hu; rfl), HST.out⟩
       ·have d25 := ready_dep hr (k := 25) (by kernel_rfl)
        have d30 := ready_dep hr (k := 30) (by kernel_rfl)
        clear hr
        have e25 : s 25 = .bool false := HV.out.v d25 rfl
        have e30 : s 30 = .bool (!IB) := HV.out.v d30 rfl
        refine wpOp_step rfl (fun K hK => ?_)
        go_simp
        refine hK _ _ ?_
        exact ⟨upd (upd (upd s 25 (.bool false)) 30 (.bool (!IB))) 31 (.bool (!IB)), rfl, Sv.put (Sv.re (j := 30) (v := .bool (!IB)) (Sv.re (j := 25) (v := .bool false) HV.out e25) e30) (fun u hu => by cases hu; rfl), HST.out⟩
      ·intro Lq aq WN hI hrd
       obtain ⟨s, ha, hv, hst⟩ := hI
       have hall := all_listedM hrd hv.sz (by kernel_rfl)
       clear hrd
       have e0 : s 0 = (.int .i64 i) := hv.v (hall 0 (by decide)) rfl
       have e1 : s 1 = (.bool false) := hv.v (hall 1 (by decide)) rfl
       have e2 : s 2 = (.bool false) := hv.v (hall 2 (by decide)) rfl
       have e3 : s 3 = (undef) := hv.v (hall 3 (by decide)) rfl
       have e4 : s 4 = (undef) := hv.v (hall 4 (by decide)) rfl
       have e5 : s 5 = (undef) := hv.v (hall 5 (by decide)) rfl
       have e6 : s 6 = (undef) := hv.v (hall 6 (by decide)) rfl
       have e7 : s 7 = (undef) := hv.v (hall 7 (by decide)) rfl
       have e8 : s 8 = (undef) := hv.v (hall 8 (by decide)) rfl
       have e9 : s 9 = (undef) := hv.v (hall 9 (by decide)) rfl
       have e10 : s 10 = (undef) := hv.v (hall 10 (by decide)) rfl
       have e11 : s 11 = (undef) := hv.v (hall 11 (by decide)) rfl
       have e12 : s 12 = (undef) := hv.v (hall 12 (by decide)) rfl
       have e13 : s 13 = (undef) := hv.v (hall 13 (by decide)) rfl
       have e14 : s 14 = (.bool false) := hv.v (hall 14 (by decide)) rfl
       have e15 : s 15 = (.bool false) := hv.v (hall 15 (by decide)) rfl
       have e16 : s 16 = (.pointer (some ⟨wr.heap.size, 4, none⟩)) := hv.v (hall 16 (by decide)) rfl
       have e17 : s 17 = (.int .i64 1) := hv.v (hall 17 (by decide)) rfl
       have e18 : s 18 = (.bool false) := hv.v (hall 18 (by decide)) rfl
       have e19 : s 19 = (.bool false) := hv.v (hall 19 (by decide)) rfl
       have e20 : s 20 = (undef) := hv.v (hall 20 (by decide)) rfl
       have e21 : s 21 = (undef) := hv.v (hall 21 (by decide)) rfl
       have e22 : s 22 = (undef) := hv.v (hall 22 (by decide)) rfl
       have e23 : s 23 = (.bool false) := hv.v (hall 23 (by decide)) rfl
       have e24 : s 24 = (.bool false) := hv.v (hall 24 (by decide)) rfl
       have e25 : s 25 = (.bool false) := hv.v (hall 25 (by decide)) rfl
       have e26 : s 26 = (.agg #[.int .i64 (Wn : Int), .int .i64 (Hn : Int), .slice Am nm cm, .slice (some ⟨bC, oC, none⟩) nc cc]) := hv.v (hall 26 (by decide)) rfl
       have e27 : s 27 = (.pointer (some ⟨wr.heap.size, 0, none⟩)) := hv.v (hall 27 (by decide)) rfl
       have e28 : s 28 = (.agg #[.int .i64 e.1, .int .i64 e.2.1, .int .i64 e.2.2.1, .int .i64 e.2.2.2]) := hv.v (hall 28 (by decide)) rfl
       have e29 : s 29 = (.bool IB) := hv.v (hall 29 (by decide)) rfl
       have e30 : s 30 = (.bool (!IB)) := hv.v (hall 30 (by decide)) rfl
       have e31 : s 31 = (.bool (!IB)) := hv.v (hall 31 (by decide)) rfl
       simp only [e0, e1, e2, e3, e4, e5, e6, e7, e8, e9, e10, e11, e12, e13, e14, e15, e16, e17, e18, e19, e20, e21, e22, e23, e24, e25, e26, e27, e28, e29, e30, e31] at ha
       subst ha
       clear hall hv e0 e1 e2 e3 e4 e5 e6 e7 e8 e9 e10 e11 e12 e13 e14 e15 e16 e17 e18 e19 e20 e21 e22 e23 e24 e25 e26 e27 e28 e29 e30 e31
       obtain ⟨q0, q1, q2, q3, q4, q5, q6, q7, q8, hbl⟩ := hst
       cases IB with
       | false =>
        simp only [Bool.not_false]
        have hkd : creaseB L (prevC cs i) (e, 1) = false := by rw [creaseB_eq]; simp only; rw [← HIB.out, Bool.and_false]
        have HKD := Lib.hid hkd
        clear hkd
        have hbfin := hb0.trans ((HB1.out.trans ((hbw.trans (hbl.mono hbw.size)).mono HB1.out.size)).mono hb0.size)
        have HBF := Lib.hid hbfin
        clear hbfin
        go_wp2
        go_ret
        exact ⟨ret_bool (HNF.out (HF.out HKD.out)).symm, HBF.out⟩
       | true =>
        simp only [Bool.not_true]
        have hkd : creaseB L (prevC cs i) (e, 1) = true := by rw [creaseB_eq]; simp only; rw [← HIB.out, HPV.out]; decide
        have HKD := Lib.hid hkd
        clear hkd
        have hbfin := hbw.trans (hbl.mono hbw.size)
        go_wp2
        go_roundw
        case rel => exact ⟨i + 1, by omega, by go_num, Lib.hid (HST.out HKD.out), hbfin⟩
        case measure => simp [intOf]; omega
     ·by_cases hk2 : kd = 2
      ·subst hk2
       have hkk : ((2:Int) != 1) = true := by decide
       have hkk2 : ((2:Int) != 2) = false := by decide
       clear hk1
       refine wp_region_inv (fun Lq aq WN => ∃ s : Nat → Value, aq = { tmps := #[.agg #[.int .i64 (Wn : Int), .int .i64 (Hn : Int), .slice Am nm cm, .slice (some ⟨bC, oC, none⟩) nc cc], .pointer (some ⟨w.heap.size, 0, none⟩), u2, .int .i64 i, .pointer (some ⟨wr.heap.size, 0, none⟩), .agg #[.int .i64 (Wn : Int), .int .i64 (Hn : Int), .slice Am nm cm, .slice (some ⟨bC, oC, none⟩) nc cc], .bool true, .bool false, .int .i64 i, .pointer (some ⟨w.heap.size, 3, none⟩), .slice (some ⟨bC, oC, none⟩) nc cc, .int .i64 nc, .bool true, u13, u14, .pointer (some ⟨w.heap.size, 3, none⟩), .slice (some ⟨bC, oC, none⟩) nc cc, .int .i64 i, .pointer (some ⟨bC, oC + i * 5, none⟩), .agg #[.int .i64 e.1, .int .i64 e.2.1, .int .i64 e.2.2.1, .int .i64 e.2.2.2, .int .i64 2], (s 0), (s 1), (s 2), (s 3), (s 4), (s 5), (s 6), (s 7), (s 8), (s 9), (s 10), (s 11), (s 12), (s 13), (s 14), (s 15), (s 16), (s 17), (s 18), (s 19), (s 20), (s 21), (s 22), (s 23), (s 24), (s 25), (s 26), (s 27), (s 28), (s 29), (s 30), (s 31), undef, undef], defers := [] } ∧ Sv 32 [some (.int .i64 i), some (.bool false), some (.bool false), some (undef), some (undef), some (undef), some (undef), some (undef), some (undef), some (undef), some (undef), some (undef), some (undef), some (undef), some (.bool false), some (.bool false), some (.pointer (some ⟨wr.heap.size, 4, none⟩)), some (.int .i64 2), some (.bool true), some (.bool true), some (.pointer (some ⟨wr.heap.size, 4, none⟩)), some (.int .i64 2), some (.bool false), some (.bool false), some (.bool false), some (.bool false), some (.agg #[.int .i64 (Wn : Int), .int .i64 (Hn : Int), .slice Am nm cm, .slice (some ⟨bC, oC, none⟩) nc cc]), some (.pointer (some ⟨wr.heap.size, 0, none⟩)), some (.agg #[.int .i64 e.1, .int .i64 e.2.1, .int .i64 e.2.2.1, .int .i64 e.2.2.2]), some (.bool IB), some (.bool (!IB)), some (.bool (!IB))] Lq s ∧ (WN.cell? ⟨w.heap.size, 0, none⟩ = some (.int .i64 (Wn : Int)) ∧ WN.cell? ⟨w.heap.size, 1, none⟩ = some (.int .i64 (Hn : Int)) ∧ WN.cell? ⟨w.heap.size, 2, none⟩ = some (.slice Am nm cm) ∧ WN.cell? ⟨w.heap.size, 3, none⟩ = some (.slice (some ⟨bC, oC, none⟩) nc cc) ∧ WN.cell? ⟨wr.heap.size, 0, none⟩ = some (.int .i64 e.1) ∧ WN.cell? ⟨wr.heap.size, 1, none⟩ = some (.int .i64 e.2.1) ∧ WN.cell? ⟨wr.heap.size, 2, none⟩ = some (.int .i64 e.2.2.1) ∧ WN.cell? ⟨wr.heap.size, 3, none⟩ = some (.int .i64 e.2.2.2) ∧ WN.cell? ⟨wr.heap.size, 4, none⟩ = some (.int .i64 2) ∧ Below w2.heap.size w2 WN)) (by kernel_rfl) ?_ ?_ ?_
       ·exact ⟨listF [u20, u21, u22, u23, u24, u25, u26, u27, u28, u29, u30, u31, u32, u33, u34, u35, u36, u37, u38, u39, u40, u41, u42, u43, u44, u45, u46, u47, u48, u49, u50, u51], rfl, Sv.start 32 _ _, ⟨b0, b1, b2, b3, g0, g1, g2, g3, g4, (Below.refl _ _).drew⟩⟩
       ·intro Lq aq WN i0 hI hr
        obtain ⟨s, rfl, hv, hst⟩ := hI
        have hi0 : i0 < 32 := ready_lt hr
        have HV := Lib.hid hv
        have HST := Lib.hid hst
        clear hv hst
        have hii : i0 = 0 ∨ i0 = 1 ∨ i0 = 2 ∨ i0 = 3 ∨ i0 = 4 ∨ i0 = 5 ∨ i0 = 6 ∨ i0 = 7 ∨ i0 = 8 ∨ i0 = 9 ∨ i0 = 10 ∨ i0 = 11 ∨ i0 = 12 ∨ i0 = 13 ∨ i0 = 14 ∨ i0 = 15 ∨ i0 = 16 ∨ i0 = 17 ∨ i0 = 18 ∨ i0 = 19 ∨ i0 = 20 ∨ i0 = 21 ∨ i0 = 22 ∨ i0 = 23 ∨ i0 = 24 ∨ i0 = 25 ∨ i0 = 26 ∨ i0 = 27 ∨ i0 = 28 ∨ i0 = 29 ∨ i0 = 30 ∨ i0 = 31 := by omega
        clear hi0
        rcases hii with rfl | rfl | rfl | rfl | rfl | rfl | rfl | rfl | rfl | rfl | rfl | rfl | rfl | rfl | rfl | rfl | rfl | rfl | rfl | rfl | rfl | rfl | rfl | rfl | rfl | rfl | rfl | rfl | rfl | rfl | rfl | rfl
        ·clear hr
         refine wpOp_step rfl (fun K hK => ?_)
         go_simp
         refine hK _ _ ?_
         exact ⟨upd s 0 (.int .i64 i), rfl, Sv.put HV.out (fun u hu => by cases hu; rfl), HST.out⟩
        ·have d0 := ready_dep hr (k := 0) (by kernel_rfl)
         clear hr
         have e0 : s 0 = .int .i64 i := HV.out.v d0 rfl
         refine wpOp_step rfl (fun K hK => ?_)
         go_simp
         refine hK _ _ ?_
         exact ⟨upd (upd s 0 (.int .i64 i)) 1 (.bool false), rfl, Sv.put (Sv.re (j := 0) (v := .int .i64 i) HV.out e0) (fun u hu => by cases hu; rfl), HST.out⟩
        ·have d1 := ready_dep hr (k := 1) (by kernel_rfl)
         clear hr
         have e1 : s 1 = .bool false := HV.out.v d1 rfl
         refine wpOp_step rfl (fun K hK => ?_)
         go_simp
         refine hK _ _ ?_
         exact ⟨upd (upd s 1 (.bool false)) 2 (.bool false), rfl, Sv.put (Sv.re (j := 1) (v := .bool false) HV.out e1) (fun u hu => by cases hu; rfl), HST.out⟩
        ·have d2 := ready_dep hr (k := 2) (by kernel_rfl)
         clear hr
         have e2 : s 2 = .bool false := HV.out.v d2 rfl
         refine wpOp_step rfl (fun K hK => ?_)
         go_simp
         refine hK _ _ ?_
         exact ⟨upd (upd s 2 (.bool false)) 3 (undef), rfl, Sv.put (Sv.re (j := 2) (v := .bool false) HV.out e2) (fun u hu => by cases hu; rfl), HST.out⟩
        ·have d2 := ready_dep hr (k := 2) (by kernel_rfl)
         clear hr
         have e2 : s 2 = .bool false := HV.out.v d2 rfl
         refine wpOp_step rfl (fun K hK => ?_)
         go_simp
         refine hK _ _ ?_
         exact ⟨upd (upd s 2 (.bool false)) 4 (undef), rfl, Sv.put (Sv.re (j := 2) (v := .bool false) HV.out e2) (fun u hu => by cases hu; rfl), HST.out⟩
        ·have d2 := ready_dep hr (k := 2) (by kernel_rfl)
         clear hr
         have e2 : s 2 = .bool false := HV.out.v d2 rfl
         refine wpOp_step rfl (fun K hK => ?_)
         go_simp
         refine hK _ _ ?_
         exact ⟨upd (upd s 2 (.bool false)) 5 (undef), rfl, Sv.put (Sv.re (j := 2) (v := .bool false) HV.out e2) (fun u hu => by cases hu; rfl), HST.out⟩
        ·have d2 := ready_dep hr (k := 2) (by kernel_rfl)
         clear hr
         have e2 : s 2 = .bool false := HV.out.v d2 rfl
         refine wpOp_step rfl (fun K hK => ?_)
         go_simp
         refine hK _ _ ?_
         exact ⟨upd (upd s 2 (.bool false)) 6 (undef), rfl, Sv.put (Sv.re (j := 2) (v := .bool false) HV.out e2) (fun u hu => by cases hu; rfl), HST.out⟩
        ·have d2 := ready_dep hr (k := 2) (by kernel_rfl)
         clear hr
         have e2 : s 2 = .bool false := HV.out.v d2 rfl
         refine wpOp_step rfl (fun K hK => ?_)
         go_simp
         refine hK _ _ ?_
         exact ⟨upd (upd s 2 (.bool false)) 7 (undef), rfl, Sv.put (Sv.re (j := 2) (v := .bool false) HV.out e2) (fun u hu => by cases hu; rfl), HST.out⟩
        ·have d2 := ready_dep hr (k := 2) (by kernel_rfl)
         clear hr
         have e2 : s 2 = .bool false := HV.out.v d2 rfl
         refine wpOp_step rfl (fun K hK => ?_)
         go_simp
         refine hK _ _ ?_
         exact ⟨upd (upd s 2 (.bool false)) 8 (undef), rfl, Sv.put (Sv.re (j := 2) (v := .bool false) HV.out e2) (fun u hu => by cases hu; rfl), HST.out⟩
        ·have d2 := ready_dep hr (k := 2) (by kernel_rfl)
         clear hr
         have e2 : s 2 = .bool false := HV.out.v d2 rfl
         refine wpOp_step rfl (fun K hK => ?_)
         go_simp
         refine hK _ _ ?_
         exact ⟨upd (upd s 2 (.bool false)) 9 (undef), rfl, Sv.put (Sv.re (j := 2) (v := .bool false) HV.out e2) (fun u hu => by cases hu; rfl), HST.out⟩
        ·have d2 := ready_dep hr (k := 2) (by kernel_rfl)
         clear hr
         have e2 : s 2 = .bool false := HV.out.v d2 rfl
         refine wpOp_step rfl (fun K hK => ?_)
         go_simp
         refine hK _ _ ?_
         exact ⟨upd (upd s 2 (.bool false)) 10 (undef), rfl, Sv.put (Sv.re (j := 2) (v := .bool false) HV.out e2) (fun u hu => by cases hu; rfl), HST.out⟩
        ·have d2 := ready_dep hr (k := 2) (by kernel_rfl)
         clear hr
         have e2 : s 2 = .bool false := HV.out.v d2 rfl
         refine wpOp_step rfl (fun K hK => ?_)
         go_simp
         refine hK _ _ ?_
         exact ⟨upd (upd s 2 (.bool false)) 11 (undef), rfl, Sv.put (Sv.re (j := 2) (v := .bool false) HV.out e2) (fun u hu => by cases hu; rfl), HST.out⟩
        ·have d2 := ready_dep hr (k := 2) (by kernel_rfl)
         clear hr
         have e2 : s 2 = .bool false := HV.out.v d2 rfl
         refine wpOp_step rfl (fun K hK => ?_)
         go_simp
         refine hK _ _ ?_
         exact ⟨upd (upd s 2 (.bool false)) 12 (undef), rfl, Sv.put (Sv.re (j := 2) (v := .bool false) HV.out e2) (fun u hu => by cases hu; rfl), HST.out⟩
        ·have d2 := ready_dep hr (k := 2) (by kernel_rfl)
         clear hr
         have e2 : s 2 = .bool false := HV.out.v d2 rfl
         refine wpOp_step rfl (fun K hK => ?_)
         go_simp
         refine hK _ _ ?_
         exact ⟨upd (upd s 2 (.bool false)) 13 (undef), rfl, Sv.put (Sv.re (j := 2) (v := .bool false) HV.out e2) (fun u hu => by cases hu; rfl), HST.out⟩
        ·have d2 := ready_dep hr (k := 2) (by kernel_rfl)
         have d13 := ready_dep hr (k := 13) (by kernel_rfl)
         clear hr
         have e2 : s 2 = .bool false := HV.out.v d2 rfl
         have e13 : s 13 = undef := HV.out.v d13 rfl
         refine wpOp_step rfl (fun K hK => ?_)
         go_simp
         refine hK _ _ ?_
         exact ⟨upd (upd (upd s 2 (.bool false)) 13 (undef)) 14 (.bool false), rfl, Sv.put (Sv.re (j := 13) (v := undef) (Sv.re (j := 2) (v := .bool false) HV.out e2) e13) (fun u hu => by cases hu; rfl), HST.out⟩
        ·have d14 := ready_dep hr (k := 14) (by kernel_rfl)
         clear hr
         have e14 : s 14 = .bool false := HV.out.v d14 rfl
         refine wpOp_step rfl (fun K hK => ?_)
         go_simp
         refine hK _ _ ?_
         exact ⟨upd (upd s 14 (.bool false)) 15 (.bool false), rfl, Sv.put (Sv.re (j := 14) (v := .bool false) HV.out e14) (fun u hu => by cases hu; rfl), HST.out⟩
        ·have d15 := ready_dep hr (k := 15) (by kernel_rfl)
         clear hr
         have e15 : s 15 = .bool false := HV.out.v d15 rfl
         refine wpOp_step rfl (fun K hK => ?_)
         go_simp
         refine hK _ _ ?_
         exact ⟨upd (upd s 15 (.bool false)) 16 (.pointer (some ⟨wr.heap.size, 4, none⟩)), rfl, Sv.put (Sv.re (j := 15) (v := .bool false) HV.out e15) (fun u hu => by cases hu; rfl), HST.out⟩
        ·have d15 := ready_dep hr (k := 15) (by kernel_rfl)
         have d16 := ready_dep hr (k := 16) (by kernel_rfl)
         clear hr
         have e15 : s 15 = .bool false := HV.out.v d15 rfl
         have e16 : s 16 = .pointer (some ⟨wr.heap.size, 4, none⟩) := HV.out.v d16 rfl
         obtain ⟨q0, q1, q2, q3, q4, q5, q6, q7, q8, hbl⟩ := HST.out
         refine wpOp_step rfl (fun K hK => ?_)
         go_simp
         refine hK _ _ ?_
         exact ⟨upd (upd (upd s 15 (.bool false)) 16 (.pointer (some ⟨wr.heap.size, 4, none⟩))) 17 (.int .i64 2), rfl, Sv.put (Sv.re (j := 16) (v := .pointer (some ⟨wr.heap.size, 4, none⟩)) (Sv.re (j := 15) (v := .bool false) HV.out e15) e16) (fun u hu => by cases hu; rfl), HST.out⟩
        ·have d15 := ready_dep hr (k := 15) (by kernel_rfl)
         have d17 := ready_dep hr (k := 17) (by kernel_rfl)
         clear hr
         have e15 : s 15 = .bool false := HV.out.v d15 rfl
         have e17 : s 17 = .int .i64 2 := HV.out.v d17 rfl
         refine wpOp_step rfl (fun K hK => ?_)
         go_simp
         refine hK _ _ ?_
         exact ⟨upd (upd (upd s 15 (.bool false)) 17 (.int .i64 2)) 18 (.bool true), rfl, Sv.put (Sv.re (j := 17) (v := .int .i64 2) (Sv.re (j := 15) (v := .bool false) HV.out e15) e17) (fun u hu => by cases hu; rfl), HST.out⟩
        ·have d15 := ready_dep hr (k := 15) (by kernel_rfl)
         have d18 := ready_dep hr (k := 18) (by kernel_rfl)
         clear hr
         have e15 : s 15 = .bool false := HV.out.v d15 rfl
         have e18 : s 18 = .bool true := HV.out.v d18 rfl
         refine wpOp_step rfl (fun K hK => ?_)
         go_simp
         refine hK _ _ ?_
         exact ⟨upd (upd (upd s 15 (.bool false)) 18 (.bool true)) 19 (.bool true), rfl, Sv.put (Sv.re (j := 18) (v := .bool true) (Sv.re (j := 15) (v := .bool false) HV.out e15) e18) (fun u hu => by cases hu; rfl), HST.out⟩
        ·have d19 := ready_dep hr (k := 19) (by kernel_rfl)
         clear hr
         have e19 : s 19 = .bool true := HV.out.v d19 rfl
         refine wpOp_step rfl (fun K hK => ?_)
         go_simp
         refine hK _ _ ?_
         exact ⟨upd (upd s 19 (.bool true)) 20 (.pointer (some ⟨wr.heap.size, 4, none⟩)), rfl, Sv.put (Sv.re (j := 19) (v := .bool true) HV.out e19) (fun u hu => by cases hu; rfl), HST.out⟩
        ·have d19 := ready_dep hr (k := 19) (by kernel_rfl)
         have d20 := ready_dep hr (k := 20) (by kernel_rfl)
         clear hr
         have e19 : s 19 = .bool true := HV.out.v d19 rfl
         have e20 : s 20 = .pointer (some ⟨wr.heap.size, 4, none⟩) := HV.out.v d20 rfl
         obtain ⟨q0, q1, q2, q3, q4, q5, q6, q7, q8, hbl⟩ := HST.out
         refine wpOp_step rfl (fun K hK => ?_)
         go_simp
         refine hK _ _ ?_
         exact ⟨upd (upd (upd s 19 (.bool true)) 20 (.pointer (some ⟨wr.heap.size, 4, none⟩))) 21 (.int .i64 2), rfl, Sv.put (Sv.re (j := 20) (v := .pointer (some ⟨wr.heap.size, 4, none⟩)) (Sv.re (j := 19) (v := .bool true) HV.out e19) e20) (fun u hu => by cases hu; rfl), HST.out⟩
        ·have d19 := ready_dep hr (k := 19) (by kernel_rfl)
         have d21 := ready_dep hr (k := 21) (by kernel_rfl)
         clear hr
         have e19 : s 19 = .bool true := HV.out.v d19 rfl
         have e21 : s 21 = .int .i64 2 := HV.out.v d21 rfl
         refine wpOp_step rfl (fun K hK => ?_)
         go_simp
         refine hK _ _ ?_
         exact ⟨upd (upd (upd s 19 (.bool true)) 21 (.int .i64 2)) 22 (.bool false), rfl, Sv.put (Sv.re (j := 21) (v := .int .i64 2) (Sv.re (j := 19) (v := .bool true) HV.out e19) e21) (fun u hu => by cases hu; rfl), HST.out⟩
        ·have d15 := ready_dep hr (k := 15) (by kernel_rfl)
         have d19 := ready_dep hr (k := 19) (by kernel_rfl)
         have d22 := ready_dep hr (k := 22) (by kernel_rfl)
         clear hr
         have e15 : s 15 = .bool false := HV.out.v d15 rfl
         have e19 : s 19 = .bool true := HV.out.v d19 rfl
         have e22 : s 22 = .bool false := HV.out.v d22 rfl
         refine wpOp_step rfl (fun K hK => ?_)
         go_simp
         refine hK _ _ ?_
         exact ⟨upd (upd (upd (upd s 15 (.bool false)) 19 (.bool true)) 22 (.bool false)) 23 (.bool false), rfl, Sv.put (Sv.re (j := 22) (v := .bool false) (Sv.re (j := 19) (v := .bool true) (Sv.re (j := 15) (v := .bool false) HV.out e15) e19) e22) (fun u hu => by cases hu; rfl), HST.out⟩
        ·have d15 := ready_dep hr (k := 15) (by kernel_rfl)
         have d23 := ready_dep hr (k := 23) (by kernel_rfl)
         clear hr
         have e15 : s 15 = .bool false := HV.out.v d15 rfl
         have e23 : s 23 = .bool false := HV.out.v d23 rfl
         refine wpOp_step rfl (fun K hK => ?_)
         go_simp
         refine hK _ _ ?_
         exact ⟨upd (upd (upd s 15 (.bool false)) 23 (.bool false)) 24 (.bool false), rfl, Sv.put (Sv.re (j := 23) (v := .bool false) (Sv.re (j := 15) (v := .bool false) HV.out e15) e23) (fun u hu => by cases hu; rfl), HST.out⟩
        ·have d24 := ready_dep hr (k := 24) (by kernel_rfl)
         clear hr
         have e24 : s 24 = .bool false := HV.out.v d24 rfl
         refine wpOp_step rfl (fun K hK => ?_)
         go_simp
         refine hK _ _ ?_
         exact ⟨upd (upd s 24 (.bool false)) 25 (.bool false), rfl, Sv.put (Sv.re (j := 24) (v := .bool false) HV.out e24) (fun u hu => by cases hu; rfl), HST.out⟩
        ·have d25 := ready_dep hr (k := 25) (by kernel_rfl)
         clear hr
         have e25 : s 25 = .bool false := HV.out.v d25 rfl
         obtain ⟨q0, q1, q2, q3, q4, q5, q6, q7, q8, hbl⟩ := HST.out
         refine wpOp_step rfl (fun K hK => ?_)
         go_simp
         refine hK _ _ ?_
         exact ⟨upd (upd s 25 (.bool false)) 26 (.agg #[.int .i64 (Wn : Int), .int .i64 (Hn : Int), .slice Am nm cm, .slice (some ⟨bC, oC, none⟩) nc cc]), rfl, Sv.put (Sv.re (j := 25) (v := .bool false) HV.out e25) (fun u hu => by cases hu; rfl), HST.out⟩
        ·have d25 := ready_dep hr (k := 25) (by kernel_rfl)
         clear hr
         have e25 : s 25 = .bool false := HV.out.v d25 rfl
         refine wpOp_step rfl (fun K hK => ?_)
         go_simp
         refine hK _ _ ?_
         exact ⟨upd (upd s 25 (.bool false)) 27 (.pointer (some ⟨wr.heap.size, 0, none⟩)), rfl, Sv.put (Sv.re (j := 25) (v := .bool false) HV.out e25) (fun u hu => by cases hu; rfl), HST.out⟩
        ·have d25 := ready_dep hr (k := 25) (by kernel_rfl)
         have d27 := ready_dep hr (k := 27) (by kernel_rfl)
         clear hr
         have e25 : s 25 = .bool false := HV.out.v d25 rfl
         have e27 : s 27 = .pointer (some ⟨wr.heap.size, 0, none⟩) := HV.out.v d27 rfl
         obtain ⟨q0, q1, q2, q3, q4, q5, q6, q7, q8, hbl⟩ := HST.out
         refine wpOp_step rfl (fun K hK => ?_)
         go_simp
         refine hK _ _ ?_
         exact ⟨upd (upd (upd s 25 (.bool false)) 27 (.pointer (some ⟨wr.heap.size, 0, none⟩))) 28 (.agg #[.int .i64 e.1, .int .i64 e.2.1, .int .i64 e.2.2.1, .int .i64 e.2.2.2]), rfl, Sv.put (Sv.re (j := 27) (v := .pointer (some ⟨wr.heap.size, 0, none⟩)) (Sv.re (j := 25) (v := .bool false) HV.out e25) e27) (fun u hu => by cases hu; rfl), HST.out⟩
        ·have d25 := ready_dep hr (k := 25) (by kernel_rfl)
         have d26 := ready_dep hr (k := 26) (by kernel_rfl)
         have d28 := ready_dep hr (k := 28) (by kernel_rfl)
         clear hr
         have e25 : s 25 = .bool false := HV.out.v d25 rfl
         have e26 : s 26 = .agg #[.int .i64 (Wn : Int), .int .i64 (Hn : Int), .slice Am nm cm, .slice (some ⟨bC, oC, none⟩) nc cc] := HV.out.v d26 rfl
         have e28 : s 28 = .agg #[.int .i64 e.1, .int .i64 e.2.1, .int .i64 e.2.2.1, .int .i64 e.2.2.2] := HV.out.v d28 rfl
         obtain ⟨q0, q1, q2, q3, q4, q5, q6, q7, q8, hbl⟩ := HST.out
         refine wpOp_step rfl (fun K hK => ?_)
         go_simp
         refine (CI2.out _ hbl).mono ?_
         rintro e' wc ⟨he, hbc⟩
         subst he
         refine hK _ _ ?_
         exact ⟨upd (upd (upd (upd s 25 (.bool false)) 26 (.agg #[.int .i64 (Wn : Int), .int .i64 (Hn : Int), .slice Am nm cm, .slice (some ⟨bC, oC, none⟩) nc cc])) 28 (.agg #[.int .i64 e.1, .int .i64 e.2.1, .int .i64 e.2.2.1, .int .i64 e.2.2.2])) 29 (.bool IB), rfl, Sv.put (Sv.re (j := 28) (v := .agg #[.int .i64 e.1, .int .i64 e.2.1, .int .i64 e.2.2.1, .int .i64 e.2.2.2]) (Sv.re (j := 26) (v := .agg #[.int .i64 (Wn : Int), .int .i64 (Hn : Int), .slice Am nm cm, .slice (some ⟨bC, oC, none⟩) nc cc]) (Sv.re (j := 25) (v := .bool false) HV.out e25) e26) e28) (fun u hu => by cases hu; rfl), ⟨stay_c q0 hbc (Nat.le_refl _), stay_c q1 hbc (Nat.le_refl _), stay_c q2 hbc (Nat.le_refl _), stay_c q3 hbc (Nat.le_refl _), stay_c q4 hbc (Nat.le_refl _), stay_c q5 hbc (Nat.le_refl _), stay_c q6 hbc (Nat.le_refl _), stay_c q7 hbc (Nat.le_refl _), stay_c q8 hbc (Nat.le_refl _), stay_b hbl hbc⟩⟩
        ·have d25 := ready_dep hr (k := 25) (by kernel_rfl)
         have d29 := ready_dep hr (k := 29) (by kernel_rfl)
         clear hr
         have e25 : s 25 = .bool false := HV.out.v d25 rfl
         have e29 : s 29 = .bool IB := HV.out.v d29 rfl
         refine wpOp_step rfl (fun K hK => ?_)
         go_simp
         refine hK _ _ ?_
         exact ⟨upd (upd (upd s 25 (.bool false)) 29 (.bool IB)) 30 (.bool (!IB)), rfl, Sv.put (Sv.re (j := 29) (v := .bool IB) (Sv.re (j := 25) (v := .bool false) HV.out e25) e29) (fun u hu => by cases hu; rfl), HST.out⟩
        ·have d25 := ready_dep hr (k := 25) (by kernel_rfl)
         have d30 := ready_dep hr (k := 30) (by kernel_rfl)
         clear hr
         have e25 : s 25 = .bool false := HV.out.v d25 rfl
         have e30 : s 30 = .bool (!IB) := HV.out.v d30 rfl
         refine wpOp_step rfl (fun K hK => ?_)
         go_simp
         refine hK _ _ ?_
         exact ⟨upd (upd (upd s 25 (.bool false)) 30 (.bool (!IB))) 31 (.bool (!IB)), rfl, Sv.put (Sv.re (j := 30) (v := .bool (!IB)) (Sv.re (j := 25) (v := .bool false) HV.out e25) e30) (fun u hu => by cases hu; rfl), HST.out⟩
       ·intro Lq aq WN hI hrd
        obtain ⟨s, ha, hv, hst⟩ := hI
        have hall := all_listedM hrd hv.sz (by kernel_rfl)
        clear hrd
        have e0 : s 0 = (.int .i64 i) := hv.v (hall 0 (by decide)) rfl
        have e1 : s 1 = (.bool false) := hv.v (hall 1 (by decide)) rfl
        have e2 : s 2 = (.bool false) := hv.v (hall 2 (by decide)) rfl
        have e3 : s 3 = (undef) := hv.v (hall 3 (by decide)) rfl
        have e4 : s 4 = (undef) := hv.v (hall 4 (by decide)) rfl
        have e5 : s 5 = (undef) := hv.v (hall 5 (by decide)) rfl
        have e6 : s 6 = (undef) := hv.v (hall 6 (by decide)) rfl
        have e7 : s 7 = (undef) := hv.v (hall 7 (by decide)) rfl
        have e8 : s 8 = (undef) := hv.v (hall 8 (by decide)) rfl
        have e9 : s 9 = (undef) := hv.v (hall 9 (by decide)) rfl
        have e10 : s 10 = (undef) := hv.v (hall 10 (by decide)) rfl
        have e11 : s 11 = (undef) := hv.v (hall 11 (by decide)) rfl
        have e12 : s 12 = (undef) := hv.v (hall 12 (by decide)) rfl
        have e13 : s 13 = (undef) := hv.v (hall 13 (by decide)) rfl
        have e14 : s 14 = (.bool false) := hv.v (hall 14 (by decide)) rfl
        have e15 : s 15 = (.bool false) := hv.v (hall 15 (by decide)) rfl
        have e16 : s 16 = (.pointer (some ⟨wr.heap.size, 4, none⟩)) := hv.v (hall 16 (by decide)) rfl
        have e17 : s 17 = (.int .i64 2) := hv.v (hall 17 (by decide)) rfl
        have e18 : s 18 = (.bool true) := hv.v (hall 18 (by decide)) rfl
        have e19 : s 19 = (.bool true) := hv.v (hall 19 (by decide)) rfl
        have e20 : s 20 = (.pointer (some ⟨wr.heap.size, 4, none⟩)) := hv.v (hall 20 (by decide)) rfl
        have e21 : s 21 = (.int .i64 2) := hv.v (hall 21 (by decide)) rfl
        have e22 : s 22 = (.bool false) := hv.v (hall 22 (by decide)) rfl
        have e23 : s 23 = (.bool false) := hv.v (hall 23 (by decide)) rfl
        have e24 : s 24 = (.bool false) := hv.v (hall 24 (by decide)) rfl
        have e25 : s 25 = (.bool false) := hv.v (hall 25 (by decide)) rfl
        have e26 : s 26 = (.agg #[.int .i64 (Wn : Int), .int .i64 (Hn : Int), .slice Am nm cm, .slice (some ⟨bC, oC, none⟩) nc cc]) := hv.v (hall 26 (by decide)) rfl
        have e27 : s 27 = (.pointer (some ⟨wr.heap.size, 0, none⟩)) := hv.v (hall 27 (by decide)) rfl
        have e28 : s 28 = (.agg #[.int .i64 e.1, .int .i64 e.2.1, .int .i64 e.2.2.1, .int .i64 e.2.2.2]) := hv.v (hall 28 (by decide)) rfl
        have e29 : s 29 = (.bool IB) := hv.v (hall 29 (by decide)) rfl
        have e30 : s 30 = (.bool (!IB)) := hv.v (hall 30 (by decide)) rfl
        have e31 : s 31 = (.bool (!IB)) := hv.v (hall 31 (by decide)) rfl
        simp only [e0, e1, e2, e3, e4, e5, e6, e7, e8, e9, e10, e11, e12, e13, e14, e15, e16, e17, e18, e19, e20, e21, e22, e23, e24, e25, e26, e27, e28, e29, e30, e31] at ha
        subst ha
        clear hall hv e0 e1 e2 e3 e4 e5 e6 e7 e8 e9 e10 e11 e12 e13 e14 e15 e16 e17 e18 e19 e20 e21 e22 e23 e24 e25 e26 e27 e28 e29 e30 e31
        obtain ⟨q0, q1, q2, q3, q4, q5, q6, q7, q8, hbl⟩ := hst
        cases IB with
        | false =>
         simp only [Bool.not_false]
         have hkd : creaseB L (prevC cs i) (e, 2) = false := by rw [creaseB_eq]; simp only; rw [← HIB.out, Bool.and_false]
         have HKD := Lib.hid hkd
         clear hkd
         have hbfin := hb0.trans ((HB1.out.trans ((hbw.trans (hbl.mono hbw.size)).mono HB1.out.size)).mono hb0.size)
         have HBF := Lib.hid hbfin
         clear hbfin
         go_wp2
         go_ret
         exact ⟨ret_bool (HNF.out (HF.out HKD.out)).symm, HBF.out⟩
        | true =>
         simp only [Bool.not_true]
         have hkd : creaseB L (prevC cs i) (e, 2) = true := by rw [creaseB_eq]; simp only; rw [← HIB.out, HPV.out]; decide
         have HKD := Lib.hid hkd
         clear hkd
         have hbfin := hbw.trans (hbl.mono hbw.size)
         go_wp2
         go_roundw
         case rel => exact ⟨i + 1, by omega, by go_num, Lib.hid (HST.out HKD.out), hbfin⟩
         case measure => simp [intOf]; omega
      ·have hkk : (kd != 1) = true := by simpa using hk1
       have hkk2 : (kd != 2) = true := by simpa using hk2
       have hkd : creaseB L (prevC cs i) (e, kd) = false := by rw [creaseB_eq, decide_eq_false (show ¬ (kd = 1 ∨ kd = 2) by omega)]; simp
       have HKD := Lib.hid hkd
       clear hkd hk1 hk2
       refine wp_region_inv (fun Lq aq WN => ∃ s : Nat → Value, aq = { tmps := #[.agg #[.int .i64 (Wn : Int), .int .i64 (Hn : Int), .slice Am nm cm, .slice (some ⟨bC, oC, none⟩) nc cc], .pointer (some ⟨w.heap.size, 0, none⟩), u2, .int .i64 i, .pointer (some ⟨wr.heap.size, 0, none⟩), .agg #[.int .i64 (Wn : Int), .int .i64 (Hn : Int), .slice Am nm cm, .slice (some ⟨bC, oC, none⟩) nc cc], .bool true, .bool false, .int .i64 i, .pointer (some ⟨w.heap.size, 3, none⟩), .slice (some ⟨bC, oC, none⟩) nc cc, .int .i64 nc, .bool true, u13, u14, .pointer (some ⟨w.heap.size, 3, none⟩), .slice (some ⟨bC, oC, none⟩) nc cc, .int .i64 i, .pointer (some ⟨bC, oC + i * 5, none⟩), .agg #[.int .i64 e.1, .int .i64 e.2.1, .int .i64 e.2.2.1, .int .i64 e.2.2.2, .int .i64 kd], (s 0), (s 1), (s 2), (s 3), (s 4), (s 5), (s 6), (s 7), (s 8), (s 9), (s 10), (s 11), (s 12), (s 13), (s 14), (s 15), (s 16), (s 17), (s 18), (s 19), (s 20), (s 21), (s 22), (s 23), (s 24), (s 25), (s 26), (s 27), (s 28), (s 29), (s 30), (s 31), undef, undef], defers := [] } ∧ Sv 32 [some (.int .i64 i), some (.bool false), some (.bool false), some (undef), some (undef), some (undef), some (undef), some (undef), some (undef), some (undef), some (undef), some (undef), some (undef), some (undef), some (.bool false), some (.bool false), some (.pointer (some ⟨wr.heap.size, 4, none⟩)), some (.int .i64 kd), some (.bool true), some (.bool true), some (.pointer (some ⟨wr.heap.size, 4, none⟩)), some (.int .i64 kd), some (.bool true), some (.bool true), some (.bool true), some (.bool true), some (undef), some (undef), some (undef), some (undef), some (undef), some (.bool true)] Lq s ∧ (WN.cell? ⟨w.heap.size, 0, none⟩ = some (.int .i64 (Wn : Int)) ∧ WN.cell? ⟨w.heap.size, 1, none⟩ = some (.int .i64 (Hn : Int)) ∧ WN.cell? ⟨w.heap.size, 2, none⟩ = some (.slice Am nm cm) ∧ WN.cell? ⟨w.heap.size, 3, none⟩ = some (.slice (some ⟨bC, oC, none⟩) nc cc) ∧ WN.cell? ⟨wr.heap.size, 0, none⟩ = some (.int .i64 e.1) ∧ WN.cell? ⟨wr.heap.size, 1, none⟩ = some (.int .i64 e.2.1) ∧ WN.cell? ⟨wr.heap.size, 2, none⟩ = some (.int .i64 e.2.2.1) ∧ WN.cell? ⟨wr.heap.size, 3, none⟩ = some (.int .i64 e.2.2.2) ∧ WN.cell? ⟨wr.heap.size, 4, none⟩ = some (.int .i64 kd) ∧ Below w2.heap.size w2 WN)) (by kernel_rfl) ?_ ?_ ?_
       ·exact ⟨listF [u20, u21, u22, u23, u24, u25, u26, u27, u28, u29, u30, u31, u32, u33, u34, u35, u36, u37, u38, u39, u40, u41, u42, u43, u44, u45, u46, u47, u48, u49, u50, u51], rfl, Sv.start 32 _ _, ⟨b0, b1, b2, b3, g0, g1, g2, g3, g4, (Below.refl _ _).drew⟩⟩
       ·intro Lq aq WN i0 hI hr
        obtain ⟨s, rfl, hv, hst⟩ := hI
        have hi0 : i0 < 32 := ready_lt hr
        have HV := Lib.hid hv
        have HST := Lib.hid hst
        clear hv hst
        have hii : i0 = 0 ∨ i0 = 1 ∨ i0 = 2 ∨ i0 = 3 ∨ i0 = 4 ∨ i0 = 5 ∨ i0 = 6 ∨ i0 = 7 ∨ i0 = 8 ∨ i0 = 9 ∨ i0 = 10 ∨ i0 = 11 ∨ i0 = 12 ∨ i0 = 13 ∨ i0 = 14 ∨ i0 = 15 ∨ i0 = 16 ∨ i0 = 17 ∨ i0 = 18 ∨ i0 = 19 ∨ i0 = 20 ∨ i0 = 21 ∨ i0 = 22 ∨ i0 = 23 ∨ i0 = 24 ∨ i0 = 25 ∨ i0 = 26 ∨ i0 = 27 ∨ i0 = 28 ∨ i0 = 29 ∨ i0 = 30 ∨ i0 = 31 := by omega
        clear hi0
        rcases hii with rfl | rfl | rfl | rfl | rfl | rfl | rfl | rfl | rfl | rfl | rfl | rfl | rfl | rfl | rfl | rfl | rfl | rfl | rfl | rfl | rfl | rfl | rfl | rfl | rfl | rfl | rfl | rfl | rfl | rfl | rfl | rfl
        ·clear hr
         refine wpOp_step rfl (fun K hK => ?_)
         go_simp
         refine hK _ _ ?_
         exact ⟨upd s 0 (.int .i64 i), rfl, Sv.put HV.out (fun u hu => by cases hu; rfl), HST.out⟩
        ·have d0 := ready_dep hr (k := 0) (by kernel_rfl)
         clear hr
         have e0 : s 0 = .int .i64 i := HV.out.v d0 rfl
         refine wpOp_step rfl (fun K hK => ?_)
         go_simp
         refine hK _ _ ?_
         exact ⟨upd (upd s 0 (.int .i64 i)) 1 (.bool false), rfl, Sv.put (Sv.re (j := 0) (v := .int .i64 i) HV.out e0) (fun u hu => by cases hu; rfl), HST.out⟩
        ·have d1 := ready_dep hr (k := 1) (by kernel_rfl)
         clear hr
         have e1 : s 1 = .bool false := HV.out.v d1 rfl
         refine wpOp_step rfl (fun K hK => ?_)
         go_simp
         refine hK _ _ ?_
         exact ⟨upd (upd s 1 (.bool false)) 2 (.bool false), rfl, Sv.put (Sv.re (j := 1) (v := .bool false) HV.out e1) (fun u hu => by cases hu; rfl), HST.out⟩
        ·have d2 := ready_dep hr (k := 2) (by kernel_rfl)
         clear hr
         have e2 : s 2 = .bool false := HV.out.v d2 rfl
         refine wpOp_step rfl (fun K hK => ?_)
         go_simp
         refine hK _ _ ?_
         exact ⟨upd (upd s 2 (.bool false)) 3 (undef), rfl, Sv.put (Sv.re (j := 2) (v := .bool false) HV.out e2) (fun u hu => by cases hu; rfl), HST.out⟩
        ·have d2 := ready_dep hr (k := 2) (by kernel_rfl)
         clear hr
         have e2 : s 2 = .bool false := HV.out.v d2 rfl
         refine wpOp_step rfl (fun K hK => ?_)
         go_simp
         refine hK _ _ ?_
         exact ⟨upd (upd s 2 (.bool false)) 4 (undef), rfl, Sv.put (Sv.re (j := 2) (v := .bool false) HV.out e2) (fun u hu => by cases hu; rfl), HST.out⟩
        ·have d2 := ready_dep hr (k := 2) (by kernel_rfl)
         clear hr
         have e2 : s 2 = .bool false := HV.out.v d2 rfl
         refine wpOp_step rfl (fun K hK => ?_)
         go_simp
         refine hK _ _ ?_
         exact ⟨upd (upd s 2 (.bool false)) 5 (undef), rfl, Sv.put (Sv.re (j := 2) (v := .bool false) HV.out e2) (fun u hu => by cases hu; rfl), HST.out⟩
        ·have d2 := ready_dep hr (k := 2) (by kernel_rfl)
         clear hr
         have e2 : s 2 = .bool false := HV.out.v d2 rfl
         refine wpOp_step rfl (fun K hK => ?_)
         go_simp
         refine hK _ _ ?_
         exact ⟨upd (upd s 2 (.bool false)) 6 (undef), rfl, Sv.put (Sv.re (j := 2) (v := .bool false) HV.out e2) (fun u hu => by cases hu; rfl), HST.out⟩
        ·have d2 := ready_dep hr (k := 2) (by kernel_rfl)
         clear hr
         have e2 : s 2 = .bool false := HV.out.v d2 rfl
         refine wpOp_step rfl (fun K hK => ?_)
         go_simp
         refine hK _ _ ?_
         exact ⟨upd (upd s 2 (.bool false)) 7 (undef), rfl, Sv.put (Sv.re (j := 2) (v := .bool false) HV.out e2) (fun u hu => by cases hu; rfl), HST.out⟩
        ·have d2 := ready_dep hr (k := 2) (by kernel_rfl)
         clear hr
         have e2 : s 2 = .bool false := HV.out.v d2 rfl
         refine wpOp_step rfl (fun K hK => ?_)
         go_simp
         refine hK _ _ ?_
         exact ⟨upd (upd s 2 (.bool false)) 8 (undef), rfl, Sv.put (Sv.re (j := 2) (v := .bool false) HV.out e2) (fun u hu => by cases hu; rfl), HST.out⟩
        ·have d2 := ready_dep hr (k := 2) (by kernel_rfl)
         clear hr
         have e2 : s 2 = .bool false := HV.out.v d2 rfl
         refine wpOp_step rfl (fun K hK => ?_)
         go_simp
         refine hK _ _ ?_
         exact ⟨upd (upd s 2 (.bool false)) 9 (undef), rfl, Sv.put (Sv.re (j := 2) (v := .bool false) HV.out e2) (fun u hu => by cases hu; rfl), HST.out⟩
        ·have d2 := ready_dep hr (k := 2) (by kernel_rfl)
         clear hr
         have e2 : s 2 = .bool false := HV.out.v d2 rfl
         refine wpOp_step rfl (fun K hK => ?_)
         go_simp
         refine hK _ _ ?_
         exact ⟨upd (upd s 2 (.bool false)) 10 (undef), rfl, Sv.put (Sv.re (j := 2) (v := .bool false) HV.out e2) (fun u hu => by cases hu; rfl), HST.out⟩
        ·have d2 := ready_dep hr (k := 2) (by kernel_rfl)
         clear hr
         have e2 : s 2 = .bool false := HV.out.v d2 rfl
         refine wpOp_step rfl (fun K hK => ?_)
         go_simp
         refine hK _ _ ?_
         exact ⟨upd (upd s 2 (.bool false)) 11 (undef), rfl, Sv.put (Sv.re (j := 2) (v := .bool false) HV.out e2) (fun u hu => by cases hu; rfl), HST.out⟩
        ·have d2 := ready_dep hr (k := 2) (by kernel_rfl)
         clear hr
         have e2 : s 2 = .bool false := HV.out.v d2 rfl
         refine wpOp_step rfl (fun K hK => ?_)
         go_simp
         refine hK _ _ ?_
         exact ⟨upd (upd s 2 (.bool false)) 12 (undef), rfl, Sv.put (Sv.re (j := 2) (v := .bool false) HV.out e2) (fun u hu => by cases hu; rfl), HST.out⟩
        ·have d2 := ready_dep hr (k := 2) (by kernel_rfl)
         clear hr
         have e2 : s 2 = .bool false := HV.out.v d2 rfl
         refine wpOp_step rfl (fun K hK => ?_)
         go_simp
         refine hK _ _ ?_
         exact ⟨upd (upd s 2 (.bool false)) 13 (undef), rfl, Sv.put (Sv.re (j := 2) (v := .bool false) HV.out e2) (fun u hu => by cases hu; rfl), HST.out⟩
        ·have d2 := ready_dep hr (k := 2) (by kernel_rfl)
         have d13 := ready_dep hr (k := 13) (by kernel_rfl)
         clear hr
         have e2 : s 2 = .bool false := HV.out.v d2 rfl
         have e13 : s 13 = undef := HV.out.v d13 rfl
         refine wpOp_step rfl (fun K hK => ?_)
         go_simp
         refine hK _ _ ?_
         exact ⟨upd (upd (upd s 2 (.bool false)) 13 (undef)) 14 (.bool false), rfl, Sv.put (Sv.re (j := 13) (v := undef) (Sv.re (j := 2) (v := .bool false) HV.out e2) e13) (fun u hu => by cases hu; rfl), HST.out⟩
        ·have d14 := ready_dep hr (k := 14) (by kernel_rfl)
         clear hr
         have e14 : s 14 = .bool false := HV.out.v d14 rfl
         refine wpOp_step rfl (fun K hK => ?_)
         go_simp
         refine hK _ _ ?_
         exact ⟨upd (upd s 14 (.bool false)) 15 (.bool false), rfl, Sv.put (Sv.re (j := 14) (v := .bool false) HV.out e14) (fun u hu => by cases hu; rfl), HST.out⟩
        ·have d15 := ready_dep hr (k := 15) (by kernel_rfl)
         clear hr
         have e15 : s 15 = .bool false := HV.out.v d15 rfl
         refine wpOp_step rfl (fun K hK => ?_)
         go_simp
         refine hK _ _ ?_
         exact ⟨upd (upd s 15 (.bool false)) 16 (.pointer (some ⟨wr.heap.size, 4, none⟩)), rfl, Sv.put (Sv.re (j := 15) (v := .bool false) HV.out e15) (fun u hu => by cases hu; rfl), HST.out⟩
        ·have d15 := ready_dep hr (k := 15) (by kernel_rfl)
         have d16 := ready_dep hr (k := 16) (by kernel_rfl)
         clear hr
         have e15 : s 15 = .bool false := HV.out.v d15 rfl
         have e16 : s 16 = .pointer (some ⟨wr.heap.size, 4, none⟩) := HV.out.v d16 rfl
         obtain ⟨q0, q1, q2, q3, q4, q5, q6, q7, q8, hbl⟩ := HST.out
         refine wpOp_step rfl (fun K hK => ?_)
         go_simp
         refine hK _ _ ?_
         exact ⟨upd (upd (upd s 15 (.bool false)) 16 (.pointer (some ⟨wr.heap.size, 4, none⟩))) 17 (.int .i64 kd), rfl, Sv.put (Sv.re (j := 16) (v := .pointer (some ⟨wr.heap.size, 4, none⟩)) (Sv.re (j := 15) (v := .bool false) HV.out e15) e16) (fun u hu => by cases hu; rfl), HST.out⟩
        ·have d15 := ready_dep hr (k := 15) (by kernel_rfl)
         have d17 := ready_dep hr (k := 17) (by kernel_rfl)
         clear hr
         have e15 : s 15 = .bool false := HV.out.v d15 rfl
         have e17 : s 17 = .int .i64 kd := HV.out.v d17 rfl
         refine wpOp_step rfl (fun K hK => ?_)
         go_simp
         refine hK _ _ ?_
         exact ⟨upd (upd (upd s 15 (.bool false)) 17 (.int .i64 kd)) 18 (.bool true), rfl, Sv.put (Sv.re (j := 17) (v := .int .i64 kd) (Sv.re (j := 15) (v := .bool false) HV.out e15) e17) (fun u hu => by cases hu; rfl), HST.out⟩
        ·have d15 := ready_dep hr (k := 15) (by kernel_rfl)
         have d18 := ready_dep hr (k := 18) (by kernel_rfl)
         clear hr
         have e15 : s 15 = .bool false := HV.out.v d15 rfl
         have e18 : s 18 = .bool true := HV.out.v d18 rfl
         refine wpOp_step rfl (fun K hK => ?_)
         go_simp
         refine hK _ _ ?_
         exact ⟨upd (upd (upd s 15 (.bool false)) 18 (.bool true)) 19 (.bool true), rfl, Sv.put (Sv.re (j := 18) (v := .bool true) (Sv.re (j := 15) (v := .bool false) HV.out e15) e18) (fun u hu => by cases hu; rfl), HST.out⟩
        ·have d19 := ready_dep hr (k := 19) (by kernel_rfl)
         clear hr
         have e19 : s 19 = .bool true := HV.out.v d19 rfl
         refine wpOp_step rfl (fun K hK => ?_)
         go_simp
         refine hK _ _ ?_
         exact ⟨upd (upd s 19 (.bool true)) 20 (.pointer (some ⟨wr.heap.size, 4, none⟩)), rfl, Sv.put (Sv.re (j := 19) (v := .bool true) HV.out e19) (fun u hu => by cases hu; rfl), HST.out⟩
        ·have d19 := ready_dep hr (k := 19) (by kernel_rfl)
         have d20 := ready_dep hr (k := 20) (by kernel_rfl)
         clear hr
         have e19 : s 19 = .bool true := HV.out.v d19 rfl
         have e20 : s 20 = .pointer (some ⟨wr.heap.size, 4, none⟩) := HV.out.v d20 rfl
         obtain ⟨q0, q1, q2, q3, q4, q5, q6, q7, q8, hbl⟩ := HST.out
         refine wpOp_step rfl (fun K hK => ?_)
         go_simp
         refine hK _ _ ?_
         exact ⟨upd (upd (upd s 19 (.bool true)) 20 (.pointer (some ⟨wr.heap.size, 4, none⟩))) 21 (.int .i64 kd), rfl, Sv.put (Sv.re (j := 20) (v := .pointer (some ⟨wr.heap.size, 4, none⟩)) (Sv.re (j := 19) (v := .bool true) HV.out e19) e20) (fun u hu => by cases hu; rfl), HST.out⟩
        ·have d19 := ready_dep hr (k := 19) (by kernel_rfl)
         have d21 := ready_dep hr (k := 21) (by kernel_rfl)
         clear hr
         have e19 : s 19 = .bool true := HV.out.v d19 rfl
         have e21 : s 21 = .int .i64 kd := HV.out.v d21 rfl
         refine wpOp_step rfl (fun K hK => ?_)
         go_simp
         refine hK _ _ ?_
         exact ⟨upd (upd (upd s 19 (.bool true)) 21 (.int .i64 kd)) 22 (.bool true), rfl, Sv.put (Sv.re (j := 21) (v := .int .i64 kd) (Sv.re (j := 19) (v := .bool true) HV.out e19) e21) (fun u hu => by cases hu; rfl), HST.out⟩
        ·have d15 := ready_dep hr (k := 15) (by kernel_rfl)
         have d19 := ready_dep hr (k := 19) (by kernel_rfl)
         have d22 := ready_dep hr (k := 22) (by kernel_rfl)
         clear hr
         have e15 : s 15 = .bool false := HV.out.v d15 rfl
         have e19 : s 19 = .bool true := HV.out.v d19 rfl
         have e22 : s 22 = .bool true := HV.out.v d22 rfl
         refine wpOp_step rfl (fun K hK => ?_)
         go_simp
         refine hK _ _ ?_
         exact ⟨upd (upd (upd (upd s 15 (.bool false)) 19 (.bool true)) 22 (.bool true)) 23 (.bool true), rfl, Sv.put (Sv.re (j := 22) (v := .bool true) (Sv.re (j := 19) (v := .bool true) (Sv.re (j := 15) (v := .bool false) HV.out e15) e19) e22) (fun u hu => by cases hu; rfl), HST.out⟩
        ·have d15 := ready_dep hr (k := 15) (by kernel_rfl)
         have d23 := ready_dep hr (k := 23) (by kernel_rfl)
         clear hr
         have e15 : s 15 = .bool false := HV.out.v d15 rfl
         have e23 : s 23 = .bool true := HV.out.v d23 rfl
         refine wpOp_step rfl (fun K hK => ?_)
         go_simp
         refine hK _ _ ?_
         exact ⟨upd (upd (upd s 15 (.bool false)) 23 (.bool true)) 24 (.bool true), rfl, Sv.put (Sv.re (j := 23) (v := .bool true) (Sv.re (j := 15) (v := .bool false) HV.out e15) e23) (fun u hu => by cases hu; rfl), HST.out⟩
        ·have d24 := ready_dep hr (k := 24) (by kernel_rfl)
         clear hr
         have e24 : s 24 = .bool true := HV.out.v d24 rfl
         refine wpOp_step rfl (fun K hK => ?_)
         go_simp
         refine hK _ _ ?_
         exact ⟨upd (upd s 24 (.bool true)) 25 (.bool true), rfl, Sv.put (Sv.re (j := 24) (v := .bool true) HV.out e24) (fun u hu => by cases hu; rfl), HST.out⟩
        ·have d25 := ready_dep hr (k := 25) (by kernel_rfl)
         clear hr
         have e25 : s 25 = .bool true := HV.out.v d25 rfl
         refine wpOp_step rfl (fun K hK => ?_)
         go_simp
         refine hK _ _ ?_
         exact ⟨upd (upd s 25 (.bool true)) 26 (undef), rfl, Sv.put (Sv.re (j := 25) (v := .bool true) HV.out e25) (fun u hu => by cases hu; rfl), HST.out⟩
        ·have d25 := ready_dep hr (k := 25) (by kernel_rfl)
         clear hr
         have e25 : s 25 = .bool true := HV.out.v d25 rfl
         refine wpOp_step rfl (fun K hK => ?_)
         go_simp
         refine hK _ _ ?_
         exact ⟨upd (upd s 25 (.bool true)) 27 (undef), rfl, Sv.put (Sv.re (j := 25) (v := .bool true) HV.out e25) (fun u hu => by cases hu; rfl), HST.out⟩
        ·have d25 := ready_dep hr (k := 25) (by kernel_rfl)
         clear hr
         have e25 : s 25 = .bool true := HV.out.v d25 rfl
         refine wpOp_step rfl (fun K hK => ?_)
         go_simp
         refine hK _ _ ?_
         exact ⟨upd (upd s 25 (.bool true)) 28 (undef), rfl, Sv.put (Sv.re (j := 25) (v := .bool true) HV.out e25) (fun u hu => by cases hu; rfl), HST.out⟩
        ·have d25 := ready_dep hr (k := 25) (by kernel_rfl)
         clear hr
         have e25 : s 25 = .bool true := HV.out.v d25 rfl
         refine wpOp_step rfl (fun K hK => ?_)
         go_simp
         refine hK _ _ ?_
         exact ⟨upd (upd s 25 (.bool true)) 29 (undef), rfl, Sv.put (Sv.re (j := 25) (v := .bool true) HV.out e25) (fun u hu => by cases hu; rfl), HST.out⟩
        ·have d25 := ready_dep hr (k := 25) (by kernel_rfl)
         clear hr
         have e25 : s 25 = .bool true := HV.out.v d25 rfl
         refine wpOp_step rfl (fun K hK => ?_)
         go_simp
         refine hK _ _ ?_
         exact ⟨upd (upd s 25 (.bool true)) 30 (undef), rfl, Sv.put (Sv.re (j := 25) (v := .bool true) HV.out e25) (fun u hu => by cases hu; rfl), HST.out⟩
        ·have d25 := ready_dep hr (k := 25) (by kernel_rfl)
         have d30 := ready_dep hr (k := 30) (by kernel_rfl)
         clear hr
         have e25 : s 25 = .bool true := HV.out.v d25 rfl
         have e30 : s 30 = undef := HV.out.v d30 rfl
         refine wpOp_step rfl (fun K hK => ?_)
         go_simp
         refine hK _ _ ?_
         exact ⟨upd (upd (upd s 25 (.bool true)) 30 (undef)) 31 (.bool true), rfl, Sv.put (Sv.re (j := 30) (v := undef) (Sv.re (j := 25) (v := .bool true) HV.out e25) e30) (fun u hu => by cases hu; rfl), HST.out⟩
       ·intro Lq aq WN hI hrd
        obtain ⟨s, ha, hv, hst⟩ := hI
        have hall := all_listedM hrd hv.sz (by kernel_rfl)
        clear hrd
        have e0 : s 0 = (.int .i64 i) := hv.v (hall 0 (by decide)) rfl
        have e1 : s 1 = (.bool false) := hv.v (hall 1 (by decide)) rfl
        have e2 : s 2 = (.bool false) := hv.v (hall 2 (by decide)) rfl
        have e3 : s 3 = (undef) := hv.v (hall 3 (by decide)) rfl
        have e4 : s 4 = (undef) := hv.v (hall 4 (by decide)) rfl
        have e5 : s 5 = (undef) := hv.v (hall 5 (by decide)) rfl
        have e6 : s 6 = (undef) := hv.v (hall 6 (by decide)) rfl
        have e7 : s 7 = (undef) := hv.v (hall 7 (by decide)) rfl
        have e8 : s 8 = (undef) := hv.v (hall 8 (by decide)) rfl
        have e9 : s 9 = (undef) := hv.v (hall 9 (by decide)) rfl
        have e10 : s 10 = (undef) := hv.v (hall 10 (by decide)) rfl
        have e11 : s 11 = (undef) := hv.v (hall 11 (by decide)) rfl
        have e12 : s 12 = (undef) := hv.v (hall 12 (by decide)) rfl
        have e13 : s 13 = (undef) := hv.v (hall 13 (by decide)) rfl
        have e14 : s 14 = (.bool false) := hv.v (hall 14 (by decide)) rfl
        have e15 : s 15 = (.bool false) := hv.v (hall 15 (by decide)) rfl
        have e16 : s 16 = (.pointer (some ⟨wr.heap.size, 4, none⟩)) := hv.v (hall 16 (by decide)) rfl
        have e17 : s 17 = (.int .i64 kd) := hv.v (hall 17 (by decide)) rfl
        have e18 : s 18 = (.bool true) := hv.v (hall 18 (by decide)) rfl
        have e19 : s 19 = (.bool true) := hv.v (hall 19 (by decide)) rfl
        have e20 : s 20 = (.pointer (some ⟨wr.heap.size, 4, none⟩)) := hv.v (hall 20 (by decide)) rfl
        have e21 : s 21 = (.int .i64 kd) := hv.v (hall 21 (by decide)) rfl
        have e22 : s 22 = (.bool true) := hv.v (hall 22 (by decide)) rfl
        have e23 : s 23 = (.bool true) := hv.v (hall 23 (by decide)) rfl
        have e24 : s 24 = (.bool true) := hv.v (hall 24 (by decide)) rfl
        have e25 : s 25 = (.bool true) := hv.v (hall 25 (by decide)) rfl
        have e26 : s 26 = (undef) := hv.v (hall 26 (by decide)) rfl
        have e27 : s 27 = (undef) := hv.v (hall 27 (by decide)) rfl
        have e28 : s 28 = (undef) := hv.v (hall 28 (by decide)) rfl
        have e29 : s 29 = (undef) := hv.v (hall 29 (by decide)) rfl
        have e30 : s 30 = (undef) := hv.v (hall 30 (by decide)) rfl
        have e31 : s 31 = (.bool true) := hv.v (hall 31 (by decide)) rfl
        simp only [e0, e1, e2, e3, e4, e5, e6, e7, e8, e9, e10, e11, e12, e13, e14, e15, e16, e17, e18, e19, e20, e21, e22, e23, e24, e25, e26, e27, e28, e29, e30, e31] at ha
        subst ha
        clear hall hv e0 e1 e2 e3 e4 e5 e6 e7 e8 e9 e10 e11 e12 e13 e14 e15 e16 e17 e18 e19 e20 e21 e22 e23 e24 e25 e26 e27 e28 e29 e30 e31
        obtain ⟨q0, q1, q2, q3, q4, q5, q6, q7, q8, hbl⟩ := hst
        have hbfin := hb0.trans ((HB1.out.trans ((hbw.trans (hbl.mono hbw.size)).mono HB1.out.size)).mono hb0.size)
        have HBF := Lib.hid hbfin
        clear hbfin
        go_wp2
        go_ret
        exact ⟨ret_bool (HNF.out (HF.out HKD.out)).symm, HBF.out⟩
    ·obtain ⟨j, hj⟩ : ∃ j, i = j + 1 := ⟨i - 1, by omega⟩
     obtain ⟨pc, hpc⟩ := hprev j hj
     obtain ⟨pe, pk⟩ := pc
     have hp0 : decide (0 < i) = true := decide_eq_true (by omega)
     have hp1 : decide ((0:Int) < (i : Int)) = true := decide_eq_true (by omega)
     have hsub : IntKind.i64.wrap ((i : Int) - 1) = (j : Int) := by rw [IntWalk.i64_in _ (by omega)]; omega
     have hjn : j < nc := by omega
     have hjn2 : (j : Int) < (nc : Int) := by omega
     have hj0 : (0 : Int) ≤ (j : Int) := by omega
     have hpvc : prevC cs i = some (pe, pk) := by unfold prevC; rw [if_neg hi0, hj, Nat.add_sub_cancel]; exact hpc
     obtain ⟨y0, y1, y2, y3, _⟩ := HC2.out.crease hpc
     simp only at y0 y1 y2 y3
     have cC := fun (w3 : World) => lessEdge_any pe e w3
     obtain ⟨Z, hZ⟩ : ∃ Z, Z = lessE pe e := ⟨_, rfl⟩
     rw [← hZ] at cC
     have CC := Lib.hid cC
     have HPVC := Lib.hid hpvc
     have HZ := Lib.hid hZ
     clear cC hZ hpvc hj hi0 hpc hprev
     cases Z with
     | false =>
      have hkd : creaseB L (prevC cs i) (e, kd) = false := by rw [creaseB_eq, HPVC.out]; simp [prevOk, ← HZ.out]
      have HKD := Lib.hid hkd
      clear hkd
      refine wp_region_inv (fun Lq aq WN => ∃ s : Nat → Value, aq = { tmps := #[.agg #[.int .i64 (Wn : Int), .int .i64 (Hn : Int), .slice Am nm cm, .slice (some ⟨bC, oC, none⟩) nc cc], .pointer (some ⟨w.heap.size, 0, none⟩), u2, .int .i64 i, .pointer (some ⟨wr.heap.size, 0, none⟩), .agg #[.int .i64 (Wn : Int), .int .i64 (Hn : Int), .slice Am nm cm, .slice (some ⟨bC, oC, none⟩) nc cc], .bool true, .bool false, .int .i64 i, .pointer (some ⟨w.heap.size, 3, none⟩), .slice (some ⟨bC, oC, none⟩) nc cc, .int .i64 nc, .bool true, u13, u14, .pointer (some ⟨w.heap.size, 3, none⟩), .slice (some ⟨bC, oC, none⟩) nc cc, .int .i64 i, .pointer (some ⟨bC, oC + i * 5, none⟩), .agg #[.int .i64 e.1, .int .i64 e.2.1, .int .i64 e.2.2.1, .int .i64 e.2.2.2, .int .i64 kd], (s 0), (s 1), (s 2), (s 3), (s 4), (s 5), (s 6), (s 7), (s 8), (s 9), (s 10), (s 11), (s 12), (s 13), (s 14), (s 15), (s 16), (s 17), (s 18), (s 19), (s 20), (s 21), (s 22), (s 23), (s 24), (s 25), (s 26), (s 27), (s 28), (s 29), (s 30), (s 31), undef, undef], defers := [] } ∧ Sv 32 [some (.int .i64 i), some (.bool true), some (.bool true), some (.pointer (some ⟨w.heap.size, 3, none⟩)), some (.slice (some ⟨bC, oC, none⟩) nc cc), some (.int .i64 i), some (.int .i64 j), some (.pointer (some ⟨bC, oC + j * 5, none⟩)), some (.pointer (some ⟨bC, oC + j * 5, none⟩)), some (.agg #[.int .i64 pe.1, .int .i64 pe.2.1, .int .i64 pe.2.2.1, .int .i64 pe.2.2.2]), some (.pointer (some ⟨wr.heap.size, 0, none⟩)), some (.agg #[.int .i64 e.1, .int .i64 e.2.1, .int .i64 e.2.2.1, .int .i64 e.2.2.2]), some (.bool false), some (.bool true), some (.bool true), some (.bool true), some (undef), some (undef), some (undef), some (undef), some (undef), some (undef), some (undef), some (undef), some (.bool true), some (.bool true), some (undef), some (undef), some (undef), some (undef), some (undef), some (.bool true)] Lq s ∧ (WN.cell? ⟨w.heap.size, 0, none⟩ = some (.int .i64 (Wn : Int)) ∧ WN.cell? ⟨w.heap.size, 1, none⟩ = some (.int .i64 (Hn : Int)) ∧ WN.cell? ⟨w.heap.size, 2, none⟩ = some (.slice Am nm cm) ∧ WN.cell? ⟨w.heap.size, 3, none⟩ = some (.slice (some ⟨bC, oC, none⟩) nc cc) ∧ WN.cell? ⟨wr.heap.size, 0, none⟩ = some (.int .i64 e.1) ∧ WN.cell? ⟨wr.heap.size, 1, none⟩ = some (.int .i64 e.2.1) ∧ WN.cell? ⟨wr.heap.size, 2, none⟩ = some (.int .i64 e.2.2.1) ∧ WN.cell? ⟨wr.heap.size, 3, none⟩ = some (.int .i64 e.2.2.2) ∧ WN.cell? ⟨wr.heap.size, 4, none⟩ = some (.int .i64 kd) ∧ WN.cell? ⟨bC, oC + j * 5, none⟩ = some (.int .i64 pe.1) ∧ WN.cell? ⟨bC, oC + j * 5 + 1, none⟩ = some (.int .i64 pe.2.1) ∧ WN.cell? ⟨bC, oC + j * 5 + 2, none⟩ = some (.int .i64 pe.2.2.1) ∧ WN.cell? ⟨bC, oC + j * 5 + 3, none⟩ = some (.int .i64 pe.2.2.2) ∧ Below w2.heap.size w2 WN)) (by kernel_rfl) ?_ ?_ ?_
      ·exact ⟨listF [u20, u21, u22, u23, u24, u25, u26, u27, u28, u29, u30, u31, u32, u33, u34, u35, u36, u37, u38, u39, u40, u41, u42, u43, u44, u45, u46, u47, u48, u49, u50, u51], rfl, Sv.start 32 _ _, ⟨b0, b1, b2, b3, g0, g1, g2, g3, g4, y0, y1, y2, y3, (Below.refl _ _).drew⟩⟩
      ·intro Lq aq WN i0 hI hr
       obtain ⟨s, rfl, hv, hst⟩ := hI
       have hi0 : i0 < 32 := ready_lt hr
       have HV := Lib.hid hv
       have HST := Lib.hid hst
       clear hv hst
       have hii : i0 = 0 ∨ i0 = 1 ∨ i0 = 2 ∨ i0 = 3 ∨ i0 = 4 ∨ i0 = 5 ∨ i0 = 6 ∨ i0 = 7 ∨ i0 = 8 ∨ i0 = 9 ∨ i0 = 10 ∨ i0 = 11 ∨ i0 = 12 ∨ i0 = 13 ∨ i0 = 14 ∨ i0 = 15 ∨ i0 = 16 ∨ i0 = 17 ∨ i0 = 18 ∨ i0 = 19 ∨ i0 = 20 ∨ i0 = 21 ∨ i0 = 22 ∨ i0 = 23 ∨ i0 = 24 ∨ i0 = 25 ∨ i0 = 26 ∨ i0 = 27 ∨ i0 = 28 ∨ i0 = 29 ∨ i0 = 30 ∨ i0 = 31 := by omega
       clear hi0
       rcases hii with rfl | rfl | rfl | rfl | rfl | rfl | rfl | rfl | rfl | rfl | rfl | rfl | rfl | rfl | rfl | rfl | rfl | rfl | rfl | rfl | rfl | rfl | rfl | rfl | rfl | rfl | rfl | rfl | rfl | rfl | rfl | rfl
       ·clear hr
        refine wpOp_step rfl (fun K hK => ?_)
        go_simp
        refine hK _ _ ?_
        exact ⟨upd s 0 (.int .i64 i), rfl, Sv.put HV.out (fun u hu => by cases hu; rfl), HST.out⟩
       ·have d0 := ready_dep hr (k := 0) (by kernel_rfl)
        clear hr
        have e0 : s 0 = .int .i64 i := HV.out.v d0 rfl
        refine wpOp_step rfl (fun K hK => ?_)
        go_simp
        refine hK _ _ ?_
        exact ⟨upd (upd s 0 (.int .i64 i)) 1 (.bool true), rfl, Sv.put (Sv.re (j := 0) (v := .int .i64 i) HV.out e0) (fun u hu => by cases hu; rfl), HST.out⟩
       ·have d1 := ready_dep hr (k := 1) (by kernel_rfl)
        clear hr
        have e1 : s 1 = .bool true := HV.out.v d1 rfl
        refine wpOp_step rfl (fun K hK => ?_)
        go_simp
        refine hK _ _ ?_
        exact ⟨upd (upd s 1 (.bool true)) 2 (.bool true), rfl, Sv.put (Sv.re (j := 1) (v := .bool true) HV.out e1) (fun u hu => by cases hu; rfl), HST.out⟩
       ·have d2 := ready_dep hr (k := 2) (by kernel_rfl)
        clear hr
        have e2 : s 2 = .bool true := HV.out.v d2 rfl
        refine wpOp_step rfl (fun K hK => ?_)
        go_simp
        refine hK _ _ ?_
        exact ⟨upd (upd s 2 (.bool true)) 3 (.pointer (some ⟨w.heap.size, 3, none⟩)), rfl, Sv.put (Sv.re (j := 2) (v := .bool true) HV.out e2) (fun u hu => by cases hu; rfl), HST.out⟩
       ·have d2 := ready_dep hr (k := 2) (by kernel_rfl)
        have d3 := ready_dep hr (k := 3) (by kernel_rfl)
        clear hr
        have e2 : s 2 = .bool true := HV.out.v d2 rfl
        have e3 : s 3 = .pointer (some ⟨w.heap.size, 3, none⟩) := HV.out.v d3 rfl
        obtain ⟨q0, q1, q2, q3, q4, q5, q6, q7, q8, q9, q10, q11, q12, hbl⟩ := HST.out
        refine wpOp_step rfl (fun K hK => ?_)
        go_simp
        refine hK _ _ ?_
        exact ⟨upd (upd (upd s 2 (.bool true)) 3 (.pointer (some ⟨w.heap.size, 3, none⟩))) 4 (.slice (some ⟨bC, oC, none⟩) nc cc), rfl, Sv.put (Sv.re (j := 3) (v := .pointer (some ⟨w.heap.size, 3, none⟩)) (Sv.re (j := 2) (v := .bool true) HV.out e2) e3) (fun u hu => by cases hu; rfl), HST.out⟩
       ·have d2 := ready_dep hr (k := 2) (by kernel_rfl)
        clear hr
        have e2 : s 2 = .bool true := HV.out.v d2 rfl
        refine wpOp_step rfl (fun K hK => ?_)
        go_simp
        refine hK _ _ ?_
        exact ⟨upd (upd s 2 (.bool true)) 5 (.int .i64 i), rfl, Sv.put (Sv.re (j := 2) (v := .bool true) HV.out e2) (fun u hu => by cases hu; rfl), HST.out⟩
       ·have d2 := ready_dep hr (k := 2) (by kernel_rfl)
        have d5 := ready_dep hr (k := 5) (by kernel_rfl)
        clear hr
        have e2 : s 2 = .bool true := HV.out.v d2 rfl
        have e5 : s 5 = .int .i64 i := HV.out.v d5 rfl
        refine wpOp_step rfl (fun K hK => ?_)
        go_simp
        refine hK _ _ ?_
        exact ⟨upd (upd (upd s 2 (.bool true)) 5 (.int .i64 i)) 6 (.int .i64 j), rfl, Sv.put (Sv.re (j := 5) (v := .int .i64 i) (Sv.re (j := 2) (v := .bool true) HV.out e2) e5) (fun u hu => by cases hu; rfl), HST.out⟩
       ·have d2 := ready_dep hr (k := 2) (by kernel_rfl)
        have d4 := ready_dep hr (k := 4) (by kernel_rfl)
        have d6 := ready_dep hr (k := 6) (by kernel_rfl)
        clear hr
        have e2 : s 2 = .bool true := HV.out.v d2 rfl
        have e4 : s 4 = .slice (some ⟨bC, oC, none⟩) nc cc := HV.out.v d4 rfl
        have e6 : s 6 = .int .i64 j := HV.out.v d6 rfl
        refine wpOp_step rfl (fun K hK => ?_)
        go_simp
        refine hK _ _ ?_
        exact ⟨upd (upd (upd (upd s 2 (.bool true)) 4 (.slice (some ⟨bC, oC, none⟩) nc cc)) 6 (.int .i64 j)) 7 (.pointer (some ⟨bC, oC + j * 5, none⟩)), rfl, Sv.put (Sv.re (j := 6) (v := .int .i64 j) (Sv.re (j := 4) (v := .slice (some ⟨bC, oC, none⟩) nc cc) (Sv.re (j := 2) (v := .bool true) HV.out e2) e4) e6) (fun u hu => by cases hu; rfl), HST.out⟩
       ·have d2 := ready_dep hr (k := 2) (by kernel_rfl)
        have d7 := ready_dep hr (k := 7) (by kernel_rfl)
        clear hr
        have e2 : s 2 = .bool true := HV.out.v d2 rfl
        have e7 : s 7 = .pointer (some ⟨bC, oC + j * 5, none⟩) := HV.out.v d7 rfl
        refine wpOp_step rfl (fun K hK => ?_)
        go_simp
        refine hK _ _ ?_
        exact ⟨upd (upd (upd s 2 (.bool true)) 7 (.pointer (some ⟨bC, oC + j * 5, none⟩))) 8 (.pointer (some ⟨bC, oC + j * 5, none⟩)), rfl, Sv.put (Sv.re (j := 7) (v := .pointer (some ⟨bC, oC + j * 5, none⟩)) (Sv.re (j := 2) (v := .bool true) HV.out e2) e7) (fun u hu => by cases hu; rfl), HST.out⟩
       ·have d2 := ready_dep hr (k := 2) (by kernel_rfl)
        have d8 := ready_dep hr (k := 8) (by kernel_rfl)
        clear hr
        have e2 : s 2 = .bool true := HV.out.v d2 rfl
        have e8 : s 8 = .pointer (some ⟨bC, oC + j * 5, none⟩) := HV.out.v d8 rfl
        obtain ⟨q0, q1, q2, q3, q4, q5, q6, q7, q8, q9, q10, q11, q12, hbl⟩ := HST.out
        refine wpOp_step rfl (fun K hK => ?_)
        go_simp
        refine hK _ _ ?_
        exact ⟨upd (upd (upd s 2 (.bool true)) 8 (.pointer (some ⟨bC, oC + j * 5, none⟩))) 9 (.agg #[.int .i64 pe.1, .int .i64 pe.2.1, .int .i64 pe.2.2.1, .int .i64 pe.2.2.2]), rfl, Sv.put (Sv.re (j := 8) (v := .pointer (some ⟨bC, oC + j * 5, none⟩)) (Sv.re (j := 2) (v := .bool true) HV.out e2) e8) (fun u hu => by cases hu; rfl), HST.out⟩
       ·have d2 := ready_dep hr (k := 2) (by kernel_rfl)
        clear hr
        have e2 : s 2 = .bool true := HV.out.v d2 rfl
        refine wpOp_step rfl (fun K hK => ?_)
        go_simp
        refine hK _ _ ?_
        exact ⟨upd (upd s 2 (.bool true)) 10 (.pointer (some ⟨wr.heap.size, 0, none⟩)), rfl, Sv.put (Sv.re (j := 2) (v := .bool true) HV.out e2) (fun u hu => by cases hu; rfl), HST.out⟩
       ·have d2 := ready_dep hr (k := 2) (by kernel_rfl)
        have d10 := ready_dep hr (k := 10) (by kernel_rfl)
        clear hr
        have e2 : s 2 = .bool true := HV.out.v d2 rfl
        have e10 : s 10 = .pointer (some ⟨wr.heap.size, 0, none⟩) := HV.out.v d10 rfl
        obtain ⟨q0, q1, q2, q3, q4, q5, q6, q7, q8, q9, q10, q11, q12, hbl⟩ := HST.out
        refine wpOp_step rfl (fun K hK => ?_)
        go_simp
        refine hK _ _ ?_
        exact ⟨upd (upd (upd s 2 (.bool true)) 10 (.pointer (some ⟨wr.heap.size, 0, none⟩))) 11 (.agg #[.int .i64 e.1, .int .i64 e.2.1, .int .i64 e.2.2.1, .int .i64 e.2.2.2]), rfl, Sv.put (Sv.re (j := 10) (v := .pointer (some ⟨wr.heap.size, 0, none⟩)) (Sv.re (j := 2) (v := .bool true) HV.out e2) e10) (fun u hu => by cases hu; rfl), HST.out⟩
       ·have d2 := ready_dep hr (k := 2) (by kernel_rfl)
        have d9 := ready_dep hr (k := 9) (by kernel_rfl)
        have d11 := ready_dep hr (k := 11) (by kernel_rfl)
        clear hr
        have e2 : s 2 = .bool true := HV.out.v d2 rfl
        have e9 : s 9 = .agg #[.int .i64 pe.1, .int .i64 pe.2.1, .int .i64 pe.2.2.1, .int .i64 pe.2.2.2] := HV.out.v d9 rfl
        have e11 : s 11 = .agg #[.int .i64 e.1, .int .i64 e.2.1, .int .i64 e.2.2.1, .int .i64 e.2.2.2] := HV.out.v d11 rfl
        obtain ⟨q0, q1, q2, q3, q4, q5, q6, q7, q8, q9, q10, q11, q12, hbl⟩ := HST.out
        refine wpOp_step rfl (fun K hK => ?_)
        go_simp
        refine (CC.out _).mono ?_
        rintro e' wc ⟨he, hbc⟩
        subst he
        refine hK _ _ ?_
        exact ⟨upd (upd (upd (upd s 2 (.bool true)) 9 (.agg #[.int .i64 pe.1, .int .i64 pe.2.1, .int .i64 pe.2.2.1, .int .i64 pe.2.2.2])) 11 (.agg #[.int .i64 e.1, .int .i64 e.2.1, .int .i64 e.2.2.1, .int .i64 e.2.2.2])) 12 (.bool false), rfl, Sv.put (Sv.re (j := 11) (v := .agg #[.int .i64 e.1, .int .i64 e.2.1, .int .i64 e.2.2.1, .int .i64 e.2.2.2]) (Sv.re (j := 9) (v := .agg #[.int .i64 pe.1, .int .i64 pe.2.1, .int .i64 pe.2.2.1, .int .i64 pe.2.2.2]) (Sv.re (j := 2) (v := .bool true) HV.out e2) e9) e11) (fun u hu => by cases hu; rfl), ⟨stay_c q0 hbc (Nat.le_refl _), stay_c q1 hbc (Nat.le_refl _), stay_c q2 hbc (Nat.le_refl _), stay_c q3 hbc (Nat.le_refl _), stay_c q4 hbc (Nat.le_refl _), stay_c q5 hbc (Nat.le_refl _), stay_c q6 hbc (Nat.le_refl _), stay_c q7 hbc (Nat.le_refl _), stay_c q8 hbc (Nat.le_refl _), stay_c q9 hbc (Nat.le_refl _), stay_c q10 hbc (Nat.le_refl _), stay_c q11 hbc (Nat.le_refl _), stay_c q12 hbc (Nat.le_refl _), stay_b hbl hbc⟩⟩
       ·have d2 := ready_dep hr (k := 2) (by kernel_rfl)
        have d12 := ready_dep hr (k := 12) (by kernel_rfl)
        clear hr
        have e2 : s 2 = .bool true := HV.out.v d2 rfl
        have e12 : s 12 = .bool false := HV.out.v d12 rfl
        refine wpOp_step rfl (fun K hK => ?_)
        go_simp
        refine hK _ _ ?_
        exact ⟨upd (upd (upd s 2 (.bool true)) 12 (.bool false)) 13 (.bool true), rfl, Sv.put (Sv.re (j := 12) (v := .bool false) (Sv.re (j := 2) (v := .bool true) HV.out e2) e12) (fun u hu => by cases hu; rfl), HST.out⟩
       ·have d2 := ready_dep hr (k := 2) (by kernel_rfl)
        have d13 := ready_dep hr (k := 13) (by kernel_rfl)
        clear hr
        have e2 : s 2 = .bool true := HV.out.v d2 rfl
        have e13 : s 13 = .bool true := HV.out.v d13 rfl
        refine wpOp_step rfl (fun K hK => ?_)
        go_simp
        refine hK _ _ ?_
        exact ⟨upd (upd (upd s 2 (.bool true)) 13 (.bool true)) 14 (.bool true), rfl, Sv.put (Sv.re (j := 13) (v := .bool true) (Sv.re (j := 2) (v := .bool true) HV.out e2) e13) (fun u hu => by cases hu; rfl), HST.out⟩
       ·have d14 := ready_dep hr (k := 14) (by kernel_rfl)
        clear hr
        have e14 : s 14 = .bool true := HV.out.v d14 rfl
        refine wpOp_step rfl (fun K hK => ?_)
        go_simp
        refine hK _ _ ?_
        exact ⟨upd (upd s 14 (.bool true)) 15 (.bool true), rfl, Sv.put (Sv.re (j := 14) (v := .bool true) HV.out e14) (fun u hu => by cases hu; rfl), HST.out⟩
       ·have d15 := ready_dep hr (k := 15) (by kernel_rfl)
        clear hr
        have e15 : s 15 = .bool true := HV.out.v d15 rfl
        refine wpOp_step rfl (fun K hK => ?_)
        go_simp
        refine hK _ _ ?_
        exact ⟨upd (upd s 15 (.bool true)) 16 (undef), rfl, Sv.put (Sv.re (j := 15) (v := .bool true) HV.out e15) (fun u hu => by cases hu; rfl), HST.out⟩
       ·have d15 := ready_dep hr (k := 15) (by kernel_rfl)
        clear hr
        have e15 : s 15 = .bool true := HV.out.v d15 rfl
        refine wpOp_step rfl (fun K hK => ?_)
        go_simp
        refine hK _ _ ?_
        exact ⟨upd (upd s 15 (.bool true)) 17 (undef), rfl, Sv.put (Sv.re (j := 15) (v := .bool true) HV.out e15) (fun u hu => by cases hu; rfl), HST.out⟩
       ·have d15 := ready_dep hr (k := 15) (by kernel_rfl)
        clear hr
        have e15 : s 15 = .bool true := HV.out.v d15 rfl
        refine wpOp_step rfl (fun K hK => ?_)
        go_simp
        refine hK _ _ ?_
        exact ⟨upd (upd s 15 (.bool true)) 18 (undef), rfl, Sv.put (Sv.re (j := 15) (v := .bool true) HV.out e15) (fun u hu => by cases hu; rfl), HST.out⟩
       ·have d15 := ready_dep hr (k := 15) (by kernel_rfl)
        clear hr
        have e15 : s 15 = .bool true := HV.out.v d15 rfl
        refine wpOp_step rfl (fun K hK => ?_)
        go_simp
        refine hK _ _ ?_
        exact ⟨upd (upd s 15 (.bool true)) 19 (undef), rfl, Sv.put (Sv.re (j := 15) (v := .bool true) HV.out e15) (fun u hu => by cases hu; rfl), HST.out⟩
       ·have d19 := ready_dep hr (k := 19) (by kernel_rfl)
        clear hr
        have e19 : s 19 = undef := HV.out.v d19 rfl
        refine wpOp_step rfl (fun K hK => ?_)
        go_simp
        refine hK _ _ ?_
        exact ⟨upd (upd s 19 (undef)) 20 (undef), rfl, Sv.put (Sv.re (j := 19) (v := undef) HV.out e19) (fun u hu => by cases hu; rfl), HST.out⟩
       ·have d19 := ready_dep hr (k := 19) (by kernel_rfl)
        clear hr
        have e19 : s 19 = undef := HV.out.v d19 rfl
        refine wpOp_step rfl (fun K hK => ?_)
        go_simp
        refine hK _ _ ?_
        exact ⟨upd (upd s 19 (undef)) 21 (undef), rfl, Sv.put (Sv.re (j := 19) (v := undef) HV.out e19) (fun u hu => by cases hu; rfl), HST.out⟩
       ·have d19 := ready_dep hr (k := 19) (by kernel_rfl)
        clear hr
        have e19 : s 19 = undef := HV.out.v d19 rfl
        refine wpOp_step rfl (fun K hK => ?_)
        go_simp
        refine hK _ _ ?_
        exact ⟨upd (upd s 19 (undef)) 22 (undef), rfl, Sv.put (Sv.re (j := 19) (v := undef) HV.out e19) (fun u hu => by cases hu; rfl), HST.out⟩
       ·have d15 := ready_dep hr (k := 15) (by kernel_rfl)
        clear hr
        have e15 : s 15 = .bool true := HV.out.v d15 rfl
        refine wpOp_step rfl (fun K hK => ?_)
        go_simp
        refine hK _ _ ?_
        exact ⟨upd (upd s 15 (.bool true)) 23 (undef), rfl, Sv.put (Sv.re (j := 15) (v := .bool true) HV.out e15) (fun u hu => by cases hu; rfl), HST.out⟩
       ·have d15 := ready_dep hr (k := 15) (by kernel_rfl)
        have d23 := ready_dep hr (k := 23) (by kernel_rfl)
        clear hr
        have e15 : s 15 = .bool true := HV.out.v d15 rfl
        have e23 : s 23 = undef := HV.out.v d23 rfl
        refine wpOp_step rfl (fun K hK => ?_)
        go_simp
        refine hK _ _ ?_
        exact ⟨upd (upd (upd s 15 (.bool true)) 23 (undef)) 24 (.bool true), rfl, Sv.put (Sv.re (j := 23) (v := undef) (Sv.re (j := 15) (v := .bool true) HV.out e15) e23) (fun u hu => by cases hu; rfl), HST.out⟩
       ·have d24 := ready_dep hr (k := 24) (by kernel_rfl)
        clear hr
        have e24 : s 24 = .bool true := HV.out.v d24 rfl
        refine wpOp_step rfl (fun K hK => ?_)
        go_simp
        refine hK _ _ ?_
        exact ⟨upd (upd s 24 (.bool true)) 25 (.bool true), rfl, Sv.put (Sv.re (j := 24) (v := .bool true) HV.out e24) (fun u hu => by cases hu; rfl), HST.out⟩
       ·have d25 := ready_dep hr (k := 25) (by kernel_rfl)
        clear hr
        have e25 : s 25 = .bool true := HV.out.v d25 rfl
        refine wpOp_step rfl (fun K hK => ?_)
        go_simp
        refine hK _ _ ?_
        exact ⟨upd (upd s 25 (.bool true)) 26 (undef), rfl, Sv.put (Sv.re (j := 25) (v := .bool true) HV.out e25) (fun u hu => by cases hu; rfl), HST.out⟩
       ·have d25 := ready_dep hr (k := 25) (by kernel_rfl)
        clear hr
        have e25 : s 25 = .bool true := HV.out.v d25 rfl
        refine wpOp_step rfl (fun K hK => ?_)
        go_simp
        refine hK _ _ ?_
        exact ⟨upd (upd s 25 (.bool true)) 27 (undef), rfl, Sv.put (Sv.re (j := 25) (v := .bool true) HV.out e25) (fun u hu => by cases hu; rfl), HST.out⟩
       ·have d25 := ready_dep hr (k := 25) (by kernel_rfl)
        clear hr
        have e25 : s 25 = .bool true := HV.out.v d25 rfl
        refine wpOp_step rfl (fun K hK => ?_)
        go_simp
        refine hK _ _ ?_
        exact ⟨upd (upd s 25 (.bool true)) 28 (undef), rfl, Sv.put (Sv.re (j := 25) (v := .bool true) HV.out e25) (fun u hu => by cases hu; rfl), HST.out⟩
       ·have d25 := ready_dep hr (k := 25) (by kernel_rfl)
        clear hr
        have e25 : s 25 = .bool true := HV.out.v d25 rfl
        refine wpOp_step rfl (fun K hK => ?_)
        go_simp
        refine hK _ _ ?_
        exact ⟨upd (upd s 25 (.bool true)) 29 (undef), rfl, Sv.put (Sv.re (j := 25) (v := .bool true) HV.out e25) (fun u hu => by cases hu; rfl), HST.out⟩
       ·have d25 := ready_dep hr (k := 25) (by kernel_rfl)
        clear hr
        have e25 : s 25 = .bool true := HV.out.v d25 rfl
        refine wpOp_step rfl (fun K hK => ?_)
        go_simp
        refine hK _ _ ?_
        exact ⟨upd (upd s 25 (.bool true)) 30 (undef), rfl, Sv.put (Sv.re (j := 25) (v := .bool true) HV.out e25) (fun u hu => by cases hu; rfl), HST.out⟩
       ·have d25 := ready_dep hr (k := 25) (by kernel_rfl)
        have d30 := ready_dep hr (k := 30) (by kernel_rfl)
        clear hr
        have e25 : s 25 = .bool true := HV.out.v d25 rfl
        have e30 : s 30 = undef := HV.out.v d30 rfl
        refine wpOp_step rfl (fun K hK => ?_)
        go_simp
        refine hK _ _ ?_
        exact ⟨upd (upd (upd s 25 (.bool true)) 30 (undef)) 31 (.bool true), rfl, Sv.put (Sv.re (j := 30) (v := undef) (Sv.re (j := 25) (v := .bool true) HV.out e25) e30) (fun u hu => by cases hu; rfl), HST.out⟩
      ·intro Lq aq WN hI hrd
       obtain ⟨s, ha, hv, hst⟩ := hI
       have hall := all_listedM hrd hv.sz (by kernel_rfl)
       clear hrd
       have e0 : s 0 = (.int .i64 i) := hv.v (hall 0 (by decide)) rfl
       have e1 : s 1 = (.bool true) := hv.v (hall 1 (by decide)) rfl
       have e2 : s 2 = (.bool true) := hv.v (hall 2 (by decide)) rfl
       have e3 : s 3 = (.pointer (some ⟨w.heap.size, 3, none⟩)) := hv.v (hall 3 (by decide)) rfl
       have e4 : s 4 = (.slice (some ⟨bC, oC, none⟩) nc cc) := hv.v (hall 4 (by decide)) rfl
       have e5 : s 5 = (.int .i64 i) := hv.v (hall 5 (by decide)) rfl
       have e6 : s 6 = (.int .i64 j) := hv.v (hall 6 (by decide)) rfl
       have e7 : s 7 = (.pointer (some ⟨bC, oC + j * 5, none⟩)) := hv.v (hall 7 (by decide)) rfl
       have e8 : s 8 = (.pointer (some ⟨bC, oC + j * 5, none⟩)) := hv.v (hall 8 (by decide)) rfl
       have e9 : s 9 = (.agg #[.int .i64 pe.1, .int .i64 pe.2.1, .int .i64 pe.2.2.1, .int .i64 pe.2.2.2]) := hv.v (hall 9 (by decide)) rfl
       have e10 : s 10 = (.pointer (some ⟨wr.heap.size, 0, none⟩)) := hv.v (hall 10 (by decide)) rfl
       have e11 : s 11 = (.agg #[.int .i64 e.1, .int .i64 e.2.1, .int .i64 e.2.2.1, .int .i64 e.2.2.2]) := hv.v (hall 11 (by decide)) rfl
       have e12 : s 12 = (.bool false) := hv.v (hall 12 (by decide)) rfl
       have e13 : s 13 = (.bool true) := hv.v (hall 13 (by decide)) rfl
       have e14 : s 14 = (.bool true) := hv.v (hall 14 (by decide)) rfl
       have e15 : s 15 = (.bool true) := hv.v (hall 15 (by decide)) rfl
       have e16 : s 16 = (undef) := hv.v (hall 16 (by decide)) rfl
       have e17 : s 17 = (undef) := hv.v (hall 17 (by decide)) rfl
       have e18 : s 18 = (undef) := hv.v (hall 18 (by decide)) rfl
       have e19 : s 19 = (undef) := hv.v (hall 19 (by decide)) rfl
       have e20 : s 20 = (undef) := hv.v (hall 20 (by decide)) rfl
       have e21 : s 21 = (undef) := hv.v (hall 21 (by decide)) rfl
       have e22 : s 22 = (undef) := hv.v (hall 22 (by decide)) rfl
       have e23 : s 23 = (undef) := hv.v (hall 23 (by decide)) rfl
       have e24 : s 24 = (.bool true) := hv.v (hall 24 (by decide)) rfl
       have e25 : s 25 = (.bool true) := hv.v (hall 25 (by decide)) rfl
       have e26 : s 26 = (undef) := hv.v (hall 26 (by decide)) rfl
       have e27 : s 27 = (undef) := hv.v (hall 27 (by decide)) rfl
       have e28 : s 28 = (undef) := hv.v (hall 28 (by decide)) rfl
       have e29 : s 29 = (undef) := hv.v (hall 29 (by decide)) rfl
       have e30 : s 30 = (undef) := hv.v (hall 30 (by decide)) rfl
       have e31 : s 31 = (.bool true) := hv.v (hall 31 (by decide)) rfl
       simp only [e0, e1, e2, e3, e4, e5, e6, e7, e8, e9, e10, e11, e12, e13, e14, e15, e16, e17, e18, e19, e20, e21, e22, e23, e24, e25, e26, e27, e28, e29, e30, e31] at ha
       subst ha
       clear hall hv e0 e1 e2 e3 e4 e5 e6 e7 e8 e9 e10 e11 e12 e13 e14 e15 e16 e17 e18 e19 e20 e21 e22 e23 e24 e25 e26 e27 e28 e29 e30 e31
       obtain ⟨q0, q1, q2, q3, q4, q5, q6, q7, q8, q9, q10, q11, q12, hbl⟩ := hst
       have hbfin := hb0.trans ((HB1.out.trans ((hbw.trans (hbl.mono hbw.size)).mono HB1.out.size)).mono hb0.size)
       have HBF := Lib.hid hbfin
       clear hbfin
       go_wp2
       go_ret
       exact ⟨ret_bool (HNF.out (HF.out HKD.out)).symm, HBF.out⟩
     | true =>
      have hpv : prevOk (prevC cs i) e = true := by rw [HPVC.out]; simp [prevOk, ← HZ.out]
      have HPV := Lib.hid hpv
      clear hpv
      by_cases hk1 : kd = 1
      ·subst hk1
       have hkk : ((1:Int) != 1) = false := by decide
       refine wp_region_inv (fun Lq aq WN => ∃ s : Nat → Value, aq = { tmps := #[.agg #[.int .i64 (Wn : Int), .int .i64 (Hn : Int), .slice Am nm cm, .slice (some ⟨bC, oC, none⟩) nc cc], .pointer (some ⟨w.heap.size, 0, none⟩), u2, .int .i64 i, .pointer (some ⟨wr.heap.size, 0, none⟩), .agg #[.int .i64 (Wn : Int), .int .i64 (Hn : Int), .slice Am nm cm, .slice (some ⟨bC, oC, none⟩) nc cc], .bool true, .bool false, .int .i64 i, .pointer (some ⟨w.heap.size, 3, none⟩), .slice (some ⟨bC, oC, none⟩) nc cc, .int .i64 nc, .bool true, u13, u14, .pointer (some ⟨w.heap.size, 3, none⟩), .slice (some ⟨bC, oC, none⟩) nc cc, .int .i64 i, .pointer (some ⟨bC, oC + i * 5, none⟩), .agg #[.int .i64 e.1, .int .i64 e.2.1, .int .i64 e.2.2.1, .int .i64 e.2.2.2, .int .i64 1], (s 0), (s 1), (s 2), (s 3), (s 4), (s 5), (s 6), (s 7), (s 8), (s 9), (s 10), (s 11), (s 12), (s 13), (s 14), (s 15), (s 16), (s 17), (s 18), (s 19), (s 20), (s 21), (s 22), (s 23), (s 24), (s 25), (s 26), (s 27), (s 28), (s 29), (s 30), (s 31), undef, undef], defers := [] } ∧ Sv 32 [some (.int .i64 i), some (.bool true), some (.bool true), some (.pointer (some ⟨w.heap.size, 3, none⟩)), some (.slice (some ⟨bC, oC, none⟩) nc cc), some (.int .i64 i), some (.int .i64 j), some (.pointer (some ⟨bC, oC + j * 5, none⟩)), some (.pointer (some ⟨bC, oC + j * 5, none⟩)), some (.agg #[.int .i64 pe.1, .int .i64 pe.2.1, .int .i64 pe.2.2.1, .int .i64 pe.2.2.2]), some (.pointer (some ⟨wr.heap.size, 0, none⟩)), some (.agg #[.int .i64 e.1, .int .i64 e.2.1, .int .i64 e.2.2.1, .int .i64 e.2.2.2]), some (.bool true), some (.bool false), some (.bool false), some (.bool false), some (.pointer (some ⟨wr.heap.size, 4, none⟩)), some (.int .i64 1), some (.bool false), some (.bool false), some (undef), some (undef), some (undef), some (.bool false), some (.bool false), some (.bool false), some (.agg #[.int .i64 (Wn : Int), .int .i64 (Hn : Int), .slice Am nm cm, .slice (some ⟨bC, oC, none⟩) nc cc]), some (.pointer (some ⟨wr.heap.size, 0, none⟩)), some (.agg #[.int .i64 e.1, .int .i64 e.2.1, .int .i64 e.2.2.1, .int .i64 e.2.2.2]), some (.bool IB), some (.bool (!IB)), some (.bool (!IB))] Lq s ∧ (WN.cell? ⟨w.heap.size, 0, none⟩ = some (.int .i64 (Wn : Int)) ∧ WN.cell? ⟨w.heap.size, 1, none⟩ = some (.int .i64 (Hn : Int)) ∧ WN.cell? ⟨w.heap.size, 2, none⟩ = some (.slice Am nm cm) ∧ WN.cell? ⟨w.heap.size, 3, none⟩ = some (.slice (some ⟨bC, oC, none⟩) nc cc) ∧ WN.cell? ⟨wr.heap.size, 0, none⟩ = some (.int .i64 e.1) ∧ WN.cell? ⟨wr.heap.size, 1, none⟩ = some (.int .i64 e.2.1) ∧ WN.cell? ⟨wr.heap.size, 2, none⟩ = some (.int .i64 e.2.2.1) ∧ WN.cell? ⟨wr.heap.size, 3, none⟩ = some (.int .i64 e.2.2.2) ∧ WN.cell? ⟨wr.heap.size, 4, none⟩ = some (.int .i64 1) ∧ WN.cell? ⟨bC, oC + j * 5, none⟩ = some (.int .i64 pe.1) ∧ WN.cell? ⟨bC, oC + j * 5 + 1, none⟩ = some (.int .i64 pe.2.1) ∧ WN.cell? ⟨bC, oC + j * 5 + 2, none⟩ = some (.int .i64 pe.2.2.1) ∧ WN.cell? ⟨bC, oC + j * 5 + 3, none⟩ = some (.int .i64 pe.2.2.2) ∧ Below w2.heap.size w2 WN)) (by kernel_rfl) ?_ ?_ ?_
       ·exact ⟨listF [u20, u21, u22, u23, u24, u25, u26, u27, u28, u29, u30, u31, u32, u33, u34, u35, u36, u37, u38, u39, u40, u41, u42, u43, u44, u45, u46, u47, u48, u49, u50, u51], rfl, Sv.start 32 _ _, ⟨b0, b1, b2, b3, g0, g1, g2, g3, g4, y0, y1, y2, y3, (Below.refl _ _).drew⟩⟩
       ·intro Lq aq WN i0 hI hr
        obtain ⟨s, rfl, hv, hst⟩ := hI
        have hi0 : i0 < 32 := ready_lt hr
        have HV := Lib.hid hv
        have HST := Lib.hid hst
        clear hv hst
        have hii : i0 = 0 ∨ i0 = 1 ∨ i0 = 2 ∨ i0 = 3 ∨ i0 = 4 ∨ i0 = 5 ∨ i0 = 6 ∨ i0 = 7 ∨ i0 = 8 ∨ i0 = 9 ∨ i0 = 10 ∨ i0 = 11 ∨ i0 = 12 ∨ i0 = 13 ∨ i0 = 14 ∨ i0 = 15 ∨ i0 = 16 ∨ i0 = 17 ∨ i0 = 18 ∨ i0 = 19 ∨ i0 = 20 ∨ i0 = 21 ∨ i0 = 22 ∨ i0 = 23 ∨ i0 = 24 ∨ i0 = 25 ∨ i0 = 26 ∨ i0 = 27 ∨ i0 = 28 ∨ i0 = 29 ∨ i0 = 30 ∨ i0 = 31 := by omega
        clear hi0
        rcases hii with rfl | rfl | rfl | rfl | rfl | rfl | rfl | rfl | rfl | rfl | rfl | rfl | rfl | rfl | rfl | rfl | rfl | rfl | rfl | rfl | rfl | rfl | rfl | rfl | rfl | rfl | rfl | rfl | rfl | rfl | rfl | rfl
        ·clear hr
         refine wpOp_step rfl (fun K hK => ?_)
         go_simp
         refine hK _ _ ?_
         exact ⟨upd s 0 (.int .i64 i), rfl, Sv.put HV.out (fun u hu => by cases hu; rfl), HST.out⟩
        ·have d0 := ready_dep hr (k := 0) (by kernel_rfl)
         clear hr
         have e0 : s 0 = .int .i64 i := HV.out.v d0 rfl
         refine wpOp_step rfl (fun K hK => ?_)
         go_simp
         refine hK _ _ ?_
         exact ⟨upd (upd s 0 (.int .i64 i)) 1 (.bool true), rfl, Sv.put (Sv.re (j := 0) (v := .int .i64 i) HV.out e0) (fun u hu => by cases hu; rfl), HST.out⟩
        ·have d1 := ready_dep hr (k := 1) (by kernel_rfl)
         clear hr
         have e1 : s 1 = .bool true := HV.out.v d1 rfl
         refine wpOp_step rfl (fun K hK => ?_)
         go_simp
         refine hK _ _ ?_
         exact ⟨upd (upd s 1 (.bool true)) 2 (.bool true), rfl, Sv.put (Sv.re (j := 1) (v := .bool true) HV.out e1) (fun u hu => by cases hu; rfl), HST.out⟩
        ·have d2 := ready_dep hr (k := 2) (by kernel_rfl)
         clear hr
         have e2 : s 2 = .bool true := HV.out.v d2 rfl
         refine wpOp_step rfl (fun K hK => ?_)
         go_simp
         refine hK _ _ ?_
         exact ⟨upd (upd s 2 (.bool true)) 3 (.pointer (some ⟨w.heap.size, 3, none⟩)), rfl, Sv.put (Sv.re (j := 2) (v := .bool true) HV.out e2) (fun u hu => by cases hu; rfl), HST.out⟩
        ·have d2 := ready_dep hr (k := 2) (by kernel_rfl)
         have d3 := ready_dep hr (k := 3) (by kernel_rfl)
         clear hr
         have e2 : s 2 = .bool true := HV.out.v d2 rfl
         have e3 : s 3 = .pointer (some ⟨w.heap.size, 3, none⟩) := HV.out.v d3 rfl
         obtain ⟨q0, q1, q2, q3, q4, q5, q6, q7, q8, q9, q10, q11, q12, hbl⟩ := HST.out
         refine wpOp_step rfl (fun K hK => ?_)
         go_simp
         refine hK _ _ ?_
         exact ⟨upd (upd (upd s 2 (.bool true)) 3 (.pointer (some ⟨w.heap.size, 3, none⟩))) 4 (.slice (some ⟨bC, oC, none⟩) nc cc), rfl, Sv.put (Sv.re (j := 3) (v := .pointer (some ⟨w.heap.size, 3, none⟩)) (Sv.re (j := 2) (v := .bool true) HV.out e2) e3) (fun u hu => by cases hu; rfl), HST.out⟩
        ·have d2 := ready_dep hr (k := 2) (by kernel_rfl)
         clear hr
         have e2 : s 2 = .bool true := HV.out.v d2 rfl
         refine wpOp_step rfl (fun K hK => ?_)
         go_simp
         refine hK _ _ ?_
         exact ⟨upd (upd s 2 (.bool true)) 5 (.int .i64 i), rfl, Sv.put (Sv.re (j := 2) (v := .bool true) HV.out e2) (fun u hu => by cases hu; rfl), HST.out⟩
        ·have d2 := ready_dep hr (k := 2) (by kernel_rfl)
         have d5 := ready_dep hr (k := 5) (by kernel_rfl)
         clear hr
         have e2 : s 2 = .bool true := HV.out.v d2 rfl
         have e5 : s 5 = .int .i64 i := HV.out.v d5 rfl
         refine wpOp_step rfl (fun K hK => ?_)
         go_simp
         refine hK _ _ ?_
         exact ⟨upd (upd (upd s 2 (.bool true)) 5 (.int .i64 i)) 6 (.int .i64 j), rfl, Sv.put (Sv.re (j := 5) (v := .int .i64 i) (Sv.re (j := 2) (v := .bool true) HV.out e2) e5) (fun u hu => by cases hu; rfl), HST.out⟩
        ·have d2 := ready_dep hr (k := 2) (by kernel_rfl)
         have d4 := ready_dep hr (k := 4) (by kernel_rfl)
         have d6 := ready_dep hr (k := 6) (by kernel_rfl)
         clear hr
         have e2 : s 2 = .bool true := HV.out.v d2 rfl
         have e4 : s 4 = .slice (some ⟨bC, oC, none⟩) nc cc := HV.out.v d4 rfl
         have e6 : s 6 = .int .i64 j := HV.out.v d6 rfl
         refine wpOp_step rfl (fun K hK => ?_)
         go_simp
         refine hK _ _ ?_
         exact ⟨upd (upd (upd (upd s 2 (.bool true)) 4 (.slice (some ⟨bC, oC, none⟩) nc cc)) 6 (.int .i64 j)) 7 (.pointer (some ⟨bC, oC + j * 5, none⟩)), rfl, Sv.put (Sv.re (j := 6) (v := .int .i64 j) (Sv.re (j := 4) (v := .slice (some ⟨bC, oC, none⟩) nc cc) (Sv.re (j := 2) (v := .bool true) HV.out e2) e4) e6) (fun u hu => by cases hu; rfl), HST.out⟩
        ·have d2 := ready_dep hr (k := 2) (by kernel_rfl)
         have d7 := ready_dep hr (k := 7) (by kernel_rfl)
         clear hr
         have e2 : s 2 = .bool true := HV.out.v d2 rfl
         have e7 : s 7 = .pointer (some ⟨bC, oC + j * 5, none⟩) := HV.out.v d7 rfl
         refine wpOp_step rfl (fun K hK => ?_)
         go_simp
         refine hK _ _ ?_
         exact ⟨upd (upd (upd s 2 (.bool true)) 7 (.pointer (some ⟨bC, oC + j * 5, none⟩))) 8 (.pointer (some ⟨bC, oC + j * 5, none⟩)), rfl, Sv.put (Sv.re (j := 7) (v := .pointer (some ⟨bC, oC + j * 5, none⟩)) (Sv.re (j := 2) (v := .bool true) HV.out e2) e7) (fun u hu => by cases hu; rfl), HST.out⟩
        ·have d2 := ready_dep hr (k := 2) (by kernel_rfl)
         have d8 := ready_dep hr (k := 8) (by kernel_rfl)
         clear hr
         have e2 : s 2 = .bool true := HV.out.v d2 rfl
         have e8 : s 8 = .pointer (some ⟨bC, oC + j * 5, none⟩) := HV.out.v d8 rfl
         obtain ⟨q0, q1, q2, q3, q4, q5, q6, q7, q8, q9, q10, q11, q12, hbl⟩ := HST.out
         refine wpOp_step rfl (fun K hK => ?_)
         go_simp
         refine hK _ _ ?_
         exact ⟨upd (upd (upd s 2 (.bool true)) 8 (.pointer (some ⟨bC, oC + j * 5, none⟩))) 9 (.agg #[.int .i64 pe.1, .int .i64 pe.2.1, .int .i64 pe.2.2.1, .int .i64 pe.2.2.2]), rfl, Sv.put (Sv.re (j := 8) (v := .pointer (some ⟨bC, oC + j * 5, none⟩)) (Sv.re (j := 2) (v := .bool true) HV.out e2) e8) (fun u hu => by cases hu; rfl), HST.out⟩
        ·have d2 := ready_dep hr (k := 2) (by kernel_rfl)
         clear hr
         have e2 : s 2 = .bool true := HV.out.v d2 rfl
         refine wpOp_step rfl (fun K hK => ?_)
         go_simp
         refine hK _ _ ?_
         exact ⟨upd (upd s 2 (.bool true)) 10 (.pointer (some ⟨wr.heap.size, 0, none⟩)), rfl, Sv.put (Sv.re (j := 2) (v := .bool true) HV.out e2) (fun u hu => by cases hu; rfl), HST.out⟩
        ·have d2 := ready_dep hr (k := 2) (by kernel_rfl)
         have d10 := ready_dep hr (k := 10) (by kernel_rfl)
         clear hr
         have e2 : s 2 = .bool true := HV.out.v d2 rfl
         have e10 : s 10 = .pointer (some ⟨wr.heap.size, 0, none⟩) := HV.out.v d10 rfl
         obtain ⟨q0, q1, q2, q3, q4, q5, q6, q7, q8, q9, q10, q11, q12, hbl⟩ := HST.out
         refine wpOp_step rfl (fun K hK => ?_)
         go_simp
         refine hK _ _ ?_
         exact ⟨upd (upd (upd s 2 (.bool true)) 10 (.pointer (some ⟨wr.heap.size, 0, none⟩))) 11 (.agg #[.int .i64 e.1, .int .i64 e.2.1, .int .i64 e.2.2.1, .int .i64 e.2.2.2]), rfl, Sv.put (Sv.re (j := 10) (v := .pointer (some ⟨wr.heap.size, 0, none⟩)) (Sv.re (j := 2) (v := .bool true) HV.out e2) e10) (fun u hu => by cases hu; rfl), HST.out⟩
        ·have d2 := ready_dep hr (k := 2) (by kernel_rfl)
         have d9 := ready_dep hr (k := 9) (by kernel_rfl)
         have d11 := ready_dep hr (k := 11) (by kernel_rfl)
         clear hr
         have e2 : s 2 = .bool true := HV.out.v d2 rfl
         have e9 : s 9 = .agg #[.int .i64 pe.1, .int .i64 pe.2.1, .int .i64 pe.2.2.1, .int .i64 pe.2.2.2] := HV.out.v d9 rfl
         have e11 : s 11 = .agg #[.int .i64 e.1, .int .i64 e.2.1, .int .i64 e.2.2.1, .int .i64 e.2.2.2] := HV.out.v d11 rfl
         obtain ⟨q0, q1, q2, q3, q4, q5, q6, q7, q8, q9, q10, q11, q12, hbl⟩ := HST.out
         refine wpOp_step rfl (fun K hK => ?_)
         go_simp
         refine (CC.out _).mono ?_
         rintro e' wc ⟨he, hbc⟩
         subst he
         refine hK _ _ ?_
         exact ⟨upd (upd (upd (upd s 2 (.bool true)) 9 (.agg #[.int .i64 pe.1, .int .i64 pe.2.1, .int .i64 pe.2.2.1, .int .i64 pe.2.2.2])) 11 (.agg #[.int .i64 e.1, .int .i64 e.2.1, .int .i64 e.2.2.1, .int .i64 e.2.2.2])) 12 (.bool true), rfl, Sv.put (Sv.re (j := 11) (v := .agg #[.int .i64 e.1, .int .i64 e.2.1, .int .i64 e.2.2.1, .int .i64 e.2.2.2]) (Sv.re (j := 9) (v := .agg #[.int .i64 pe.1, .int .i64 pe.2.1, .int .i64 pe.2.2.1, .int .i64 pe.2.2.2]) (Sv.re (j := 2) (v := .bool true) HV.out e2) e9) e11) (fun u hu => by cases hu; rfl), ⟨stay_c q0 hbc (Nat.le_refl _), stay_c q1 hbc (Nat.le_refl _), stay_c q2 hbc (Nat.le_refl _), stay_c q3 hbc (Nat.le_refl _), stay_c q4 hbc (Nat.le_refl _), stay_c q5 hbc (Nat.le_refl _), stay_c q6 hbc (Nat.le_refl _), stay_c q7 hbc (Nat.le_refl _), stay_c q8 hbc (Nat.le_refl _), stay_c q9 hbc (Nat.le_refl _), stay_c q10 hbc (Nat.le_refl _), stay_c q11 hbc (Nat.le_refl _), stay_c q12 hbc (Nat.le_refl _), stay_b hbl hbc⟩⟩
        ·have d2 := ready_dep hr (k := 2) (by kernel_rfl)
         have d12 := ready_dep hr (k := 12) (by kernel_rfl)
         clear hr
         have e2 : s 2 = .bool true := HV.out.v d2 rfl
         have e12 : s 12 = .bool true := HV.out.v d12 rfl
         refine wpOp_step rfl (fun K hK => ?_)
         go_simp
         refine hK _ _ ?_
         exact ⟨upd (upd (upd s 2 (.bool true)) 12 (.bool true)) 13 (.bool false), rfl, Sv.put (Sv.re (j := 12) (v := .bool true) (Sv.re (j := 2) (v := .bool true) HV.out e2) e12) (fun u hu => by cases hu; rfl), HST.out⟩
        ·have d2 := ready_dep hr (k := 2) (by kernel_rfl)
         have d13 := ready_dep hr (k := 13) (by kernel_rfl)
         clear hr
         have e2 : s 2 = .bool true := HV.out.v d2 rfl
         have e13 : s 13 = .bool false := HV.out.v d13 rfl
         refine wpOp_step rfl (fun K hK => ?_)
         go_simp
         refine hK _ _ ?_
         exact ⟨upd (upd (upd s 2 (.bool true)) 13 (.bool false)) 14 (.bool false), rfl, Sv.put (Sv.re (j := 13) (v := .bool false) (Sv.re (j := 2) (v := .bool true) HV.out e2) e13) (fun u hu => by cases hu; rfl), HST.out⟩
        ·have d14 := ready_dep hr (k := 14) (by kernel_rfl)
         clear hr
         have e14 : s 14 = .bool false := HV.out.v d14 rfl
         refine wpOp_step rfl (fun K hK => ?_)
         go_simp
         refine hK _ _ ?_
         exact ⟨upd (upd s 14 (.bool false)) 15 (.bool false), rfl, Sv.put (Sv.re (j := 14) (v := .bool false) HV.out e14) (fun u hu => by cases hu; rfl), HST.out⟩
        ·have d15 := ready_dep hr (k := 15) (by kernel_rfl)
         clear hr
         have e15 : s 15 = .bool false := HV.out.v d15 rfl
         refine wpOp_step rfl (fun K hK => ?_)
         go_simp
         refine hK _ _ ?_
         exact ⟨upd (upd s 15 (.bool false)) 16 (.pointer (some ⟨wr.heap.size, 4, none⟩)), rfl, Sv.put (Sv.re (j := 15) (v := .bool false) HV.out e15) (fun u hu => by cases hu; rfl), HST.out⟩
        ·have d15 := ready_dep hr (k := 15) (by kernel_rfl)
         have d16 := ready_dep hr (k := 16) (by kernel_rfl)
         clear hr
         have e15 : s 15 = .bool false := HV.out.v d15 rfl
         have e16 : s 16 = .pointer (some ⟨wr.heap.size, 4, none⟩) := HV.out.v d16 rfl
         obtain ⟨q0, q1, q2, q3, q4, q5, q6, q7, q8, q9, q10, q11, q12, hbl⟩ := HST.out
         refine wpOp_step rfl (fun K hK => ?_)
         go_simp
         refine hK _ _ ?_
         exact ⟨upd (upd (upd s 15 (.bool false)) 16 (.pointer (some ⟨wr.heap.size, 4, none⟩))) 17 (.int .i64 1), rfl, Sv.put (Sv.re (j := 16) (v := .pointer (some ⟨wr.heap.size, 4, none⟩)) (Sv.re (j := 15) (v := .bool false) HV.out e15) e16) (fun u hu => by cases hu; rfl), HST.out⟩
        ·have d15 := ready_dep hr (k := 15) (by kernel_rfl)
         have d17 := ready_dep hr (k := 17) (by kernel_rfl)
         clear hr
         have e15 : s 15 = .bool false := HV.out.v d15 rfl
         have e17 : s 17 = .int .i64 1 := HV.out.v d17 rfl
         refine wpOp_step rfl (fun K hK => ?_)
         go_simp
         refine hK _ _ ?_
         exact ⟨upd (upd (upd s 15 (.bool false)) 17 (.int .i64 1)) 18 (.bool false), rfl, Sv.put (Sv.re (j := 17) (v := .int .i64 1) (Sv.re (j := 15) (v := .bool false) HV.out e15) e17) (fun u hu => by cases hu; rfl), HST.out⟩
        ·have d15 := ready_dep hr (k := 15) (by kernel_rfl)
         have d18 := ready_dep hr (k := 18) (by kernel_rfl)
         clear hr
         have e15 : s 15 = .bool false := HV.out.v d15 rfl
         have e18 : s 18 = .bool false := HV.out.v d18 rfl
         refine wpOp_step rfl (fun K hK => ?_)
         go_simp
         refine hK _ _ ?_
         exact ⟨upd (upd (upd s 15 (.bool false)) 18 (.bool false)) 19 (.bool false), rfl, Sv.put (Sv.re (j := 18) (v := .bool false) (Sv.re (j := 15) (v := .bool false) HV.out e15) e18) (fun u hu => by cases hu; rfl), HST.out⟩
        ·have d19 := ready_dep hr (k := 19) (by kernel_rfl)
         clear hr
         have e19 : s 19 = .bool false := HV.out.v d19 rfl
         refine wpOp_step rfl (fun K hK => ?_)
         go_simp
         refine hK _ _ ?_
         exact ⟨upd (upd s 19 (.bool false)) 20 (undef), rfl, Sv.put (Sv.re (j := 19) (v := .bool false) HV.out e19) (fun u hu => by cases hu; rfl), HST.out⟩
        ·have d19 := ready_dep hr (k := 19) (by kernel_rfl)
         clear hr
         have e19 : s 19 = .bool false := HV.out.v d19 rfl
         refine wpOp_step rfl (fun K hK => ?_)
         go_simp
         refine hK _ _ ?_
         exact ⟨upd (upd s 19 (.bool false)) 21 (undef), rfl, Sv.put (Sv.re (j := 19) (v := .bool false) HV.out e19) (fun u hu => by cases hu; rfl), HST.out⟩
        ·have d19 := ready_dep hr (k := 19) (by kernel_rfl)
         clear hr
         have e19 : s 19 = .bool false := HV.out.v d19 rfl
         refine wpOp_step rfl (fun K hK => ?_)
         go_simp
         refine hK _ _ ?_
         exact ⟨upd (upd s 19 (.bool false)) 22 (undef), rfl, Sv.put (Sv.re (j := 19) (v := .bool false) HV.out e19) (fun u hu => by cases hu; rfl), HST.out⟩
        ·have d15 := ready_dep hr (k := 15) (by kernel_rfl)
         have d19 := ready_dep hr (k := 19) (by kernel_rfl)
         have d22 := ready_dep hr (k := 22) (by kernel_rfl)
         clear hr
         have e15 : s 15 = .bool false := HV.out.v d15 rfl
         have e19 : s 19 = .bool false := HV.out.v d19 rfl
         have e22 : s 22 = undef := HV.out.v d22 rfl
         refine wpOp_step rfl (fun K hK => ?_)
         go_simp
         refine hK _ _ ?_
         exact ⟨upd (upd (upd (upd s 15 (.bool false)) 19 (.bool false)) 22 (undef)) 23 (.bool false), rfl, Sv.put (Sv.re (j := 22) (v := undef) (Sv.re (j := 19) (v := .bool false) (Sv.re (j := 15) (v := .bool false) HV.out e15) e19) e22) (fun u hu => by cases hu; rfl), HST.out⟩
        ·have d15 := ready_dep hr (k := 15) (by kernel_rfl)
         have d23 := ready_dep hr (k := 23) (by kernel_rfl)
         clear hr
         have e15 : s 15 = .bool false := HV.out.v d15 rfl
         have e23 : s 23 = .bool false := HV.out.v d23 rfl
         refine wpOp_step rfl (fun K hK => ?_)
         go_simp
         refine hK _ _ ?_
         exact ⟨upd (upd (upd s 15 (.bool false)) 23 (.bool false)) 24 (.bool false), rfl, Sv.put (Sv.re (j := 23) (v := .bool false) (Sv.re (j := 15) (v := .bool false) HV.out e15) e23) (fun u hu => by cases hu; rfl), HST.out⟩
        ·have d24 := ready_dep hr (k := 24) (by kernel_rfl)
         clear hr
         have e24 : s 24 = .bool false := HV.out.v d24 rfl
         refine wpOp_step rfl (fun K hK => ?_)
         go_simp
         refine hK _ _ ?_
         exact ⟨upd (upd s 24 (.bool false)) 25 (.bool false), rfl, Sv.put (Sv.re (j := 24) (v := .bool false) HV.out e24) (fun u hu => by cases hu; rfl), HST.out⟩
        ·have d25 := ready_dep hr (k := 25) (by kernel_rfl)
         clear hr
         have e25 : s 25 = .bool false := HV.out.v d25 rfl
         obtain ⟨q0, q1, q2, q3, q4, q5, q6, q7, q8, q9, q10, q11, q12, hbl⟩ := HST.out
         refine wpOp_step rfl (fun K hK => ?_)
         go_simp
         refine hK _ _ ?_
         exact ⟨upd (upd s 25 (.bool false)) 26 (.agg #[.int .i64 (Wn : Int), .int .i64 (Hn : Int), .slice Am nm cm, .slice (some ⟨bC, oC, none⟩) nc cc]), rfl, Sv.put (Sv.re (j := 25) (v := .bool false) HV.out e25) (fun u hu => by cases hu; rfl), HST.out⟩
        ·have d25 := ready_dep hr (k := 25) (by kernel_rfl)
         clear hr
         have e25 : s 25 = .bool false := HV.out.v d25 rfl
         refine wpOp_step rfl (fun K hK => ?_)
         go_simp
         refine hK _ _ ?_
         exact ⟨upd (upd s 25 (.bool false)) 27 (.pointer (some ⟨wr.heap.size, 0, none⟩)), rfl, Sv.put (Sv.re (j := 25) (v := .bool false) HV.out e25) (fun u hu => by cases hu; rfl), HST.out⟩
        ·have d25 := ready_dep hr (k := 25) (by kernel_rfl)
         have d27 := ready_dep hr (k := 27) (by kernel_rfl)
         clear hr
         have e25 : s 25 = .bool false := HV.out.v d25 rfl
         have e27 : s 27 = .pointer (some ⟨wr.heap.size, 0, none⟩) := HV.out.v d27 rfl
         obtain ⟨q0, q1, q2, q3, q4, q5, q6, q7, q8, q9, q10, q11, q12, hbl⟩ := HST.out
         refine wpOp_step rfl (fun K hK => ?_)
         go_simp
         refine hK _ _ ?_
         exact ⟨upd (upd (upd s 25 (.bool false)) 27 (.pointer (some ⟨wr.heap.size, 0, none⟩))) 28 (.agg #[.int .i64 e.1, .int .i64 e.2.1, .int .i64 e.2.2.1, .int .i64 e.2.2.2]), rfl, Sv.put (Sv.re (j := 27) (v := .pointer (some ⟨wr.heap.size, 0, none⟩)) (Sv.re (j := 25) (v := .bool false) HV.out e25) e27) (fun u hu => by cases hu; rfl), HST.out⟩
        ·have d25 := ready_dep hr (k := 25) (by kernel_rfl)
         have d26 := ready_dep hr (k := 26) (by kernel_rfl)
         have d28 := ready_dep hr (k := 28) (by kernel_rfl)
         clear hr
         have e25 : s 25 = .bool false := HV.out.v d25 rfl
         have e26 : s 26 = .agg #[.int .i64 (Wn : Int), .int .i64 (Hn : Int), .slice Am nm cm, .slice (some ⟨bC, oC, none⟩) nc cc] := HV.out.v d26 rfl
         have e28 : s 28 = .agg #[.int .i64 e.1, .int .i64 e.2.1, .int .i64 e.2.2.1, .int .i64 e.2.2.2] := HV.out.v d28 rfl
         obtain ⟨q0, q1, q2, q3, q4, q5, q6, q7, q8, q9, q10, q11, q12, hbl⟩ := HST.out
         refine wpOp_step rfl (fun K hK => ?_)
         go_simp
         refine (CI2.out _ hbl).mono ?_
         rintro e' wc ⟨he, hbc⟩
         subst he
         refine hK _ _ ?_
         exact ⟨upd (upd (upd (upd s 25 (.bool false)) 26 (.agg #[.int .i64 (Wn : Int), .int .i64 (Hn : Int), .slice Am nm cm, .slice (some ⟨bC, oC, none⟩) nc cc])) 28 (.agg #[.int .i64 e.1, .int .i64 e.2.1, .int .i64 e.2.2.1, .int .i64 e.2.2.2])) 29 (.bool IB), rfl, Sv.put (Sv.re (j := 28) (v := .agg #[.int .i64 e.1, .int .i64 e.2.1, .int .i64 e.2.2.1, .int .i64 e.2.2.2]) (Sv.re (j := 26) (v := .agg #[.int .i64 (Wn : Int), .int .i64 (Hn : Int), .slice Am nm cm, .slice (some ⟨bC, oC, none⟩) nc cc]) (Sv.re (j := 25) (v := .bool false) HV.out e25) e26) e28) (fun u hu => by cases hu; rfl), ⟨stay_c q0 hbc (Nat.le_refl _), stay_c q1 hbc (Nat.le_refl _), stay_c q2 hbc (Nat.le_refl _), stay_c q3 hbc (Nat.le_refl _), stay_c q4 hbc (Nat.le_refl _), stay_c q5 hbc (Nat.le_refl _), stay_c q6 hbc (Nat.le_refl _), stay_c q7 hbc (Nat.le_refl _), stay_c q8 hbc (Nat.le_refl _), stay_c q9 hbc (Nat.le_refl _), stay_c q10 hbc (Nat.le_refl _), stay_c q11 hbc (Nat.le_refl _), stay_c q12 hbc (Nat.le_refl _), stay_b hbl hbc⟩⟩
        ·have d25 := ready_dep hr (k := 25) (by kernel_rfl)
         have d29 := ready_dep hr (k := 29) (by kernel_rfl)
         clear hr
         have e25 : s 25 = .bool false := HV.out.v d25 rfl
         have e29 : s 29 = .bool IB := HV.out.v d29 rfl
         refine wpOp_step rfl (fun K hK => ?_)
         go_simp
         refine hK _ _ ?_
         exact ⟨upd (upd (upd s 25 (.bool false)) 29 (.bool IB)) 30 (.bool (!IB)), rfl, Sv.put (Sv.re (j := 29) (v := .bool IB) (Sv.re (j := 25) (v := .bool false) HV.out e25) e29) (fun u hu => by cases hu; rfl), HST.out⟩
        ·have d25 := ready_dep hr (k := 25) (by kernel_rfl)
         have d30 := ready_dep hr (k := 30) (by kernel_rfl)
         clear hr
         have e25 : s 25 = .bool false := HV.out.v d25 rfl
         have e30 : s 30 = .bool (!IB) := HV.out.v d30 rfl
         refine wpOp_step rfl (fun K hK => ?_)
         go_simp
         refine hK _ _ ?_
         exact ⟨upd (upd (upd s 25 (.bool false)) 30 (.bool (!IB))) 31 (.bool (!IB)), rfl, Sv.put (Sv.re (j := 30) (v := .bool (!IB)) (Sv.re (j := 25) (v := .bool false) HV.out e25) e30) (fun u hu => by cases hu; rfl), HST.out⟩
       ·intro Lq aq WN hI hrd
        obtain ⟨s, ha, hv, hst⟩ := hI
        have hall := all_listedM hrd hv.sz (by kernel_rfl)
        clear hrd
        have e0 : s 0 = (.int .i64 i) := hv.v (hall 0 (by decide)) rfl
        have e1 : s 1 = (.bool true) := hv.v (hall 1 (by decide)) rfl
        have e2 : s 2 = (.bool true) := hv.v (hall 2 (by decide)) rfl
        have e3 : s 3 = (.pointer (some ⟨w.heap.size, 3, none⟩)) := hv.v (hall 3 (by decide)) rfl
        have e4 : s 4 = (.slice (some ⟨bC, oC, none⟩) nc cc) := hv.v (hall 4 (by decide)) rfl
        have e5 : s 5 = (.int .i64 i) := hv.v (hall 5 (by decide)) rfl
        have e6 : s 6 = (.int .i64 j) := hv.v (hall 6 (by decide)) rfl
        have e7 : s 7 = (.pointer (some ⟨bC, oC + j * 5, none⟩)) := hv.v (hall 7 (by decide)) rfl
        have e8 : s 8 = (.pointer (some ⟨bC, oC + j * 5, none⟩)) := hv.v (hall 8 (by decide)) rfl
        have e9 : s 9 = (.agg #[.int .i64 pe.1, .int .i64 pe.2.1, .int .i64 pe.2.2.1, .int .i64 pe.2.2.2]) := hv.v (hall 9 (by decide)) rfl
        have e10 : s 10 = (.pointer (some ⟨wr.heap.size, 0, none⟩)) := hv.v (hall 10 (by decide)) rfl
        have e11 : s 11 = (.agg #[.int .i64 e.1, .int .i64 e.2.1, .int .i64 e.2.2.1, .int .i64 e.2.2.2]) := hv.v (hall 11 (by decide)) rfl
        have e12 : s 12 = (.bool true) := hv.v (hall 12 (by decide)) rfl
        have e13 : s 13 = (.bool false) := hv.v (hall 13 (by decide)) rfl
        have e14 : s 14 = (.bool false) := hv.v (hall 14 (by decide)) rfl
        have e15 : s 15 = (.bool false) := hv.v (hall 15 (by decide)) rfl
        have e16 : s 16 = (.pointer (some ⟨wr.heap.size, 4, none⟩)) := hv.v (hall 16 (by decide)) rfl
        have e17 : s 17 = (.int .i64 1) := hv.v (hall 17 (by decide)) rfl
        have e18 : s 18 = (.bool false) := hv.v (hall 18 (by decide)) rfl
        have e19 : s 19 = (.bool false) := hv.v (hall 19 (by decide)) rfl
        have e20 : s 20 = (undef) := hv.v (hall 20 (by decide)) rfl
        have e21 : s 21 = (undef) := hv.v (hall 21 (by decide)) rfl
        have e22 : s 22 = (undef) := hv.v (hall 22 (by decide)) rfl
        have e23 : s 23 = (.bool false) := hv.v (hall 23 (by decide)) rfl
        have e24 : s 24 = (.bool false) := hv.v (hall 24 (by decide)) rfl
        have e25 : s 25 = (.bool false) := hv.v (hall 25 (by decide)) rfl
        have e26 : s 26 = (.agg #[.int .i64 (Wn : Int), .int .i64 (Hn : Int), .slice Am nm cm, .slice (some ⟨bC, oC, none⟩) nc cc]) := hv.v (hall 26 (by decide)) rfl
        have e27 : s 27 = (.pointer (some ⟨wr.heap.size, 0, none⟩)) := hv.v (hall 27 (by decide)) rfl
        have e28 : s 28 = (.agg #[.int .i64 e.1, .int .i64 e.2.1, .int .i64 e.2.2.1, .int .i64 e.2.2.2]) := hv.v (hall 28 (by decide)) rfl
        have e29 : s 29 = (.bool IB) := hv.v (hall 29 (by decide)) rfl
        have e30 : s 30 = (.bool (!IB)) := hv.v (hall 30 (by decide)) rfl
        have e31 : s 31 = (.bool (!IB)) := hv.v (hall 31 (by decide)) rfl
        simp only [e0, e1, e2, e3, e4, e5, e6, e7, e8, e9, e10, e11, e12, e13, e14, e15, e16, e17, e18, e19, e20, e21, e22, e23, e24, e25, e26, e27, e28, e29, e30, e31] at ha
        subst ha
        clear hall hv e0 e1 e2 e3 e4 e5 e6 e7 e8 e9 e10 e11 e12 e13 e14 e15 e16 e17 e18 e19 e20 e21 e22 e23 e24 e25 e26 e27 e28 e29 e30 e31
        obtain ⟨q0, q1, q2, q3, q4, q5, q6, q7, q8, q9, q10, q11, q12, hbl⟩ := hst
        cases IB with
        | false =>
         simp only [Bool.not_false]
         have hkd : creaseB L (prevC cs i) (e, 1) = false := by rw [creaseB_eq]; simp only; rw [← HIB.out, Bool.and_false]
         have HKD := Lib.hid hkd
         clear hkd
         have hbfin := hb0.trans ((HB1.out.trans ((hbw.trans (hbl.mono hbw.size)).mono HB1.out.size)).mono hb0.size)
         have HBF := Lib.hid hbfin
         clear hbfin
         go_wp2
         go_ret
         exact ⟨ret_bool (HNF.out (HF.out HKD.out)).symm, HBF.out⟩
        | true =>
         simp only [Bool.not_true]
         have hkd : creaseB L (prevC cs i) (e, 1) = true := by rw [creaseB_eq]; simp only; rw [← HIB.out, HPV.out]; decide
         have HKD := Lib.hid hkd
         clear hkd
         have hbfin := hbw.trans (hbl.mono hbw.size)
         go_wp2
         go_roundw
         case rel => exact ⟨i + 1, by omega, by go_num, Lib.hid (HST.out HKD.out), hbfin⟩
         case measure => simp [intOf]; omega
      ·by_cases hk2 : kd = 2
       ·subst hk2
        have hkk : ((2:Int) != 1) = true := by decide
        have hkk2 : ((2:Int) != 2) = false := by decide
        clear hk1
        refine wp_region_inv (fun Lq aq WN => ∃ s : Nat → Value, aq = { tmps := #[.agg #[.int .i64 (Wn : Int), .int .i64 (Hn : Int), .slice Am nm cm, .slice (some ⟨bC, oC, none⟩) nc cc], .pointer (some ⟨w.heap.size, 0, none⟩), u2, .int .i64 i, .pointer (some ⟨wr.heap.size, 0, none⟩), .agg #[.int .i64 (Wn : Int), .int .i64 (Hn : Int), .slice Am nm cm, .slice (some ⟨bC, oC, none⟩) nc cc], .bool true, .bool false, .int .i64 i, .pointer (some ⟨w.heap.size, 3, none⟩), .slice (some ⟨bC, oC, none⟩) nc cc, .int .i64 nc, .bool true, u13, u14, .pointer (some ⟨w.heap.size, 3, none⟩), .slice (some ⟨bC, oC, none⟩) nc cc, .int .i64 i, .pointer (some ⟨bC, oC + i * 5, none⟩), .agg #[.int .i64 e.1, .int .i64 e.2.1, .int .i64 e.2.2.1, .int .i64 e.2.2.2, .int .i64 2], (s 0), (s 1), (s 2), (s 3), (s 4), (s 5), (s 6), (s 7), (s 8), (s 9), (s 10), (s 11), (s 12), (s 13), (s 14), (s 15), (s 16), (s 17), (s 18), (s 19), (s 20), (s 21), (s 22), (s 23), (s 24), (s 25), (s 26), (s 27), (s 28), (s 29), (s 30), (s 31), undef, undef], defers := [] } ∧ Sv 32 [some (.int .i64 i), some (.bool true), some (.bool true), some (.pointer (some ⟨w.heap.size, 3, none⟩)), some (.slice (some ⟨bC, oC, none⟩) nc cc), some (.int .i64 i), some (.int .i64 j), some (.pointer (some ⟨bC, oC + j * 5, none⟩)), some (.pointer (some ⟨bC, oC + j * 5, none⟩)), some (.agg #[.int .i64 pe.1, .int .i64 pe.2.1, .int .i64 pe.2.2.1, .int .i64 pe.2.2.2]), some (.pointer (some ⟨wr.heap.size, 0, none⟩)), some (.agg #[.int .i64 e.1, .int .i64 e.2.1, .int .i64 e.2.2.1, .int .i64 e.2.2.2]), some (.bool true), some (.bool false), some (.bool false), some (.bool false), some (.pointer (some ⟨wr.heap.size, 4, none⟩)), some (.int .i64 2), some (.bool true), some (.bool true), some (.pointer (some ⟨wr.heap.size, 4, none⟩)), some (.int .i64 2), some (.bool false), some (.bool false), some (.bool false), some (.bool false), some (.agg #[.int .i64 (Wn : Int), .int .i64 (Hn : Int), .slice Am nm cm, .slice (some ⟨bC, oC, none⟩) nc cc]), some (.pointer (some ⟨wr.heap.size, 0, none⟩)), some (.agg #[.int .i64 e.1, .int .i64 e.2.1, .int .i64 e.2.2.1, .int .i64 e.2.2.2]), some (.bool IB), some (.bool (!IB)), some (.bool (!IB))] Lq s ∧ (WN.cell? ⟨w.heap.size, 0, none⟩ = some (.int .i64 (Wn : Int)) ∧ WN.cell? ⟨w.heap.size, 1, none⟩ = some (.int .i64 (Hn : Int)) ∧ WN.cell? ⟨w.heap.size, 2, none⟩ = some (.slice Am nm cm) ∧ WN.cell? ⟨w.heap.size, 3, none⟩ = some (.slice (some ⟨bC, oC, none⟩) nc cc) ∧ WN.cell? ⟨wr.heap.size, 0, none⟩ = some (.int .i64 e.1) ∧ WN.cell? ⟨wr.heap.size, 1, none⟩ = some (.int .i64 e.2.1) ∧ WN.cell? ⟨wr.heap.size, 2, none⟩ = some (.int .i64 e.2.2.1) ∧ WN.cell? ⟨wr.heap.size, 3, none⟩ = some (.int .i64 e.2.2.2) ∧ WN.cell? ⟨wr.heap.size, 4, none⟩ = some (.int .i64 2) ∧ WN.cell? ⟨bC, oC + j * 5, none⟩ = some (.int .i64 pe.1) ∧ WN.cell? ⟨bC, oC + j * 5 + 1, none⟩ = some (.int .i64 pe.2.1) ∧ WN.cell? ⟨bC, oC + j * 5 + 2, none⟩ = some (.int .i64 pe.2.2.1) ∧ WN.cell? ⟨bC, oC + j * 5 + 3, none⟩ = some (.int .i64 pe.2.2.2) ∧ Below w2.heap.size w2 WN)) (by kernel_rfl) ?_ ?_ ?_
        ·exact ⟨listF [u20, u21, u22, u23, u24, u25, u26, u27, u28, u29, u30, u31, u32, u33, u34, u35, u36, u37, u38, u39, u40, u41, u42, u43, u44, u45, u46, u47, u48, u49, u50, u51], rfl, Sv.start 32 _ _, ⟨b0, b1, b2, b3, g0, g1, g2, g3, g4, y0, y1, y2, y3, (Below.refl _ _).drew⟩⟩
        ·intro Lq aq WN i0 hI hr
         obtain ⟨s, rfl, hv, hst⟩ := hI
         have hi0 : i0 < 32 := ready_lt hr
         have HV := Lib.hid hv
         have HST := Lib.hid hst
         clear hv hst
         have hii : i0 = 0 ∨ i0 = 1 ∨ i0 = 2 ∨ i0 = 3 ∨ i0 = 4 ∨ i0 = 5 ∨ i0 = 6 ∨ i0 = 7 ∨ i0 = 8 ∨ i0 = 9 ∨ i0 = 10 ∨ i0 = 11 ∨ i0 = 12 ∨ i0 = 13 ∨ i0 = 14 ∨ i0 = 15 ∨ i0 = 16 ∨ i0 = 17 ∨ i0 = 18 ∨ i0 = 19 ∨ i0 = 20 ∨ i0 = 21 ∨ i0 = 22 ∨ i0 = 23 ∨ i0 = 24 ∨ i0 = 25 ∨ i0 = 26 ∨ i0 = 27 ∨ i0 = 28 ∨ i0 = 29 ∨ i0 = 30 ∨ i0 = 31 := by omega
         clear hi0
         rcases hii with rfl | rfl | rfl | rfl | rfl | rfl | rfl | rfl | rfl | rfl | rfl | rfl | rfl | rfl | rfl | rfl | rfl | rfl | rfl | rfl | rfl | rfl | rfl | rfl | rfl | rfl | rfl | rfl | rfl | rfl | rfl | rfl
         ·clear hr
          refine wpOp_step rfl (fun K hK => ?_)
          go_simp
          refine hK _ _ ?_
          exact ⟨upd s 0 (.int .i64 i), rfl, Sv.put HV.out (fun u hu => by cases hu; rfl), HST.out⟩
         ·have d0 := ready_dep hr (k := 0) (by kernel_rfl)
          clear hr
          have e0 : s 0 = .int .i64 i := HV.out.v d0 rfl
          refine wpOp_step rfl (fun K hK => ?_)
          go_simp
          refine hK _ _ ?_
          exact ⟨upd (upd s 0 (.int .i64 i)) 1 (.bool true), rfl, Sv.put (Sv.re (j := 0) (v := .int .i64 i) HV.out e0) (fun u hu => by cases hu; rfl), HST.out⟩
         ·have d1 := ready_dep hr (k := 1) (by kernel_rfl)
          clear hr
          have e1 : s 1 = .bool true := HV.out.v d1 rfl
          refine wpOp_step rfl (fun K hK => ?_)
          go_simp
          refine hK _ _ ?_
          exact ⟨upd (upd s 1 (.bool true)) 2 (.bool true), rfl, Sv.put (Sv.re (j := 1) (v := .bool true) HV.out e1) (fun u hu => by cases hu; rfl), HST.out⟩
         ·have d2 := ready_dep hr (k := 2) (by kernel_rfl)
          clear hr
          have e2 : s 2 = .bool true := HV.out.v d2 rfl
          refine wpOp_step rfl (fun K hK => ?_)
          go_simp
          refine hK _ _ ?_
          exact ⟨upd (upd s 2 (.bool true)) 3 (.pointer (some ⟨w.heap.size, 3, none⟩)), rfl, Sv.put (Sv.re (j := 2) (v := .bool true) HV.out e2) (fun u hu => by cases hu; rfl), HST.out⟩
         ·have d2 := ready_dep hr (k := 2) (by kernel_rfl)
          have d3 := ready_dep hr (k := 3) (by kernel_rfl)
          clear hr
          have e2 : s 2 = .bool true := HV.out.v d2 rfl
          have e3 : s 3 = .pointer (some ⟨w.heap.size, 3, none⟩) := HV.out.v d3 rfl
          obtain ⟨q0, q1, q2, q3, q4, q5, q6, q7, q8, q9, q10, q11, q12, hbl⟩ := HST.out
          refine wpOp_step rfl (fun K hK => ?_)
          go_simp
          refine hK _ _ ?_
          exact ⟨upd (upd (upd s 2 (.bool true)) 3 (.pointer (some ⟨w.heap.size, 3, none⟩))) 4 (.slice (some ⟨bC, oC, none⟩) nc cc), rfl, Sv.put (Sv.re (j := 3) (v := .pointer (some ⟨w.heap.size, 3, none⟩)) (Sv.re (j := 2) (v := .bool true) HV.out e2) e3) (fun u hu => by cases hu; rfl), HST.out⟩
         ·have d2 := ready_dep hr (k := 2) (by kernel_rfl)
          clear hr
          have e2 : s 2 = .bool true := HV.out.v d2 rfl
          refine wpOp_step rfl (fun K hK => ?_)
          go_simp
          refine hK _ _ ?_
          exact ⟨upd (upd s 2 (.bool true)) 5 (.int .i64 i), rfl, Sv.put (Sv.re (j := 2) (v := .bool true) HV.out e2) (fun u hu => by cases hu; rfl), HST.out⟩
         ·have d2 := ready_dep hr (k := 2) (by kernel_rfl)
          have d5 := ready_dep hr (k := 5) (by kernel_rfl)
          clear hr
          have e2 : s 2 = .bool true := HV.out.v d2 rfl
          have e5 : s 5 = .int .i64 i := HV.out.v d5 rfl
          refine wpOp_step rfl (fun K hK => ?_)
          go_simp
          refine hK _ _ ?_
          exact ⟨upd (upd (upd s 2 (.bool true)) 5 (.int .i64 i)) 6 (.int .i64 j), rfl, Sv.put (Sv.re (j := 5) (v := .int .i64 i) (Sv.re (j := 2) (v := .bool true) HV.out e2) e5) (fun u hu => by cases hu; rfl), HST.out⟩
         ·have d2 := ready_dep hr (k := 2) (by kernel_rfl)
          have d4 := ready_dep hr (k := 4) (by kernel_rfl)
          have d6 := ready_dep hr (k := 6) (by kernel_rfl)
          clear hr
          have e2 : s 2 = .bool true := HV.out.v d2 rfl
          have e4 : s 4 = .slice (some ⟨bC, oC, none⟩) nc cc := HV.out.v d4 rfl
          have e6 : s 6 = .int .i64 j := HV.out.v d6 rfl
          refine wpOp_step rfl (fun K hK => ?_)
          go_simp
          refine hK _ _ ?_
          exact ⟨upd (upd (upd (upd s 2 (.bool true)) 4 (.slice (some ⟨bC, oC, none⟩) nc cc)) 6 (.int .i64 j)) 7 (.pointer (some ⟨bC, oC + j * 5, none⟩)), rfl, Sv.put (Sv.re (j := 6) (v := .int .i64 j) (Sv.re (j := 4) (v := .slice (some ⟨bC, oC, none⟩) nc cc) (Sv.re (j := 2) (v := .bool true) HV.out e2) e4) e6) (fun u hu => by cases hu; rfl), HST.out⟩
         ·have d2 := ready_dep hr (k := 2) (by kernel_rfl)
          have d7 := ready_dep hr (k := 7) (by kernel_rfl)
          clear hr
          have e2 : s 2 = .bool true := HV.out.v d2 rfl
          have e7 : s 7 = .pointer (some ⟨bC, oC + j * 5, none⟩) := HV.out.v d7 rfl
          refine wpOp_step rfl (fun K hK => ?_)
          go_simp
          refine hK _ _ ?_
          exact ⟨upd (upd (upd s 2 (.bool true)) 7 (.pointer (some ⟨bC, oC + j * 5, none⟩))) 8 (.pointer (some ⟨bC, oC + j * 5, none⟩)), rfl, Sv.put (Sv.re (j := 7) (v := .pointer (some ⟨bC, oC + j * 5, none⟩)) (Sv.re (j := 2) (v := .bool true) HV.out e2) e7) (fun u hu => by cases hu; rfl), HST.out⟩
         ·have d2 := ready_dep hr (k := 2) (by kernel_rfl)
          have d8 := ready_dep hr (k := 8) (by kernel_rfl)
          clear hr
          have e2 : s 2 = .bool true := HV.out.v d2 rfl
          have e8 : s 8 = .pointer (some ⟨bC, oC + j * 5, none⟩) := HV.out.v d8 rfl
          obtain ⟨q0, q1, q2, q3, q4, q5, q6, q7, q8, q9, q10, q11, q12, hbl⟩ := HST.out
          refine wpOp_step rfl (fun K hK => ?_)
          go_simp
          refine hK _ _ ?_
          exact ⟨upd (upd (upd s 2 (.bool true)) 8 (.pointer (some ⟨bC, oC + j * 5, none⟩))) 9 (.agg #[.int .i64 pe.1, .int .i64 pe.2.1, .int .i64 pe.2.2.1, .int .i64 pe.2.2.2]), rfl, Sv.put (Sv.re (j := 8) (v := .pointer (some ⟨bC, oC + j * 5, none⟩)) (Sv.re (j := 2) (v := .bool true) HV.out e2) e8) (fun u hu => by cases hu; rfl), HST.out⟩
         ·have d2 := ready_dep hr (k := 2) (by kernel_rfl)
          clear hr
          have e2 : s 2 = .bool true := HV.out.v d2 rfl
          refine wpOp_step rfl (fun K hK => ?_)
          go_simp
          refine hK _ _ ?_
          exact ⟨upd (upd s 2 (.bool true)) 10 (.pointer (some ⟨wr.heap.size, 0, none⟩)), rfl, Sv.put (Sv.re (j := 2) (v := .bool true) HV.out e2) (fun u hu => by cases hu; rfl), HST.out⟩
         ·have d2 := ready_dep hr (k := 2) (by kernel_rfl)
          have d10 := ready_dep hr (k := 10) (by kernel_rfl)
          clear hr
          have e2 : s 2 = .bool true := HV.out.v d2 rfl
          have e10 : s 10 = .pointer (some ⟨wr.heap.size, 0, none⟩) := HV.out.v d10 rfl
          obtain ⟨q0, q1, q2, q3, q4, q5, q6, q7, q8, q9, q10, q11, q12, hbl⟩ := HST.out
          refine wpOp_step rfl (fun K hK => ?_)
          go_simp
          refine hK _ _ ?_
          exact ⟨upd (upd (upd s 2 (.bool true)) 10 (.pointer (some ⟨wr.heap.size, 0, none⟩))) 11 (.agg #[.int .i64 e.1, .int .i64 e.2.1, .int .i64 e.2.2.1, .int .i64 e.2.2.2]), rfl, Sv.put (Sv.re (j := 10) (v := .pointer (some ⟨wr.heap.size, 0, none⟩)) (Sv.re (j := 2) (v := .bool true) HV.out e2) e10) (fun u hu => by cases hu; rfl), HST.out⟩
         ·have d2 := ready_dep hr (k := 2) (by kernel_rfl)
          have d9 := ready_dep hr (k := 9) (by kernel_rfl)
          have d11 := ready_dep hr (k := 11) (by kernel_rfl)
          clear hr
          have e2 : s 2 = .bool true := HV.out.v d2 rfl
          have e9 : s 9 = .agg #[.int .i64 pe.1, .int .i64 pe.2.1, .int .i64 pe.2.2.1, .int .i64 pe.2.2.2] := HV.out.v d9 rfl
          have e11 : s 11 = .agg #[.int .i64 e.1, .int .i64 e.2.1, .int .i64 e.2.2.1, .int .i64 e.2.2.2] := HV.out.v d11 rfl
          obtain ⟨q0, q1, q2, q3, q4, q5, q6, q7, q8, q9, q10, q11, q12, hbl⟩ := HST.out
          refine wpOp_step rfl (fun K hK => ?_)
          go_simp
          refine (CC.out _).mono ?_
          rintro e' wc ⟨he, hbc⟩
          subst he
          refine hK _ _ ?_
          exact ⟨upd (upd (upd (upd s 2 (.bool true)) 9 (.agg #[.int .i64 pe.1, .int .i64 pe.2.1, .int .i64 pe.2.2.1, .int .i64 pe.2.2.2])) 11 (.agg #[.int .i64 e.1, .int .i64 e.2.1, .int .i64 e.2.2.1, .int .i64 e.2.2.2])) 12 (.bool true), rfl, Sv.put (Sv.re (j := 11) (v := .agg #[.int .i64 e.1, .int .i64 e.2.1, .int .i64 e.2.2.1, .int .i64 e.2.2.2]) (Sv.re (j := 9) (v := .agg #[.int .i64 pe.1, .int .i64 pe.2.1, .int .i64 pe.2.2.1, .int .i64 pe.2.2.2]) (Sv.re (j := 2) (v := .bool true) HV.out e2) e9) e11) (fun u hu => by cases hu; rfl), ⟨stay_c q0 hbc (Nat.le_refl _), stay_c q1 hbc (Nat.le_refl _), stay_c q2 hbc (Nat.le_refl _), stay_c q3 hbc (Nat.le_refl _), stay_c q4 hbc (Nat.le_refl _), stay_c q5 hbc (Nat.le_refl _), stay_c q6 hbc (Nat.le_refl _), stay_c q7 hbc (Nat.le_refl _), stay_c q8 hbc (Nat.le_refl _), stay_c q9 hbc (Nat.le_refl _), stay_c q10 hbc (Nat.le_refl _), stay_c q11 hbc (Nat.le_refl _), stay_c q12 hbc (Nat.le_refl _), stay_b hbl hbc⟩⟩
         ·have d2 := ready_dep hr (k := 2) (by kernel_rfl)
          have d12 := ready_dep hr (k := 12) (by kernel_rfl)
          clear hr
          have e2 : s 2 = .bool true := HV.out.v d2 rfl
          have e12 : s 12 = .bool true := HV.out.v d12 rfl
          refine wpOp_step rfl (fun K hK => ?_)
          go_simp
          refine hK _ _ ?_
          exact ⟨upd (upd (upd s 2 (.bool true)) 12 (.bool true)) 13 (.bool false), rfl, Sv.put (Sv.re (j := 12) (v := .bool true) (Sv.re (j := 2) (v := .bool true) HV.out e2) e12) (fun u hu => by cases hu; rfl), HST.out⟩
         ·have d2 := ready_dep hr (k := 2) (by kernel_rfl)
          have d13 := ready_dep hr (k := 13) (by kernel_rfl)
          clear hr
          have e2 : s 2 = .bool true := HV.out.v d2 rfl
          have e13 : s 13 = .bool false := HV.out.v d13 rfl
          refine wpOp_step rfl (fun K hK => ?_)
          go_simp
          refine hK _ _ ?_
          exact ⟨upd (upd (upd s 2 (.bool true)) 13 (.bool false)) 14 (.bool false), rfl, Sv.put (Sv.re (j := 13) (v := .bool false) (Sv.re (j := 2) (v := .bool true) HV.out e2) e13) (fun u hu => by cases hu; rfl), HST.out⟩
         ·have d14 := ready_dep hr (k := 14) (by kernel_rfl)
          clear hr
          have e14 : s 14 = .bool false := HV.out.v d14 rfl
          refine wpOp_step rfl (fun K hK => ?_)
          go_simp
          refine hK _ _ ?_
          exact ⟨upd (upd s 14 (.bool false)) 15 (.bool false), rfl, Sv.put (Sv.re (j := 14) (v := .bool false) HV.out e14) (fun u hu => by cases hu; rfl), HST.out⟩
         ·have d15 := ready_dep hr (k := 15) (by kernel_rfl)
          clear hr
          have e15 : s 15 = .bool false := HV.out.v d15 rfl
          refine wpOp_step rfl (fun K hK => ?_)
          go_simp
          refine hK _ _ ?_
          exact ⟨upd (upd s 15 (.bool false)) 16 (.pointer (some ⟨wr.heap.size, 4, none⟩)), rfl, Sv.put (Sv.re (j := 15) (v := .bool false) HV.out e15) (fun u hu => by cases hu; rfl), HST.out⟩
         ·have d15 := ready_dep hr (k := 15) (by kernel_rfl)
          have d16 := ready_dep hr (k := 16) (by kernel_rfl)
          clear hr
          have e15 : s 15 = .bool false := HV.out.v d15 rfl
          have e16 : s 16 = .pointer (some ⟨wr.heap.size, 4, none⟩) := HV.out.v d16 rfl
          obtain ⟨q0, q1, q2, q3, q4, q5, q6, q7, q8, q9, q10, q11, q12, hbl⟩ := HST.out
          refine wpOp_step rfl (fun K hK => ?_)
          go_simp
          refine hK _ _ ?_
          exact ⟨upd (upd (upd s 15 (.bool false)) 16 (.pointer (some ⟨wr.heap.size, 4, none⟩))) 17 (.int .i64 2), rfl, Sv.put (Sv.re (j := 16) (v := .pointer (some ⟨wr.heap.size, 4, none⟩)) (Sv.re (j := 15) (v := .bool false) HV.out e15) e16) (fun u hu => by cases hu; rfl), HST.out⟩
         ·have d15 := ready_dep hr (k := 15) (by kernel_rfl)
          have d17 := ready_dep hr (k := 17) (by kernel_rfl)
          clear hr
          have e15 : s 15 = .bool false := HV.out.v d15 rfl
          have e17 : s 17 = .int .i64 2 := HV.out.v d17 rfl
          refine wpOp_step rfl (fun K hK => ?_)
          go_simp
          refine hK _ _ ?_
          exact ⟨upd (upd (upd s 15 (.bool false)) 17 (.int .i64 2)) 18 (.bool true), rfl, Sv.put (Sv.re (j := 17) (v := .int .i64 2) (Sv.re (j := 15) (v := .bool false) HV.out e15) e17) (fun u hu => by cases hu; rfl), HST.out⟩
         ·have d15 := ready_dep hr (k := 15) (by kernel_rfl)
          have d18 := ready_dep hr (k := 18) (by kernel_rfl)
          clear hr
          have e15 : s 15 = .bool false := HV.out.v d15 rfl
          have e18 : s 18 = .bool true := HV.out.v d18 rfl
          refine wpOp_step rfl (fun K hK => ?_)
          go_simp
          refine hK _ _ ?_
          exact ⟨upd (upd (upd s 15 (.bool false)) 18 (.bool true)) 19 (.bool true), rfl, Sv.put (Sv.re (j := 18) (v := .bool true) (Sv.re (j := 15) (v := .bool false) HV.out e15) e18) (fun u hu => by cases hu; rfl), HST.out⟩
         ·have d19 := ready_dep hr (k := 19) (by kernel_rfl)
          clear hr
          have e19 : s 19 = .bool true := HV.out.v d19 rfl
          refine wpOp_step rfl (fun K hK => ?_)
          go_simp
          refine hK _ _ ?_
          exact ⟨upd (upd s 19 (.bool true)) 20 (.pointer (some ⟨wr.heap.size, 4, none⟩)), rfl, Sv.put (Sv.re (j := 19) (v := .bool true) HV.out e19) (fun u hu => by cases hu; rfl), HST.out⟩
         ·have d19 := ready_dep hr (k := 19) (by kernel_rfl)
          have d20 := ready_dep hr (k := 20) (by kernel_rfl)
          clear hr
          have e19 : s 19 = .bool true := HV.out.v d19 rfl
          have e20 : s 20 = .pointer (some ⟨wr.heap.size, 4, none⟩) := HV.out.v d20 rfl
          obtain ⟨q0, q1, q2, q3, q4, q5, q6, q7, q8, q9, q10, q11, q12, hbl⟩ := HST.out
          refine wpOp_step rfl (fun K hK => ?_)
          go_simp
          refine hK _ _ ?_
          exact ⟨upd (upd (upd s 19 (.bool true)) 20 (.pointer (some ⟨wr.heap.size, 4, none⟩))) 21 (.int .i64 2), rfl, Sv.put (Sv.re (j := 20) (v := .pointer (some ⟨wr.heap.size, 4, none⟩)) (Sv.re (j := 19) (v := .bool true) HV.out e19) e20) (fun u hu => by cases hu; rfl), HST.out⟩
         ·have d19 := ready_dep hr (k := 19) (by kernel_rfl)
          have d21 := ready_dep hr (k := 21) (by kernel_rfl)
          clear hr
          have e19 : s 19 = .bool true := HV.out.v d19 rfl
          have e21 : s 21 = .int .i64 2 := HV.out.v d21 rfl
          refine wpOp_step rfl (fun K hK => ?_)
          go_simp
          refine hK _ _ ?_
          exact ⟨upd (upd (upd s 19 (.bool true)) 21 (.int .i64 2)) 22 (.bool false), rfl, Sv.put (Sv.re (j := 21) (v := .int .i64 2) (Sv.re (j := 19) (v := .bool true) HV.out e19) e21) (fun u hu => by cases hu; rfl), HST.out⟩
         ·have d15 := ready_dep hr (k := 15) (by kernel_rfl)
          have d19 := ready_dep hr (k := 19) (by kernel_rfl)
          have d22 := ready_dep hr (k := 22) (by kernel_rfl)
          clear hr
          have e15 : s 15 = .bool false := HV.out.v d15 rfl
          have e19 : s 19 = .bool true := HV.out.v d19 rfl
          have e22 : s 22 = .bool false := HV.out.v d22 rfl
          refine wpOp_step rfl (fun K hK => ?_)
          go_simp
          refine hK _ _ ?_
          exact ⟨upd (upd (upd (upd s 15 (.bool false)) 19 (.bool true)) 22 (.bool false)) 23 (.bool false), rfl, Sv.put (Sv.re (j := 22) (v := .bool false) (Sv.re (j := 19) (v := .bool true) (Sv.re (j := 15) (v := .bool false) HV.out e15) e19) e22) (fun u hu => by cases hu; rfl), HST.out⟩
         ·have d15 := ready_dep hr (k := 15) (by kernel_rfl)
          have d23 := ready_dep hr (k := 23) (by kernel_rfl)
          clear hr
          have e15 : s 15 = .bool false := HV.out.v d15 rfl
          have e23 : s 23 = .bool false := HV.out.v d23 rfl
          refine wpOp_step rfl (fun K hK => ?_)
          go_simp
          refine hK _ _ ?_
          exact ⟨upd (upd (upd s 15 (.bool false)) 23 (.bool false)) 24 (.bool false), rfl, Sv.put (Sv.re (j := 23) (v := .bool false) (Sv.re (j := 15) (v := .bool false) HV.out e15) e23) (fun u hu => by cases hu; rfl), HST.out⟩
         ·have d24 := ready_dep hr (k := 24) (by kernel_rfl)
          clear hr
          have e24 : s 24 = .bool false := HV.out.v d24 rfl
          refine wpOp_step rfl (fun K hK => ?_)
          go_simp
          refine hK _ _ ?_
          exact ⟨upd (upd s 24 (.bool false)) 25 (.bool false), rfl, Sv.put (Sv.re (j := 24) (v := .bool false) HV.out e24) (fun u hu => by cases hu; rfl), HST.out⟩
         ·have d25 := ready_dep hr (k := 25) (by kernel_rfl)
          clear hr
          have e25 : s 25 = .bool false := HV.out.v d25 rfl
          obtain ⟨q0, q1, q2, q3, q4, q5, q6, q7, q8, q9, q10, q11, q12, hbl⟩ := HST.out
          refine wpOp_step rfl (fun K hK => ?_)
          go_simp
          refine hK _ _ ?_
          exact ⟨upd (upd s 25 (.bool false)) 26 (.agg #[.int .i64 (Wn : Int), .int .i64 (Hn : Int), .slice Am nm cm, .slice (some ⟨bC, oC, none⟩) nc cc]), rfl, Sv.put (Sv.re (j := 25) (v := .bool false) HV.out e25) (fun u hu => by cases hu; rfl), HST.out⟩
         ·have d25 := ready_dep hr (k := 25) (by kernel_rfl)
          clear hr
          have e25 : s 25 = .bool false := HV.out.v d25 rfl
          refine wpOp_step rfl (fun K hK => ?_)
          go_simp
          refine hK _ _ ?_
          exact ⟨upd (upd s 25 (.bool false)) 27 (.pointer (some ⟨wr.heap.size, 0, none⟩)), rfl, Sv.put (Sv.re (j := 25) (v := .bool false) HV.out e25) (fun u hu => by cases hu; rfl), HST.out⟩
         ·have d25 := ready_dep hr (k := 25) (by kernel_rfl)
          have d27 := ready_dep hr (k := 27) (by kernel_rfl)
          clear hr
          have e25 : s 25 = .bool false := HV.out.v d25 rfl
          have e27 : s 27 = .pointer (some ⟨wr.heap.size, 0, none⟩) := HV.out.v d27 rfl
          obtain ⟨q0, q1, q2, q3, q4, q5, q6, q7, q8, q9, q10, q11, q12, hbl⟩ := HST.out
          refine wpOp_step rfl (fun K hK => ?_)
          go_simp
          refine hK _ _ ?_
          exact ⟨upd (upd (upd s 25 (.bool false)) 27 (.pointer (some ⟨wr.heap.size, 0, none⟩))) 28 (.agg #[.int .i64 e.1, .int .i64 e.2.1, .int .i64 e.2.2.1, .int .i64 e.2.2.2]), rfl, Sv.put (Sv.re (j := 27) (v := .pointer (some ⟨wr.heap.size, 0, none⟩)) (Sv.re (j := 25) (v := .bool false) HV.out e25) e27) (fun u hu => by cases hu; rfl), HST.out⟩
         ·have d25 := ready_dep hr (k := 25) (by kernel_rfl)
          have d26 := ready_dep hr (k := 26) (by kernel_rfl)
          have d28 := ready_dep hr (k := 28) (by kernel_rfl)
          clear hr
          have e25 : s 25 = .bool false := HV.out.v d25 rfl
          have e26 : s 26 = .agg #[.int .i64 (Wn : Int), .int .i64 (Hn : Int), .slice Am nm cm, .slice (some ⟨bC, oC, none⟩) nc cc] := HV.out.v d26 rfl
          have e28 : s 28 = .agg #[.int .i64 e.1, .int .i64 e.2.1, .int .i64 e.2.2.1, .int .i64 e.2.2.2] := HV.out.v d28 rfl
          obtain ⟨q0, q1, q2, q3, q4, q5, q6, q7, q8, q9, q10, q11, q12, hbl⟩ := HST.out
          refine wpOp_step rfl (fun K hK => ?_)
          go_simp
          refine (CI2.out _ hbl).mono ?_
          rintro e' wc ⟨he, hbc⟩
          subst he
          refine hK _ _ ?_
          exact ⟨upd (upd (upd (upd s 25 (.bool false)) 26 (.agg #[.int .i64 (Wn : Int), .int .i64 (Hn : Int), .slice Am nm cm, .slice (some ⟨bC, oC, none⟩) nc cc])) 28 (.agg #[.int .i64 e.1, .int .i64 e.2.1, .int .i64 e.2.2.1, .int .i64 e.2.2.2])) 29 (.bool IB), rfl, Sv.put (Sv.re (j := 28) (v := .agg #[.int .i64 e.1, .int .i64 e.2.1, .int .i64 e.2.2.1, .int .i64 e.2.2.2]) (Sv.re (j := 26) (v := .agg #[.int .i64 (Wn : Int), .int .i64 (Hn : Int), .slice Am nm cm, .slice (some ⟨bC, oC, none⟩) nc cc]) (Sv.re (j := 25) (v := .bool false) HV.out e25) e26) e28) (fun u hu => by cases hu; rfl), ⟨stay_c q0 hbc (Nat.le_refl _), stay_c q1 hbc (Nat.le_refl _), stay_c q2 hbc (Nat.le_refl _), stay_c q3 hbc (Nat.le_refl _), stay_c q4 hbc (Nat.le_refl _), stay_c q5 hbc (Nat.le_refl _), stay_c q6 hbc (Nat.le_refl _), stay_c q7 hbc (Nat.le_refl _), stay_c q8 hbc (Nat.le_refl _), stay_c q9 hbc (Nat.le_refl _), stay_c q10 hbc (Nat.le_refl _), stay_c q11 hbc (Nat.le_refl _), stay_c q12 hbc (Nat.le_refl _), stay_b hbl hbc⟩⟩
         ·have d25 := ready_dep hr (k := 25) (by kernel_rfl)
          have d29 := ready_dep hr (k := 29) (by kernel_rfl)
          clear hr
          have e25 : s 25 = .bool false := HV.out.v d25 rfl
          have e29 : s 29 = .bool IB := HV.out.v d29 rfl
          refine wpOp_step rfl (fun K hK => ?_)
          go_simp
          refine hK _ _ ?_
          exact ⟨upd (upd (upd s 25 (.bool false)) 29 (.bool IB)) 30 (.bool (!IB)), rfl, Sv.put (Sv.re (j := 29) (v := .bool IB) (Sv.re (j := 25) (v := .bool false) HV.out e25) e29) (fun u hu => by cases hu; rfl), HST.out⟩
         ·have d25 := ready_dep hr (k := 25) (by kernel_rfl)
          have d30 := ready_dep hr (k := 30) (by kernel_rfl)
          clear hr
          have e25 : s 25 = .bool false := HV.out.v d25 rfl
          have e30 : s 30 = .bool (!IB) := HV.out.v d30 rfl
          refine wpOp_step rfl (fun K hK => ?_)
          go_simp
          refine hK _ _ ?_
          exact ⟨upd (upd (upd s 25 (.bool false)) 30 (.bool (!IB))) 31 (.bool (!IB)), rfl, Sv.put (Sv.re (j := 30) (v := .bool (!IB)) (Sv.re (j := 25) (v := .bool false) HV.out e25) e30) (fun u hu => by cases hu; rfl), HST.out⟩
        ·intro Lq aq WN hI hrd
         obtain ⟨s, ha, hv, hst⟩ := hI
         have hall := all_listedM hrd hv.sz (by kernel_rfl)
         clear hrd
         have e0 : s 0 = (.int .i64 i) := hv.v (hall 0 (by decide)) rfl
         have e1 : s 1 = (.bool true) := hv.v (hall 1 (by decide)) rfl
         have e2 : s 2 = (.bool true) := hv.v (hall 2 (by decide)) rfl
         have e3 : s 3 = (.pointer (some ⟨w.heap.size, 3, none⟩)) := hv.v (hall 3 (by decide)) rfl
         have e4 : s 4 = (.slice (some ⟨bC, oC, none⟩) nc cc) := hv.v (hall 4 (by decide)) rfl
         have e5 : s 5 = (.int .i64 i) := hv.v (hall 5 (by decide)) rfl
         have e6 : s 6 = (.int .i64 j) := hv.v (hall 6 (by decide)) rfl
         have e7 : s 7 = (.pointer (some ⟨bC, oC + j * 5, none⟩)) := hv.v (hall 7 (by decide)) rfl
         have e8 : s 8 = (.pointer (some ⟨bC, oC + j * 5, none⟩)) := hv.v (hall 8 (by decide)) rfl
         have e9 : s 9 = (.agg #[.int .i64 pe.1, .int .i64 pe.2.1, .int .i64 pe.2.2.1, .int .i64 pe.2.2.2]) := hv.v (hall 9 (by decide)) rfl
         have e10 : s 10 = (.pointer (some ⟨wr.heap.size, 0, none⟩)) := hv.v (hall 10 (by decide)) rfl
         have e11 : s 11 = (.agg #[.int .i64 e.1, .int .i64 e.2.1, .int .i64 e.2.2.1, .int .i64 e.2.2.2]) := hv.v (hall 11 (by decide)) rfl
         have e12 : s 12 = (.bool true) := hv.v (hall 12 (by decide)) rfl
         have e13 : s 13 = (.bool false) := hv.v (hall 13 (by decide)) rfl
         have e14 : s 14 = (.bool false) := hv.v (hall 14 (by decide)) rfl
         have e15 : s 15 = (.bool false) := hv.v (hall 15 (by decide)) rfl
         have e16 : s 16 = (.pointer (some ⟨wr.heap.size, 4, none⟩)) := hv.v (hall 16 (by decide)) rfl
         have e17 : s 17 = (.int .i64 2) := hv.v (hall 17 (by decide)) rfl
         have e18 : s 18 = (.bool true) := hv.v (hall 18 (by decide)) rfl
         have e19 : s 19 = (.bool true) := hv.v (hall 19 (by decide)) rfl
         have e20 : s 20 = (.pointer (some ⟨wr.heap.size, 4, none⟩)) := hv.v (hall 20 (by decide)) rfl
         have e21 : s 21 = (.int .i64 2) := hv.v (hall 21 (by decide)) rfl
         have e22 : s 22 = (.bool false) := hv.v (hall 22 (by decide)) rfl
         have e23 : s 23 = (.bool false) := hv.v (hall 23 (by decide)) rfl
         have e24 : s 24 = (.bool false) := hv.v (hall 24 (by decide)) rfl
         have e25 : s 25 = (.bool false) := hv.v (hall 25 (by decide)) rfl
         have e26 : s 26 = (.agg #[.int .i64 (Wn : Int), .int .i64 (Hn : Int), .slice Am nm cm, .slice (some ⟨bC, oC, none⟩) nc cc]) := hv.v (hall 26 (by decide)) rfl
         have e27 : s 27 = (.pointer (some ⟨wr.heap.size, 0, none⟩)) := hv.v (hall 27 (by decide)) rfl
         have e28 : s 28 = (.agg #[.int .i64 e.1, .int .i64 e.2.1, .int .i64 e.2.2.1, .int .i64 e.2.2.2]) := hv.v (hall 28 (by decide)) rfl
         have e29 : s 29 = (.bool IB) := hv.v (hall 29 (by decide)) rfl
         have e30 : s 30 = (.bool (!IB)) := hv.v (hall 30 (by decide)) rfl
         have e31 : s 31 = (.bool (!IB)) := hv.v (hall 31 (by decide)) rfl
         simp only [e0, e1, e2, e3, e4, e5, e6, e7, e8, e9, e10, e11, e12, e13, e14, e15, e16, e17, e18, e19, e20, e21, e22, e23, e24, e25, e26, e27, e28, e29, e30, e31] at ha
         subst ha
         clear hall hv e0 e1 e2 e3 e4 e5 e6 e7 e8 e9 e10 e11 e12 e13 e14 e15 e16 e17 e18 e19 e20 e21 e22 e23 e24 e25 e26 e27 e28 e29 e30 e31
         obtain ⟨q0, q1, q2, q3, q4, q5, q6, q7, q8, q9, q10, q11, q12, hbl⟩ := hst
         cases IB with
         | false =>
          simp only [Bool.not_false]
          have hkd : creaseB L (prevC cs i) (e, 2) = false := by rw [creaseB_eq]; simp only; rw [← HIB.out, Bool.and_false]
          have HKD := Lib.hid hkd
          clear hkd
          have hbfin := hb0.trans ((HB1.out.trans ((hbw.trans (hbl.mono hbw.size)).mono HB1.out.size)).mono hb0.size)
          have HBF := Lib.hid hbfin
          clear hbfin
          go_wp2
          go_ret
          exact ⟨ret_bool (HNF.out (HF.out HKD.out)).symm, HBF.out⟩
         | true =>
          simp only [Bool.not_true]
          have hkd : creaseB L (prevC cs i) (e, 2) = true := by rw [creaseB_eq]; simp only; rw [← HIB.out, HPV.out]; decide
          have HKD := Lib.hid hkd
          clear hkd
          have hbfin := hbw.trans (hbl.mono hbw.size)
          go_wp2
          go_roundw
          case rel => exact ⟨i + 1, by omega, by go_num, Lib.hid (HST.out HKD.out), hbfin⟩
          case measure => simp [intOf]; omega
       ·have hkk : (kd != 1) = true := by simpa using hk1
        have hkk2 : (kd != 2) = true := by simpa using hk2
        have hkd : creaseB L (prevC cs i) (e, kd) = false := by rw [creaseB_eq, decide_eq_false (show ¬ (kd = 1 ∨ kd = 2) by omega)]; simp
        have HKD := Lib.hid hkd
        clear hkd hk1 hk2
        refine wp_region_inv (fun Lq aq WN => ∃ s : Nat → Value, aq = { tmps := #[.agg #[.int .i64 (Wn : Int), .int .i64 (Hn : Int), .slice Am nm cm, .slice (some ⟨bC, oC, none⟩) nc cc], .pointer (some ⟨w.heap.size, 0, none⟩), u2, .int .i64 i, .pointer (some ⟨wr.heap.size, 0, none⟩), .agg #[.int .i64 (Wn : Int), .int .i64 (Hn : Int), .slice Am nm cm, .slice (some ⟨bC, oC, none⟩) nc cc], .bool true, .bool false, .int .i64 i, .pointer (some ⟨w.heap.size, 3, none⟩), .slice (some ⟨bC, oC, none⟩) nc cc, .int .i64 nc, .bool true, u13, u14, .pointer (some ⟨w.heap.size, 3, none⟩), .slice (some ⟨bC, oC, none⟩) nc cc, .int .i64 i, .pointer (some ⟨bC, oC + i * 5, none⟩), .agg #[.int .i64 e.1, .int .i64 e.2.1, .int .i64 e.2.2.1, .int .i64 e.2.2.2, .int .i64 kd], (s 0), (s 1), (s 2), (s 3), (s 4), (s 5), (s 6), (s 7), (s 8), (s 9), (s 10), (s 11), (s 12), (s 13), (s 14), (s 15), (s 16), (s 17), (s 18), (s 19), (s 20), (s 21), (s 22), (s 23), (s 24), (s 25), (s 26), (s 27), (s 28), (s 29), (s 30), (s 31), undef, undef], defers := [] } ∧ Sv 32 [some (.int .i64 i), some (.bool true), some (.bool true), some (.pointer (some ⟨w.heap.size, 3, none⟩)), some (.slice (some ⟨bC, oC, none⟩) nc cc), some (.int .i64 i), some (.int .i64 j), some (.pointer (some ⟨bC, oC + j * 5, none⟩)), some (.pointer (some ⟨bC, oC + j * 5, none⟩)), some (.agg #[.int .i64 pe.1, .int .i64 pe.2.1, .int .i64 pe.2.2.1, .int .i64 pe.2.2.2]), some (.pointer (some ⟨wr.heap.size, 0, none⟩)), some (.agg #[.int .i64 e.1, .int .i64 e.2.1, .int .i64 e.2.2.1, .int .i64 e.2.2.2]), some (.bool true), some (.bool false), some (.bool false), some (.bool false), some (.pointer (some ⟨wr.heap.size, 4, none⟩)), some (.int .i64 kd), some (.bool true), some (.bool true), some (.pointer (some ⟨wr.heap.size, 4, none⟩)), some (.int .i64 kd), some (.bool true), some (.bool true), some (.bool true), some (.bool true), some (undef), some (undef), some (undef), some (undef), some (undef), some (.bool true)] Lq s ∧ (WN.cell? ⟨w.heap.size, 0, none⟩ = some (.int .i64 (Wn : Int)) ∧ WN.cell? ⟨w.heap.size, 1, none⟩ = some (.int .i64 (Hn : Int)) ∧ WN.cell? ⟨w.heap.size, 2, none⟩ = some (.slice Am nm cm) ∧ WN.cell? ⟨w.heap.size, 3, none⟩ = some (.slice (some ⟨bC, oC, none⟩) nc cc) ∧ WN.cell? ⟨wr.heap.size, 0, none⟩ = some (.int .i64 e.1) ∧ WN.cell? ⟨wr.heap.size, 1, none⟩ = some (.int .i64 e.2.1) ∧ WN.cell? ⟨wr.heap.size, 2, none⟩ = some (.int .i64 e.2.2.1) ∧ WN.cell? ⟨wr.heap.size, 3, none⟩ = some (.int .i64 e.2.2.2) ∧ WN.cell? ⟨wr.heap.size, 4, none⟩ = some (.int .i64 kd) ∧ WN.cell? ⟨bC, oC + j * 5, none⟩ = some (.int .i64 pe.1) ∧ WN.cell? ⟨bC, oC + j * 5 + 1, none⟩ = some (.int .i64 pe.2.1) ∧ WN.cell? ⟨bC, oC + j * 5 + 2, none⟩ = some (.int .i64 pe.2.2.1) ∧ WN.cell? ⟨bC, oC + j * 5 + 3, none⟩ = some (.int .i64 pe.2.2.2) ∧ Below w2.heap.size w2 WN)) (by kernel_rfl) ?_ ?_ ?_
        ·exact ⟨listF [u20, u21, u22, u23, u24, u25, u26, u27, u28, u29, u30, u31, u32, u33, u34, u35, u36, u37, u38, u39, u40, u41, u42, u43, u44, u45, u46, u47, u48, u49, u50, u51], rfl, Sv.start 32 _ _, ⟨b0, b1, b2, b3, g0, g1, g2, g3, g4, y0, y1, y2, y3, (Below.refl _ _).drew⟩⟩
        ·intro Lq aq WN i0 hI hr
         obtain ⟨s, rfl, hv, hst⟩ := hI
         have hi0 : i0 < 32 := ready_lt hr
         have HV := Lib.hid hv
         have HST := Lib.hid hst
         clear hv hst
         have hii : i0 = 0 ∨ i0 = 1 ∨ i0 = 2 ∨ i0 = 3 ∨ i0 = 4 ∨ i0 = 5 ∨ i0 = 6 ∨ i0 = 7 ∨ i0 = 8 ∨ i0 = 9 ∨ i0 = 10 ∨ i0 = 11 ∨ i0 = 12 ∨ i0 = 13 ∨ i0 = 14 ∨ i0 = 15 ∨ i0 = 16 ∨ i0 = 17 ∨ i0 = 18 ∨ i0 = 19 ∨ i0 = 20 ∨ i0 = 21 ∨ i0 = 22 ∨ i0 = 23 ∨ i0 = 24 ∨ i0 = 25 ∨ i0 = 26 ∨ i0 = 27 ∨ i0 = 28 ∨ i0 = 29 ∨ i0 = 30 ∨ i0 = 31 := by omega
         clear hi0
         rcases hii with rfl | rfl | rfl | rfl | rfl | rfl | rfl | rfl | rfl | rfl | rfl | rfl | rfl | rfl | rfl | rfl | rfl | rfl | rfl | rfl | rfl | rfl | rfl | rfl | rfl | rfl | rfl | rfl | rfl | rfl | rfl | rfl
         ·clear hr
          refine wpOp_step rfl (fun K hK => ?_)
          go_simp
          refine hK _ _ ?_
          exact ⟨upd s 0 (.int .i64 i), rfl, Sv.put HV.out (fun u hu => by cases hu; rfl), HST.out⟩
         ·have d0 := ready_dep hr (k := 0) (by kernel_rfl)
          clear hr
          have e0 : s 0 = .int .i64 i := HV.out.v d0 rfl
          refine wpOp_step rfl (fun K hK => ?_)
          go_simp
          refine hK _ _ ?_
          exact ⟨upd (upd s 0 (.int .i64 i)) 1 (.bool true), rfl, Sv.put (Sv.re (j := 0) (v := .int .i64 i) HV.out e0) (fun u hu => by cases hu; rfl), HST.out⟩
         ·have d1 := ready_dep hr (k := 1) (by kernel_rfl)
          clear hr
          have e1 : s 1 = .bool true := HV.out.v d1 rfl
          refine wpOp_step rfl (fun K hK => ?_)
          go_simp
          refine hK _ _ ?_
          exact ⟨upd (upd s 1 (.bool true)) 2 (.bool true), rfl, Sv.put (Sv.re (j := 1) (v := .bool true) HV.out e1) (fun u hu => by cases hu; rfl), HST.out⟩
         ·have d2 := ready_dep hr (k := 2) (by kernel_rfl)
          clear hr
          have e2 : s 2 = .bool true := HV.out.v d2 rfl
          refine wpOp_step rfl (fun K hK => ?_)
          go_simp
          refine hK _ _ ?_
          exact ⟨upd (upd s 2 (.bool true)) 3 (.pointer (some ⟨w.heap.size, 3, none⟩)), rfl, Sv.put (Sv.re (j := 2) (v := .bool true) HV.out e2) (fun u hu => by cases hu; rfl), HST.out⟩
         ·have d2 := ready_dep hr (k := 2) (by kernel_rfl)
          have d3 := ready_dep hr (k := 3) (by kernel_rfl)
          clear hr
          have e2 : s 2 = .bool true := HV.out.v d2 rfl
          have e3 : s 3 = .pointer (some ⟨w.heap.size, 3, none⟩) := HV.out.v d3 rfl
          obtain ⟨q0, q1, q2, q3, q4, q5, q6, q7, q8, q9, q10, q11, q12, hbl⟩ := HST.out
          refine wpOp_step rfl (fun K hK => ?_)
          go_simp
          refine hK _ _ ?_
          exact ⟨upd (upd (upd s 2 (.bool true)) 3 (.pointer (some ⟨w.heap.size, 3, none⟩))) 4 (.slice (some ⟨bC, oC, none⟩) nc cc), rfl, Sv.put (Sv.re (j := 3) (v := .pointer (some ⟨w.heap.size, 3, none⟩)) (Sv.re (j := 2) (v := .bool true) HV.out e2) e3) (fun u hu => by cases hu; rfl), HST.out⟩
         ·have d2 := ready_dep hr (k := 2) (by kernel_rfl)
          clear hr
          have e2 : s 2 = .bool true := HV.out.v d2 rfl
          refine wpOp_step rfl (fun K hK => ?_)
          go_simp
          refine hK _ _ ?_
          exact ⟨upd (upd s 2 (.bool true)) 5 (.int .i64 i), rfl, Sv.put (Sv.re (j := 2) (v := .bool true) HV.out e2) (fun u hu => by cases hu; rfl), HST.out⟩
         ·have d2 := ready_dep hr (k := 2) (by kernel_rfl)
          have d5 := ready_dep hr (k := 5) (by kernel_rfl)
          clear hr
          have e2 : s 2 = .bool true := HV.out.v d2 rfl
          have e5 : s 5 = .int .i64 i := HV.out.v d5 rfl
          refine wpOp_step rfl (fun K hK => ?_)
          go_simp
          refine hK _ _ ?_
          exact ⟨upd (upd (upd s 2 (.bool true)) 5 (.int .i64 i)) 6 (.int .i64 j), rfl, Sv.put (Sv.re (j := 5) (v := .int .i64 i) (Sv.re (j := 2) (v := .bool true) HV.out e2) e5) (fun u hu => by cases hu; rfl), HST.out⟩
         ·have d2 := ready_dep hr (k := 2) (by kernel_rfl)
          have d4 := ready_dep hr (k := 4) (by kernel_rfl)
          have d6 := ready_dep hr (k := 6) (by kernel_rfl)
          clear hr
          have e2 : s 2 = .bool true := HV.out.v d2 rfl
          have e4 : s 4 = .slice (some ⟨bC, oC, none⟩) nc cc := HV.out.v d4 rfl
          have e6 : s 6 = .int .i64 j := HV.out.v d6 rfl
          refine wpOp_step rfl (fun K hK => ?_)
          go_simp
          refine hK _ _ ?_
          exact ⟨upd (upd (upd (upd s 2 (.bool true)) 4 (.slice (some ⟨bC, oC, none⟩) nc cc)) 6 (.int .i64 j)) 7 (.pointer (some ⟨bC, oC + j * 5, none⟩)), rfl, Sv.put (Sv.re (j := 6) (v := .int .i64 j) (Sv.re (j := 4) (v := .slice (some ⟨bC, oC, none⟩) nc cc) (Sv.re (j := 2) (v := .bool true) HV.out e2) e4) e6) (fun u hu => by cases hu; rfl), HST.out⟩
         ·have d2 := ready_dep hr (k := 2) (by kernel_rfl)
          have d7 := ready_dep hr (k := 7) (by kernel_rfl)
          clear hr
          have e2 : s 2 = .bool true := HV.out.v d2 rfl
          have e7 : s 7 = .pointer (some ⟨bC, oC + j * 5, none⟩) := HV.out.v d7 rfl
          refine wpOp_step rfl (fun K hK => ?_)
          go_simp
          refine hK _ _ ?_
          exact ⟨upd (upd (upd s 2 (.bool true)) 7 (.pointer (some ⟨bC, oC + j * 5, none⟩))) 8 (.pointer (some ⟨bC, oC + j * 5, none⟩)), rfl, Sv.put (Sv.re (j := 7) (v := .pointer (some ⟨bC, oC + j * 5, none⟩)) (Sv.re (j := 2) (v := .bool true) HV.out e2) e7) (fun u hu => by cases hu; rfl), HST.out⟩
         ·have d2 := ready_dep hr (k := 2) (by kernel_rfl)
          have d8 := ready_dep hr (k := 8) (by kernel_rfl)
          clear hr
          have e2 : s 2 = .bool true := HV.out.v d2 rfl
          have e8 : s 8 = .pointer (some ⟨bC, oC + j * 5, none⟩) := HV.out.v d8 rfl
          obtain ⟨q0, q1, q2, q3, q4, q5, q6, q7, q8, q9, q10, q11, q12, hbl⟩ := HST.out
          refine wpOp_step rfl (fun K hK => ?_)
          go_simp
          refine hK _ _ ?_
          exact ⟨upd (upd (upd s 2 (.bool true)) 8 (.pointer (some ⟨bC, oC + j * 5, none⟩))) 9 (.agg #[.int .i64 pe.1, .int .i64 pe.2.1, .int .i64 pe.2.2.1, .int .i64 pe.2.2.2]), rfl, Sv.put (Sv.re (j := 8) (v := .pointer (some ⟨bC, oC + j * 5, none⟩)) (Sv.re (j := 2) (v := .bool true) HV.out e2) e8) (fun u hu => by cases hu; rfl), HST.out⟩
         ·have d2 := ready_dep hr (k := 2) (by kernel_rfl)
          clear hr
          have e2 : s 2 = .bool true := HV.out.v d2 rfl
          refine wpOp_step rfl (fun K hK => ?_)
          go_simp
          refine hK _ _ ?_
          exact ⟨upd (upd s 2 (.bool true)) 10 (.pointer (some ⟨wr.heap.size, 0, none⟩)), rfl, Sv.put (Sv.re (j := 2) (v := .bool true) HV.out e2) (fun u hu => by cases hu; rfl), HST.out⟩
         ·have d2 := ready_dep hr (k := 2) (by kernel_rfl)
          have d10 := ready_dep hr (k := 10) (by kernel_rfl)
          clear hr
          have e2 : s 2 = .bool true := HV.out.v d2 rfl
          have e10 : s 10 = .pointer (some ⟨wr.heap.size, 0, none⟩) := HV.out.v d10 rfl
          obtain ⟨q0, q1, q2, q3, q4, q5, q6, q7, q8, q9, q10, q11, q12, hbl⟩ := HST.out
          refine wpOp_step rfl (fun K hK => ?_)
          go_simp
          refine hK _ _ ?_
          exact ⟨upd (upd (upd s 2 (.bool true)) 10 (.pointer (some ⟨wr.heap.size, 0, none⟩))) 11 (.agg #[.int .i64 e.1, .int .i64 e.2.1, .int .i64 e.2.2.1, .int .i64 e.2.2.2]), rfl, Sv.put (Sv.re (j := 10) (v := .pointer (some ⟨wr.heap.size, 0, none⟩)) (Sv.re (j := 2) (v := .bool true) HV.out e2) e10) (fun u hu => by cases hu; rfl), HST.out⟩
         ·have d2 := ready_dep hr (k := 2) (by kernel_rfl)
          have d9 := ready_dep hr (k := 9) (by kernel_rfl)
          have d11 := ready_dep hr (k := 11) (by kernel_rfl)
          clear hr
          have e2 : s 2 = .bool true := HV.out.v d2 rfl
          have e9 : s 9 = .agg #[.int .i64 pe.1, .int .i64 pe.2.1, .int .i64 pe.2.2.1, .int .i64 pe.2.2.2] := HV.out.v d9 rfl
          have e11 : s 11 = .agg #[.int .i64 e.1, .int .i64 e.2.1, .int .i64 e.2.2.1, .int .i64 e.2.2.2] := HV.out.v d11 rfl
          obtain ⟨q0, q1, q2, q3, q4, q5, q6, q7, q8, q9, q10, q11, q12, hbl⟩ := HST.out
          refine wpOp_step rfl (fun K hK => ?_)
          go_simp
          refine (CC.out _).mono ?_
          rintro e' wc ⟨he, hbc⟩
          subst he
          refine hK _ _ ?_
          exact ⟨upd (upd (upd (upd s 2 (.bool true)) 9 (.agg #[.int .i64 pe.1, .int .i64 pe.2.1, .int .i64 pe.2.2.1, .int .i64 pe.2.2.2])) 11 (.agg #[.int .i64 e.1, .int .i64 e.2.1, .int .i64 e.2.2.1, .int .i64 e.2.2.2])) 12 (.bool true), rfl, Sv.put (Sv.re (j := 11) (v := .agg #[.int .i64 e.1, .int .i64 e.2.1, .int .i64 e.2.2.1, .int .i64 e.2.2.2]) (Sv.re (j := 9) (v := .agg #[.int .i64 pe.1, .int .i64 pe.2.1, .int .i64 pe.2.2.1, .int .i64 pe.2.2.2]) (Sv.re (j := 2) (v := .bool true) HV.out e2) e9) e11) (fun u hu => by cases hu; rfl), ⟨stay_c q0 hbc (Nat.le_refl _), stay_c q1 hbc (Nat.le_refl _), stay_c q2 hbc (Nat.le_refl _), stay_c q3 hbc (Nat.le_refl _), stay_c q4 hbc (Nat.le_refl _), stay_c q5 hbc (Nat.le_refl _), stay_c q6 hbc (Nat.le_refl _), stay_c q7 hbc (Nat.le_refl _), stay_c q8 hbc (Nat.le_refl _), stay_c q9 hbc (Nat.le_refl _), stay_c q10 hbc (Nat.le_refl _), stay_c q11 hbc (Nat.le_refl _), stay_c q12 hbc (Nat.le_refl _), stay_b hbl hbc⟩⟩
         ·have d2 := ready_dep hr (k := 2) (by kernel_rfl)
          have d12 := ready_dep hr (k := 12) (by kernel_rfl)
          clear hr
          have e2 : s 2 = .bool true := HV.out.v d2 rfl
          have e12 : s 12 = .bool true := HV.out.v d12 rfl
          refine wpOp_step rfl (fun K hK => ?_)
          go_simp
          refine hK _ _ ?_
          exact ⟨upd (upd (upd s 2 (.bool true)) 12 (.bool true)) 13 (.bool false), rfl, Sv.put (Sv.re (j := 12) (v := .bool true) (Sv.re (j := 2) (v := .bool true) HV.out e2) e12) (fun u hu => by cases hu; rfl), HST.out⟩
         ·have d2 := ready_dep hr (k := 2) (by kernel_rfl)
          have d13 := ready_dep hr (k := 13) (by kernel_rfl)
          clear hr
          have e2 : s 2 = .bool true := HV.out.v d2 rfl
          have e13 : s 13 = .bool false := HV.out.v d13 rfl
          refine wpOp_step rfl (fun K hK => ?_)
          go_simp
          refine hK _ _ ?_
          exact ⟨upd (upd (upd s 2 (.bool true)) 13 (.bool false)) 14 (.bool false), rfl, Sv.put (Sv.re (j := 13) (v := .bool false) (Sv.re (j := 2) (v := .bool true) HV.out e2) e13) (fun u hu => by cases hu; rfl), HST.out⟩
         ·have d14 := ready_dep hr (k := 14) (by kernel_rfl)
          clear hr
          have e14 : s 14 = .bool false := HV.out.v d14 rfl
          refine wpOp_step rfl (fun K hK => ?_)
          go_simp
          refine hK _ _ ?_
          exact ⟨upd (upd s 14 (.bool false)) 15 (.bool false), rfl, Sv.put (Sv.re (j := 14) (v := .bool false) HV.out e14) (fun u hu => by cases hu; rfl), HST.out⟩
         ·have d15 := ready_dep hr (k := 15) (by kernel_rfl)
          clear hr
          have e15 : s 15 = .bool false := HV.out.v d15 rfl
          refine wpOp_step rfl (fun K hK => ?_)
          go_simp
          refine hK _ _ ?_
          exact ⟨upd (upd s 15 (.bool false)) 16 (.pointer (some ⟨wr.heap.size, 4, none⟩)), rfl, Sv.put (Sv.re (j := 15) (v := .bool false) HV.out e15) (fun u hu => by cases hu; rfl), HST.out⟩
         ·have d15 := ready_dep hr (k := 15) (by kernel_rfl)
          have d16 := ready_dep hr (k := 16) (by kernel_rfl)
          clear hr
          have e15 : s 15 = .bool false := HV.out.v d15 rfl
          have e16 : s 16 = .pointer (some ⟨wr.heap.size, 4, none⟩) := HV.out.v d16 rfl
          obtain ⟨q0, q1, q2, q3, q4, q5, q6, q7, q8, q9, q10, q11, q12, hbl⟩ := HST.out
          refine wpOp_step rfl (fun K hK => ?_)
          go_simp
          refine hK _ _ ?_
          exact ⟨upd (upd (upd s 15 (.bool false)) 16 (.pointer (some ⟨wr.heap.size, 4, none⟩))) 17 (.int .i64 kd), rfl, Sv.put (Sv.re (j := 16) (v := .pointer (some ⟨wr.heap.size, 4, none⟩)) (Sv.re (j := 15) (v := .bool false) HV.out e15) e16) (fun u hu => by cases hu; rfl), HST.out⟩
         ·have d15 := ready_dep hr (k := 15) (by kernel_rfl)
          have d17 := ready_dep hr (k := 17) (by kernel_rfl)
          clear hr
          have e15 : s 15 = .bool false := HV.out.v d15 rfl
          have e17 : s 17 = .int .i64 kd := HV.out.v d17 rfl
          refine wpOp_step rfl (fun K hK => ?_)
          go_simp
          refine hK _ _ ?_
          exact ⟨upd (upd (upd s 15 (.bool false)) 17 (.int .i64 kd)) 18 (.bool true), rfl, Sv.put (Sv.re (j := 17) (v := .int .i64 kd) (Sv.re (j := 15) (v := .bool false) HV.out e15) e17) (fun u hu => by cases hu; rfl), HST.out⟩
         ·have d15 := ready_dep hr (k := 15) (by kernel_rfl)
          have d18 := ready_dep hr (k := 18) (by kernel_rfl)
          clear hr
          have e15 : s 15 = .bool false := HV.out.v d15 rfl
          have e18 : s 18 = .bool true := HV.out.v d18 rfl
          refine wpOp_step rfl (fun K hK => ?_)
          go_simp
          refine hK _ _ ?_
          exact ⟨upd (upd (upd s 15 (.bool false)) 18 (.bool true)) 19 (.bool true), rfl, Sv.put (Sv.re (j := 18) (v := .bool true) (Sv.re (j := 15) (v := .bool false) HV.out e15) e18) (fun u hu => by cases hu; rfl), HST.out⟩
         ·have d19 := ready_dep hr (k := 19) (by kernel_rfl)
          clear hr
          have e19 : s 19 = .bool true := HV.out.v d19 rfl
          refine wpOp_step rfl (fun K hK => ?_)
          go_simp
          refine hK _ _ ?_
          exact ⟨upd (upd s 19 (.bool true)) 20 (.pointer (some ⟨wr.heap.size, 4, none⟩)), rfl, Sv.put (Sv.re (j := 19) (v := .bool true) HV.out e19) (fun u hu => by cases hu; rfl), HST.out⟩
         ·have d19 := ready_dep hr (k := 19) (by kernel_rfl)
          have d20 := ready_dep hr (k := 20) (by kernel_rfl)
          clear hr
          have e19 : s 19 = .bool true := HV.out.v d19 rfl
          have e20 : s 20 = .pointer (some ⟨wr.heap.size, 4, none⟩) := HV.out.v d20 rfl
          obtain ⟨q0, q1, q2, q3, q4, q5, q6, q7, q8, q9, q10, q11, q12, hbl⟩ := HST.out
          refine wpOp_step rfl (fun K hK => ?_)
          go_simp
          refine hK _ _ ?_
          exact ⟨upd (upd (upd s 19 (.bool true)) 20 (.pointer (some ⟨wr.heap.size, 4, none⟩))) 21 (.int .i64 kd), rfl, Sv.put (Sv.re (j := 20) (v := .pointer (some ⟨wr.heap.size, 4, none⟩)) (Sv.re (j := 19) (v := .bool true) HV.out e19) e20) (fun u hu => by cases hu; rfl), HST.out⟩
         ·have d19 := ready_dep hr (k := 19) (by kernel_rfl)
          have d21 := ready_dep hr (k := 21) (by kernel_rfl)
          clear hr
          have e19 : s 19 = .bool true := HV.out.v d19 rfl
          have e21 : s 21 = .int .i64 kd := HV.out.v d21 rfl
          refine wpOp_step rfl (fun K hK => ?_)
          go_simp
          refine hK _ _ ?_
          exact ⟨upd (upd (upd s 19 (.bool true)) 21 (.int .i64 kd)) 22 (.bool true), rfl, Sv.put (Sv.re (j := 21) (v := .int .i64 kd) (Sv.re (j := 19) (v := .bool true) HV.out e19) e21) (fun u hu => by cases hu; rfl), HST.out⟩
         ·have d15 := ready_dep hr (k := 15) (by kernel_rfl)
          have d19 := ready_dep hr (k := 19) (by kernel_rfl)
          have d22 := ready_dep hr (k := 22) (by kernel_rfl)
          clear hr
          have e15 : s 15 = .bool false := HV.out.v d15 rfl
          have e19 : s 19 = .bool true := HV.out.v d19 rfl
          have e22 : s 22 = .bool true := HV.out.v d22 rfl
          refine wpOp_step rfl (fun K hK => ?_)
          go_simp
          refine hK _ _ ?_
          exact ⟨upd (upd (upd (upd s 15 (.bool false)) 19 (.bool true)) 22 (.bool true)) 23 (.bool true), rfl, Sv.put (Sv.re (j := 22) (v := .bool true) (Sv.re (j := 19) (v := .bool true) (Sv.re (j := 15) (v := .bool false) HV.out e15) e19) e22) (fun u hu => by cases hu; rfl), HST.out⟩
         ·have d15 := ready_dep hr (k := 15) (by kernel_rfl)
          have d23 := ready_dep hr (k := 23) (by kernel_rfl)
          clear hr
          have e15 : s 15 = .bool false := HV.out.v d15 rfl
          have e23 : s 23 = .bool true := HV.out.v d23 rfl
          refine wpOp_step rfl (fun K hK => ?_)
          go_simp
          refine hK _ _ ?_
          exact ⟨upd (upd (upd s 15 (.bool false)) 23 (.bool true)) 24 (.bool true), rfl, Sv.put (Sv.re (j := 23) (v := .bool true) (Sv.re (j := 15) (v := .bool false) HV.out e15) e23) (fun u hu => by cases hu; rfl), HST.out⟩
         ·have d24 := ready_dep hr (k := 24) (by kernel_rfl)
          clear hr
          have e24 : s 24 = .bool true := HV.out.v d24 rfl
          refine wpOp_step rfl (fun K hK => ?_)
          go_simp
          refine hK _ _ ?_
          exact ⟨upd (upd s 24 (.bool true)) 25 (.bool true), rfl, Sv.put (Sv.re (j := 24) (v := .bool true) HV.out e24) (fun u hu => by cases hu; rfl), HST.out⟩
         ·have d25 := ready_dep hr (k := 25) (by kernel_rfl)
          clear hr
          have e25 : s 25 = .bool true := HV.out.v d25 rfl
          refine wpOp_step rfl (fun K hK => ?_)
          go_simp
          refine hK _ _ ?_
          exact ⟨upd (upd s 25 (.bool true)) 26 (undef), rfl, Sv.put (Sv.re (j := 25) (v := .bool true) HV.out e25) (fun u hu => by cases hu; rfl), HST.out⟩
         ·have d25 := ready_dep hr (k := 25) (by kernel_rfl)
          clear hr
          have e25 : s 25 = .bool true := HV.out.v d25 rfl
          refine wpOp_step rfl (fun K hK => ?_)
          go_simp
          refine hK _ _ ?_
          exact ⟨upd (upd s 25 (.bool true)) 27 (undef), rfl, Sv.put (Sv.re (j := 25) (v := .bool true) HV.out e25) (fun u hu => by cases hu; rfl), HST.out⟩
         ·have d25 := ready_dep hr (k := 25) (by kernel_rfl)
          clear hr
          have e25 : s 25 = .bool true := HV.out.v d25 rfl
          refine wpOp_step rfl (fun K hK => ?_)
          go_simp
          refine hK _ _ ?_
          exact ⟨upd (upd s 25 (.bool true)) 28 (undef), rfl, Sv.put (Sv.re (j := 25) (v := .bool true) HV.out e25) (fun u hu => by cases hu; rfl), HST.out⟩
         ·have d25 := ready_dep hr (k := 25) (by kernel_rfl)
          clear hr
          have e25 : s 25 = .bool true := HV.out.v d25 rfl
          refine wpOp_step rfl (fun K hK => ?_)
          go_simp
          refine hK _ _ ?_
          exact ⟨upd (upd s 25 (.bool true)) 29 (undef), rfl, Sv.put (Sv.re (j := 25) (v := .bool true) HV.out e25) (fun u hu => by cases hu; rfl), HST.out⟩
         ·have d25 := ready_dep hr (k := 25) (by kernel_rfl)
          clear hr
          have e25 : s 25 = .bool true := HV.out.v d25 rfl
          refine wpOp_step rfl (fun K hK => ?_)
          go_simp
          refine hK _ _ ?_
          exact ⟨upd (upd s 25 (.bool true)) 30 (undef), rfl, Sv.put (Sv.re (j := 25) (v := .bool true) HV.out e25) (fun u hu => by cases hu; rfl), HST.out⟩
         ·have d25 := ready_dep hr (k := 25) (by kernel_rfl)
          have d30 := ready_dep hr (k := 30) (by kernel_rfl)
          clear hr
          have e25 : s 25 = .bool true := HV.out.v d25 rfl
          have e30 : s 30 = undef := HV.out.v d30 rfl
          refine wpOp_step rfl (fun K hK => ?_)
          go_simp
          refine hK _ _ ?_
          exact ⟨upd (upd (upd s 25 (.bool true)) 30 (undef)) 31 (.bool true), rfl, Sv.put (Sv.re (j := 30) (v := undef) (Sv.re (j := 25) (v := .bool true) HV.out e25) e30) (fun u hu => by cases hu; rfl), HST.out⟩
        ·intro Lq aq WN hI hrd
         obtain ⟨s, ha, hv, hst⟩ := hI
         have hall := all_listedM hrd hv.sz (by kernel_rfl)
         clear hrd
         have e0 : s 0 = (.int .i64 i) := hv.v (hall 0 (by decide)) rfl
         have e1 : s 1 = (.bool true) := hv.v (hall 1 (by decide)) rfl
         have e2 : s 2 = (.bool true) := hv.v (hall 2 (by decide)) rfl
         have e3 : s 3 = (.pointer (some ⟨w.heap.size, 3, none⟩)) := hv.v (hall 3 (by decide)) rfl
         have e4 : s 4 = (.slice (some ⟨bC, oC, none⟩) nc cc) := hv.v (hall 4 (by decide)) rfl
         have e5 : s 5 = (.int .i64 i) := hv.v (hall 5 (by decide)) rfl
         have e6 : s 6 = (.int .i64 j) := hv.v (hall 6 (by decide)) rfl
         have e7 : s 7 = (.pointer (some ⟨bC, oC + j * 5, none⟩)) := hv.v (hall 7 (by decide)) rfl
         have e8 : s 8 = (.pointer (some ⟨bC, oC + j * 5, none⟩)) := hv.v (hall 8 (by decide)) rfl
         have e9 : s 9 = (.agg #[.int .i64 pe.1, .int .i64 pe.2.1, .int .i64 pe.2.2.1, .int .i64 pe.2.2.2]) := hv.v (hall 9 (by decide)) rfl
         have e10 : s 10 = (.pointer (some ⟨wr.heap.size, 0, none⟩)) := hv.v (hall 10 (by decide)) rfl
         have e11 : s 11 = (.agg #[.int .i64 e.1, .int .i64 e.2.1, .int .i64 e.2.2.1, .int .i64 e.2.2.2]) := hv.v (hall 11 (by decide)) rfl
         have e12 : s 12 = (.bool true) := hv.v (hall 12 (by decide)) rfl
         have e13 : s 13 = (.bool false) := hv.v (hall 13 (by decide)) rfl
         have e14 : s 14 = (.bool false) := hv.v (hall 14 (by decide)) rfl
         have e15 : s 15 = (.bool false) := hv.v (hall 15 (by decide)) rfl
         have e16 : s 16 = (.pointer (some ⟨wr.heap.size, 4, none⟩)) := hv.v (hall 16 (by decide)) rfl
         have e17 : s 17 = (.int .i64 kd) := hv.v (hall 17 (by decide)) rfl
         have e18 : s 18 = (.bool true) := hv.v (hall 18 (by decide)) rfl
         have e19 : s 19 = (.bool true) := hv.v (hall 19 (by decide)) rfl
         have e20 : s 20 = (.pointer (some ⟨wr.heap.size, 4, none⟩)) := hv.v (hall 20 (by decide)) rfl
         have e21 : s 21 = (.int .i64 kd) := hv.v (hall 21 (by decide)) rfl
         have e22 : s 22 = (.bool true) := hv.v (hall 22 (by decide)) rfl
         have e23 : s 23 = (.bool true) := hv.v (hall 23 (by decide)) rfl
         have e24 : s 24 = (.bool true) := hv.v (hall 24 (by decide)) rfl
         have e25 : s 25 = (.bool true) := hv.v (hall 25 (by decide)) rfl
         have e26 : s 26 = (undef) := hv.v (hall 26 (by decide)) rfl
         have e27 : s 27 = (undef) := hv.v (hall 27 (by decide)) rfl
         have e28 : s 28 = (undef) := hv.v (hall 28 (by decide)) rfl
         have e29 : s 29 = (undef) := hv.v (hall 29 (by decide)) rfl
         have e30 : s 30 = (undef) := hv.v (hall 30 (by decide)) rfl
         have e31 : s 31 = (.bool true) := hv.v (hall 31 (by decide)) rfl
         simp only [e0, e1, e2, e3, e4, e5, e6, e7, e8, e9, e10, e11, e12, e13, e14, e15, e16, e17, e18, e19, e20, e21, e22, e23, e24, e25, e26, e27, e28, e29, e30, e31] at ha
         subst ha
         clear hall hv e0 e1 e2 e3 e4 e5 e6 e7 e8 e9 e10 e11 e12 e13 e14 e15 e16 e17 e18 e19 e20 e21 e22 e23 e24 e25 e26 e27 e28 e29 e30 e31
         obtain ⟨q0, q1, q2, q3, q4, q5, q6, q7, q8, q9, q10, q11, q12, hbl⟩ := hst
         have hbfin := hb0.trans ((HB1.out.trans ((hbw.trans (hbl.mono hbw.size)).mono HB1.out.size)).mono hb0.size)
         have HBF := Lib.hid hbfin
         clear hbfin
         go_wp2
         go_ret
         exact ⟨ret_bool (HNF.out (HF.out HKD.out)).symm, HBF.out⟩
   ·obtain rfl : i = nc := by omega
    have hii : ¬ (i : Int) < (i : Int) := by omega
    have b0 := keep_c f0 hbr hz1
    have b1 := keep_c f1 hbr hz1
    have b2 := keep_c f2 hbr hz1
    have cJ := CJ.out wr (HB1.out.trans (hbr.mono HB1.out.size))
    have hall : creasesB L none cs = true := by have := hcr.out; rwa [List.take_of_length_le (by omega)] at this
    have hnb : joinB L = NB := by rw [HNB2.out, hall, Bool.true_and]
    have CJ2 := Lib.hid cJ
    have HNJ := Lib.hid hnb
    clear cJ hnb hall
    go_wp2_with (go_at_call 36; refine CJ2.out.mono ?_; rintro r w9 ⟨rfl, hb9⟩)
    go_ret
    exact ⟨ret_bool HNJ.out, hb0.trans ((HB1.out.trans ((stay_b hbr hb9).mono HB1.out.size)).mono hb0.size)⟩
end Go.Proofs.YtoienokpchbglaaDoor
