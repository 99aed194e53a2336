/- New: paper of a sheet. Printed by gen_new.py. -/
import Derived.Test.YtoienokpchbglaaDoorNew0
namespace Go.Proofs.YtoienokpchbglaaDoor
set_option linter.unusedSimpArgs false
set_option linter.unusedVariables false
open Go.RowKit Go.Maps

set_option maxRecDepth 100000 in
set_option maxHeartbeats 12800000 in
theorem new_any (W H : Int) (Am Ac : Option Addr) (nm cm nc cc : Nat) (mask : List Int) (cs : List C5) (w : World) (hs : Steps w) (hm : Rd w 1 Am nm (vis mask)) (hc : Rd w 5 Ac nc (ccs cs)) (hnm : nm ≤ 140737488351232) (hnc : nc ≤ 140737488351232) :
  Calls Tryd.prog 27 #[.agg #[.int .i64 W, .int .i64 H, .slice Am nm cm, .slice Ac nc cc]] w fun e w' => Below w.heap.size w w' ∧
   ((newB W H mask cs = false ∧ ∃ v, e = .returned (.tuple #[v, .bool false])) ∨
    (newB W H mask cs = true ∧ ∃ Wn Hn pb b0 nb kb mn vt, W = ((Wn : Nat) : Int) ∧ H = ((Hn : Nat) : Int) ∧ (1 ≤ Wn ∧ Wn ≤ 8) ∧ (1 ≤ Hn ∧ Hn ≤ 8) ∧ mask.length = Wn * Hn ∧ e = .returned (.tuple #[.pointer (some ⟨pb, 0, none⟩), .bool true]) ∧ NewS w b0 pb nb kb Wn Hn (.slice Am nm cm) (.slice Ac nc cc) vt (trisL Wn mask) mn cs cs.length w')) := by
 have kb0 := heap_alloc_new w (.cells #[.int .i64 W, .int .i64 H, .slice Am nm cm, .slice Ac nc cc] 25)
 have hb0 := below_new w (.cells #[.int .i64 W, .int .i64 H, .slice Am nm cm, .slice Ac nc cc] 25)
 have e0 := cell_of_blk kb0 0
 have e1 := cell_of_blk kb0 1
 have e2 := cell_of_blk kb0 2
 have e3 := cell_of_blk kb0 3
 simp only [List.getElem?_toArray, List.getElem?_cons_zero, List.getElem?_cons_succ] at e0 e1 e2 e3
 have cL := lay_any Am nm cm (.slice Ac nc cc) W H mask _ (hm.alloc (.cells #[.int .i64 W, .int .i64 H, .slice Am nm cm, .slice Ac nc cc] 25)) hnm
 obtain ⟨NB, hNB⟩ : ∃ NB, NB = newB W H mask cs := ⟨_, rfl⟩
 rw [← hNB]
 have HNB := Lib.hid hNB
 have HS := Lib.hid hs
 have HC := Lib.hid hc
 have CL := Lib.hid cL
 clear cL hNB hs hc hm
 go_enter Tryd.func27, Tryd.ntmps27
 go_upto_region 1 with fail
 go_wp2_with (go_at_call 59; refine CL.out.mono ?_; rintro r w1 ⟨hb1, hor⟩; have f3 := stay_c e3 hb1 (Nat.le_refl _); rcases hor with ⟨hcb, rfl⟩ | ⟨hcb, rfl, Wn, Hn, m, vt, rfl, rfl, hW, hH, hml, hL1⟩)
 ·have hNBf : NB = false := by rw [HNB.out]; unfold newB; rw [hcb]; rfl
  have HNBF := Lib.hid hNBf
  clear hcb hNBf
  have hbf := stay_b hb0 hb1
  go_wp2
  go_ret2
  exact ⟨hbf, .inl ⟨HNBF.out, _, rfl⟩⟩
 ·have hz : (w.alloc (.cells #[.int .i64 (Wn : Int), .int .i64 (Hn : Int), .slice Am nm cm, .slice Ac nc cc] 25)).heap.size = w.heap.size + 1 := by simp
  have hb1 := stay_b hb0 hL1.bel
  have hS1 : NewS w w.heap.size (w.heap.size + 1 + 1 + 1 + 1) (w.heap.size + 1 + 1) (w.heap.size + 1 + 1 + 1) Wn Hn (.slice Am nm cm) (.slice Ac nc cc) vt (trisL Wn mask) m cs 0 w1 := by
   have hp := hL1.pap
   rw [hz] at hp
   exact ⟨hp, own_mono hL1.own (by rw [hz]; omega), hb1, blk_below kb0 hL1.bel (blk_lt kb0), by omega, by omega⟩
  have hbx := hS1.box
  have hcl := HC.out.creases_len
  have hnb2 : NB = (creasesB (trisL Wn mask) none cs && joinB (trisL Wn mask)) := by rw [HNB.out]; unfold newB; rw [hcb]; rfl
  have htr : ∀ t ∈ trisL Wn mask, 0 ≤ t.1 ∧ t.1 < Wn ∧ 0 ≤ t.2.1 ∧ t.2.1 < Hn ∧ K4 t := fun t ht => trisL_in (by omega) hml ht
  have hso := partT_sorted (show 0 < Wn by omega) mask mask.length
  have hln : (trisL Wn mask).length ≤ 1000 := by
   have := part_len Wn mask mask.length 0
   rw [List.length_append] at this
   have h2 : Wn * Hn ≤ 8 * 8 := Nat.mul_le_mul hW.2 hH.2
   have h3 : trisL Wn mask = partT Wn mask mask.length := rfl
   rw [h3]
   omega
  have hso2 : (trisL Wn mask).Pairwise triLt := hso
  obtain ⟨L, hLe⟩ : ∃ L, L = trisL Wn mask := ⟨_, rfl⟩
  rw [← hLe] at hS1 hnb2 htr hln hso2
  have HNB2 := Lib.hid hnb2
  have HS1 := Lib.hid hS1
  have HTR := Lib.hid htr
  have HLN := Lib.hid hln
  have HSO := Lib.hid hso2
  have HCB := Lib.hid hcb
  have HLE := Lib.hid hLe
  clear hnb2 hS1 htr hln hso hso2 hcb hL1 hbx HNB hLe kb0 hb0 e0 e1 e2 e3 hz
  go_loopw [18] (fun x wr => ∃ i : Nat, i ≤ nc ∧ x = .int .i64 i ∧ Hid (creasesB L none (cs.take i) = true) ∧ Hid (NewS w w.heap.size (w.heap.size + 1 + 1 + 1 + 1) (w.heap.size + 1 + 1) (w.heap.size + 1 + 1 + 1) Wn Hn (.slice Am nm cm) (.slice Ac nc cc) vt L m cs i wr)) (fun x _ => nc - (intOf x).toNat)
  case atStart => exact ⟨0, by omega, rfl, Lib.hid rfl, HS1⟩
  case round =>
   obtain ⟨i, hi, rfl, hcr, hS⟩ := hrel
   by_cases hin : i < nc
   ·obtain ⟨c, hci⟩ : ∃ c, cs[i]? = some c := ⟨_, List.getElem?_eq_getElem (by omega)⟩
    obtain ⟨bC, oC, hA, hbC, _⟩ := HC.out.2 (by omega)
    subst hA
    have hCr := HC.out.below hS.out.bel
    obtain ⟨x0, x1, x2, x3, x4⟩ := hCr.crease hci
    have HCI := Lib.hid hci
    have hfail := fun h => creases_fail (l := L) hci h
    have hstep := fun h => creases_take (l := L) hci hcr.out h
    have HF := Lib.hid hfail
    have HST := Lib.hid hstep
    have hib : (i : Int) < 140737488351232 := by omega
    have hii : (i : Int) < (nc : Int) := by omega
    clear hci hfail hstep
    obtain ⟨e, kd⟩ := c
    simp only at x0 x1 x2 x3 x4
    have hprev : ∀ j, i = j + 1 → ∃ pc, cs[j]? = some pc := fun j hj => ⟨_, List.getElem?_eq_getElem (by omega)⟩
    go_wp2_with fail
    have kc := heap_alloc_new wr (.cells #[.int .i64 e.1, .int .i64 e.2.1, .int .i64 e.2.2.1, .int .i64 e.2.2.2, .int .i64 kd] 88)
    have hS2 := hS.out.below (below_new wr (.cells #[.int .i64 e.1, .int .i64 e.2.1, .int .i64 e.2.2.1, .int .i64 e.2.2.2, .int .i64 kd] 88))
    have hC2 := hCr.alloc (.cells #[.int .i64 e.1, .int .i64 e.2.1, .int .i64 e.2.2.1, .int .i64 e.2.2.2, .int .i64 kd] 88)
    have hbw : Below wr.heap.size wr (wr.alloc (.cells #[.int .i64 e.1, .int .i64 e.2.1, .int .i64 e.2.2.1, .int .i64 e.2.2.2, .int .i64 kd] 88)) := below_new wr (.cells #[.int .i64 e.1, .int .i64 e.2.1, .int .i64 e.2.2.1, .int .i64 e.2.2.2, .int .i64 kd] 88)
    clear x0 x1 x2 x3 x4 hCr
    generalize wr.alloc (.cells #[.int .i64 e.1, .int .i64 e.2.1, .int .i64 e.2.2.1, .int .i64 e.2.2.2, .int .i64 kd] 88) = w2 at kc hS2 hC2 hbw ⊢
    have g0 := cell_of_blk kc 0
    have g1 := cell_of_blk kc 1
    have g2 := cell_of_blk kc 2
    have g3 := cell_of_blk kc 3
    have g4 := cell_of_blk kc 4
    have b3 := cell_of_blk hS2.box 3
    simp only [List.getElem?_toArray, List.getElem?_cons_zero, List.getElem?_cons_succ] at g0 g1 g2 g3 g4 b3
    have cI := fun (w3 : World) (hb : Below w2.heap.size w2 w3) => inner_any (w.heap.size + 1 + 1 + 1 + 1) (w.heap.size + 1 + 1) (w.heap.size + 1 + 1 + 1) Wn Hn (.slice Am nm cm) (.slice (some ⟨bC, oC, none⟩) nc cc) vt L m i (kindF (cs.take i)) e w3 (HS.out.below (hS2.bel.trans (hb.mono hS2.bel.size))) (hS2.pap.below hb) hW.2 hH.2 HTR.out
    obtain ⟨IB, hIB⟩ : ∃ IB, IB = innerB L e := ⟨_, rfl⟩
    rw [← hIB] at cI
    have CI := Lib.hid cI
    have HIB := Lib.hid hIB
    have HS2 := Lib.hid hS2
    have HC2 := Lib.hid hC2
    have hsm : ∀ t ∈ L, SmT t := fun t ht => by have := HTR.out t ht; exact ⟨by omega, by omega, this.2.2.2.2⟩
    have HSM := Lib.hid hsm
    clear cI hIB kc hS2 hC2 hS hsm
    have hnb : creasesB L none cs = false → NB = false := fun h => by rw [HNB2.out, h]; rfl
    have HNF := Lib.hid hnb
    clear hnb
    by_cases hi0 : i = 0
    ·have hp0 : decide (0 < i) = false := decide_eq_false (by omega)
     have hp1 : decide ((0:Int) < (i : Int)) = false := decide_eq_false (by omega)
     have hpv : prevOk (prevC cs i) e = true := by unfold prevC; rw [if_pos hi0]; rfl
     have HPV := Lib.hid hpv
     clear hpv hi0 hprev
     by_cases hk1 : kd = 1
     ·subst hk1
      have hkk : ((1:Int) != 1) = false := by decide
      refine wp_region_inv (fun Lq aq WN => ∃ s : Nat → Value, aq = { tmps := #[.agg #[.int .i64 (Wn : Int), .int .i64 (Hn : Int), .slice Am nm cm, .slice (some ⟨bC, oC, none⟩) nc cc], .pointer (some ⟨w.heap.size, 0, none⟩), u2, u3, .pointer (some ⟨w.heap.size + 1 + 1 + 1 + 1, 0, none⟩), .bool true, .int .i64 i, .pointer (some ⟨wr.heap.size, 0, none⟩), .tuple #[.pointer (some ⟨w.heap.size + 1 + 1 + 1 + 1, 0, none⟩), .bool true], .agg #[.int .i64 (Wn : Int), .int .i64 (Hn : Int), .slice Am nm cm, .slice (some ⟨bC, oC, none⟩) nc cc], .tuple #[.pointer (some ⟨w.heap.size + 1 + 1 + 1 + 1, 0, none⟩), .bool true], .pointer (some ⟨w.heap.size + 1 + 1 + 1 + 1, 0, none⟩), .bool true, .bool true, .bool false, .pointer (some ⟨w.heap.size, 3, none⟩), .slice (some ⟨bC, oC, none⟩) nc cc, .int .i64 nc, .int .i64 i, .bool true, .int .i64 i, .pointer (some ⟨bC, oC + i * 5, none⟩), .agg #[.int .i64 e.1, .int .i64 e.2.1, .int .i64 e.2.2.1, .int .i64 e.2.2.2, .int .i64 1], (s 0), (s 1), (s 2), (s 3), (s 4), (s 5), (s 6), (s 7), (s 8), (s 9), (s 10), (s 11), (s 12), (s 13), (s 14), (s 15), (s 16), (s 17), (s 18), (s 19), (s 20), (s 21), (s 22), (s 23), (s 24), (s 25), (s 26), (s 27), (s 28), (s 29), (s 30), (s 31), u55, u56, u57, u58, u59, u60, u61, u62, u63, undef, undef, undef], defers := [] } ∧ Sv 32 [some (.int .i64 i), some (.bool false), some (.bool false), some (undef), some (undef), some (undef), some (undef), some (undef), some (undef), some (undef), some (undef), some (undef), some (undef), some (undef), some (.bool false), some (.bool false), some (.pointer (some ⟨wr.heap.size, 4, none⟩)), some (.int .i64 1), some (.bool false), some (.bool false), some (undef), some (undef), some (undef), some (.bool false), some (.bool false), some (.bool false), some (.pointer (some ⟨w.heap.size + 1 + 1 + 1 + 1, 0, none⟩)), some (.pointer (some ⟨wr.heap.size, 0, none⟩)), some (.agg #[.int .i64 e.1, .int .i64 e.2.1, .int .i64 e.2.2.1, .int .i64 e.2.2.2]), some (.bool IB), some (.bool (!IB)), some (.bool (!IB))] Lq s ∧ (WN.cell? ⟨w.heap.size, 3, none⟩ = some (.slice (some ⟨bC, oC, none⟩) nc cc) ∧ WN.cell? ⟨wr.heap.size, 0, none⟩ = some (.int .i64 e.1) ∧ WN.cell? ⟨wr.heap.size, 1, none⟩ = some (.int .i64 e.2.1) ∧ WN.cell? ⟨wr.heap.size, 2, none⟩ = some (.int .i64 e.2.2.1) ∧ WN.cell? ⟨wr.heap.size, 3, none⟩ = some (.int .i64 e.2.2.2) ∧ WN.cell? ⟨wr.heap.size, 4, none⟩ = some (.int .i64 1) ∧ Below w2.heap.size w2 WN)) (by kernel_rfl) ?_ ?_ ?_
      ·exact ⟨listF [u23, u24, u25, u26, u27, u28, u29, u30, u31, u32, u33, u34, u35, u36, u37, u38, u39, u40, u41, u42, u43, u44, u45, u46, u47, u48, u49, u50, u51, u52, u53, u54], rfl, Sv.start 32 _ _, ⟨b3, g0, g1, g2, g3, g4, (Below.refl _ _).drew⟩⟩
      ·intro Lq aq WN i0 hI hr
       obtain ⟨s, rfl, hv, hst⟩ := hI
       have hi0 : i0 < 32 := ready_lt hr
       have HV := Lib.hid hv
       have HST := Lib.hid hst
       clear hv hst
       have hii : i0 = 0 ∨ i0 = 1 ∨ i0 = 2 ∨ i0 = 3 ∨ i0 = 4 ∨ i0 = 5 ∨ i0 = 6 ∨ i0 = 7 ∨ i0 = 8 ∨ i0 = 9 ∨ i0 = 10 ∨ i0 = 11 ∨ i0 = 12 ∨ i0 = 13 ∨ i0 = 14 ∨ i0 = 15 ∨ i0 = 16 ∨ i0 = 17 ∨ i0 = 18 ∨ i0 = 19 ∨ i0 = 20 ∨ i0 = 21 ∨ i0 = 22 ∨ i0 = 23 ∨ i0 = 24 ∨ i0 = 25 ∨ i0 = 26 ∨ i0 = 27 ∨ i0 = 28 ∨ i0 = 29 ∨ i0 = 30 ∨ i0 = 31 := by omega
       clear hi0
       rcases hii with rfl | rfl | rfl | rfl | rfl | rfl | rfl | rfl | rfl | rfl | rfl | rfl | rfl | rfl | rfl | rfl | rfl | rfl | rfl | rfl | rfl | rfl | rfl | rfl | rfl | rfl | rfl | rfl | rfl | rfl | rfl | rfl
       ·clear hr
        refine wpOp_step rfl (fun K hK => ?_)
        go_simp
        refine hK _ _ ?_
        exact ⟨upd s 0 (.int .i64 i), rfl, Sv.put HV.out (fun u hu => by cases hu; rfl), HST.out⟩
       ·have d0 := ready_dep hr (k := 0) (by kernel_rfl)
        clear hr
        have e0 : s 0 = .int .i64 i := HV.out.v d0 rfl
        refine wpOp_step rfl (fun K hK => ?_)
        go_simp
        refine hK _ _ ?_
        exact ⟨upd (upd s 0 (.int .i64 i)) 1 (.bool false), rfl, Sv.put (Sv.re (j := 0) (v := .int .i64 i) HV.out e0) (fun u hu => by cases hu; rfl), HST.out⟩
       ·have d1 := ready_dep hr (k := 1) (by kernel_rfl)
        clear hr
        have e1 : s 1 = .bool false := HV.out.v d1 rfl
        refine wpOp_step rfl (fun K hK => ?_)
        go_simp
        refine hK _ _ ?_
        exact ⟨upd (upd s 1 (.bool false)) 2 (.bool false), rfl, Sv.put (Sv.re (j := 1) (v := .bool false) HV.out e1) (fun u hu => by cases hu; rfl), HST.out⟩
       ·have d2 := ready_dep hr (k := 2) (by kernel_rfl)
        clear hr
        have e2 : s 2 = .bool false := HV.out.v d2 rfl
        refine wpOp_step rfl (fun K hK => ?_)
        go_simp
        refine hK _ _ ?_
        exact ⟨upd (upd s 2 (.bool false)) 3 (undef), rfl, Sv.put (Sv.re (j := 2) (v := .bool false) HV.out e2) (fun u hu => by cases hu; rfl), HST.out⟩
       ·have d2 := ready_dep hr (k := 2) (by kernel_rfl)
        clear hr
        have e2 : s 2 = .bool false := HV.out.v d2 rfl
        refine wpOp_step rfl (fun K hK => ?_)
        go_simp
        refine hK _ _ ?_
        exact ⟨upd (upd s 2 (.bool false)) 4 (undef), rfl, Sv.put (Sv.re (j := 2) (v := .bool false) HV.out e2) (fun u hu => by cases hu; rfl), HST.out⟩
       ·have d2 := ready_dep hr (k := 2) (by kernel_rfl)
        clear hr
        have e2 : s 2 = .bool false := HV.out.v d2 rfl
        refine wpOp_step rfl (fun K hK => ?_)
        go_simp
        refine hK _ _ ?_
        exact ⟨upd (upd s 2 (.bool false)) 5 (undef), rfl, Sv.put (Sv.re (j := 2) (v := .bool false) HV.out e2) (fun u hu => by cases hu; rfl), HST.out⟩
       ·have d2 := ready_dep hr (k := 2) (by kernel_rfl)
        clear hr
        have e2 : s 2 = .bool false := HV.out.v d2 rfl
        refine wpOp_step rfl (fun K hK => ?_)
        go_simp
        refine hK _ _ ?_
        exact ⟨upd (upd s 2 (.bool false)) 6 (undef), rfl, Sv.put (Sv.re (j := 2) (v := .bool false) HV.out e2) (fun u hu => by cases hu; rfl), HST.out⟩
       ·have d2 := ready_dep hr (k := 2) (by kernel_rfl)
        clear hr
        have e2 : s 2 = .bool false := HV.out.v d2 rfl
        refine wpOp_step rfl (fun K hK => ?_)
        go_simp
        refine hK _ _ ?_
        exact ⟨upd (upd s 2 (.bool false)) 7 (undef), rfl, Sv.put (Sv.re (j := 2) (v := .bool false) HV.out e2) (fun u hu => by cases hu; rfl), HST.out⟩
       ·have d2 := ready_dep hr (k := 2) (by kernel_rfl)
        clear hr
        have e2 : s 2 = .bool false := HV.out.v d2 rfl
        refine wpOp_step rfl (fun K hK => ?_)
        go_simp
        refine hK _ _ ?_
        exact ⟨upd (upd s 2 (.bool false)) 8 (undef), rfl, Sv.put (Sv.re (j := 2) (v := .bool false) HV.out e2) (fun u hu => by cases hu; rfl), HST.out⟩
       ·have d2 := ready_dep hr (k := 2) (by kernel_rfl)
        clear hr
        have e2 : s 2 = .bool false := HV.out.v d2 rfl
        refine wpOp_step rfl (fun K hK => ?_)
        go_simp
        refine hK _ _ ?_
        exact ⟨upd (upd s 2 (.bool false)) 9 (undef), rfl, Sv.put (Sv.re (j := 2) (v := .bool false) HV.out e2) (fun u hu => by cases hu; rfl), HST.out⟩
       ·have d2 := ready_dep hr (k := 2) (by kernel_rfl)
        clear hr
        have e2 : s 2 = .bool false := HV.out.v d2 rfl
        refine wpOp_step rfl (fun K hK => ?_)
        go_simp
        refine hK _ _ ?_
        exact ⟨upd (upd s 2 (.bool false)) 10 (undef), rfl, Sv.put (Sv.re (j := 2) (v := .bool false) HV.out e2) (fun u hu => by cases hu; rfl), HST.out⟩
       ·have d2 := ready_dep hr (k := 2) (by kernel_rfl)
        clear hr
        have e2 : s 2 = .bool false := HV.out.v d2 rfl
        refine wpOp_step rfl (fun K hK => ?_)
        go_simp
        refine hK _ _ ?_
        exact ⟨upd (upd s 2 (.bool false)) 11 (undef), rfl, Sv.put (Sv.re (j := 2) (v := .bool false) HV.out e2) (fun u hu => by cases hu; rfl), HST.out⟩
       ·have d2 := ready_dep hr (k := 2) (by kernel_rfl)
        clear hr
        have e2 : s 2 = .bool false := HV.out.v d2 rfl
        refine wpOp_step rfl (fun K hK => ?_)
        go_simp
        refine hK _ _ ?_
        exact ⟨upd (upd s 2 (.bool false)) 12 (undef), rfl, Sv.put (Sv.re (j := 2) (v := .bool false) HV.out e2) (fun u hu => by cases hu; rfl), HST.out⟩
       ·have d2 := ready_dep hr (k := 2) (by kernel_rfl)
        clear hr
        have e2 : s 2 = .bool false := HV.out.v d2 rfl
        refine wpOp_step rfl (fun K hK => ?_)
        go_simp
        refine hK _ _ ?_
        exact ⟨upd (upd s 2 (.bool false)) 13 (undef), rfl, Sv.put (Sv.re (j := 2) (v := .bool false) HV.out e2) (fun u hu => by cases hu; rfl), HST.out⟩
       ·have d2 := ready_dep hr (k := 2) (by kernel_rfl)
        have d13 := ready_dep hr (k := 13) (by kernel_rfl)
        clear hr
        have e2 : s 2 = .bool false := HV.out.v d2 rfl
        have e13 : s 13 = undef := HV.out.v d13 rfl
        refine wpOp_step rfl (fun K hK => ?_)
        go_simp
        refine hK _ _ ?_
        exact ⟨upd (upd (upd s 2 (.bool false)) 13 (undef)) 14 (.bool false), rfl, Sv.put (Sv.re (j := 13) (v := undef) (Sv.re (j := 2) (v := .bool false) HV.out e2) e13) (fun u hu => by cases hu; rfl), HST.out⟩
       ·have d14 := ready_dep hr (k := 14) (by kernel_rfl)
        clear hr
        have e14 : s 14 = .bool false := HV.out.v d14 rfl
        refine wpOp_step rfl (fun K hK => ?_)
        go_simp
        refine hK _ _ ?_
        exact ⟨upd (upd s 14 (.bool false)) 15 (.bool false), rfl, Sv.put (Sv.re (j := 14) (v := .bool false) HV.out e14) (fun u hu => by cases hu; rfl), HST.out⟩
       ·have d15 := ready_dep hr (k := 15) (by kernel_rfl)
        clear hr
        have e15 : s 15 = .bool false := HV.out.v d15 rfl
        refine wpOp_step rfl (fun K hK => ?_)
        go_simp
        refine hK _ _ ?_
        exact ⟨upd (upd s 15 (.bool false)) 16 (.pointer (some ⟨wr.heap.size, 4, none⟩)), rfl, Sv.put (Sv.re (j := 15) (v := .bool false) HV.out e15) (fun u hu => by cases hu; rfl), HST.out⟩
       ·have d15 := ready_dep hr (k := 15) (by kernel_rfl)
        have d16 := ready_dep hr (k := 16) (by kernel_rfl)
        clear hr
        have e15 : s 15 = .bool false := HV.out.v d15 rfl
        have e16 : s 16 = .pointer (some ⟨wr.heap.size, 4, none⟩) := HV.out.v d16 rfl
        obtain ⟨q0, q1, q2, q3, q4, q5, hbl⟩ := HST.out
        refine wpOp_step rfl (fun K hK => ?_)
        go_simp
        refine hK _ _ ?_
        exact ⟨upd (upd (upd s 15 (.bool false)) 16 (.pointer (some ⟨wr.heap.size, 4, none⟩))) 17 (.int .i64 1), rfl, Sv.put (Sv.re (j := 16) (v := .pointer (some ⟨wr.heap.size, 4, none⟩)) (Sv.re (j := 15) (v := .bool false) HV.out e15) e16) (fun u hu => by cases hu; rfl), HST.out⟩
       ·have d15 := ready_dep hr (k := 15) (by kernel_rfl)
        have d17 := ready_dep hr (k := 17) (by kernel_rfl)
        clear hr
        have e15 : s 15 = .bool false := HV.out.v d15 rfl
        have e17 : s 17 = .int .i64 1 := HV.out.v d17 rfl
        refine wpOp_step rfl (fun K hK => ?_)
        go_simp
        refine hK _ _ ?_
        exact ⟨upd (upd (upd s 15 (.bool false)) 17 (.int .i64 1)) 18 (.bool false), rfl, Sv.put (Sv.re (j := 17) (v := .int .i64 1) (Sv.re (j := 15) (v := .bool false) HV.out e15) e17) (fun u hu => by cases hu; rfl), HST.out⟩
       ·have d15 := ready_dep hr (k := 15) (by kernel_rfl)
        have d18 := ready_dep hr (k := 18) (by kernel_rfl)
        clear hr
        have e15 : s 15 = .bool false := HV.out.v d15 rfl
        have e18 : s 18 = .bool false := HV.out.v d18 rfl
        refine wpOp_step rfl (fun K hK => ?_)
        go_simp
        refine hK _ _ ?_
        exact ⟨upd (upd (upd s 15 (.bool false)) 18 (.bool false)) 19 (.bool false), rfl, Sv.put (Sv.re (j := 18) (v := .bool false) (Sv.re (j := 15) (v := .bool false) HV.out e15) e18) (fun u hu => by cases hu; rfl), HST.out⟩
       ·have d19 := ready_dep hr (k := 19) (by kernel_rfl)
        clear hr
        have e19 : s 19 = .bool false := HV.out.v d19 rfl
        refine wpOp_step rfl (fun K hK => ?_)
        go_simp
        refine hK _ _ ?_
        exact ⟨upd (upd s 19 (.bool false)) 20 (undef), rfl, Sv.put (Sv.re (j := 19) (v := .bool false) HV.out e19) (fun u hu => by cases hu; rfl), HST.out⟩
       ·have d19 := ready_dep hr (k := 19) (by kernel_rfl)
        clear hr
        have e19 : s 19 = .bool false := HV.out.v d19 rfl
        refine wpOp_step rfl (fun K hK => ?_)
        go_simp
        refine hK _ _ ?_
        exact ⟨upd (upd s 19 (.bool false)) 21 (undef), rfl, Sv.put (Sv.re (j := 19) (v := .bool false) HV.out e19) (fun u hu => by cases hu; rfl), HST.out⟩
       ·have d19 := ready_dep hr (k := 19) (by kernel_rfl)
        clear hr
        have e19 : s 19 = .bool false := HV.out.v d19 rfl
        refine wpOp_step rfl (fun K hK => ?_)
        go_simp
        refine hK _ _ ?_
        exact ⟨upd (upd s 19 (.bool false)) 22 (undef), rfl, Sv.put (Sv.re (j := 19) (v := .bool false) HV.out e19) (fun u hu => by cases hu; rfl), HST.out⟩
       ·have d15 := ready_dep hr (k := 15) (by kernel_rfl)
        have d19 := ready_dep hr (k := 19) (by kernel_rfl)
        have d22 := ready_dep hr (k := 22) (by kernel_rfl)
        clear hr
        have e15 : s 15 = .bool false := HV.out.v d15 rfl
        have e19 : s 19 = .bool false := HV.out.v d19 rfl
        have e22 : s 22 = undef := HV.out.v d22 rfl
        refine wpOp_step rfl (fun K hK => ?_)
        go_simp
        refine hK _ _ ?_
        exact ⟨upd (upd (upd (upd s 15 (.bool false)) 19 (.bool false)) 22 (undef)) 23 (.bool false), rfl, Sv.put (Sv.re (j := 22) (v := undef) (Sv.re (j := 19) (v := .bool false) (Sv.re (j := 15) (v := .bool false) HV.out e15) e19) e22) (fun u hu => by cases hu; rfl), HST.out⟩
       ·have d15 := ready_dep hr (k := 15) (by kernel_rfl)
        have d23 := ready_dep hr (k := 23) (by kernel_rfl)
        clear hr
        have e15 : s 15 = .bool false := HV.out.v d15 rfl
        have e23 : s 23 = .bool false := HV.out.v d23 rfl
        refine wpOp_step rfl (fun K hK => ?_)
        go_simp
        refine hK _ _ ?_
        exact ⟨upd (upd (upd s 15 (.bool false)) 23 (.bool false)) 24 (.bool false), rfl, Sv.put (Sv.re (j := 23) (v := .bool false) (Sv.re (j := 15) (v := .bool false) HV.out e15) e23) (fun u hu => by cases hu; rfl), HST.out⟩
       ·have d24 := ready_dep hr (k := 24) (by kernel_rfl)
        clear hr
        have e24 : s 24 = .bool false := HV.out.v d24 rfl
        refine wpOp_step rfl (fun K hK => ?_)
        go_simp
        refine hK _ _ ?_
        exact ⟨upd (upd s 24 (.bool false)) 25 (.bool false), rfl, Sv.put (Sv.re (j := 24) (v := .bool false) HV.out e24) (fun u hu => by cases hu; rfl), HST.out⟩
       ·have d25 := ready_dep hr (k := 25) (by kernel_rfl)
        clear hr
        have e25 : s 25 = .bool false := HV.out.v d25 rfl
        refine wpOp_step rfl (fun K hK => ?_)
        go_simp
        refine hK _ _ ?_
        exact ⟨upd (upd s 25 (.bool false)) 26 (.pointer (some ⟨w.heap.size + 1 + 1 + 1 + 1, 0, none⟩)), rfl, Sv.put (Sv.re (j := 25) (v := .bool false) HV.out e25) (fun u hu => by cases hu; rfl), HST.out⟩
       ·have d25 := ready_dep hr (k := 25) (by kernel_rfl)
        clear hr
        have e25 : s 25 = .bool false := HV.out.v d25 rfl
        refine wpOp_step rfl (fun K hK => ?_)
        go_simp
        refine hK _ _ ?_
        exact ⟨upd (upd s 25 (.bool false)) 27 (.pointer (some ⟨wr.heap.size, 0, none⟩)), rfl, Sv.put (Sv.re (j := 25) (v := .bool false) HV.out e25) (fun u hu => by cases hu; rfl), HST.out⟩
       ·have d25 := ready_dep hr (k := 25) (by kernel_rfl)
        have d27 := ready_dep hr (k := 27) (by kernel_rfl)
        clear hr
        have e25 : s 25 = .bool false := HV.out.v d25 rfl
        have e27 : s 27 = .pointer (some ⟨wr.heap.size, 0, none⟩) := HV.out.v d27 rfl
        obtain ⟨q0, q1, q2, q3, q4, q5, hbl⟩ := HST.out
        refine wpOp_step rfl (fun K hK => ?_)
        go_simp
        refine hK _ _ ?_
        exact ⟨upd (upd (upd s 25 (.bool false)) 27 (.pointer (some ⟨wr.heap.size, 0, none⟩))) 28 (.agg #[.int .i64 e.1, .int .i64 e.2.1, .int .i64 e.2.2.1, .int .i64 e.2.2.2]), rfl, Sv.put (Sv.re (j := 27) (v := .pointer (some ⟨wr.heap.size, 0, none⟩)) (Sv.re (j := 25) (v := .bool false) HV.out e25) e27) (fun u hu => by cases hu; rfl), HST.out⟩
       ·have d25 := ready_dep hr (k := 25) (by kernel_rfl)
        have d26 := ready_dep hr (k := 26) (by kernel_rfl)
        have d28 := ready_dep hr (k := 28) (by kernel_rfl)
        clear hr
        have e25 : s 25 = .bool false := HV.out.v d25 rfl
        have e26 : s 26 = .pointer (some ⟨w.heap.size + 1 + 1 + 1 + 1, 0, none⟩) := HV.out.v d26 rfl
        have e28 : s 28 = .agg #[.int .i64 e.1, .int .i64 e.2.1, .int .i64 e.2.2.1, .int .i64 e.2.2.2] := HV.out.v d28 rfl
        obtain ⟨q0, q1, q2, q3, q4, q5, hbl⟩ := HST.out
        refine wpOp_step rfl (fun K hK => ?_)
        go_simp
        refine (CI.out _ hbl).mono ?_
        rintro e' wc ⟨he, hbc⟩
        subst he
        refine hK _ _ ?_
        exact ⟨upd (upd (upd (upd s 25 (.bool false)) 26 (.pointer (some ⟨w.heap.size + 1 + 1 + 1 + 1, 0, none⟩))) 28 (.agg #[.int .i64 e.1, .int .i64 e.2.1, .int .i64 e.2.2.1, .int .i64 e.2.2.2])) 29 (.bool IB), rfl, Sv.put (Sv.re (j := 28) (v := .agg #[.int .i64 e.1, .int .i64 e.2.1, .int .i64 e.2.2.1, .int .i64 e.2.2.2]) (Sv.re (j := 26) (v := .pointer (some ⟨w.heap.size + 1 + 1 + 1 + 1, 0, none⟩)) (Sv.re (j := 25) (v := .bool false) HV.out e25) e26) e28) (fun u hu => by cases hu; rfl), ⟨stay_c q0 hbc (Nat.le_refl _), stay_c q1 hbc (Nat.le_refl _), stay_c q2 hbc (Nat.le_refl _), stay_c q3 hbc (Nat.le_refl _), stay_c q4 hbc (Nat.le_refl _), stay_c q5 hbc (Nat.le_refl _), stay_b hbl hbc⟩⟩
       ·have d25 := ready_dep hr (k := 25) (by kernel_rfl)
        have d29 := ready_dep hr (k := 29) (by kernel_rfl)
        clear hr
        have e25 : s 25 = .bool false := HV.out.v d25 rfl
        have e29 : s 29 = .bool IB := HV.out.v d29 rfl
        refine wpOp_step rfl (fun K hK => ?_)
        go_simp
        refine hK _ _ ?_
        exact ⟨upd (upd (upd s 25 (.bool false)) 29 (.bool IB)) 30 (.bool (!IB)), rfl, Sv.put (Sv.re (j := 29) (v := .bool IB) (Sv.re (j := 25) (v := .bool false) HV.out e25) e29) (fun u hu => by cases hu; rfl), HST.out⟩
       ·have d25 := ready_dep hr (k := 25) (by kernel_rfl)
        have d30 := ready_dep hr (k := 30) (by kernel_rfl)
        clear hr
        have e25 : s 25 = .bool false := HV.out.v d25 rfl
        have e30 : s 30 = .bool (!IB) := HV.out.v d30 rfl
        refine wpOp_step rfl (fun K hK => ?_)
        go_simp
        refine hK _ _ ?_
        exact ⟨upd (upd (upd s 25 (.bool false)) 30 (.bool (!IB))) 31 (.bool (!IB)), rfl, Sv.put (Sv.re (j := 30) (v := .bool (!IB)) (Sv.re (j := 25) (v := .bool false) HV.out e25) e30) (fun u hu => by cases hu; rfl), HST.out⟩
      ·intro Lq aq WN hI hrd
       obtain ⟨s, ha, hv, hst⟩ := hI
       have hall := all_listedM hrd hv.sz (by kernel_rfl)
       clear hrd
       have e0 : s 0 = (.int .i64 i) := hv.v (hall 0 (by decide)) rfl
       have e1 : s 1 = (.bool false) := hv.v (hall 1 (by decide)) rfl
       have e2 : s 2 = (.bool false) := hv.v (hall 2 (by decide)) rfl
       have e3 : s 3 = (undef) := hv.v (hall 3 (by decide)) rfl
       have e4 : s 4 = (undef) := hv.v (hall 4 (by decide)) rfl
       have e5 : s 5 = (undef) := hv.v (hall 5 (by decide)) rfl
       have e6 : s 6 = (undef) := hv.v (hall 6 (by decide)) rfl
       have e7 : s 7 = (undef) := hv.v (hall 7 (by decide)) rfl
       have e8 : s 8 = (undef) := hv.v (hall 8 (by decide)) rfl
       have e9 : s 9 = (undef) := hv.v (hall 9 (by decide)) rfl
       have e10 : s 10 = (undef) := hv.v (hall 10 (by decide)) rfl
       have e11 : s 11 = (undef) := hv.v (hall 11 (by decide)) rfl
       have e12 : s 12 = (undef) := hv.v (hall 12 (by decide)) rfl
       have e13 : s 13 = (undef) := hv.v (hall 13 (by decide)) rfl
       have e14 : s 14 = (.bool false) := hv.v (hall 14 (by decide)) rfl
       have e15 : s 15 = (.bool false) := hv.v (hall 15 (by decide)) rfl
       have e16 : s 16 = (.pointer (some ⟨wr.heap.size, 4, none⟩)) := hv.v (hall 16 (by decide)) rfl
       have e17 : s 17 = (.int .i64 1) := hv.v (hall 17 (by decide)) rfl
       have e18 : s 18 = (.bool false) := hv.v (hall 18 (by decide)) rfl
       have e19 : s 19 = (.bool false) := hv.v (hall 19 (by decide)) rfl
       have e20 : s 20 = (undef) := hv.v (hall 20 (by decide)) rfl
       have e21 : s 21 = (undef) := hv.v (hall 21 (by decide)) rfl
       have e22 : s 22 = (undef) := hv.v (hall 22 (by decide)) rfl
       have e23 : s 23 = (.bool false) := hv.v (hall 23 (by decide)) rfl
       have e24 : s 24 = (.bool false) := hv.v (hall 24 (by decide)) rfl
       have e25 : s 25 = (.bool false) := hv.v (hall 25 (by decide)) rfl
       have e26 : s 26 = (.pointer (some ⟨w.heap.size + 1 + 1 + 1 + 1, 0, none⟩)) := hv.v (hall 26 (by decide)) rfl
       have e27 : s 27 = (.pointer (some ⟨wr.heap.size, 0, none⟩)) := hv.v (hall 27 (by decide)) rfl
       have e28 : s 28 = (.agg #[.int .i64 e.1, .int .i64 e.2.1, .int .i64 e.2.2.1, .int .i64 e.2.2.2]) := hv.v (hall 28 (by decide)) rfl
       have e29 : s 29 = (.bool IB) := hv.v (hall 29 (by decide)) rfl
       have e30 : s 30 = (.bool (!IB)) := hv.v (hall 30 (by decide)) rfl
       have e31 : s 31 = (.bool (!IB)) := hv.v (hall 31 (by decide)) rfl
       simp only [e0, e1, e2, e3, e4, e5, e6, e7, e8, e9, e10, e11, e12, e13, e14, e15, e16, e17, e18, e19, e20, e21, e22, e23, e24, e25, e26, e27, e28, e29, e30, e31] at ha
       subst ha
       clear hall hv e0 e1 e2 e3 e4 e5 e6 e7 e8 e9 e10 e11 e12 e13 e14 e15 e16 e17 e18 e19 e20 e21 e22 e23 e24 e25 e26 e27 e28 e29 e30 e31
       obtain ⟨q0, q1, q2, q3, q4, q5, hbl⟩ := hst
       cases IB with
       | false =>
        simp only [Bool.not_false]
        have hkd : creaseB L (prevC cs i) (e, 1) = false := by rw [creaseB_eq]; simp only; rw [← HIB.out, Bool.and_false]
        have HKD := Lib.hid hkd
        clear hkd
        have hbfin := HS2.out.bel.trans (hbl.mono HS2.out.bel.size)
        have HBF := Lib.hid hbfin
        clear hbfin
        go_wp2
        go_ret2
        exact ⟨HBF.out, .inl ⟨HNF.out (HF.out HKD.out), _, rfl⟩⟩
       | true =>
        simp only [Bool.not_true]
        have hkd : creaseB L (prevC cs i) (e, 1) = true := by rw [creaseB_eq]; simp only; rw [← HIB.out, HPV.out]; decide
        have HKD := Lib.hid hkd
        have hS3 := HS2.out.below hbl
        have z6 := hS3.pap.c6
        have hok := inner_ok HSM.out HIB.out.symm
        have HOK := Lib.hid hok
        have HS3 := Lib.hid hS3
        clear hkd hok hS3
        go_wp2_with fail
        go_still_tail 8, (by kernel_rfl)
        change wpList _ _ _ _ _ WN.drew
        go_wp2_with (at_mapUpdate; go_loud (refine wpList_putI (k := kE) rfl _ _ _ rfl HS3.out.pap.kin.drew rfl (by unfold maxLen; omega) e HOK.out 1 rfl rfl (by decide) ?_); intro w6 hm6 hg6)
        have HN := Lib.hid ((HS3.out.below (Below.refl _ _).drew).put HCI.out hg6 hm6)
        go_roundw
        case rel => exact ⟨i + 1, by omega, by go_num, Lib.hid (HST.out HKD.out), HN⟩
        case measure => simp [intOf]; omega
     ·by_cases hk2 : kd = 2
      ·subst hk2
       have hkk : ((2:Int) != 1) = true := by decide
       have hkk2 : ((2:Int) != 2) = false := by decide
       clear hk1
       refine wp_region_inv (fun Lq aq WN => ∃ s : Nat → Value, aq = { tmps := #[.agg #[.int .i64 (Wn : Int), .int .i64 (Hn : Int), .slice Am nm cm, .slice (some ⟨bC, oC, none⟩) nc cc], .pointer (some ⟨w.heap.size, 0, none⟩), u2, u3, .pointer (some ⟨w.heap.size + 1 + 1 + 1 + 1, 0, none⟩), .bool true, .int .i64 i, .pointer (some ⟨wr.heap.size, 0, none⟩), .tuple #[.pointer (some ⟨w.heap.size + 1 + 1 + 1 + 1, 0, none⟩), .bool true], .agg #[.int .i64 (Wn : Int), .int .i64 (Hn : Int), .slice Am nm cm, .slice (some ⟨bC, oC, none⟩) nc cc], .tuple #[.pointer (some ⟨w.heap.size + 1 + 1 + 1 + 1, 0, none⟩), .bool true], .pointer (some ⟨w.heap.size + 1 + 1 + 1 + 1, 0, none⟩), .bool true, .bool true, .bool false, .pointer (some ⟨w.heap.size, 3, none⟩), .slice (some ⟨bC, oC, none⟩) nc cc, .int .i64 nc, .int .i64 i, .bool true, .int .i64 i, .pointer (some ⟨bC, oC + i * 5, none⟩), .agg #[.int .i64 e.1, .int .i64 e.2.1, .int .i64 e.2.2.1, .int .i64 e.2.2.2, .int .i64 2], (s 0), (s 1), (s 2), (s 3), (s 4), (s 5), (s 6), (s 7), (s 8), (s 9), (s 10), (s 11), (s 12), (s 13), (s 14), (s 15), (s 16), (s 17), (s 18), (s 19), (s 20), (s 21), (s 22), (s 23), (s 24), (s 25), (s 26), (s 27), (s 28), (s 29), (s 30), (s 31), u55, u56, u57, u58, u59, u60, u61, u62, u63, undef, undef, undef], defers := [] } ∧ Sv 32 [some (.int .i64 i), some (.bool false), some (.bool false), some (undef), some (undef), some (undef), some (undef), some (undef), some (undef), some (undef), some (undef), some (undef), some (undef), some (undef), some (.bool false), some (.bool false), some (.pointer (some ⟨wr.heap.size, 4, none⟩)), some (.int .i64 2), some (.bool true), some (.bool true), some (.pointer (some ⟨wr.heap.size, 4, none⟩)), some (.int .i64 2), some (.bool false), some (.bool false), some (.bool false), some (.bool false), some (.pointer (some ⟨w.heap.size + 1 + 1 + 1 + 1, 0, none⟩)), some (.pointer (some ⟨wr.heap.size, 0, none⟩)), some (.agg #[.int .i64 e.1, .int .i64 e.2.1, .int .i64 e.2.2.1, .int .i64 e.2.2.2]), some (.bool IB), some (.bool (!IB)), some (.bool (!IB))] Lq s ∧ (WN.cell? ⟨w.heap.size, 3, none⟩ = some (.slice (some ⟨bC, oC, none⟩) nc cc) ∧ WN.cell? ⟨wr.heap.size, 0, none⟩ = some (.int .i64 e.1) ∧ WN.cell? ⟨wr.heap.size, 1, none⟩ = some (.int .i64 e.2.1) ∧ WN.cell? ⟨wr.heap.size, 2, none⟩ = some (.int .i64 e.2.2.1) ∧ WN.cell? ⟨wr.heap.size, 3, none⟩ = some (.int .i64 e.2.2.2) ∧ WN.cell? ⟨wr.heap.size, 4, none⟩ = some (.int .i64 2) ∧ Below w2.heap.size w2 WN)) (by kernel_rfl) ?_ ?_ ?_
       ·exact ⟨listF [u23, u24, u25, u26, u27, u28, u29, u30, u31, u32, u33, u34, u35, u36, u37, u38, u39, u40, u41, u42, u43, u44, u45, u46, u47, u48, u49, u50, u51, u52, u53, u54], rfl, Sv.start 32 _ _, ⟨b3, g0, g1, g2, g3, g4, (Below.refl _ _).drew⟩⟩
       ·intro Lq aq WN i0 hI hr
        obtain ⟨s, rfl, hv, hst⟩ := hI
        have hi0 : i0 < 32 := ready_lt hr
        have HV := Lib.hid hv
        have HST := Lib.hid hst
        clear hv hst
        have hii : i0 = 0 ∨ i0 = 1 ∨ i0 = 2 ∨ i0 = 3 ∨ i0 = 4 ∨ i0 = 5 ∨ i0 = 6 ∨ i0 = 7 ∨ i0 = 8 ∨ i0 = 9 ∨ i0 = 10 ∨ i0 = 11 ∨ i0 = 12 ∨ i0 = 13 ∨ i0 = 14 ∨ i0 = 15 ∨ i0 = 16 ∨ i0 = 17 ∨ i0 = 18 ∨ i0 = 19 ∨ i0 = 20 ∨ i0 = 21 ∨ i0 = 22 ∨ i0 = 23 ∨ i0 = 24 ∨ i0 = 25 ∨ i0 = 26 ∨ i0 = 27 ∨ i0 = 28 ∨ i0 = 29 ∨ i0 = 30 ∨ i0 = 31 := by omega
        clear hi0
        rcases hii with rfl | rfl | rfl | rfl | rfl | rfl | rfl | rfl | rfl | rfl | rfl | rfl | rfl | rfl | rfl | rfl | rfl | rfl | rfl | rfl | rfl | rfl | rfl | rfl | rfl | rfl | rfl | rfl | rfl | rfl | rfl | rfl
        ·clear hr
         refine wpOp_step rfl (fun K hK => ?_)
         go_simp
         refine hK _ _ ?_
         exact ⟨upd s 0 (.int .i64 i), rfl, Sv.put HV.out (fun u hu => by cases hu; rfl), HST.out⟩
        ·have d0 := ready_dep hr (k := 0) (by kernel_rfl)
         clear hr
         have e0 : s 0 = .int .i64 i := HV.out.v d0 rfl
         refine wpOp_step rfl (fun K hK => ?_)
         go_simp
         refine hK _ _ ?_
         exact ⟨upd (upd s 0 (.int .i64 i)) 1 (.bool false), rfl, Sv.put (Sv.re (j := 0) (v := .int .i64 i) HV.out e0) (fun u hu => by cases hu; rfl), HST.out⟩
        ·have d1 := ready_dep hr (k := 1) (by kernel_rfl)
         clear hr
         have e1 : s 1 = .bool false := HV.out.v d1 rfl
         refine wpOp_step rfl (fun K hK => ?_)
         go_simp
         refine hK _ _ ?_
         exact ⟨upd (upd s 1 (.bool false)) 2 (.bool false), rfl, Sv.put (Sv.re (j := 1) (v := .bool false) HV.out e1) (fun u hu => by cases hu; rfl), HST.out⟩
        ·have d2 := ready_dep hr (k := 2) (by kernel_rfl)
         clear hr
         have e2 : s 2 = .bool false := HV.out.v d2 rfl
         refine wpOp_step rfl (fun K hK => ?_)
         go_simp
         refine hK _ _ ?_
         exact ⟨upd (upd s 2 (.bool false)) 3 (undef), rfl, Sv.put (Sv.re (j := 2) (v := .bool false) HV.out e2) (fun u hu => by cases hu; rfl), HST.out⟩
        ·have d2 := ready_dep hr (k := 2) (by kernel_rfl)
         clear hr
         have e2 : s 2 = .bool false := HV.out.v d2 rfl
         refine wpOp_step rfl (fun K hK => ?_)
         go_simp
         refine hK _ _ ?_
         exact ⟨upd (upd s 2 (.bool false)) 4 (undef), rfl, Sv.put (Sv.re (j := 2) (v := .bool false) HV.out e2) (fun u hu => by cases hu; rfl), HST.out⟩
        ·have d2 := ready_dep hr (k := 2) (by kernel_rfl)
         clear hr
         have e2 : s 2 = .bool false := HV.out.v d2 rfl
         refine wpOp_step rfl (fun K hK => ?_)
         go_simp
         refine hK _ _ ?_
         exact ⟨upd (upd s 2 (.bool false)) 5 (undef), rfl, Sv.put (Sv.re (j := 2) (v := .bool false) HV.out e2) (fun u hu => by cases hu; rfl), HST.out⟩
        ·have d2 := ready_dep hr (k := 2) (by kernel_rfl)
         clear hr
         have e2 : s 2 = .bool false := HV.out.v d2 rfl
         refine wpOp_step rfl (fun K hK => ?_)
         go_simp
         refine hK _ _ ?_
         exact ⟨upd (upd s 2 (.bool false)) 6 (undef), rfl, Sv.put (Sv.re (j := 2) (v := .bool false) HV.out e2) (fun u hu => by cases hu; rfl), HST.out⟩
        ·have d2 := ready_dep hr (k := 2) (by kernel_rfl)
         clear hr
         have e2 : s 2 = .bool false := HV.out.v d2 rfl
         refine wpOp_step rfl (fun K hK => ?_)
         go_simp
         refine hK _ _ ?_
         exact ⟨upd (upd s 2 (.bool false)) 7 (undef), rfl, Sv.put (Sv.re (j := 2) (v := .bool false) HV.out e2) (fun u hu => by cases hu; rfl), HST.out⟩
        ·have d2 := ready_dep hr (k := 2) (by kernel_rfl)
         clear hr
         have e2 : s 2 = .bool false := HV.out.v d2 rfl
         refine wpOp_step rfl (fun K hK => ?_)
         go_simp
         refine hK _ _ ?_
         exact ⟨upd (upd s 2 (.bool false)) 8 (undef), rfl, Sv.put (Sv.re (j := 2) (v := .bool false) HV.out e2) (fun u hu => by cases hu; rfl), HST.out⟩
        ·have d2 := ready_dep hr (k := 2) (by kernel_rfl)
         clear hr
         have e2 : s 2 = .bool false := HV.out.v d2 rfl
         refine wpOp_step rfl (fun K hK => ?_)
         go_simp
         refine hK _ _ ?_
         exact ⟨upd (upd s 2 (.bool false)) 9 (undef), rfl, Sv.put (Sv.re (j := 2) (v := .bool false) HV.out e2) (fun u hu => by cases hu; rfl), HST.out⟩
        ·have d2 := ready_dep hr (k := 2) (by kernel_rfl)
         clear hr
         have e2 : s 2 = .bool false := HV.out.v d2 rfl
         refine wpOp_step rfl (fun K hK => ?_)
         go_simp
         refine hK _ _ ?_
         exact ⟨upd (upd s 2 (.bool false)) 10 (undef), rfl, Sv.put (Sv.re (j := 2) (v := .bool false) HV.out e2) (fun u hu => by cases hu; rfl), HST.out⟩
        ·have d2 := ready_dep hr (k := 2) (by kernel_rfl)
         clear hr
         have e2 : s 2 = .bool false := HV.out.v d2 rfl
         refine wpOp_step rfl (fun K hK => ?_)
         go_simp
         refine hK _ _ ?_
         exact ⟨upd (upd s 2 (.bool false)) 11 (undef), rfl, Sv.put (Sv.re (j := 2) (v := .bool false) HV.out e2) (fun u hu => by cases hu; rfl), HST.out⟩
        ·have d2 := ready_dep hr (k := 2) (by kernel_rfl)
         clear hr
         have e2 : s 2 = .bool false := HV.out.v d2 rfl
         refine wpOp_step rfl (fun K hK => ?_)
         go_simp
         refine hK _ _ ?_
         exact ⟨upd (upd s 2 (.bool false)) 12 (undef), rfl, Sv.put (Sv.re (j := 2) (v := .bool false) HV.out e2) (fun u hu => by cases hu; rfl), HST.out⟩
        ·have d2 := ready_dep hr (k := 2) (by kernel_rfl)
         clear hr
         have e2 : s 2 = .bool false := HV.out.v d2 rfl
         refine wpOp_step rfl (fun K hK => ?_)
         go_simp
         refine hK _ _ ?_
         exact ⟨upd (upd s 2 (.bool false)) 13 (undef), rfl, Sv.put (Sv.re (j := 2) (v := .bool false) HV.out e2) (fun u hu => by cases hu; rfl), HST.out⟩
        ·have d2 := ready_dep hr (k := 2) (by kernel_rfl)
         have d13 := ready_dep hr (k := 13) (by kernel_rfl)
         clear hr
         have e2 : s 2 = .bool false := HV.out.v d2 rfl
         have e13 : s 13 = undef := HV.out.v d13 rfl
         refine wpOp_step rfl (fun K hK => ?_)
         go_simp
         refine hK _ _ ?_
         exact ⟨upd (upd (upd s 2 (.bool false)) 13 (undef)) 14 (.bool false), rfl, Sv.put (Sv.re (j := 13) (v := undef) (Sv.re (j := 2) (v := .bool false) HV.out e2) e13) (fun u hu => by cases hu; rfl), HST.out⟩
        ·have d14 := ready_dep hr (k := 14) (by kernel_rfl)
         clear hr
         have e14 : s 14 = .bool false := HV.out.v d14 rfl
         refine wpOp_step rfl (fun K hK => ?_)
         go_simp
         refine hK _ _ ?_
         exact ⟨upd (upd s 14 (.bool false)) 15 (.bool false), rfl, Sv.put (Sv.re (j := 14) (v := .bool false) HV.out e14) (fun u hu => by cases hu; rfl), HST.out⟩
        ·have d15 := ready_dep hr (k := 15) (by kernel_rfl)
         clear hr
         have e15 : s 15 = .bool false := HV.out.v d15 rfl
         refine wpOp_step rfl (fun K hK => ?_)
         go_simp
         refine hK _ _ ?_
         exact ⟨upd (upd s 15 (.bool false)) 16 (.pointer (some ⟨wr.heap.size, 4, none⟩)), rfl, Sv.put (Sv.re (j := 15) (v := .bool false) HV.out e15) (fun u hu => by cases hu; rfl), HST.out⟩
        ·have d15 := ready_dep hr (k := 15) (by kernel_rfl)
         have d16 := ready_dep hr (k := 16) (by kernel_rfl)
         clear hr
         have e15 : s 15 = .bool false := HV.out.v d15 rfl
         have e16 : s 16 = .pointer (some ⟨wr.heap.size, 4, none⟩) := HV.out.v d16 rfl
         obtain ⟨q0, q1, q2, q3, q4, q5, hbl⟩ := HST.out
         refine wpOp_step rfl (fun K hK => ?_)
         go_simp
         refine hK _ _ ?_
         exact ⟨upd (upd (upd s 15 (.bool false)) 16 (.pointer (some ⟨wr.heap.size, 4, none⟩))) 17 (.int .i64 2), rfl, Sv.put (Sv.re (j := 16) (v := .pointer (some ⟨wr.heap.size, 4, none⟩)) (Sv.re (j := 15) (v := .bool false) HV.out e15) e16) (fun u hu => by cases hu; rfl), HST.out⟩
        ·have d15 := ready_dep hr (k := 15) (by kernel_rfl)
         have d17 := ready_dep hr (k := 17) (by kernel_rfl)
         clear hr
         have e15 : s 15 = .bool false := HV.out.v d15 rfl
         have e17 : s 17 = .int .i64 2 := HV.out.v d17 rfl
         refine wpOp_step rfl (fun K hK => ?_)
         go_simp
         refine hK _ _ ?_
         exact ⟨upd (upd (upd s 15 (.bool false)) 17 (.int .i64 2)) 18 (.bool true), rfl, Sv.put (Sv.re (j := 17) (v := .int .i64 2) (Sv.re (j := 15) (v := .bool false) HV.out e15) e17) (fun u hu => by cases hu; rfl), HST.out⟩
        ·have d15 := ready_dep hr (k := 15) (by kernel_rfl)
         have d18 := ready_dep hr (k := 18) (by kernel_rfl)
         clear hr
         have e15 : s 15 = .bool false := HV.out.v d15 rfl
         have e18 : s 18 = .bool true := HV.out.v d18 rfl
         refine wpOp_step rfl (fun K hK => ?_)
         go_simp
         refine hK _ _ ?_
         exact ⟨upd (upd (upd s 15 (.bool false)) 18 (.bool true)) 19 (.bool true), rfl, Sv.put (Sv.re (j := 18) (v := .bool true) (Sv.re (j := 15) (v := .bool false) HV.out e15) e18) (fun u hu => by cases hu; rfl), HST.out⟩
        ·have d19 := ready_dep hr (k := 19) (by kernel_rfl)
         clear hr
         have e19 : s 19 = .bool true := HV.out.v d19 rfl
         refine wpOp_step rfl (fun K hK => ?_)
         go_simp
         refine hK _ _ ?_
         exact ⟨upd (upd s 19 (.bool true)) 20 (.pointer (some ⟨wr.heap.size, 4, none⟩)), rfl, Sv.put (Sv.re (j := 19) (v := .bool true) HV.out e19) (fun u hu => by cases hu; rfl), HST.out⟩
        ·have d19 := ready_dep hr (k := 19) (by kernel_rfl)
         have d20 := ready_dep hr (k := 20) (by kernel_rfl)
         clear hr
         have e19 : s 19 = .bool true := HV.out.v d19 rfl
         have e20 : s 20 = .pointer (some ⟨wr.heap.size, 4, none⟩) := HV.out.v d20 rfl
         obtain ⟨q0, q1, q2, q3, q4, q5, hbl⟩ := HST.out
         refine wpOp_step rfl (fun K hK => ?_)
         go_simp
         refine hK _ _ ?_
         exact ⟨upd (upd (upd s 19 (.bool true)) 20 (.pointer (some ⟨wr.heap.size, 4, none⟩))) 21 (.int .i64 2), rfl, Sv.put (Sv.re (j := 20) (v := .pointer (some ⟨wr.heap.size, 4, none⟩)) (Sv.re (j := 19) (v := .bool true) HV.out e19) e20) (fun u hu => by cases hu; rfl), HST.out⟩
        ·have d19 := ready_dep hr (k := 19) (by kernel_rfl)
         have d21 := ready_dep hr (k := 21) (by kernel_rfl)
         clear hr
         have e19 : s 19 = .bool true := HV.out.v d19 rfl
         have e21 : s 21 = .int .i64 2 := HV.out.v d21 rfl
         refine wpOp_step rfl (fun K hK => ?_)
         go_simp
         refine hK _ _ ?_
         exact ⟨upd (upd (upd s 19 (.bool true)) 21 (.int .i64 2)) 22 (.bool false), rfl, Sv.put (Sv.re (j := 21) (v := .int .i64 2) (Sv.re (j := 19) (v := .bool true) HV.out e19) e21) (fun u hu => by cases hu; rfl), HST.out⟩
        ·have d15 := ready_dep hr (k := 15) (by kernel_rfl)
         have d19 := ready_dep hr (k := 19) (by kernel_rfl)
         have d22 := ready_dep hr (k := 22) (by kernel_rfl)
         clear hr
         have e15 : s 15 = .bool false := HV.out.v d15 rfl
         have e19 : s 19 = .bool true := HV.out.v d19 rfl
         have e22 : s 22 = .bool false := HV.out.v d22 rfl
         refine wpOp_step rfl (fun K hK => ?_)
         go_simp
         refine hK _ _ ?_
         exact ⟨upd (upd (upd (upd s 15 (.bool false)) 19 (.bool true)) 22 (.bool false)) 23 (.bool false), rfl, Sv.put (Sv.re (j := 22) (v := .bool false) (Sv.re (j := 19) (v := .bool true) (Sv.re (j := 15) (v := .bool false) HV.out e15) e19) e22) (fun u hu => by cases hu; rfl), HST.out⟩
        ·have d15 := ready_dep hr (k := 15) (by kernel_rfl)
         have d23 := ready_dep hr (k := 23) (by kernel_rfl)
         clear hr
         have e15 : s 15 = .bool false := HV.out.v d15 rfl
         have e23 : s 23 = .bool false := HV.out.v d23 rfl
         refine wpOp_step rfl (fun K hK => ?_)
         go_simp
         refine hK _ _ ?_
         exact ⟨upd (upd (upd s 15 (.bool false)) 23 (.bool false)) 24 (.bool false), rfl, Sv.put (Sv.re (j := 23) (v := .bool false) (Sv.re (j := 15) (v := .bool false) HV.out e15) e23) (fun u hu => by cases hu; rfl), HST.out⟩
        ·have d24 := ready_dep hr (k := 24) (by kernel_rfl)
         clear hr
         have e24 : s 24 = .bool false := HV.out.v d24 rfl
         refine wpOp_step rfl (fun K hK => ?_)
         go_simp
         refine hK _ _ ?_
         exact ⟨upd (upd s 24 (.bool false)) 25 (.bool false), rfl, Sv.put (Sv.re (j := 24) (v := .bool false) HV.out e24) (fun u hu => by cases hu; rfl), HST.out⟩
        ·have d25 := ready_dep hr (k := 25) (by kernel_rfl)
         clear hr
         have e25 : s 25 = .bool false := HV.out.v d25 rfl
         refine wpOp_step rfl (fun K hK => ?_)
         go_simp
         refine hK _ _ ?_
         exact ⟨upd (upd s 25 (.bool false)) 26 (.pointer (some ⟨w.heap.size + 1 + 1 + 1 + 1, 0, none⟩)), rfl, Sv.put (Sv.re (j := 25) (v := .bool false) HV.out e25) (fun u hu => by cases hu; rfl), HST.out⟩
        ·have d25 := ready_dep hr (k := 25) (by kernel_rfl)
         clear hr
         have e25 : s 25 = .bool false := HV.out.v d25 rfl
         refine wpOp_step rfl (fun K hK => ?_)
         go_simp
         refine hK _ _ ?_
         exact ⟨upd (upd s 25 (.bool false)) 27 (.pointer (some ⟨wr.heap.size, 0, none⟩)), rfl, Sv.put (Sv.re (j := 25) (v := .bool false) HV.out e25) (fun u hu => by cases hu; rfl), HST.out⟩
        ·have d25 := ready_dep hr (k := 25) (by kernel_rfl)
         have d27 := ready_dep hr (k := 27) (by kernel_rfl)
         clear hr
         have e25 : s 25 = .bool false := HV.out.v d25 rfl
         have e27 : s 27 = .pointer (some ⟨wr.heap.size, 0, none⟩) := HV.out.v d27 rfl
         obtain ⟨q0, q1, q2, q3, q4, q5, hbl⟩ := HST.out
         refine wpOp_step rfl (fun K hK => ?_)
         go_simp
         refine hK _ _ ?_
         exact ⟨upd (upd (upd s 25 (.bool false)) 27 (.pointer (some ⟨wr.heap.size, 0, none⟩))) 28 (.agg #[.int .i64 e.1, .int .i64 e.2.1, .int .i64 e.2.2.1, .int .i64 e.2.2.2]), rfl, Sv.put (Sv.re (j := 27) (v := .pointer (some ⟨wr.heap.size, 0, none⟩)) (Sv.re (j := 25) (v := .bool false) HV.out e25) e27) (fun u hu => by cases hu; rfl), HST.out⟩
        ·have d25 := ready_dep hr (k := 25) (by kernel_rfl)
         have d26 := ready_dep hr (k := 26) (by kernel_rfl)
         have d28 := ready_dep hr (k := 28) (by kernel_rfl)
         clear hr
         have e25 : s 25 = .bool false := HV.out.v d25 rfl
         have e26 : s 26 = .pointer (some ⟨w.heap.size + 1 + 1 + 1 + 1, 0, none⟩) := HV.out.v d26 rfl
         have e28 : s 28 = .agg #[.int .i64 e.1, .int .i64 e.2.1, .int .i64 e.2.2.1, .int .i64 e.2.2.2] := HV.out.v d28 rfl
         obtain ⟨q0, q1, q2, q3, q4, q5, hbl⟩ := HST.out
         refine wpOp_step rfl (fun K hK => ?_)
         go_simp
         refine (CI.out _ hbl).mono ?_
         rintro e' wc ⟨he, hbc⟩
         subst he
         refine hK _ _ ?_
         exact ⟨upd (upd (upd (upd s 25 (.bool false)) 26 (.pointer (some ⟨w.heap.size + 1 + 1 + 1 + 1, 0, none⟩))) 28 (.agg #[.int .i64 e.1, .int .i64 e.2.1, .int .i64 e.2.2.1, .int .i64 e.2.2.2])) 29 (.bool IB), rfl, Sv.put (Sv.re (j := 28) (v := .agg #[.int .i64 e.1, .int .i64 e.2.1, .int .i64 e.2.2.1, .int .i64 e.2.2.2]) (Sv.re (j := 26) (v := .pointer (some ⟨w.heap.size + 1 + 1 + 1 + 1, 0, none⟩)) (Sv.re (j := 25) (v := .bool false) HV.out e25) e26) e28) (fun u hu => by cases hu; rfl), ⟨stay_c q0 hbc (Nat.le_refl _), stay_c q1 hbc (Nat.le_refl _), stay_c q2 hbc (Nat.le_refl _), stay_c q3 hbc (Nat.le_refl _), stay_c q4 hbc (Nat.le_refl _), stay_c q5 hbc (Nat.le_refl _), stay_b hbl hbc⟩⟩
        ·have d25 := ready_dep hr (k := 25) (by kernel_rfl)
         have d29 := ready_dep hr (k := 29) (by kernel_rfl)
         clear hr
         have e25 : s 25 = .bool false := HV.out.v d25 rfl
         have e29 : s 29 = .bool IB := HV.out.v d29 rfl
         refine wpOp_step rfl (fun K hK => ?_)
         go_simp
         refine hK _ _ ?_
         exact ⟨upd (upd (upd s 25 (.bool false)) 29 (.bool IB)) 30 (.bool (!IB)), rfl, Sv.put (Sv.re (j := 29) (v := .bool IB) (Sv.re (j := 25) (v := .bool false) HV.out e25) e29) (fun u hu => by cases hu; rfl), HST.out⟩
        ·have d25 := ready_dep hr (k := 25) (by kernel_rfl)
         have d30 := ready_dep hr (k := 30) (by kernel_rfl)
         clear hr
         have e25 : s 25 = .bool false := HV.out.v d25 rfl
         have e30 : s 30 = .bool (!IB) := HV.out.v d30 rfl
         refine wpOp_step rfl (fun K hK => ?_)
         go_simp
         refine hK _ _ ?_
         exact ⟨upd (upd (upd s 25 (.bool false)) 30 (.bool (!IB))) 31 (.bool (!IB)), rfl, Sv.put (Sv.re (j := 30) (v := .bool (!IB)) (Sv.re (j := 25) (v := .bool false) HV.out e25) e30) (fun u hu => by cases hu; rfl), HST.out⟩
       ·intro Lq aq WN hI hrd
        obtain ⟨s, ha, hv, hst⟩ := hI
        have hall := all_listedM hrd hv.sz (by kernel_rfl)
        clear hrd
        have e0 : s 0 = (.int .i64 i) := hv.v (hall 0 (by decide)) rfl
        have e1 : s 1 = (.bool false) := hv.v (hall 1 (by decide)) rfl
        have e2 : s 2 = (.bool false) := hv.v (hall 2 (by decide)) rfl
        have e3 : s 3 = (undef) := hv.v (hall 3 (by decide)) rfl
        have e4 : s 4 = (undef) := hv.v (hall 4 (by decide)) rfl
        have e5 : s 5 = (undef) := hv.v (hall 5 (by decide)) rfl
        have e6 : s 6 = (undef) := hv.v (hall 6 (by decide)) rfl
        have e7 : s 7 = (undef) := hv.v (hall 7 (by decide)) rfl
        have e8 : s 8 = (undef) := hv.v (hall 8 (by decide)) rfl
        have e9 : s 9 = (undef) := hv.v (hall 9 (by decide)) rfl
        have e10 : s 10 = (undef) := hv.v (hall 10 (by decide)) rfl
        have e11 : s 11 = (undef) := hv.v (hall 11 (by decide)) rfl
        have e12 : s 12 = (undef) := hv.v (hall 12 (by decide)) rfl
        have e13 : s 13 = (undef) := hv.v (hall 13 (by decide)) rfl
        have e14 : s 14 = (.bool false) := hv.v (hall 14 (by decide)) rfl
        have e15 : s 15 = (.bool false) := hv.v (hall 15 (by decide)) rfl
        have e16 : s 16 = (.pointer (some ⟨wr.heap.size, 4, none⟩)) := hv.v (hall 16 (by decide)) rfl
        have e17 : s 17 = (.int .i64 2) := hv.v (hall 17 (by decide)) rfl
        have e18 : s 18 = (.bool true) := hv.v (hall 18 (by decide)) rfl
        have e19 : s 19 = (.bool true) := hv.v (hall 19 (by decide)) rfl
        have e20 : s 20 = (.pointer (some ⟨wr.heap.size, 4, none⟩)) := hv.v (hall 20 (by decide)) rfl
        have e21 : s 21 = (.int .i64 2) := hv.v (hall 21 (by decide)) rfl
        have e22 : s 22 = (.bool false) := hv.v (hall 22 (by decide)) rfl
        have e23 : s 23 = (.bool false) := hv.v (hall 23 (by decide)) rfl
        have e24 : s 24 = (.bool false) := hv.v (hall 24 (by decide)) rfl
        have e25 : s 25 = (.bool false) := hv.v (hall 25 (by decide)) rfl
        have e26 : s 26 = (.pointer (some ⟨w.heap.size + 1 + 1 + 1 + 1, 0, none⟩)) := hv.v (hall 26 (by decide)) rfl
        have e27 : s 27 = (.pointer (some ⟨wr.heap.size, 0, none⟩)) := hv.v (hall 27 (by decide)) rfl
        have e28 : s 28 = (.agg #[.int .i64 e.1, .int .i64 e.2.1, .int .i64 e.2.2.1, .int .i64 e.2.2.2]) := hv.v (hall 28 (by decide)) rfl
        have e29 : s 29 = (.bool IB) := hv.v (hall 29 (by decide)) rfl
        have e30 : s 30 = (.bool (!IB)) := hv.v (hall 30 (by decide)) rfl
        have e31 : s 31 = (.bool (!IB)) := hv.v (hall 31 (by decide)) rfl
        simp only [e0, e1, e2, e3, e4, e5, e6, e7, e8, e9, e10, e11, e12, e13, e14, e15, e16, e17, e18, e19, e20, e21, e22, e23, e24, e25, e26, e27, e28, e29, e30, e31] at ha
        subst ha
        clear hall hv e0 e1 e2 e3 e4 e5 e6 e7 e8 e9 e10 e11 e12 e13 e14 e15 e16 e17 e18 e19 e20 e21 e22 e23 e24 e25 e26 e27 e28 e29 e30 e31
        obtain ⟨q0, q1, q2, q3, q4, q5, hbl⟩ := hst
        cases IB with
        | false =>
         simp only [Bool.not_false]
         have hkd : creaseB L (prevC cs i) (e, 2) = false := by rw [creaseB_eq]; simp only; rw [← HIB.out, Bool.and_false]
         have HKD := Lib.hid hkd
         clear hkd
         have hbfin := HS2.out.bel.trans (hbl.mono HS2.out.bel.size)
         have HBF := Lib.hid hbfin
         clear hbfin
         go_wp2
         go_ret2
         exact ⟨HBF.out, .inl ⟨HNF.out (HF.out HKD.out), _, rfl⟩⟩
        | true =>
         simp only [Bool.not_true]
         have hkd : creaseB L (prevC cs i) (e, 2) = true := by rw [creaseB_eq]; simp only; rw [← HIB.out, HPV.out]; decide
         have HKD := Lib.hid hkd
         have hS3 := HS2.out.below hbl
         have z6 := hS3.pap.c6
         have hok := inner_ok HSM.out HIB.out.symm
         have HOK := Lib.hid hok
         have HS3 := Lib.hid hS3
         clear hkd hok hS3
         go_wp2_with fail
         go_still_tail 8, (by kernel_rfl)
         change wpList _ _ _ _ _ WN.drew
         go_wp2_with (at_mapUpdate; go_loud (refine wpList_putI (k := kE) rfl _ _ _ rfl HS3.out.pap.kin.drew rfl (by unfold maxLen; omega) e HOK.out 2 rfl rfl (by decide) ?_); intro w6 hm6 hg6)
         have HN := Lib.hid ((HS3.out.below (Below.refl _ _).drew).put HCI.out hg6 hm6)
         go_roundw
         case rel => exact ⟨i + 1, by omega, by go_num, Lib.hid (HST.out HKD.out), HN⟩
         case measure => simp [intOf]; omega
      ·have hkk : (kd != 1) = true := by simpa using hk1
       have hkk2 : (kd != 2) = true := by simpa using hk2
       have hkd : creaseB L (prevC cs i) (e, kd) = false := by rw [creaseB_eq, decide_eq_false (show ¬ (kd = 1 ∨ kd = 2) by omega)]; simp
       have HKD := Lib.hid hkd
       clear hkd hk1 hk2
       refine wp_region_inv (fun Lq aq WN => ∃ s : Nat → Value, aq = { tmps := #[.agg #[.int .i64 (Wn : Int), .int .i64 (Hn : Int), .slice Am nm cm, .slice (some ⟨bC, oC, none⟩) nc cc], .pointer (some ⟨w.heap.size, 0, none⟩), u2, u3, .pointer (some ⟨w.heap.size + 1 + 1 + 1 + 1, 0, none⟩), .bool true, .int .i64 i, .pointer (some ⟨wr.heap.size, 0, none⟩), .tuple #[.pointer (some ⟨w.heap.size + 1 + 1 + 1 + 1, 0, none⟩), .bool true], .agg #[.int .i64 (Wn : Int), .int .i64 (Hn : Int), .slice Am nm cm, .slice (some ⟨bC, oC, none⟩) nc cc], .tuple #[.pointer (some ⟨w.heap.size + 1 + 1 + 1 + 1, 0, none⟩), .bool true], .pointer (some ⟨w.heap.size + 1 + 1 + 1 + 1, 0, none⟩), .bool true, .bool true, .bool false, .pointer (some ⟨w.heap.size, 3, none⟩), .slice (some ⟨bC, oC, none⟩) nc cc, .int .i64 nc, .int .i64 i, .bool true, .int .i64 i, .pointer (some ⟨bC, oC + i * 5, none⟩), .agg #[.int .i64 e.1, .int .i64 e.2.1, .int .i64 e.2.2.1, .int .i64 e.2.2.2, .int .i64 kd], (s 0), (s 1), (s 2), (s 3), (s 4), (s 5), (s 6), (s 7), (s 8), (s 9), (s 10), (s 11), (s 12), (s 13), (s 14), (s 15), (s 16), (s 17), (s 18), (s 19), (s 20), (s 21), (s 22), (s 23), (s 24), (s 25), (s 26), (s 27), (s 28), (s 29), (s 30), (s 31), u55, u56, u57, u58, u59, u60, u61, u62, u63, undef, undef, undef], defers := [] } ∧ Sv 32 [some (.int .i64 i), some (.bool false), some (.bool false), some (undef), some (undef), some (undef), some (undef), some (undef), some (undef), some (undef), some (undef), some (undef), some (undef), some (undef), some (.bool false), some (.bool false), some (.pointer (some ⟨wr.heap.size, 4, none⟩)), some (.int .i64 kd), some (.bool true), some (.bool true), some (.pointer (some ⟨wr.heap.size, 4, none⟩)), some (.int .i64 kd), some (.bool true), some (.bool true), some (.bool true), some (.bool true), some (undef), some (undef), some (undef), some (undef), some (undef), some (.bool true)] Lq s ∧ (WN.cell? ⟨w.heap.size, 3, none⟩ = some (.slice (some ⟨bC, oC, none⟩) nc cc) ∧ WN.cell? ⟨wr.heap.size, 0, none⟩ = some (.int .i64 e.1) ∧ WN.cell? ⟨wr.heap.size, 1, none⟩ = some (.int .i64 e.2.1) ∧ WN.cell? ⟨wr.heap.size, 2, none⟩ = some (.int .i64 e.2.2.1) ∧ WN.cell? ⟨wr.heap.size, 3, none⟩ = some (.int .i64 e.2.2.2) ∧ WN.cell? ⟨wr.heap.size, 4, none⟩ = some (.int .i64 kd) ∧ Below w2.heap.size w2 WN)) (by kernel_rfl) ?_ ?_ ?_
       ·exact ⟨listF [u23, u24, u25, u26, u27, u28, u29, u30, u31, u32, u33, u34, u35, u36, u37, u38, u39, u40, u41, u42, u43, u44, u45, u46, u47, u48, u49, u50, u51, u52, u53, u54], rfl, Sv.start 32 _ _, ⟨b3, g0, g1, g2, g3, g4, (Below.refl _ _).drew⟩⟩
       ·intro Lq aq WN i0 hI hr
        obtain ⟨s, rfl, hv, hst⟩ := hI
        have hi0 : i0 < 32 := ready_lt hr
        have HV := Lib.hid hv
        have HST := Lib.hid hst
        clear hv hst
        have hii : i0 = 0 ∨ i0 = 1 ∨ i0 = 2 ∨ i0 = 3 ∨ i0 = 4 ∨ i0 = 5 ∨ i0 = 6 ∨ i0 = 7 ∨ i0 = 8 ∨ i0 = 9 ∨ i0 = 10 ∨ i0 = 11 ∨ i0 = 12 ∨ i0 = 13 ∨ i0 = 14 ∨ i0 = 15 ∨ i0 = 16 ∨ i0 = 17 ∨ i0 = 18 ∨ i0 = 19 ∨ i0 = 20 ∨ i0 = 21 ∨ i0 = 22 ∨ i0 = 23 ∨ i0 = 24 ∨ i0 = 25 ∨ i0 = 26 ∨ i0 = 27 ∨ i0 = 28 ∨ i0 = 29 ∨ i0 = 30 ∨ i0 = 31 := by omega
        clear hi0
        rcases hii with rfl | rfl | rfl | rfl | rfl | rfl | rfl | rfl | rfl | rfl | rfl | rfl | rfl | rfl | rfl | rfl | rfl | rfl | rfl | rfl | rfl | rfl | rfl | rfl | rfl | rfl | rfl | rfl | rfl | rfl | rfl | rfl
        ·clear hr
         refine wpOp_step rfl (fun K hK => ?_)
         go_simp
         refine hK _ _ ?_
         exact ⟨upd s 0 (.int .i64 i), rfl, Sv.put HV.out (fun u hu => by cases hu; rfl), HST.out⟩
        ·have d0 := ready_dep hr (k := 0) (by kernel_rfl)
         clear hr
         have e0 : s 0 = .int .i64 i := HV.out.v d0 rfl
         refine wpOp_step rfl (fun K hK => ?_)
         go_simp
         refine hK _ _ ?_
         exact ⟨upd (upd s 0 (.int .i64 i)) 1 (.bool false), rfl, Sv.put (Sv.re (j := 0) (v := .int .i64 i) HV.out e0) (fun u hu => by cases hu; rfl), HST.out⟩
        ·have d1 := ready_dep hr (k := 1) (by kernel_rfl)
         clear hr
         have e1 : s 1 = .bool false := HV.out.v d1 rfl
         refine wpOp_step rfl (fun K hK => ?_)
         go_simp
         refine hK _ _ ?_
         exact ⟨upd (upd s 1 (.bool false)) 2 (.bool false), rfl, Sv.put (Sv.re (j := 1) (v := .bool false) HV.out e1) (fun u hu => by cases hu; rfl), HST.out⟩
        ·have d2 := ready_dep hr (k := 2) (by kernel_rfl)
         clear hr
         have e2 : s 2 = .bool false := HV.out.v d2 rfl
         refine wpOp_step rfl (fun K hK => ?_)
         go_simp
         refine hK _ _ ?_
         exact ⟨upd (upd s 2 (.bool false)) 3 (undef), rfl, Sv.put (Sv.re (j := 2) (v := .bool false) HV.out e2) (fun u hu => by cases hu; rfl), HST.out⟩
        ·have d2 := ready_dep hr (k := 2) (by kernel_rfl)
         clear hr
         have e2 : s 2 = .bool false := HV.out.v d2 rfl
         refine wpOp_step rfl (fun K hK => ?_)
         go_simp
         refine hK _ _ ?_
         exact ⟨upd (upd s 2 (.bool false)) 4 (undef), rfl, Sv.put (Sv.re (j := 2) (v := .bool false) HV.out e2) (fun u hu => by cases hu; rfl), HST.out⟩
        ·have d2 := ready_dep hr (k := 2) (by kernel_rfl)
         clear hr
         have e2 : s 2 = .bool false := HV.out.v d2 rfl
         refine wpOp_step rfl (fun K hK => ?_)
         go_simp
         refine hK _ _ ?_
         exact ⟨upd (upd s 2 (.bool false)) 5 (undef), rfl, Sv.put (Sv.re (j := 2) (v := .bool false) HV.out e2) (fun u hu => by cases hu; rfl), HST.out⟩
        ·have d2 := ready_dep hr (k := 2) (by kernel_rfl)
         clear hr
         have e2 : s 2 = .bool false := HV.out.v d2 rfl
         refine wpOp_step rfl (fun K hK => ?_)
         go_simp
         refine hK _ _ ?_
         exact ⟨upd (upd s 2 (.bool false)) 6 (undef), rfl, Sv.put (Sv.re (j := 2) (v := .bool false) HV.out e2) (fun u hu => by cases hu; rfl), HST.out⟩
        ·have d2 := ready_dep hr (k := 2) (by kernel_rfl)
         clear hr
         have e2 : s 2 = .bool false := HV.out.v d2 rfl
         refine wpOp_step rfl (fun K hK => ?_)
         go_simp
         refine hK _ _ ?_
         exact ⟨upd (upd s 2 (.bool false)) 7 (undef), rfl, Sv.put (Sv.re (j := 2) (v := .bool false) HV.out e2) (fun u hu => by cases hu; rfl), HST.out⟩
        ·have d2 := ready_dep hr (k := 2) (by kernel_rfl)
         clear hr
         have e2 : s 2 = .bool false := HV.out.v d2 rfl
         refine wpOp_step rfl (fun K hK => ?_)
         go_simp
         refine hK _ _ ?_
         exact ⟨upd (upd s 2 (.bool false)) 8 (undef), rfl, Sv.put (Sv.re (j := 2) (v := .bool false) HV.out e2) (fun u hu => by cases hu; rfl), HST.out⟩
        ·have d2 := ready_dep hr (k := 2) (by kernel_rfl)
         clear hr
         have e2 : s 2 = .bool false := HV.out.v d2 rfl
         refine wpOp_step rfl (fun K hK => ?_)
         go_simp
         refine hK _ _ ?_
         exact ⟨upd (upd s 2 (.bool false)) 9 (undef), rfl, Sv.put (Sv.re (j := 2) (v := .bool false) HV.out e2) (fun u hu => by cases hu; rfl), HST.out⟩
        ·have d2 := ready_dep hr (k := 2) (by kernel_rfl)
         clear hr
         have e2 : s 2 = .bool false := HV.out.v d2 rfl
         refine wpOp_step rfl (fun K hK => ?_)
         go_simp
         refine hK _ _ ?_
         exact ⟨upd (upd s 2 (.bool false)) 10 (undef), rfl, Sv.put (Sv.re (j := 2) (v := .bool false) HV.out e2) (fun u hu => by cases hu; rfl), HST.out⟩
        ·have d2 := ready_dep hr (k := 2) (by kernel_rfl)
         clear hr
         have e2 : s 2 = .bool false := HV.out.v d2 rfl
         refine wpOp_step rfl (fun K hK => ?_)
         go_simp
         refine hK _ _ ?_
         exact ⟨upd (upd s 2 (.bool false)) 11 (undef), rfl, Sv.put (Sv.re (j := 2) (v := .bool false) HV.out e2) (fun u hu => by cases hu; rfl), HST.out⟩
        ·have d2 := ready_dep hr (k := 2) (by kernel_rfl)
         clear hr
         have e2 : s 2 = .bool false := HV.out.v d2 rfl
         refine wpOp_step rfl (fun K hK => ?_)
         go_simp
         refine hK _ _ ?_
         exact ⟨upd (upd s 2 (.bool false)) 12 (undef), rfl, Sv.put (Sv.re (j := 2) (v := .bool false) HV.out e2) (fun u hu => by cases hu; rfl), HST.out⟩
        ·have d2 := ready_dep hr (k := 2) (by kernel_rfl)
         clear hr
         have e2 : s 2 = .bool false := HV.out.v d2 rfl
         refine wpOp_step rfl (fun K hK => ?_)
         go_simp
         refine hK _ _ ?_
         exact ⟨upd (upd s 2 (.bool false)) 13 (undef), rfl, Sv.put (Sv.re (j := 2) (v := .bool false) HV.out e2) (fun u hu => by cases hu; rfl), HST.out⟩
        ·have d2 := ready_dep hr (k := 2) (by kernel_rfl)
         have d13 := ready_dep hr (k := 13) (by kernel_rfl)
         clear hr
         have e2 : s 2 = .bool false := HV.out.v d2 rfl
         have e13 : s 13 = undef := HV.out.v d13 rfl
         refine wpOp_step rfl (fun K hK => ?_)
         go_simp
         refine hK _ _ ?_
         exact ⟨upd (upd (upd s 2 (.bool false)) 13 (undef)) 14 (.bool false), rfl, Sv.put (Sv.re (j := 13) (v := undef) (Sv.re (j := 2) (v := .bool false) HV.out e2) e13) (fun u hu => by cases hu; rfl), HST.out⟩
        ·have d14 := ready_dep hr (k := 14) (by kernel_rfl)
         clear hr
         have e14 : s 14 = .bool false := HV.out.v d14 rfl
         refine wpOp_step rfl (fun K hK => ?_)
         go_simp
         refine hK _ _ ?_
         exact ⟨upd (upd s 14 (.bool false)) 15 (.bool false), rfl, Sv.put (Sv.re (j := 14) (v := .bool false) HV.out e14) (fun u hu => by cases hu; rfl), HST.out⟩
        ·have d15 := ready_dep hr (k := 15) (by kernel_rfl)
         clear hr
         have e15 : s 15 = .bool false := HV.out.v d15 rfl
         refine wpOp_step rfl (fun K hK => ?_)
         go_simp
         refine hK _ _ ?_
         exact ⟨upd (upd s 15 (.bool false)) 16 (.pointer (some ⟨wr.heap.size, 4, none⟩)), rfl, Sv.put (Sv.re (j := 15) (v := .bool false) HV.out e15) (fun u hu => by cases hu; rfl), HST.out⟩
        ·have d15 := ready_dep hr (k := 15) (by kernel_rfl)
         have d16 := ready_dep hr (k := 16) (by kernel_rfl)
         clear hr
         have e15 : s 15 = .bool false := HV.out.v d15 rfl
         have e16 : s 16 = .pointer (some ⟨wr.heap.size, 4, none⟩) := HV.out.v d16 rfl
         obtain ⟨q0, q1, q2, q3, q4, q5, hbl⟩ := HST.out
         refine wpOp_step rfl (fun K hK => ?_)
         go_simp
         refine hK _ _ ?_
         exact ⟨upd (upd (upd s 15 (.bool false)) 16 (.pointer (some ⟨wr.heap.size, 4, none⟩))) 17 (.int .i64 kd), rfl, Sv.put (Sv.re (j := 16) (v := .pointer (some ⟨wr.heap.size, 4, none⟩)) (Sv.re (j := 15) (v := .bool false) HV.out e15) e16) (fun u hu => by cases hu; rfl), HST.out⟩
        ·have d15 := ready_dep hr (k := 15) (by kernel_rfl)
         have d17 := ready_dep hr (k := 17) (by kernel_rfl)
         clear hr
         have e15 : s 15 = .bool false := HV.out.v d15 rfl
         have e17 : s 17 = .int .i64 kd := HV.out.v d17 rfl
         refine wpOp_step rfl (fun K hK => ?_)
         go_simp
         refine hK _ _ ?_
         exact ⟨upd (upd (upd s 15 (.bool false)) 17 (.int .i64 kd)) 18 (.bool true), rfl, Sv.put (Sv.re (j := 17) (v := .int .i64 kd) (Sv.re (j := 15) (v := .bool false) HV.out e15) e17) (fun u hu => by cases hu; rfl), HST.out⟩
        ·have d15 := ready_dep hr (k := 15) (by kernel_rfl)
         have d18 := ready_dep hr (k := 18) (by kernel_rfl)
         clear hr
         have e15 : s 15 = .bool false := HV.out.v d15 rfl
         have e18 : s 18 = .bool true := HV.out.v d18 rfl
         refine wpOp_step rfl (fun K hK => ?_)
         go_simp
         refine hK _ _ ?_
         exact ⟨upd (upd (upd s 15 (.bool false)) 18 (.bool true)) 19 (.bool true), rfl, Sv.put (Sv.re (j := 18) (v := .bool true) (Sv.re (j := 15) (v := .bool false) HV.out e15) e18) (fun u hu => by cases hu; rfl), HST.out⟩
        ·have d19 := ready_dep hr (k := 19) (by kernel_rfl)
         clear hr
         have e19 : s 19 = .bool true := HV.out.v d19 rfl
         refine wpOp_step rfl (fun K hK => ?_)
         go_simp
         refine hK _ _ ?_
         exact ⟨upd (upd s 19 (.bool true)) 20 (.pointer (some ⟨wr.heap.size, 4, none⟩)), rfl, Sv.put (Sv.re (j := 19) (v := .bool true) HV.out e19) (fun u hu => by cases hu; rfl), HST.out⟩
        ·have d19 := ready_dep hr (k := 19) (by kernel_rfl)
         have d20 := ready_dep hr (k := 20) (by kernel_rfl)
         clear hr
         have e19 : s 19 = .bool true := HV.out.v d19 rfl
         have e20 : s 20 = .pointer (some ⟨wr.heap.size, 4, none⟩) := HV.out.v d20 rfl
         obtain ⟨q0, q1, q2, q3, q4, q5, hbl⟩ := HST.out
         refine wpOp_step rfl (fun K hK => ?_)
         go_simp
         refine hK _ _ ?_
         exact ⟨upd (upd (upd s 19 (.bool true)) 20 (.pointer (some ⟨wr.heap.size, 4, none⟩))) 21 (.int .i64 kd), rfl, Sv.put (Sv.re (j := 20) (v := .pointer (some ⟨wr.heap.size, 4, none⟩)) (Sv.re (j := 19) (v := .bool true) HV.out e19) e20) (fun u hu => by cases hu; rfl), HST.out⟩
        ·have d19 := ready_dep hr (k := 19) (by kernel_rfl)
         have d21 := ready_dep hr (k := 21) (by kernel_rfl)
         clear hr
         have e19 : s 19 = .bool true := HV.out.v d19 rfl
         have e21 : s 21 = .int .i64 kd := HV.out.v d21 rfl
         refine wpOp_step rfl (fun K hK => ?_)
         go_simp
         refine hK _ _ ?_
         exact ⟨upd (upd (upd s 19 (.bool true)) 21 (.int .i64 kd)) 22 (.bool true), rfl, Sv.put (Sv.re (j := 21) (v := .int .i64 kd) (Sv.re (j := 19) (v := .bool true) HV.out e19) e21) (fun u hu => by cases hu; rfl), HST.out⟩
        ·have d15 := ready_dep hr (k := 15) (by kernel_rfl)
         have d19 := ready_dep hr (k := 19) (by kernel_rfl)
         have d22 := ready_dep hr (k := 22) (by kernel_rfl)
         clear hr
         have e15 : s 15 = .bool false := HV.out.v d15 rfl
         have e19 : s 19 = .bool true := HV.out.v d19 rfl
         have e22 : s 22 = .bool true := HV.out.v d22 rfl
         refine wpOp_step rfl (fun K hK => ?_)
         go_simp
         refine hK _ _ ?_
         exact ⟨upd (upd (upd (upd s 15 (.bool false)) 19 (.bool true)) 22 (.bool true)) 23 (.bool true), rfl, Sv.put (Sv.re (j := 22) (v := .bool true) (Sv.re (j := 19) (v := .bool true) (Sv.re (j := 15) (v := .bool false) HV.out e15) e19) e22) (fun u hu => by cases hu; rfl), HST.out⟩
        ·have d15 := ready_dep hr (k := 15) (by kernel_rfl)
         have d23 := ready_dep hr (k := 23) (by kernel_rfl)
         clear hr
         have e15 : s 15 = .bool false := HV.out.v d15 rfl
         have e23 : s 23 = .bool true := HV.out.v d23 rfl
         refine wpOp_step rfl (fun K hK => ?_)
         go_simp
         refine hK _ _ ?_
         exact ⟨upd (upd (upd s 15 (.bool false)) 23 (.bool true)) 24 (.bool true), rfl, Sv.put (Sv.re (j := 23) (v := .bool true) (Sv.re (j := 15) (v := .bool false) HV.out e15) e23) (fun u hu => by cases hu; rfl), HST.out⟩
        ·have d24 := ready_dep hr (k := 24) (by kernel_rfl)
         clear hr
         have e24 : s 24 = .bool true := HV.out.v d24 rfl
         refine wpOp_step rfl (fun K hK => ?_)
         go_simp
         refine hK _ _ ?_
         exact ⟨upd (upd s 24 (.bool true)) 25 (.bool true), rfl, Sv.put (Sv.re (j := 24) (v := .bool true) HV.out e24) (fun u hu => by cases hu; rfl), HST.out⟩
        ·have d25 := ready_dep hr (k := 25) (by kernel_rfl)
         clear hr
         have e25 : s 25 = .bool true := HV.out.v d25 rfl
         refine wpOp_step rfl (fun K hK => ?_)
         go_simp
         refine hK _ _ ?_
         exact ⟨upd (upd s 25 (.bool true)) 26 (undef), rfl, Sv.put (Sv.re (j := 25) (v := .bool true) HV.out e25) (fun u hu => by cases hu; rfl), HST.out⟩
        ·have d25 := ready_dep hr (k := 25) (by kernel_rfl)
         clear hr
         have e25 : s 25 = .bool true := HV.out.v d25 rfl
         refine wpOp_step rfl (fun K hK => ?_)
         go_simp
         refine hK _ _ ?_
         exact ⟨upd (upd s 25 (.bool true)) 27 (undef), rfl, Sv.put (Sv.re (j := 25) (v := .bool true) HV.out e25) (fun u hu => by cases hu; rfl), HST.out⟩
        ·have d25 := ready_dep hr (k := 25) (by kernel_rfl)
         clear hr
         have e25 : s 25 = .bool true := HV.out.v d25 rfl
         refine wpOp_step rfl (fun K hK => ?_)
         go_simp
         refine hK _ _ ?_
         exact ⟨upd (upd s 25 (.bool true)) 28 (undef), rfl, Sv.put (Sv.re (j := 25) (v := .bool true) HV.out e25) (fun u hu => by cases hu; rfl), HST.out⟩
        ·have d25 := ready_dep hr (k := 25) (by kernel_rfl)
         clear hr
         have e25 : s 25 = .bool true := HV.out.v d25 rfl
         refine wpOp_step rfl (fun K hK => ?_)
         go_simp
         refine hK _ _ ?_
         exact ⟨upd (upd s 25 (.bool true)) 29 (undef), rfl, Sv.put (Sv.re (j := 25) (v := .bool true) HV.out e25) (fun u hu => by cases hu; rfl), HST.out⟩
        ·have d25 := ready_dep hr (k := 25) (by kernel_rfl)
         clear hr
         have e25 : s 25 = .bool true := HV.out.v d25 rfl
         refine wpOp_step rfl (fun K hK => ?_)
         go_simp
         refine hK _ _ ?_
         exact ⟨upd (upd s 25 (.bool true)) 30 (undef), rfl, Sv.put (Sv.re (j := 25) (v := .bool true) HV.out e25) (fun u hu => by cases hu; rfl), HST.out⟩
        ·have d25 := ready_dep hr (k := 25) (by kernel_rfl)
         have d30 := ready_dep hr (k := 30) (by kernel_rfl)
         clear hr
         have e25 : s 25 = .bool true := HV.out.v d25 rfl
         have e30 : s 30 = undef := HV.out.v d30 rfl
         refine wpOp_step rfl (fun K hK => ?_)
         go_simp
         refine hK _ _ ?_
         exact ⟨upd (upd (upd s 25 (.bool true)) 30 (undef)) 31 (.bool true), rfl, Sv.put (Sv.re (j := 30) (v := undef) (Sv.re (j := 25) (v := .bool true) HV.out e25) e30) (fun u hu => by cases hu; rfl), HST.out⟩
       ·intro Lq aq WN hI hrd
        obtain ⟨s, ha, hv, hst⟩ := hI
        have hall := all_listedM hrd hv.sz (by kernel_rfl)
        clear hrd
        have e0 : s 0 = (.int .i64 i) := hv.v (hall 0 (by decide)) rfl
        have e1 : s 1 = (.bool false) := hv.v (hall 1 (by decide)) rfl
        have e2 : s 2 = (.bool false) := hv.v (hall 2 (by decide)) rfl
        have e3 : s 3 = (undef) := hv.v (hall 3 (by decide)) rfl
        have e4 : s 4 = (undef) := hv.v (hall 4 (by decide)) rfl
        have e5 : s 5 = (undef) := hv.v (hall 5 (by decide)) rfl
        have e6 : s 6 = (undef) := hv.v (hall 6 (by decide)) rfl
        have e7 : s 7 = (undef) := hv.v (hall 7 (by decide)) rfl
        have e8 : s 8 = (undef) := hv.v (hall 8 (by decide)) rfl
        have e9 : s 9 = (undef) := hv.v (hall 9 (by decide)) rfl
        have e10 : s 10 = (undef) := hv.v (hall 10 (by decide)) rfl
        have e11 : s 11 = (undef) := hv.v (hall 11 (by decide)) rfl
        have e12 : s 12 = (undef) := hv.v (hall 12 (by decide)) rfl
        have e13 : s 13 = (undef) := hv.v (hall 13 (by decide)) rfl
        have e14 : s 14 = (.bool false) := hv.v (hall 14 (by decide)) rfl
        have e15 : s 15 = (.bool false) := hv.v (hall 15 (by decide)) rfl
        have e16 : s 16 = (.pointer (some ⟨wr.heap.size, 4, none⟩)) := hv.v (hall 16 (by decide)) rfl
        have e17 : s 17 = (.int .i64 kd) := hv.v (hall 17 (by decide)) rfl
        have e18 : s 18 = (.bool true) := hv.v (hall 18 (by decide)) rfl
        have e19 : s 19 = (.bool true) := hv.v (hall 19 (by decide)) rfl
        have e20 : s 20 = (.pointer (some ⟨wr.heap.size, 4, none⟩)) := hv.v (hall 20 (by decide)) rfl
        have e21 : s 21 = (.int .i64 kd) := hv.v (hall 21 (by decide)) rfl
        have e22 : s 22 = (.bool true) := hv.v (hall 22 (by decide)) rfl
        have e23 : s 23 = (.bool true) := hv.v (hall 23 (by decide)) rfl
        have e24 : s 24 = (.bool true) := hv.v (hall 24 (by decide)) rfl
        have e25 : s 25 = (.bool true) := hv.v (hall 25 (by decide)) rfl
        have e26 : s 26 = (undef) := hv.v (hall 26 (by decide)) rfl
        have e27 : s 27 = (undef) := hv.v (hall 27 (by decide)) rfl
        have e28 : s 28 = (undef) := hv.v (hall 28 (by decide)) rfl
        have e29 : s 29 = (undef) := hv.v (hall 29 (by decide)) rfl
        have e30 : s 30 = (undef) := hv.v (hall 30 (by decide)) rfl
        have e31 : s 31 = (.bool true) := hv.v (hall 31 (by decide)) rfl
        simp only [e0, e1, e2, e3, e4, e5, e6, e7, e8, e9, e10, e11, e12, e13, e14, e15, e16, e17, e18, e19, e20, e21, e22, e23, e24, e25, e26, e27, e28, e29, e30, e31] at ha
        subst ha
        clear hall hv e0 e1 e2 e3 e4 e5 e6 e7 e8 e9 e10 e11 e12 e13 e14 e15 e16 e17 e18 e19 e20 e21 e22 e23 e24 e25 e26 e27 e28 e29 e30 e31
        obtain ⟨q0, q1, q2, q3, q4, q5, hbl⟩ := hst
        have hbfin := HS2.out.bel.trans (hbl.mono HS2.out.bel.size)
        have HBF := Lib.hid hbfin
        clear hbfin
        go_wp2
        go_ret2
        exact ⟨HBF.out, .inl ⟨HNF.out (HF.out HKD.out), _, rfl⟩⟩
    ·obtain ⟨j, hj⟩ : ∃ j, i = j + 1 := ⟨i - 1, by omega⟩
     obtain ⟨pc, hpc⟩ := hprev j hj
     obtain ⟨pe, pk⟩ := pc
     have hp0 : decide (0 < i) = true := decide_eq_true (by omega)
     have hp1 : decide ((0:Int) < (i : Int)) = true := decide_eq_true (by omega)
     have hsub : IntKind.i64.wrap ((i : Int) - 1) = (j : Int) := by rw [IntWalk.i64_in _ (by omega)]; omega
     have hjn : j < nc := by omega
     have hjn2 : (j : Int) < (nc : Int) := by omega
     have hj0 : (0 : Int) ≤ (j : Int) := by omega
     have hpvc : prevC cs i = some (pe, pk) := by unfold prevC; rw [if_neg hi0, hj, Nat.add_sub_cancel]; exact hpc
     obtain ⟨y0, y1, y2, y3, _⟩ := HC2.out.crease hpc
     simp only at y0 y1 y2 y3
     have cC := fun (w3 : World) => cmpEdge_any pe.1 pe.2.1 pe.2.2.1 pe.2.2.2 e.1 e.2.1 e.2.2.1 e.2.2.2 w3
     obtain ⟨Z, hZ⟩ : ∃ Z, Z = cmpE pe e := ⟨_, rfl⟩
     have hZ2 : cmpE (pe.1, pe.2.1, pe.2.2.1, pe.2.2.2) (e.1, e.2.1, e.2.2.1, e.2.2.2) = Z := hZ.symm
     rw [hZ2] at cC
     have hless := cmpE_less pe e
     rw [← hZ] at hless
     have CC := Lib.hid cC
     have HLS := Lib.hid hless
     have HPVC := Lib.hid hpvc
     clear cC hZ hZ2 hless hpvc hj hi0 hpc hprev
     by_cases hz : 0 ≤ Z
     ·have hz1 : decide (0 ≤ Z) = true := decide_eq_true hz
      have hkd : creaseB L (prevC cs i) (e, kd) = false := by rw [creaseB_eq, HPVC.out]; have := HLS.out; rw [hz1] at this; simp at this; simp [prevOk, this]
      have HKD := Lib.hid hkd
      clear hkd
      refine wp_region_inv (fun Lq aq WN => ∃ s : Nat → Value, aq = { tmps := #[.agg #[.int .i64 (Wn : Int), .int .i64 (Hn : Int), .slice Am nm cm, .slice (some ⟨bC, oC, none⟩) nc cc], .pointer (some ⟨w.heap.size, 0, none⟩), u2, u3, .pointer (some ⟨w.heap.size + 1 + 1 + 1 + 1, 0, none⟩), .bool true, .int .i64 i, .pointer (some ⟨wr.heap.size, 0, none⟩), .tuple #[.pointer (some ⟨w.heap.size + 1 + 1 + 1 + 1, 0, none⟩), .bool true], .agg #[.int .i64 (Wn : Int), .int .i64 (Hn : Int), .slice Am nm cm, .slice (some ⟨bC, oC, none⟩) nc cc], .tuple #[.pointer (some ⟨w.heap.size + 1 + 1 + 1 + 1, 0, none⟩), .bool true], .pointer (some ⟨w.heap.size + 1 + 1 + 1 + 1, 0, none⟩), .bool true, .bool true, .bool false, .pointer (some ⟨w.heap.size, 3, none⟩), .slice (some ⟨bC, oC, none⟩) nc cc, .int .i64 nc, .int .i64 i, .bool true, .int .i64 i, .pointer (some ⟨bC, oC + i * 5, none⟩), .agg #[.int .i64 e.1, .int .i64 e.2.1, .int .i64 e.2.2.1, .int .i64 e.2.2.2, .int .i64 kd], (s 0), (s 1), (s 2), (s 3), (s 4), (s 5), (s 6), (s 7), (s 8), (s 9), (s 10), (s 11), (s 12), (s 13), (s 14), (s 15), (s 16), (s 17), (s 18), (s 19), (s 20), (s 21), (s 22), (s 23), (s 24), (s 25), (s 26), (s 27), (s 28), (s 29), (s 30), (s 31), u55, u56, u57, u58, u59, u60, u61, u62, u63, undef, undef, undef], defers := [] } ∧ Sv 32 [some (.int .i64 i), some (.bool true), some (.bool true), some (.pointer (some ⟨w.heap.size, 3, none⟩)), some (.slice (some ⟨bC, oC, none⟩) nc cc), some (.int .i64 i), some (.int .i64 j), some (.pointer (some ⟨bC, oC + j * 5, none⟩)), some (.pointer (some ⟨bC, oC + j * 5, none⟩)), some (.agg #[.int .i64 pe.1, .int .i64 pe.2.1, .int .i64 pe.2.2.1, .int .i64 pe.2.2.2]), some (.pointer (some ⟨wr.heap.size, 0, none⟩)), some (.agg #[.int .i64 e.1, .int .i64 e.2.1, .int .i64 e.2.2.1, .int .i64 e.2.2.2]), some (.int .i64 Z), some (.bool true), some (.bool true), some (.bool true), some (undef), some (undef), some (undef), some (undef), some (undef), some (undef), some (undef), some (undef), some (.bool true), some (.bool true), some (undef), some (undef), some (undef), some (undef), some (undef), some (.bool true)] Lq s ∧ (WN.cell? ⟨w.heap.size, 3, none⟩ = some (.slice (some ⟨bC, oC, none⟩) nc cc) ∧ WN.cell? ⟨wr.heap.size, 0, none⟩ = some (.int .i64 e.1) ∧ WN.cell? ⟨wr.heap.size, 1, none⟩ = some (.int .i64 e.2.1) ∧ WN.cell? ⟨wr.heap.size, 2, none⟩ = some (.int .i64 e.2.2.1) ∧ WN.cell? ⟨wr.heap.size, 3, none⟩ = some (.int .i64 e.2.2.2) ∧ WN.cell? ⟨wr.heap.size, 4, none⟩ = some (.int .i64 kd) ∧ WN.cell? ⟨bC, oC + j * 5, none⟩ = some (.int .i64 pe.1) ∧ WN.cell? ⟨bC, oC + j * 5 + 1, none⟩ = some (.int .i64 pe.2.1) ∧ WN.cell? ⟨bC, oC + j * 5 + 2, none⟩ = some (.int .i64 pe.2.2.1) ∧ WN.cell? ⟨bC, oC + j * 5 + 3, none⟩ = some (.int .i64 pe.2.2.2) ∧ Below w2.heap.size w2 WN)) (by kernel_rfl) ?_ ?_ ?_
      ·exact ⟨listF [u23, u24, u25, u26, u27, u28, u29, u30, u31, u32, u33, u34, u35, u36, u37, u38, u39, u40, u41, u42, u43, u44, u45, u46, u47, u48, u49, u50, u51, u52, u53, u54], rfl, Sv.start 32 _ _, ⟨b3, g0, g1, g2, g3, g4, y0, y1, y2, y3, (Below.refl _ _).drew⟩⟩
      ·intro Lq aq WN i0 hI hr
       obtain ⟨s, rfl, hv, hst⟩ := hI
       have hi0 : i0 < 32 := ready_lt hr
       have HV := Lib.hid hv
       have HST := Lib.hid hst
       clear hv hst
       have hii : i0 = 0 ∨ i0 = 1 ∨ i0 = 2 ∨ i0 = 3 ∨ i0 = 4 ∨ i0 = 5 ∨ i0 = 6 ∨ i0 = 7 ∨ i0 = 8 ∨ i0 = 9 ∨ i0 = 10 ∨ i0 = 11 ∨ i0 = 12 ∨ i0 = 13 ∨ i0 = 14 ∨ i0 = 15 ∨ i0 = 16 ∨ i0 = 17 ∨ i0 = 18 ∨ i0 = 19 ∨ i0 = 20 ∨ i0 = 21 ∨ i0 = 22 ∨ i0 = 23 ∨ i0 = 24 ∨ i0 = 25 ∨ i0 = 26 ∨ i0 = 27 ∨ i0 = 28 ∨ i0 = 29 ∨ i0 = 30 ∨ i0 = 31 := by omega
       clear hi0
       rcases hii with rfl | rfl | rfl | rfl | rfl | rfl | rfl | rfl | rfl | rfl | rfl | rfl | rfl | rfl | rfl | rfl | rfl | rfl | rfl | rfl | rfl | rfl | rfl | rfl | rfl | rfl | rfl | rfl | rfl | rfl | rfl | rfl
       ·clear hr
        refine wpOp_step rfl (fun K hK => ?_)
        go_simp
        refine hK _ _ ?_
        exact ⟨upd s 0 (.int .i64 i), rfl, Sv.put HV.out (fun u hu => by cases hu; rfl), HST.out⟩
       ·have d0 := ready_dep hr (k := 0) (by kernel_rfl)
        clear hr
        have e0 : s 0 = .int .i64 i := HV.out.v d0 rfl
        refine wpOp_step rfl (fun K hK => ?_)
        go_simp
        refine hK _ _ ?_
        exact ⟨upd (upd s 0 (.int .i64 i)) 1 (.bool true), rfl, Sv.put (Sv.re (j := 0) (v := .int .i64 i) HV.out e0) (fun u hu => by cases hu; rfl), HST.out⟩
       ·have d1 := ready_dep hr (k := 1) (by kernel_rfl)
        clear hr
        have e1 : s 1 = .bool true := HV.out.v d1 rfl
        refine wpOp_step rfl (fun K hK => ?_)
        go_simp
        refine hK _ _ ?_
        exact ⟨upd (upd s 1 (.bool true)) 2 (.bool true), rfl, Sv.put (Sv.re (j := 1) (v := .bool true) HV.out e1) (fun u hu => by cases hu; rfl), HST.out⟩
       ·have d2 := ready_dep hr (k := 2) (by kernel_rfl)
        clear hr
        have e2 : s 2 = .bool true := HV.out.v d2 rfl
        refine wpOp_step rfl (fun K hK => ?_)
        go_simp
        refine hK _ _ ?_
        exact ⟨upd (upd s 2 (.bool true)) 3 (.pointer (some ⟨w.heap.size, 3, none⟩)), rfl, Sv.put (Sv.re (j := 2) (v := .bool true) HV.out e2) (fun u hu => by cases hu; rfl), HST.out⟩
       ·have d2 := ready_dep hr (k := 2) (by kernel_rfl)
        have d3 := ready_dep hr (k := 3) (by kernel_rfl)
        clear hr
        have e2 : s 2 = .bool true := HV.out.v d2 rfl
        have e3 : s 3 = .pointer (some ⟨w.heap.size, 3, none⟩) := HV.out.v d3 rfl
        obtain ⟨q0, q1, q2, q3, q4, q5, q6, q7, q8, q9, hbl⟩ := HST.out
        refine wpOp_step rfl (fun K hK => ?_)
        go_simp
        refine hK _ _ ?_
        exact ⟨upd (upd (upd s 2 (.bool true)) 3 (.pointer (some ⟨w.heap.size, 3, none⟩))) 4 (.slice (some ⟨bC, oC, none⟩) nc cc), rfl, Sv.put (Sv.re (j := 3) (v := .pointer (some ⟨w.heap.size, 3, none⟩)) (Sv.re (j := 2) (v := .bool true) HV.out e2) e3) (fun u hu => by cases hu; rfl), HST.out⟩
       ·have d2 := ready_dep hr (k := 2) (by kernel_rfl)
        clear hr
        have e2 : s 2 = .bool true := HV.out.v d2 rfl
        refine wpOp_step rfl (fun K hK => ?_)
        go_simp
        refine hK _ _ ?_
        exact ⟨upd (upd s 2 (.bool true)) 5 (.int .i64 i), rfl, Sv.put (Sv.re (j := 2) (v := .bool true) HV.out e2) (fun u hu => by cases hu; rfl), HST.out⟩
       ·have d2 := ready_dep hr (k := 2) (by kernel_rfl)
        have d5 := ready_dep hr (k := 5) (by kernel_rfl)
        clear hr
        have e2 : s 2 = .bool true := HV.out.v d2 rfl
        have e5 : s 5 = .int .i64 i := HV.out.v d5 rfl
        refine wpOp_step rfl (fun K hK => ?_)
        go_simp
        refine hK _ _ ?_
        exact ⟨upd (upd (upd s 2 (.bool true)) 5 (.int .i64 i)) 6 (.int .i64 j), rfl, Sv.put (Sv.re (j := 5) (v := .int .i64 i) (Sv.re (j := 2) (v := .bool true) HV.out e2) e5) (fun u hu => by cases hu; rfl), HST.out⟩
       ·have d2 := ready_dep hr (k := 2) (by kernel_rfl)
        have d4 := ready_dep hr (k := 4) (by kernel_rfl)
        have d6 := ready_dep hr (k := 6) (by kernel_rfl)
        clear hr
        have e2 : s 2 = .bool true := HV.out.v d2 rfl
        have e4 : s 4 = .slice (some ⟨bC, oC, none⟩) nc cc := HV.out.v d4 rfl
        have e6 : s 6 = .int .i64 j := HV.out.v d6 rfl
        refine wpOp_step rfl (fun K hK => ?_)
        go_simp
        refine hK _ _ ?_
        exact ⟨upd (upd (upd (upd s 2 (.bool true)) 4 (.slice (some ⟨bC, oC, none⟩) nc cc)) 6 (.int .i64 j)) 7 (.pointer (some ⟨bC, oC + j * 5, none⟩)), rfl, Sv.put (Sv.re (j := 6) (v := .int .i64 j) (Sv.re (j := 4) (v := .slice (some ⟨bC, oC, none⟩) nc cc) (Sv.re (j := 2) (v := .bool true) HV.out e2) e4) e6) (fun u hu => by cases hu; rfl), HST.out⟩
       ·have d2 := ready_dep hr (k := 2) (by kernel_rfl)
        have d7 := ready_dep hr (k := 7) (by kernel_rfl)
        clear hr
        have e2 : s 2 = .bool true := HV.out.v d2 rfl
        have e7 : s 7 = .pointer (some ⟨bC, oC + j * 5, none⟩) := HV.out.v d7 rfl
        refine wpOp_step rfl (fun K hK => ?_)
        go_simp
        refine hK _ _ ?_
        exact ⟨upd (upd (upd s 2 (.bool true)) 7 (.pointer (some ⟨bC, oC + j * 5, none⟩))) 8 (.pointer (some ⟨bC, oC + j * 5, none⟩)), rfl, Sv.put (Sv.re (j := 7) (v := .pointer (some ⟨bC, oC + j * 5, none⟩)) (Sv.re (j := 2) (v := .bool true) HV.out e2) e7) (fun u hu => by cases hu; rfl), HST.out⟩
       ·have d2 := ready_dep hr (k := 2) (by kernel_rfl)
        have d8 := ready_dep hr (k := 8) (by kernel_rfl)
        clear hr
        have e2 : s 2 = .bool true := HV.out.v d2 rfl
        have e8 : s 8 = .pointer (some ⟨bC, oC + j * 5, none⟩) := HV.out.v d8 rfl
        obtain ⟨q0, q1, q2, q3, q4, q5, q6, q7, q8, q9, hbl⟩ := HST.out
        refine wpOp_step rfl (fun K hK => ?_)
        go_simp
        refine hK _ _ ?_
        exact ⟨upd (upd (upd s 2 (.bool true)) 8 (.pointer (some ⟨bC, oC + j * 5, none⟩))) 9 (.agg #[.int .i64 pe.1, .int .i64 pe.2.1, .int .i64 pe.2.2.1, .int .i64 pe.2.2.2]), rfl, Sv.put (Sv.re (j := 8) (v := .pointer (some ⟨bC, oC + j * 5, none⟩)) (Sv.re (j := 2) (v := .bool true) HV.out e2) e8) (fun u hu => by cases hu; rfl), HST.out⟩
       ·have d2 := ready_dep hr (k := 2) (by kernel_rfl)
        clear hr
        have e2 : s 2 = .bool true := HV.out.v d2 rfl
        refine wpOp_step rfl (fun K hK => ?_)
        go_simp
        refine hK _ _ ?_
        exact ⟨upd (upd s 2 (.bool true)) 10 (.pointer (some ⟨wr.heap.size, 0, none⟩)), rfl, Sv.put (Sv.re (j := 2) (v := .bool true) HV.out e2) (fun u hu => by cases hu; rfl), HST.out⟩
       ·have d2 := ready_dep hr (k := 2) (by kernel_rfl)
        have d10 := ready_dep hr (k := 10) (by kernel_rfl)
        clear hr
        have e2 : s 2 = .bool true := HV.out.v d2 rfl
        have e10 : s 10 = .pointer (some ⟨wr.heap.size, 0, none⟩) := HV.out.v d10 rfl
        obtain ⟨q0, q1, q2, q3, q4, q5, q6, q7, q8, q9, hbl⟩ := HST.out
        refine wpOp_step rfl (fun K hK => ?_)
        go_simp
        refine hK _ _ ?_
        exact ⟨upd (upd (upd s 2 (.bool true)) 10 (.pointer (some ⟨wr.heap.size, 0, none⟩))) 11 (.agg #[.int .i64 e.1, .int .i64 e.2.1, .int .i64 e.2.2.1, .int .i64 e.2.2.2]), rfl, Sv.put (Sv.re (j := 10) (v := .pointer (some ⟨wr.heap.size, 0, none⟩)) (Sv.re (j := 2) (v := .bool true) HV.out e2) e10) (fun u hu => by cases hu; rfl), HST.out⟩
       ·have d2 := ready_dep hr (k := 2) (by kernel_rfl)
        have d9 := ready_dep hr (k := 9) (by kernel_rfl)
        have d11 := ready_dep hr (k := 11) (by kernel_rfl)
        clear hr
        have e2 : s 2 = .bool true := HV.out.v d2 rfl
        have e9 : s 9 = .agg #[.int .i64 pe.1, .int .i64 pe.2.1, .int .i64 pe.2.2.1, .int .i64 pe.2.2.2] := HV.out.v d9 rfl
        have e11 : s 11 = .agg #[.int .i64 e.1, .int .i64 e.2.1, .int .i64 e.2.2.1, .int .i64 e.2.2.2] := HV.out.v d11 rfl
        obtain ⟨q0, q1, q2, q3, q4, q5, q6, q7, q8, q9, hbl⟩ := HST.out
        refine wpOp_step rfl (fun K hK => ?_)
        go_simp
        refine (CC.out _).mono ?_
        rintro e' wc ⟨he, hgr⟩
        have hbc := hgr.below
        subst he
        refine hK _ _ ?_
        exact ⟨upd (upd (upd (upd s 2 (.bool true)) 9 (.agg #[.int .i64 pe.1, .int .i64 pe.2.1, .int .i64 pe.2.2.1, .int .i64 pe.2.2.2])) 11 (.agg #[.int .i64 e.1, .int .i64 e.2.1, .int .i64 e.2.2.1, .int .i64 e.2.2.2])) 12 (.int .i64 Z), rfl, Sv.put (Sv.re (j := 11) (v := .agg #[.int .i64 e.1, .int .i64 e.2.1, .int .i64 e.2.2.1, .int .i64 e.2.2.2]) (Sv.re (j := 9) (v := .agg #[.int .i64 pe.1, .int .i64 pe.2.1, .int .i64 pe.2.2.1, .int .i64 pe.2.2.2]) (Sv.re (j := 2) (v := .bool true) HV.out e2) e9) e11) (fun u hu => by cases hu; rfl), ⟨stay_c q0 hbc (Nat.le_refl _), stay_c q1 hbc (Nat.le_refl _), stay_c q2 hbc (Nat.le_refl _), stay_c q3 hbc (Nat.le_refl _), stay_c q4 hbc (Nat.le_refl _), stay_c q5 hbc (Nat.le_refl _), stay_c q6 hbc (Nat.le_refl _), stay_c q7 hbc (Nat.le_refl _), stay_c q8 hbc (Nat.le_refl _), stay_c q9 hbc (Nat.le_refl _), stay_b hbl hbc⟩⟩
       ·have d2 := ready_dep hr (k := 2) (by kernel_rfl)
        have d12 := ready_dep hr (k := 12) (by kernel_rfl)
        clear hr
        have e2 : s 2 = .bool true := HV.out.v d2 rfl
        have e12 : s 12 = .int .i64 Z := HV.out.v d12 rfl
        refine wpOp_step rfl (fun K hK => ?_)
        go_simp
        refine hK _ _ ?_
        exact ⟨upd (upd (upd s 2 (.bool true)) 12 (.int .i64 Z)) 13 (.bool true), rfl, Sv.put (Sv.re (j := 12) (v := .int .i64 Z) (Sv.re (j := 2) (v := .bool true) HV.out e2) e12) (fun u hu => by cases hu; rfl), HST.out⟩
       ·have d2 := ready_dep hr (k := 2) (by kernel_rfl)
        have d13 := ready_dep hr (k := 13) (by kernel_rfl)
        clear hr
        have e2 : s 2 = .bool true := HV.out.v d2 rfl
        have e13 : s 13 = .bool true := HV.out.v d13 rfl
        refine wpOp_step rfl (fun K hK => ?_)
        go_simp
        refine hK _ _ ?_
        exact ⟨upd (upd (upd s 2 (.bool true)) 13 (.bool true)) 14 (.bool true), rfl, Sv.put (Sv.re (j := 13) (v := .bool true) (Sv.re (j := 2) (v := .bool true) HV.out e2) e13) (fun u hu => by cases hu; rfl), HST.out⟩
       ·have d14 := ready_dep hr (k := 14) (by kernel_rfl)
        clear hr
        have e14 : s 14 = .bool true := HV.out.v d14 rfl
        refine wpOp_step rfl (fun K hK => ?_)
        go_simp
        refine hK _ _ ?_
        exact ⟨upd (upd s 14 (.bool true)) 15 (.bool true), rfl, Sv.put (Sv.re (j := 14) (v := .bool true) HV.out e14) (fun u hu => by cases hu; rfl), HST.out⟩
       ·have d15 := ready_dep hr (k := 15) (by kernel_rfl)
        clear hr
        have e15 : s 15 = .bool true := HV.out.v d15 rfl
        refine wpOp_step rfl (fun K hK => ?_)
        go_simp
        refine hK _ _ ?_
        exact ⟨upd (upd s 15 (.bool true)) 16 (undef), rfl, Sv.put (Sv.re (j := 15) (v := .bool true) HV.out e15) (fun u hu => by cases hu; rfl), HST.out⟩
       ·have d15 := ready_dep hr (k := 15) (by kernel_rfl)
        clear hr
        have e15 : s 15 = .bool true := HV.out.v d15 rfl
        refine wpOp_step rfl (fun K hK => ?_)
        go_simp
        refine hK _ _ ?_
        exact ⟨upd (upd s 15 (.bool true)) 17 (undef), rfl, Sv.put (Sv.re (j := 15) (v := .bool true) HV.out e15) (fun u hu => by cases hu; rfl), HST.out⟩
       ·have d15 := ready_dep hr (k := 15) (by kernel_rfl)
        clear hr
        have e15 : s 15 = .bool true := HV.out.v d15 rfl
        refine wpOp_step rfl (fun K hK => ?_)
        go_simp
        refine hK _ _ ?_
        exact ⟨upd (upd s 15 (.bool true)) 18 (undef), rfl, Sv.put (Sv.re (j := 15) (v := .bool true) HV.out e15) (fun u hu => by cases hu; rfl), HST.out⟩
       ·have d15 := ready_dep hr (k := 15) (by kernel_rfl)
        clear hr
        have e15 : s 15 = .bool true := HV.out.v d15 rfl
        refine wpOp_step rfl (fun K hK => ?_)
        go_simp
        refine hK _ _ ?_
        exact ⟨upd (upd s 15 (.bool true)) 19 (undef), rfl, Sv.put (Sv.re (j := 15) (v := .bool true) HV.out e15) (fun u hu => by cases hu; rfl), HST.out⟩
       ·have d19 := ready_dep hr (k := 19) (by kernel_rfl)
        clear hr
        have e19 : s 19 = undef := HV.out.v d19 rfl
        refine wpOp_step rfl (fun K hK => ?_)
        go_simp
        refine hK _ _ ?_
        exact ⟨upd (upd s 19 (undef)) 20 (undef), rfl, Sv.put (Sv.re (j := 19) (v := undef) HV.out e19) (fun u hu => by cases hu; rfl), HST.out⟩
       ·have d19 := ready_dep hr (k := 19) (by kernel_rfl)
        clear hr
        have e19 : s 19 = undef := HV.out.v d19 rfl
        refine wpOp_step rfl (fun K hK => ?_)
        go_simp
        refine hK _ _ ?_
        exact ⟨upd (upd s 19 (undef)) 21 (undef), rfl, Sv.put (Sv.re (j := 19) (v := undef) HV.out e19) (fun u hu => by cases hu; rfl), HST.out⟩
       ·have d19 := ready_dep hr (k := 19) (by kernel_rfl)
        clear hr
        have e19 : s 19 = undef := HV.out.v d19 rfl
        refine wpOp_step rfl (fun K hK => ?_)
        go_simp
        refine hK _ _ ?_
        exact ⟨upd (upd s 19 (undef)) 22 (undef), rfl, Sv.put (Sv.re (j := 19) (v := undef) HV.out e19) (fun u hu => by cases hu; rfl), HST.out⟩
       ·have d15 := ready_dep hr (k := 15) (by kernel_rfl)
        clear hr
        have e15 : s 15 = .bool true := HV.out.v d15 rfl
        refine wpOp_step rfl (fun K hK => ?_)
        go_simp
        refine hK _ _ ?_
        exact ⟨upd (upd s 15 (.bool true)) 23 (undef), rfl, Sv.put (Sv.re (j := 15) (v := .bool true) HV.out e15) (fun u hu => by cases hu; rfl), HST.out⟩
       ·have d15 := ready_dep hr (k := 15) (by kernel_rfl)
        have d23 := ready_dep hr (k := 23) (by kernel_rfl)
        clear hr
        have e15 : s 15 = .bool true := HV.out.v d15 rfl
        have e23 : s 23 = undef := HV.out.v d23 rfl
        refine wpOp_step rfl (fun K hK => ?_)
        go_simp
        refine hK _ _ ?_
        exact ⟨upd (upd (upd s 15 (.bool true)) 23 (undef)) 24 (.bool true), rfl, Sv.put (Sv.re (j := 23) (v := undef) (Sv.re (j := 15) (v := .bool true) HV.out e15) e23) (fun u hu => by cases hu; rfl), HST.out⟩
       ·have d24 := ready_dep hr (k := 24) (by kernel_rfl)
        clear hr
        have e24 : s 24 = .bool true := HV.out.v d24 rfl
        refine wpOp_step rfl (fun K hK => ?_)
        go_simp
        refine hK _ _ ?_
        exact ⟨upd (upd s 24 (.bool true)) 25 (.bool true), rfl, Sv.put (Sv.re (j := 24) (v := .bool true) HV.out e24) (fun u hu => by cases hu; rfl), HST.out⟩
       ·have d25 := ready_dep hr (k := 25) (by kernel_rfl)
        clear hr
        have e25 : s 25 = .bool true := HV.out.v d25 rfl
        refine wpOp_step rfl (fun K hK => ?_)
        go_simp
        refine hK _ _ ?_
        exact ⟨upd (upd s 25 (.bool true)) 26 (undef), rfl, Sv.put (Sv.re (j := 25) (v := .bool true) HV.out e25) (fun u hu => by cases hu; rfl), HST.out⟩
       ·have d25 := ready_dep hr (k := 25) (by kernel_rfl)
        clear hr
        have e25 : s 25 = .bool true := HV.out.v d25 rfl
        refine wpOp_step rfl (fun K hK => ?_)
        go_simp
        refine hK _ _ ?_
        exact ⟨upd (upd s 25 (.bool true)) 27 (undef), rfl, Sv.put (Sv.re (j := 25) (v := .bool true) HV.out e25) (fun u hu => by cases hu; rfl), HST.out⟩
       ·have d25 := ready_dep hr (k := 25) (by kernel_rfl)
        clear hr
        have e25 : s 25 = .bool true := HV.out.v d25 rfl
        refine wpOp_step rfl (fun K hK => ?_)
        go_simp
        refine hK _ _ ?_
        exact ⟨upd (upd s 25 (.bool true)) 28 (undef), rfl, Sv.put (Sv.re (j := 25) (v := .bool true) HV.out e25) (fun u hu => by cases hu; rfl), HST.out⟩
       ·have d25 := ready_dep hr (k := 25) (by kernel_rfl)
        clear hr
        have e25 : s 25 = .bool true := HV.out.v d25 rfl
        refine wpOp_step rfl (fun K hK => ?_)
        go_simp
        refine hK _ _ ?_
        exact ⟨upd (upd s 25 (.bool true)) 29 (undef), rfl, Sv.put (Sv.re (j := 25) (v := .bool true) HV.out e25) (fun u hu => by cases hu; rfl), HST.out⟩
       ·have d25 := ready_dep hr (k := 25) (by kernel_rfl)
        clear hr
        have e25 : s 25 = .bool true := HV.out.v d25 rfl
        refine wpOp_step rfl (fun K hK => ?_)
        go_simp
        refine hK _ _ ?_
        exact ⟨upd (upd s 25 (.bool true)) 30 (undef), rfl, Sv.put (Sv.re (j := 25) (v := .bool true) HV.out e25) (fun u hu => by cases hu; rfl), HST.out⟩
       ·have d25 := ready_dep hr (k := 25) (by kernel_rfl)
        have d30 := ready_dep hr (k := 30) (by kernel_rfl)
        clear hr
        have e25 : s 25 = .bool true := HV.out.v d25 rfl
        have e30 : s 30 = undef := HV.out.v d30 rfl
        refine wpOp_step rfl (fun K hK => ?_)
        go_simp
        refine hK _ _ ?_
        exact ⟨upd (upd (upd s 25 (.bool true)) 30 (undef)) 31 (.bool true), rfl, Sv.put (Sv.re (j := 30) (v := undef) (Sv.re (j := 25) (v := .bool true) HV.out e25) e30) (fun u hu => by cases hu; rfl), HST.out⟩
      ·intro Lq aq WN hI hrd
       obtain ⟨s, ha, hv, hst⟩ := hI
       have hall := all_listedM hrd hv.sz (by kernel_rfl)
       clear hrd
       have e0 : s 0 = (.int .i64 i) := hv.v (hall 0 (by decide)) rfl
       have e1 : s 1 = (.bool true) := hv.v (hall 1 (by decide)) rfl
       have e2 : s 2 = (.bool true) := hv.v (hall 2 (by decide)) rfl
       have e3 : s 3 = (.pointer (some ⟨w.heap.size, 3, none⟩)) := hv.v (hall 3 (by decide)) rfl
       have e4 : s 4 = (.slice (some ⟨bC, oC, none⟩) nc cc) := hv.v (hall 4 (by decide)) rfl
       have e5 : s 5 = (.int .i64 i) := hv.v (hall 5 (by decide)) rfl
       have e6 : s 6 = (.int .i64 j) := hv.v (hall 6 (by decide)) rfl
       have e7 : s 7 = (.pointer (some ⟨bC, oC + j * 5, none⟩)) := hv.v (hall 7 (by decide)) rfl
       have e8 : s 8 = (.pointer (some ⟨bC, oC + j * 5, none⟩)) := hv.v (hall 8 (by decide)) rfl
       have e9 : s 9 = (.agg #[.int .i64 pe.1, .int .i64 pe.2.1, .int .i64 pe.2.2.1, .int .i64 pe.2.2.2]) := hv.v (hall 9 (by decide)) rfl
       have e10 : s 10 = (.pointer (some ⟨wr.heap.size, 0, none⟩)) := hv.v (hall 10 (by decide)) rfl
       have e11 : s 11 = (.agg #[.int .i64 e.1, .int .i64 e.2.1, .int .i64 e.2.2.1, .int .i64 e.2.2.2]) := hv.v (hall 11 (by decide)) rfl
       have e12 : s 12 = (.int .i64 Z) := hv.v (hall 12 (by decide)) rfl
       have e13 : s 13 = (.bool true) := hv.v (hall 13 (by decide)) rfl
       have e14 : s 14 = (.bool true) := hv.v (hall 14 (by decide)) rfl
       have e15 : s 15 = (.bool true) := hv.v (hall 15 (by decide)) rfl
       have e16 : s 16 = (undef) := hv.v (hall 16 (by decide)) rfl
       have e17 : s 17 = (undef) := hv.v (hall 17 (by decide)) rfl
       have e18 : s 18 = (undef) := hv.v (hall 18 (by decide)) rfl
       have e19 : s 19 = (undef) := hv.v (hall 19 (by decide)) rfl
       have e20 : s 20 = (undef) := hv.v (hall 20 (by decide)) rfl
       have e21 : s 21 = (undef) := hv.v (hall 21 (by decide)) rfl
       have e22 : s 22 = (undef) := hv.v (hall 22 (by decide)) rfl
       have e23 : s 23 = (undef) := hv.v (hall 23 (by decide)) rfl
       have e24 : s 24 = (.bool true) := hv.v (hall 24 (by decide)) rfl
       have e25 : s 25 = (.bool true) := hv.v (hall 25 (by decide)) rfl
       have e26 : s 26 = (undef) := hv.v (hall 26 (by decide)) rfl
       have e27 : s 27 = (undef) := hv.v (hall 27 (by decide)) rfl
       have e28 : s 28 = (undef) := hv.v (hall 28 (by decide)) rfl
       have e29 : s 29 = (undef) := hv.v (hall 29 (by decide)) rfl
       have e30 : s 30 = (undef) := hv.v (hall 30 (by decide)) rfl
       have e31 : s 31 = (.bool true) := hv.v (hall 31 (by decide)) rfl
       simp only [e0, e1, e2, e3, e4, e5, e6, e7, e8, e9, e10, e11, e12, e13, e14, e15, e16, e17, e18, e19, e20, e21, e22, e23, e24, e25, e26, e27, e28, e29, e30, e31] at ha
       subst ha
       clear hall hv e0 e1 e2 e3 e4 e5 e6 e7 e8 e9 e10 e11 e12 e13 e14 e15 e16 e17 e18 e19 e20 e21 e22 e23 e24 e25 e26 e27 e28 e29 e30 e31
       obtain ⟨q0, q1, q2, q3, q4, q5, q6, q7, q8, q9, hbl⟩ := hst
       have hbfin := HS2.out.bel.trans (hbl.mono HS2.out.bel.size)
       have HBF := Lib.hid hbfin
       clear hbfin
       go_wp2
       go_ret2
       exact ⟨HBF.out, .inl ⟨HNF.out (HF.out HKD.out), _, rfl⟩⟩
     ·have hz1 : decide (0 ≤ Z) = false := decide_eq_false hz
      have hpv : prevOk (prevC cs i) e = true := by rw [HPVC.out]; have := HLS.out; rw [hz1] at this; simp at this; simp [prevOk, this]
      have HPV := Lib.hid hpv
      clear hpv hz
      by_cases hk1 : kd = 1
      ·subst hk1
       have hkk : ((1:Int) != 1) = false := by decide
       refine wp_region_inv (fun Lq aq WN => ∃ s : Nat → Value, aq = { tmps := #[.agg #[.int .i64 (Wn : Int), .int .i64 (Hn : Int), .slice Am nm cm, .slice (some ⟨bC, oC, none⟩) nc cc], .pointer (some ⟨w.heap.size, 0, none⟩), u2, u3, .pointer (some ⟨w.heap.size + 1 + 1 + 1 + 1, 0, none⟩), .bool true, .int .i64 i, .pointer (some ⟨wr.heap.size, 0, none⟩), .tuple #[.pointer (some ⟨w.heap.size + 1 + 1 + 1 + 1, 0, none⟩), .bool true], .agg #[.int .i64 (Wn : Int), .int .i64 (Hn : Int), .slice Am nm cm, .slice (some ⟨bC, oC, none⟩) nc cc], .tuple #[.pointer (some ⟨w.heap.size + 1 + 1 + 1 + 1, 0, none⟩), .bool true], .pointer (some ⟨w.heap.size + 1 + 1 + 1 + 1, 0, none⟩), .bool true, .bool true, .bool false, .pointer (some ⟨w.heap.size, 3, none⟩), .slice (some ⟨bC, oC, none⟩) nc cc, .int .i64 nc, .int .i64 i, .bool true, .int .i64 i, .pointer (some ⟨bC, oC + i * 5, none⟩), .agg #[.int .i64 e.1, .int .i64 e.2.1, .int .i64 e.2.2.1, .int .i64 e.2.2.2, .int .i64 1], (s 0), (s 1), (s 2), (s 3), (s 4), (s 5), (s 6), (s 7), (s 8), (s 9), (s 10), (s 11), (s 12), (s 13), (s 14), (s 15), (s 16), (s 17), (s 18), (s 19), (s 20), (s 21), (s 22), (s 23), (s 24), (s 25), (s 26), (s 27), (s 28), (s 29), (s 30), (s 31), u55, u56, u57, u58, u59, u60, u61, u62, u63, undef, undef, undef], defers := [] } ∧ Sv 32 [some (.int .i64 i), some (.bool true), some (.bool true), some (.pointer (some ⟨w.heap.size, 3, none⟩)), some (.slice (some ⟨bC, oC, none⟩) nc cc), some (.int .i64 i), some (.int .i64 j), some (.pointer (some ⟨bC, oC + j * 5, none⟩)), some (.pointer (some ⟨bC, oC + j * 5, none⟩)), some (.agg #[.int .i64 pe.1, .int .i64 pe.2.1, .int .i64 pe.2.2.1, .int .i64 pe.2.2.2]), some (.pointer (some ⟨wr.heap.size, 0, none⟩)), some (.agg #[.int .i64 e.1, .int .i64 e.2.1, .int .i64 e.2.2.1, .int .i64 e.2.2.2]), some (.int .i64 Z), some (.bool false), some (.bool false), some (.bool false), some (.pointer (some ⟨wr.heap.size, 4, none⟩)), some (.int .i64 1), some (.bool false), some (.bool false), some (undef), some (undef), some (undef), some (.bool false), some (.bool false), some (.bool false), some (.pointer (some ⟨w.heap.size + 1 + 1 + 1 + 1, 0, none⟩)), some (.pointer (some ⟨wr.heap.size, 0, none⟩)), some (.agg #[.int .i64 e.1, .int .i64 e.2.1, .int .i64 e.2.2.1, .int .i64 e.2.2.2]), some (.bool IB), some (.bool (!IB)), some (.bool (!IB))] Lq s ∧ (WN.cell? ⟨w.heap.size, 3, none⟩ = some (.slice (some ⟨bC, oC, none⟩) nc cc) ∧ WN.cell? ⟨wr.heap.size, 0, none⟩ = some (.int .i64 e.1) ∧ WN.cell? ⟨wr.heap.size, 1, none⟩ = some (.int .i64 e.2.1) ∧ WN.cell? ⟨wr.heap.size, 2, none⟩ = some (.int .i64 e.2.2.1) ∧ WN.cell? ⟨wr.heap.size, 3, none⟩ = some (.int .i64 e.2.2.2) ∧ WN.cell? ⟨wr.heap.size, 4, none⟩ = some (.int .i64 1) ∧ WN.cell? ⟨bC, oC + j * 5, none⟩ = some (.int .i64 pe.1) ∧ WN.cell? ⟨bC, oC + j * 5 + 1, none⟩ = some (.int .i64 pe.2.1) ∧ WN.cell? ⟨bC, oC + j * 5 + 2, none⟩ = some (.int .i64 pe.2.2.1) ∧ WN.cell? ⟨bC, oC + j * 5 + 3, none⟩ = some (.int .i64 pe.2.2.2) ∧ Below w2.heap.size w2 WN)) (by kernel_rfl) ?_ ?_ ?_
       ·exact ⟨listF [u23, u24, u25, u26, u27, u28, u29, u30, u31, u32, u33, u34, u35, u36, u37, u38, u39, u40, u41, u42, u43, u44, u45, u46, u47, u48, u49, u50, u51, u52, u53, u54], rfl, Sv.start 32 _ _, ⟨b3, g0, g1, g2, g3, g4, y0, y1, y2, y3, (Below.refl _ _).drew⟩⟩
       ·intro Lq aq WN i0 hI hr
        obtain ⟨s, rfl, hv, hst⟩ := hI
        have hi0 : i0 < 32 := ready_lt hr
        have HV := Lib.hid hv
        have HST := Lib.hid hst
        clear hv hst
        have hii : i0 = 0 ∨ i0 = 1 ∨ i0 = 2 ∨ i0 = 3 ∨ i0 = 4 ∨ i0 = 5 ∨ i0 = 6 ∨ i0 = 7 ∨ i0 = 8 ∨ i0 = 9 ∨ i0 = 10 ∨ i0 = 11 ∨ i0 = 12 ∨ i0 = 13 ∨ i0 = 14 ∨ i0 = 15 ∨ i0 = 16 ∨ i0 = 17 ∨ i0 = 18 ∨ i0 = 19 ∨ i0 = 20 ∨ i0 = 21 ∨ i0 = 22 ∨ i0 = 23 ∨ i0 = 24 ∨ i0 = 25 ∨ i0 = 26 ∨ i0 = 27 ∨ i0 = 28 ∨ i0 = 29 ∨ i0 = 30 ∨ i0 = 31 := by omega
        clear hi0
        rcases hii with rfl | rfl | rfl | rfl | rfl | rfl | rfl | rfl | rfl | rfl | rfl | rfl | rfl | rfl | rfl | rfl | rfl | rfl | rfl | rfl | rfl | rfl | rfl | rfl | rfl | rfl | rfl | rfl | rfl | rfl | rfl | rfl
        ·clear hr
         refine wpOp_step rfl (fun K hK => ?_)
         go_simp
         refine hK _ _ ?_
         exact ⟨upd s 0 (.int .i64 i), rfl, Sv.put HV.out (fun u hu => by cases hu; rfl), HST.out⟩
        ·have d0 := ready_dep hr (k := 0) (by kernel_rfl)
         clear hr
         have e0 : s 0 = .int .i64 i := HV.out.v d0 rfl
         refine wpOp_step rfl (fun K hK => ?_)
         go_simp
         refine hK _ _ ?_
         exact ⟨upd (upd s 0 (.int .i64 i)) 1 (.bool true), rfl, Sv.put (Sv.re (j := 0) (v := .int .i64 i) HV.out e0) (fun u hu => by cases hu; rfl), HST.out⟩
        ·have d1 := ready_dep hr (k := 1) (by kernel_rfl)
         clear hr
         have e1 : s 1 = .bool true := HV.out.v d1 rfl
         refine wpOp_step rfl (fun K hK => ?_)
         go_simp
         refine hK _ _ ?_
         exact ⟨upd (upd s 1 (.bool true)) 2 (.bool true), rfl, Sv.put (Sv.re (j := 1) (v := .bool true) HV.out e1) (fun u hu => by cases hu; rfl), HST.out⟩
        ·have d2 := ready_dep hr (k := 2) (by kernel_rfl)
         clear hr
         have e2 : s 2 = .bool true := HV.out.v d2 rfl
         refine wpOp_step rfl (fun K hK => ?_)
         go_simp
         refine hK _ _ ?_
         exact ⟨upd (upd s 2 (.bool true)) 3 (.pointer (some ⟨w.heap.size, 3, none⟩)), rfl, Sv.put (Sv.re (j := 2) (v := .bool true) HV.out e2) (fun u hu => by cases hu; rfl), HST.out⟩
        ·have d2 := ready_dep hr (k := 2) (by kernel_rfl)
         have d3 := ready_dep hr (k := 3) (by kernel_rfl)
         clear hr
         have e2 : s 2 = .bool true := HV.out.v d2 rfl
         have e3 : s 3 = .pointer (some ⟨w.heap.size, 3, none⟩) := HV.out.v d3 rfl
         obtain ⟨q0, q1, q2, q3, q4, q5, q6, q7, q8, q9, hbl⟩ := HST.out
         refine wpOp_step rfl (fun K hK => ?_)
         go_simp
         refine hK _ _ ?_
         exact ⟨upd (upd (upd s 2 (.bool true)) 3 (.pointer (some ⟨w.heap.size, 3, none⟩))) 4 (.slice (some ⟨bC, oC, none⟩) nc cc), rfl, Sv.put (Sv.re (j := 3) (v := .pointer (some ⟨w.heap.size, 3, none⟩)) (Sv.re (j := 2) (v := .bool true) HV.out e2) e3) (fun u hu => by cases hu; rfl), HST.out⟩
        ·have d2 := ready_dep hr (k := 2) (by kernel_rfl)
         clear hr
         have e2 : s 2 = .bool true := HV.out.v d2 rfl
         refine wpOp_step rfl (fun K hK => ?_)
         go_simp
         refine hK _ _ ?_
         exact ⟨upd (upd s 2 (.bool true)) 5 (.int .i64 i), rfl, Sv.put (Sv.re (j := 2) (v := .bool true) HV.out e2) (fun u hu => by cases hu; rfl), HST.out⟩
        ·have d2 := ready_dep hr (k := 2) (by kernel_rfl)
         have d5 := ready_dep hr (k := 5) (by kernel_rfl)
         clear hr
         have e2 : s 2 = .bool true := HV.out.v d2 rfl
         have e5 : s 5 = .int .i64 i := HV.out.v d5 rfl
         refine wpOp_step rfl (fun K hK => ?_)
         go_simp
         refine hK _ _ ?_
         exact ⟨upd (upd (upd s 2 (.bool true)) 5 (.int .i64 i)) 6 (.int .i64 j), rfl, Sv.put (Sv.re (j := 5) (v := .int .i64 i) (Sv.re (j := 2) (v := .bool true) HV.out e2) e5) (fun u hu => by cases hu; rfl), HST.out⟩
        ·have d2 := ready_dep hr (k := 2) (by kernel_rfl)
         have d4 := ready_dep hr (k := 4) (by kernel_rfl)
         have d6 := ready_dep hr (k := 6) (by kernel_rfl)
         clear hr
         have e2 : s 2 = .bool true := HV.out.v d2 rfl
         have e4 : s 4 = .slice (some ⟨bC, oC, none⟩) nc cc := HV.out.v d4 rfl
         have e6 : s 6 = .int .i64 j := HV.out.v d6 rfl
         refine wpOp_step rfl (fun K hK => ?_)
         go_simp
         refine hK _ _ ?_
         exact ⟨upd (upd (upd (upd s 2 (.bool true)) 4 (.slice (some ⟨bC, oC, none⟩) nc cc)) 6 (.int .i64 j)) 7 (.pointer (some ⟨bC, oC + j * 5, none⟩)), rfl, Sv.put (Sv.re (j := 6) (v := .int .i64 j) (Sv.re (j := 4) (v := .slice (some ⟨bC, oC, none⟩) nc cc) (Sv.re (j := 2) (v := .bool true) HV.out e2) e4) e6) (fun u hu => by cases hu; rfl), HST.out⟩
        ·have d2 := ready_dep hr (k := 2) (by kernel_rfl)
         have d7 := ready_dep hr (k := 7) (by kernel_rfl)
         clear hr
         have e2 : s 2 = .bool true := HV.out.v d2 rfl
         have e7 : s 7 = .pointer (some ⟨bC, oC + j * 5, none⟩) := HV.out.v d7 rfl
         refine wpOp_step rfl (fun K hK => ?_)
         go_simp
         refine hK _ _ ?_
         exact ⟨upd (upd (upd s 2 (.bool true)) 7 (.pointer (some ⟨bC, oC + j * 5, none⟩))) 8 (.pointer (some ⟨bC, oC + j * 5, none⟩)), rfl, Sv.put (Sv.re (j := 7) (v := .pointer (some ⟨bC, oC + j * 5, none⟩)) (Sv.re (j := 2) (v := .bool true) HV.out e2) e7) (fun u hu => by cases hu; rfl), HST.out⟩
        ·have d2 := ready_dep hr (k := 2) (by kernel_rfl)
         have d8 := ready_dep hr (k := 8) (by kernel_rfl)
         clear hr
         have e2 : s 2 = .bool true := HV.out.v d2 rfl
         have e8 : s 8 = .pointer (some ⟨bC, oC + j * 5, none⟩) := HV.out.v d8 rfl
         obtain ⟨q0, q1, q2, q3, q4, q5, q6, q7, q8, q9, hbl⟩ := HST.out
         refine wpOp_step rfl (fun K hK => ?_)
         go_simp
         refine hK _ _ ?_
         exact ⟨upd (upd (upd s 2 (.bool true)) 8 (.pointer (some ⟨bC, oC + j * 5, none⟩))) 9 (.agg #[.int .i64 pe.1, .int .i64 pe.2.1, .int .i64 pe.2.2.1, .int .i64 pe.2.2.2]), rfl, Sv.put (Sv.re (j := 8) (v := .pointer (some ⟨bC, oC + j * 5, none⟩)) (Sv.re (j := 2) (v := .bool true) HV.out e2) e8) (fun u hu => by cases hu; rfl), HST.out⟩
        ·have d2 := ready_dep hr (k := 2) (by kernel_rfl)
         clear hr
         have e2 : s 2 = .bool true := HV.out.v d2 rfl
         refine wpOp_step rfl (fun K hK => ?_)
         go_simp
         refine hK _ _ ?_
         exact ⟨upd (upd s 2 (.bool true)) 10 (.pointer (some ⟨wr.heap.size, 0, none⟩)), rfl, Sv.put (Sv.re (j := 2) (v := .bool true) HV.out e2) (fun u hu => by cases hu; rfl), HST.out⟩
        ·have d2 := ready_dep hr (k := 2) (by kernel_rfl)
         have d10 := ready_dep hr (k := 10) (by kernel_rfl)
         clear hr
         have e2 : s 2 = .bool true := HV.out.v d2 rfl
         have e10 : s 10 = .pointer (some ⟨wr.heap.size, 0, none⟩) := HV.out.v d10 rfl
         obtain ⟨q0, q1, q2, q3, q4, q5, q6, q7, q8, q9, hbl⟩ := HST.out
         refine wpOp_step rfl (fun K hK => ?_)
         go_simp
         refine hK _ _ ?_
         exact ⟨upd (upd (upd s 2 (.bool true)) 10 (.pointer (some ⟨wr.heap.size, 0, none⟩))) 11 (.agg #[.int .i64 e.1, .int .i64 e.2.1, .int .i64 e.2.2.1, .int .i64 e.2.2.2]), rfl, Sv.put (Sv.re (j := 10) (v := .pointer (some ⟨wr.heap.size, 0, none⟩)) (Sv.re (j := 2) (v := .bool true) HV.out e2) e10) (fun u hu => by cases hu; rfl), HST.out⟩
        ·have d2 := ready_dep hr (k := 2) (by kernel_rfl)
         have d9 := ready_dep hr (k := 9) (by kernel_rfl)
         have d11 := ready_dep hr (k := 11) (by kernel_rfl)
         clear hr
         have e2 : s 2 = .bool true := HV.out.v d2 rfl
         have e9 : s 9 = .agg #[.int .i64 pe.1, .int .i64 pe.2.1, .int .i64 pe.2.2.1, .int .i64 pe.2.2.2] := HV.out.v d9 rfl
         have e11 : s 11 = .agg #[.int .i64 e.1, .int .i64 e.2.1, .int .i64 e.2.2.1, .int .i64 e.2.2.2] := HV.out.v d11 rfl
         obtain ⟨q0, q1, q2, q3, q4, q5, q6, q7, q8, q9, hbl⟩ := HST.out
         refine wpOp_step rfl (fun K hK => ?_)
         go_simp
         refine (CC.out _).mono ?_
         rintro e' wc ⟨he, hgr⟩
         have hbc := hgr.below
         subst he
         refine hK _ _ ?_
         exact ⟨upd (upd (upd (upd s 2 (.bool true)) 9 (.agg #[.int .i64 pe.1, .int .i64 pe.2.1, .int .i64 pe.2.2.1, .int .i64 pe.2.2.2])) 11 (.agg #[.int .i64 e.1, .int .i64 e.2.1, .int .i64 e.2.2.1, .int .i64 e.2.2.2])) 12 (.int .i64 Z), rfl, Sv.put (Sv.re (j := 11) (v := .agg #[.int .i64 e.1, .int .i64 e.2.1, .int .i64 e.2.2.1, .int .i64 e.2.2.2]) (Sv.re (j := 9) (v := .agg #[.int .i64 pe.1, .int .i64 pe.2.1, .int .i64 pe.2.2.1, .int .i64 pe.2.2.2]) (Sv.re (j := 2) (v := .bool true) HV.out e2) e9) e11) (fun u hu => by cases hu; rfl), ⟨stay_c q0 hbc (Nat.le_refl _), stay_c q1 hbc (Nat.le_refl _), stay_c q2 hbc (Nat.le_refl _), stay_c q3 hbc (Nat.le_refl _), stay_c q4 hbc (Nat.le_refl _), stay_c q5 hbc (Nat.le_refl _), stay_c q6 hbc (Nat.le_refl _), stay_c q7 hbc (Nat.le_refl _), stay_c q8 hbc (Nat.le_refl _), stay_c q9 hbc (Nat.le_refl _), stay_b hbl hbc⟩⟩
        ·have d2 := ready_dep hr (k := 2) (by kernel_rfl)
         have d12 := ready_dep hr (k := 12) (by kernel_rfl)
         clear hr
         have e2 : s 2 = .bool true := HV.out.v d2 rfl
         have e12 : s 12 = .int .i64 Z := HV.out.v d12 rfl
         refine wpOp_step rfl (fun K hK => ?_)
         go_simp
         refine hK _ _ ?_
         exact ⟨upd (upd (upd s 2 (.bool true)) 12 (.int .i64 Z)) 13 (.bool false), rfl, Sv.put (Sv.re (j := 12) (v := .int .i64 Z) (Sv.re (j := 2) (v := .bool true) HV.out e2) e12) (fun u hu => by cases hu; rfl), HST.out⟩
        ·have d2 := ready_dep hr (k := 2) (by kernel_rfl)
         have d13 := ready_dep hr (k := 13) (by kernel_rfl)
         clear hr
         have e2 : s 2 = .bool true := HV.out.v d2 rfl
         have e13 : s 13 = .bool false := HV.out.v d13 rfl
         refine wpOp_step rfl (fun K hK => ?_)
         go_simp
         refine hK _ _ ?_
         exact ⟨upd (upd (upd s 2 (.bool true)) 13 (.bool false)) 14 (.bool false), rfl, Sv.put (Sv.re (j := 13) (v := .bool false) (Sv.re (j := 2) (v := .bool true) HV.out e2) e13) (fun u hu => by cases hu; rfl), HST.out⟩
        ·have d14 := ready_dep hr (k := 14) (by kernel_rfl)
         clear hr
         have e14 : s 14 = .bool false := HV.out.v d14 rfl
         refine wpOp_step rfl (fun K hK => ?_)
         go_simp
         refine hK _ _ ?_
         exact ⟨upd (upd s 14 (.bool false)) 15 (.bool false), rfl, Sv.put (Sv.re (j := 14) (v := .bool false) HV.out e14) (fun u hu => by cases hu; rfl), HST.out⟩
        ·have d15 := ready_dep hr (k := 15) (by kernel_rfl)
         clear hr
         have e15 : s 15 = .bool false := HV.out.v d15 rfl
         refine wpOp_step rfl (fun K hK => ?_)
         go_simp
         refine hK _ _ ?_
         exact ⟨upd (upd s 15 (.bool false)) 16 (.pointer (some ⟨wr.heap.size, 4, none⟩)), rfl, Sv.put (Sv.re (j := 15) (v := .bool false) HV.out e15) (fun u hu => by cases hu; rfl), HST.out⟩
        ·have d15 := ready_dep hr (k := 15) (by kernel_rfl)
         have d16 := ready_dep hr (k := 16) (by kernel_rfl)
         clear hr
         have e15 : s 15 = .bool false := HV.out.v d15 rfl
         have e16 : s 16 = .pointer (some ⟨wr.heap.size, 4, none⟩) := HV.out.v d16 rfl
         obtain ⟨q0, q1, q2, q3, q4, q5, q6, q7, q8, q9, hbl⟩ := HST.out
         refine wpOp_step rfl (fun K hK => ?_)
         go_simp
         refine hK _ _ ?_
         exact ⟨upd (upd (upd s 15 (.bool false)) 16 (.pointer (some ⟨wr.heap.size, 4, none⟩))) 17 (.int .i64 1), rfl, Sv.put (Sv.re (j := 16) (v := .pointer (some ⟨wr.heap.size, 4, none⟩)) (Sv.re (j := 15) (v := .bool false) HV.out e15) e16) (fun u hu => by cases hu; rfl), HST.out⟩
        ·have d15 := ready_dep hr (k := 15) (by kernel_rfl)
         have d17 := ready_dep hr (k := 17) (by kernel_rfl)
         clear hr
         have e15 : s 15 = .bool false := HV.out.v d15 rfl
         have e17 : s 17 = .int .i64 1 := HV.out.v d17 rfl
         refine wpOp_step rfl (fun K hK => ?_)
         go_simp
         refine hK _ _ ?_
         exact ⟨upd (upd (upd s 15 (.bool false)) 17 (.int .i64 1)) 18 (.bool false), rfl, Sv.put (Sv.re (j := 17) (v := .int .i64 1) (Sv.re (j := 15) (v := .bool false) HV.out e15) e17) (fun u hu => by cases hu; rfl), HST.out⟩
        ·have d15 := ready_dep hr (k := 15) (by kernel_rfl)
         have d18 := ready_dep hr (k := 18) (by kernel_rfl)
         clear hr
         have e15 : s 15 = .bool false := HV.out.v d15 rfl
         have e18 : s 18 = .bool false := HV.out.v d18 rfl
         refine wpOp_step rfl (fun K hK => ?_)
         go_simp
         refine hK _ _ ?_
         exact ⟨upd (upd (upd s 15 (.bool false)) 18 (.bool false)) 19 (.bool false), rfl, Sv.put (Sv.re (j := 18) (v := .bool false) (Sv.re (j := 15) (v := .bool false) HV.out e15) e18) (fun u hu => by cases hu; rfl), HST.out⟩
        ·have d19 := ready_dep hr (k := 19) (by kernel_rfl)
         clear hr
         have e19 : s 19 = .bool false := HV.out.v d19 rfl
         refine wpOp_step rfl (fun K hK => ?_)
         go_simp
         refine hK _ _ ?_
         exact ⟨upd (upd s 19 (.bool false)) 20 (undef), rfl, Sv.put (Sv.re (j := 19) (v := .bool false) HV.out e19) (fun u hu => by cases hu; rfl), HST.out⟩
        ·have d19 := ready_dep hr (k := 19) (by kernel_rfl)
         clear hr
         have e19 : s 19 = .bool false := HV.out.v d19 rfl
         refine wpOp_step rfl (fun K hK => ?_)
         go_simp
         refine hK _ _ ?_
         exact ⟨upd (upd s 19 (.bool false)) 21 (undef), rfl, Sv.put (Sv.re (j := 19) (v := .bool false) HV.out e19) (fun u hu => by cases hu; rfl), HST.out⟩
        ·have d19 := ready_dep hr (k := 19) (by kernel_rfl)
         clear hr
         have e19 : s 19 = .bool false := HV.out.v d19 rfl
         refine wpOp_step rfl (fun K hK => ?_)
         go_simp
         refine hK _ _ ?_
         exact ⟨upd (upd s 19 (.bool false)) 22 (undef), rfl, Sv.put (Sv.re (j := 19) (v := .bool false) HV.out e19) (fun u hu => by cases hu; rfl), HST.out⟩
        ·have d15 := ready_dep hr (k := 15) (by kernel_rfl)
         have d19 := ready_dep hr (k := 19) (by kernel_rfl)
         have d22 := ready_dep hr (k := 22) (by kernel_rfl)
         clear hr
         have e15 : s 15 = .bool false := HV.out.v d15 rfl
         have e19 : s 19 = .bool false := HV.out.v d19 rfl
         have e22 : s 22 = undef := HV.out.v d22 rfl
         refine wpOp_step rfl (fun K hK => ?_)
         go_simp
         refine hK _ _ ?_
         exact ⟨upd (upd (upd (upd s 15 (.bool false)) 19 (.bool false)) 22 (undef)) 23 (.bool false), rfl, Sv.put (Sv.re (j := 22) (v := undef) (Sv.re (j := 19) (v := .bool false) (Sv.re (j := 15) (v := .bool false) HV.out e15) e19) e22) (fun u hu => by cases hu; rfl), HST.out⟩
        ·have d15 := ready_dep hr (k := 15) (by kernel_rfl)
         have d23 := ready_dep hr (k := 23) (by kernel_rfl)
         clear hr
         have e15 : s 15 = .bool false := HV.out.v d15 rfl
         have e23 : s 23 = .bool false := HV.out.v d23 rfl
         refine wpOp_step rfl (fun K hK => ?_)
         go_simp
         refine hK _ _ ?_
         exact ⟨upd (upd (upd s 15 (.bool false)) 23 (.bool false)) 24 (.bool false), rfl, Sv.put (Sv.re (j := 23) (v := .bool false) (Sv.re (j := 15) (v := .bool false) HV.out e15) e23) (fun u hu => by cases hu; rfl), HST.out⟩
        ·have d24 := ready_dep hr (k := 24) (by kernel_rfl)
         clear hr
         have e24 : s 24 = .bool false := HV.out.v d24 rfl
         refine wpOp_step rfl (fun K hK => ?_)
         go_simp
         refine hK _ _ ?_
         exact ⟨upd (upd s 24 (.bool false)) 25 (.bool false), rfl, Sv.put (Sv.re (j := 24) (v := .bool false) HV.out e24) (fun u hu => by cases hu; rfl), HST.out⟩
        ·have d25 := ready_dep hr (k := 25) (by kernel_rfl)
         clear hr
         have e25 : s 25 = .bool false := HV.out.v d25 rfl
         refine wpOp_step rfl (fun K hK => ?_)
         go_simp
         refine hK _ _ ?_
         exact ⟨upd (upd s 25 (.bool false)) 26 (.pointer (some ⟨w.heap.size + 1 + 1 + 1 + 1, 0, none⟩)), rfl, Sv.put (Sv.re (j := 25) (v := .bool false) HV.out e25) (fun u hu => by cases hu; rfl), HST.out⟩
        ·have d25 := ready_dep hr (k := 25) (by kernel_rfl)
         clear hr
         have e25 : s 25 = .bool false := HV.out.v d25 rfl
         refine wpOp_step rfl (fun K hK => ?_)
         go_simp
         refine hK _ _ ?_
         exact ⟨upd (upd s 25 (.bool false)) 27 (.pointer (some ⟨wr.heap.size, 0, none⟩)), rfl, Sv.put (Sv.re (j := 25) (v := .bool false) HV.out e25) (fun u hu => by cases hu; rfl), HST.out⟩
        ·have d25 := ready_dep hr (k := 25) (by kernel_rfl)
         have d27 := ready_dep hr (k := 27) (by kernel_rfl)
         clear hr
         have e25 : s 25 = .bool false := HV.out.v d25 rfl
         have e27 : s 27 = .pointer (some ⟨wr.heap.size, 0, none⟩) := HV.out.v d27 rfl
         obtain ⟨q0, q1, q2, q3, q4, q5, q6, q7, q8, q9, hbl⟩ := HST.out
         refine wpOp_step rfl (fun K hK => ?_)
         go_simp
         refine hK _ _ ?_
         exact ⟨upd (upd (upd s 25 (.bool false)) 27 (.pointer (some ⟨wr.heap.size, 0, none⟩))) 28 (.agg #[.int .i64 e.1, .int .i64 e.2.1, .int .i64 e.2.2.1, .int .i64 e.2.2.2]), rfl, Sv.put (Sv.re (j := 27) (v := .pointer (some ⟨wr.heap.size, 0, none⟩)) (Sv.re (j := 25) (v := .bool false) HV.out e25) e27) (fun u hu => by cases hu; rfl), HST.out⟩
        ·have d25 := ready_dep hr (k := 25) (by kernel_rfl)
         have d26 := ready_dep hr (k := 26) (by kernel_rfl)
         have d28 := ready_dep hr (k := 28) (by kernel_rfl)
         clear hr
         have e25 : s 25 = .bool false := HV.out.v d25 rfl
         have e26 : s 26 = .pointer (some ⟨w.heap.size + 1 + 1 + 1 + 1, 0, none⟩) := HV.out.v d26 rfl
         have e28 : s 28 = .agg #[.int .i64 e.1, .int .i64 e.2.1, .int .i64 e.2.2.1, .int .i64 e.2.2.2] := HV.out.v d28 rfl
         obtain ⟨q0, q1, q2, q3, q4, q5, q6, q7, q8, q9, hbl⟩ := HST.out
         refine wpOp_step rfl (fun K hK => ?_)
         go_simp
         refine (CI.out _ hbl).mono ?_
         rintro e' wc ⟨he, hbc⟩
         subst he
         refine hK _ _ ?_
         exact ⟨upd (upd (upd (upd s 25 (.bool false)) 26 (.pointer (some ⟨w.heap.size + 1 + 1 + 1 + 1, 0, none⟩))) 28 (.agg #[.int .i64 e.1, .int .i64 e.2.1, .int .i64 e.2.2.1, .int .i64 e.2.2.2])) 29 (.bool IB), rfl, Sv.put (Sv.re (j := 28) (v := .agg #[.int .i64 e.1, .int .i64 e.2.1, .int .i64 e.2.2.1, .int .i64 e.2.2.2]) (Sv.re (j := 26) (v := .pointer (some ⟨w.heap.size + 1 + 1 + 1 + 1, 0, none⟩)) (Sv.re (j := 25) (v := .bool false) HV.out e25) e26) e28) (fun u hu => by cases hu; rfl), ⟨stay_c q0 hbc (Nat.le_refl _), stay_c q1 hbc (Nat.le_refl _), stay_c q2 hbc (Nat.le_refl _), stay_c q3 hbc (Nat.le_refl _), stay_c q4 hbc (Nat.le_refl _), stay_c q5 hbc (Nat.le_refl _), stay_c q6 hbc (Nat.le_refl _), stay_c q7 hbc (Nat.le_refl _), stay_c q8 hbc (Nat.le_refl _), stay_c q9 hbc (Nat.le_refl _), stay_b hbl hbc⟩⟩
        ·have d25 := ready_dep hr (k := 25) (by kernel_rfl)
         have d29 := ready_dep hr (k := 29) (by kernel_rfl)
         clear hr
         have e25 : s 25 = .bool false := HV.out.v d25 rfl
         have e29 : s 29 = .bool IB := HV.out.v d29 rfl
         refine wpOp_step rfl (fun K hK => ?_)
         go_simp
         refine hK _ _ ?_
         exact ⟨upd (upd (upd s 25 (.bool false)) 29 (.bool IB)) 30 (.bool (!IB)), rfl, Sv.put (Sv.re (j := 29) (v := .bool IB) (Sv.re (j := 25) (v := .bool false) HV.out e25) e29) (fun u hu => by cases hu; rfl), HST.out⟩
        ·have d25 := ready_dep hr (k := 25) (by kernel_rfl)
         have d30 := ready_dep hr (k := 30) (by kernel_rfl)
         clear hr
         have e25 : s 25 = .bool false := HV.out.v d25 rfl
         have e30 : s 30 = .bool (!IB) := HV.out.v d30 rfl
         refine wpOp_step rfl (fun K hK => ?_)
         go_simp
         refine hK _ _ ?_
         exact ⟨upd (upd (upd s 25 (.bool false)) 30 (.bool (!IB))) 31 (.bool (!IB)), rfl, Sv.put (Sv.re (j := 30) (v := .bool (!IB)) (Sv.re (j := 25) (v := .bool false) HV.out e25) e30) (fun u hu => by cases hu; rfl), HST.out⟩
       ·intro Lq aq WN hI hrd
        obtain ⟨s, ha, hv, hst⟩ := hI
        have hall := all_listedM hrd hv.sz (by kernel_rfl)
        clear hrd
        have e0 : s 0 = (.int .i64 i) := hv.v (hall 0 (by decide)) rfl
        have e1 : s 1 = (.bool true) := hv.v (hall 1 (by decide)) rfl
        have e2 : s 2 = (.bool true) := hv.v (hall 2 (by decide)) rfl
        have e3 : s 3 = (.pointer (some ⟨w.heap.size, 3, none⟩)) := hv.v (hall 3 (by decide)) rfl
        have e4 : s 4 = (.slice (some ⟨bC, oC, none⟩) nc cc) := hv.v (hall 4 (by decide)) rfl
        have e5 : s 5 = (.int .i64 i) := hv.v (hall 5 (by decide)) rfl
        have e6 : s 6 = (.int .i64 j) := hv.v (hall 6 (by decide)) rfl
        have e7 : s 7 = (.pointer (some ⟨bC, oC + j * 5, none⟩)) := hv.v (hall 7 (by decide)) rfl
        have e8 : s 8 = (.pointer (some ⟨bC, oC + j * 5, none⟩)) := hv.v (hall 8 (by decide)) rfl
        have e9 : s 9 = (.agg #[.int .i64 pe.1, .int .i64 pe.2.1, .int .i64 pe.2.2.1, .int .i64 pe.2.2.2]) := hv.v (hall 9 (by decide)) rfl
        have e10 : s 10 = (.pointer (some ⟨wr.heap.size, 0, none⟩)) := hv.v (hall 10 (by decide)) rfl
        have e11 : s 11 = (.agg #[.int .i64 e.1, .int .i64 e.2.1, .int .i64 e.2.2.1, .int .i64 e.2.2.2]) := hv.v (hall 11 (by decide)) rfl
        have e12 : s 12 = (.int .i64 Z) := hv.v (hall 12 (by decide)) rfl
        have e13 : s 13 = (.bool false) := hv.v (hall 13 (by decide)) rfl
        have e14 : s 14 = (.bool false) := hv.v (hall 14 (by decide)) rfl
        have e15 : s 15 = (.bool false) := hv.v (hall 15 (by decide)) rfl
        have e16 : s 16 = (.pointer (some ⟨wr.heap.size, 4, none⟩)) := hv.v (hall 16 (by decide)) rfl
        have e17 : s 17 = (.int .i64 1) := hv.v (hall 17 (by decide)) rfl
        have e18 : s 18 = (.bool false) := hv.v (hall 18 (by decide)) rfl
        have e19 : s 19 = (.bool false) := hv.v (hall 19 (by decide)) rfl
        have e20 : s 20 = (undef) := hv.v (hall 20 (by decide)) rfl
        have e21 : s 21 = (undef) := hv.v (hall 21 (by decide)) rfl
        have e22 : s 22 = (undef) := hv.v (hall 22 (by decide)) rfl
        have e23 : s 23 = (.bool false) := hv.v (hall 23 (by decide)) rfl
        have e24 : s 24 = (.bool false) := hv.v (hall 24 (by decide)) rfl
        have e25 : s 25 = (.bool false) := hv.v (hall 25 (by decide)) rfl
        have e26 : s 26 = (.pointer (some ⟨w.heap.size + 1 + 1 + 1 + 1, 0, none⟩)) := hv.v (hall 26 (by decide)) rfl
        have e27 : s 27 = (.pointer (some ⟨wr.heap.size, 0, none⟩)) := hv.v (hall 27 (by decide)) rfl
        have e28 : s 28 = (.agg #[.int .i64 e.1, .int .i64 e.2.1, .int .i64 e.2.2.1, .int .i64 e.2.2.2]) := hv.v (hall 28 (by decide)) rfl
        have e29 : s 29 = (.bool IB) := hv.v (hall 29 (by decide)) rfl
        have e30 : s 30 = (.bool (!IB)) := hv.v (hall 30 (by decide)) rfl
        have e31 : s 31 = (.bool (!IB)) := hv.v (hall 31 (by decide)) rfl
        simp only [e0, e1, e2, e3, e4, e5, e6, e7, e8, e9, e10, e11, e12, e13, e14, e15, e16, e17, e18, e19, e20, e21, e22, e23, e24, e25, e26, e27, e28, e29, e30, e31] at ha
        subst ha
        clear hall hv e0 e1 e2 e3 e4 e5 e6 e7 e8 e9 e10 e11 e12 e13 e14 e15 e16 e17 e18 e19 e20 e21 e22 e23 e24 e25 e26 e27 e28 e29 e30 e31
        obtain ⟨q0, q1, q2, q3, q4, q5, q6, q7, q8, q9, hbl⟩ := hst
        cases IB with
        | false =>
         simp only [Bool.not_false]
         have hkd : creaseB L (prevC cs i) (e, 1) = false := by rw [creaseB_eq]; simp only; rw [← HIB.out, Bool.and_false]
         have HKD := Lib.hid hkd
         clear hkd
         have hbfin := HS2.out.bel.trans (hbl.mono HS2.out.bel.size)
         have HBF := Lib.hid hbfin
         clear hbfin
         go_wp2
         go_ret2
         exact ⟨HBF.out, .inl ⟨HNF.out (HF.out HKD.out), _, rfl⟩⟩
        | true =>
         simp only [Bool.not_true]
         have hkd : creaseB L (prevC cs i) (e, 1) = true := by rw [creaseB_eq]; simp only; rw [← HIB.out, HPV.out]; decide
         have HKD := Lib.hid hkd
         have hS3 := HS2.out.below hbl
         have z6 := hS3.pap.c6
         have hok := inner_ok HSM.out HIB.out.symm
         have HOK := Lib.hid hok
         have HS3 := Lib.hid hS3
         clear hkd hok hS3
         go_wp2_with fail
         go_still_tail 8, (by kernel_rfl)
         change wpList _ _ _ _ _ WN.drew
         go_wp2_with (at_mapUpdate; go_loud (refine wpList_putI (k := kE) rfl _ _ _ rfl HS3.out.pap.kin.drew rfl (by unfold maxLen; omega) e HOK.out 1 rfl rfl (by decide) ?_); intro w6 hm6 hg6)
         have HN := Lib.hid ((HS3.out.below (Below.refl _ _).drew).put HCI.out hg6 hm6)
         go_roundw
         case rel => exact ⟨i + 1, by omega, by go_num, Lib.hid (HST.out HKD.out), HN⟩
         case measure => simp [intOf]; omega
      ·by_cases hk2 : kd = 2
       ·subst hk2
        have hkk : ((2:Int) != 1) = true := by decide
        have hkk2 : ((2:Int) != 2) = false := by decide
        clear hk1
        refine wp_region_inv (fun Lq aq WN => ∃ s : Nat → Value, aq = { tmps := #[.agg #[.int .i64 (Wn : Int), .int .i64 (Hn : Int), .slice Am nm cm, .slice (some ⟨bC, oC, none⟩) nc cc], .pointer (some ⟨w.heap.size, 0, none⟩), u2, u3, .pointer (some ⟨w.heap.size + 1 + 1 + 1 + 1, 0, none⟩), .bool true, .int .i64 i, .pointer (some ⟨wr.heap.size, 0, none⟩), .tuple #[.pointer (some ⟨w.heap.size + 1 + 1 + 1 + 1, 0, none⟩), .bool true], .agg #[.int .i64 (Wn : Int), .int .i64 (Hn : Int), .slice Am nm cm, .slice (some ⟨bC, oC, none⟩) nc cc], .tuple #[.pointer (some ⟨w.heap.size + 1 + 1 + 1 + 1, 0, none⟩), .bool true], .pointer (some ⟨w.heap.size + 1 + 1 + 1 + 1, 0, none⟩), .bool true, .bool true, .bool false, .pointer (some ⟨w.heap.size, 3, none⟩), .slice (some ⟨bC, oC, none⟩) nc cc, .int .i64 nc, .int .i64 i, .bool true, .int .i64 i, .pointer (some ⟨bC, oC + i * 5, none⟩), .agg #[.int .i64 e.1, .int .i64 e.2.1, .int .i64 e.2.2.1, .int .i64 e.2.2.2, .int .i64 2], (s 0), (s 1), (s 2), (s 3), (s 4), (s 5), (s 6), (s 7), (s 8), (s 9), (s 10), (s 11), (s 12), (s 13), (s 14), (s 15), (s 16), (s 17), (s 18), (s 19), (s 20), (s 21), (s 22), (s 23), (s 24), (s 25), (s 26), (s 27), (s 28), (s 29), (s 30), (s 31), u55, u56, u57, u58, u59, u60, u61, u62, u63, undef, undef, undef], defers := [] } ∧ Sv 32 [some (.int .i64 i), some (.bool true), some (.bool true), some (.pointer (some ⟨w.heap.size, 3, none⟩)), some (.slice (some ⟨bC, oC, none⟩) nc cc), some (.int .i64 i), some (.int .i64 j), some (.pointer (some ⟨bC, oC + j * 5, none⟩)), some (.pointer (some ⟨bC, oC + j * 5, none⟩)), some (.agg #[.int .i64 pe.1, .int .i64 pe.2.1, .int .i64 pe.2.2.1, .int .i64 pe.2.2.2]), some (.pointer (some ⟨wr.heap.size, 0, none⟩)), some (.agg #[.int .i64 e.1, .int .i64 e.2.1, .int .i64 e.2.2.1, .int .i64 e.2.2.2]), some (.int .i64 Z), some (.bool false), some (.bool false), some (.bool false), some (.pointer (some ⟨wr.heap.size, 4, none⟩)), some (.int .i64 2), some (.bool true), some (.bool true), some (.pointer (some ⟨wr.heap.size, 4, none⟩)), some (.int .i64 2), some (.bool false), some (.bool false), some (.bool false), some (.bool false), some (.pointer (some ⟨w.heap.size + 1 + 1 + 1 + 1, 0, none⟩)), some (.pointer (some ⟨wr.heap.size, 0, none⟩)), some (.agg #[.int .i64 e.1, .int .i64 e.2.1, .int .i64 e.2.2.1, .int .i64 e.2.2.2]), some (.bool IB), some (.bool (!IB)), some (.bool (!IB))] Lq s ∧ (WN.cell? ⟨w.heap.size, 3, none⟩ = some (.slice (some ⟨bC, oC, none⟩) nc cc) ∧ WN.cell? ⟨wr.heap.size, 0, none⟩ = some (.int .i64 e.1) ∧ WN.cell? ⟨wr.heap.size, 1, none⟩ = some (.int .i64 e.2.1) ∧ WN.cell? ⟨wr.heap.size, 2, none⟩ = some (.int .i64 e.2.2.1) ∧ WN.cell? ⟨wr.heap.size, 3, none⟩ = some (.int .i64 e.2.2.2) ∧ WN.cell? ⟨wr.heap.size, 4, none⟩ = some (.int .i64 2) ∧ WN.cell? ⟨bC, oC + j * 5, none⟩ = some (.int .i64 pe.1) ∧ WN.cell? ⟨bC, oC + j * 5 + 1, none⟩ = some (.int .i64 pe.2.1) ∧ WN.cell? ⟨bC, oC + j * 5 + 2, none⟩ = some (.int .i64 pe.2.2.1) ∧ WN.cell? ⟨bC, oC + j * 5 + 3, none⟩ = some (.int .i64 pe.2.2.2) ∧ Below w2.heap.size w2 WN)) (by kernel_rfl) ?_ ?_ ?_
        ·exact ⟨listF [u23, u24, u25, u26, u27, u28, u29, u30, u31, u32, u33, u34, u35, u36, u37, u38, u39, u40, u41, u42, u43, u44, u45, u46, u47, u48, u49, u50, u51, u52, u53, u54], rfl, Sv.start 32 _ _, ⟨b3, g0, g1, g2, g3, g4, y0, y1, y2, y3, (Below.refl _ _).drew⟩⟩
        ·intro Lq aq WN i0 hI hr
         obtain ⟨s, rfl, hv, hst⟩ := hI
         have hi0 : i0 < 32 := ready_lt hr
         have HV := Lib.hid hv
         have HST := Lib.hid hst
         clear hv hst
         have hii : i0 = 0 ∨ i0 = 1 ∨ i0 = 2 ∨ i0 = 3 ∨ i0 = 4 ∨ i0 = 5 ∨ i0 = 6 ∨ i0 = 7 ∨ i0 = 8 ∨ i0 = 9 ∨ i0 = 10 ∨ i0 = 11 ∨ i0 = 12 ∨ i0 = 13 ∨ i0 = 14 ∨ i0 = 15 ∨ i0 = 16 ∨ i0 = 17 ∨ i0 = 18 ∨ i0 = 19 ∨ i0 = 20 ∨ i0 = 21 ∨ i0 = 22 ∨ i0 = 23 ∨ i0 = 24 ∨ i0 = 25 ∨ i0 = 26 ∨ i0 = 27 ∨ i0 = 28 ∨ i0 = 29 ∨ i0 = 30 ∨ i0 = 31 := by omega
         clear hi0
         rcases hii with rfl | rfl | rfl | rfl | rfl | rfl | rfl | rfl | rfl | rfl | rfl | rfl | rfl | rfl | rfl | rfl | rfl | rfl | rfl | rfl | rfl | rfl | rfl | rfl | rfl | rfl | rfl | rfl | rfl | rfl | rfl | rfl
         ·clear hr
          refine wpOp_step rfl (fun K hK => ?_)
          go_simp
          refine hK _ _ ?_
          exact ⟨upd s 0 (.int .i64 i), rfl, Sv.put HV.out (fun u hu => by cases hu; rfl), HST.out⟩
         ·have d0 := ready_dep hr (k := 0) (by kernel_rfl)
          clear hr
          have e0 : s 0 = .int .i64 i := HV.out.v d0 rfl
          refine wpOp_step rfl (fun K hK => ?_)
          go_simp
          refine hK _ _ ?_
          exact ⟨upd (upd s 0 (.int .i64 i)) 1 (.bool true), rfl, Sv.put (Sv.re (j := 0) (v := .int .i64 i) HV.out e0) (fun u hu => by cases hu; rfl), HST.out⟩
         ·have d1 := ready_dep hr (k := 1) (by kernel_rfl)
          clear hr
          have e1 : s 1 = .bool true := HV.out.v d1 rfl
          refine wpOp_step rfl (fun K hK => ?_)
          go_simp
          refine hK _ _ ?_
          exact ⟨upd (upd s 1 (.bool true)) 2 (.bool true), rfl, Sv.put (Sv.re (j := 1) (v := .bool true) HV.out e1) (fun u hu => by cases hu; rfl), HST.out⟩
         ·have d2 := ready_dep hr (k := 2) (by kernel_rfl)
          clear hr
          have e2 : s 2 = .bool true := HV.out.v d2 rfl
          refine wpOp_step rfl (fun K hK => ?_)
          go_simp
          refine hK _ _ ?_
          exact ⟨upd (upd s 2 (.bool true)) 3 (.pointer (some ⟨w.heap.size, 3, none⟩)), rfl, Sv.put (Sv.re (j := 2) (v := .bool true) HV.out e2) (fun u hu => by cases hu; rfl), HST.out⟩
         ·have d2 := ready_dep hr (k := 2) (by kernel_rfl)
          have d3 := ready_dep hr (k := 3) (by kernel_rfl)
          clear hr
          have e2 : s 2 = .bool true := HV.out.v d2 rfl
          have e3 : s 3 = .pointer (some ⟨w.heap.size, 3, none⟩) := HV.out.v d3 rfl
          obtain ⟨q0, q1, q2, q3, q4, q5, q6, q7, q8, q9, hbl⟩ := HST.out
          refine wpOp_step rfl (fun K hK => ?_)
          go_simp
          refine hK _ _ ?_
          exact ⟨upd (upd (upd s 2 (.bool true)) 3 (.pointer (some ⟨w.heap.size, 3, none⟩))) 4 (.slice (some ⟨bC, oC, none⟩) nc cc), rfl, Sv.put (Sv.re (j := 3) (v := .pointer (some ⟨w.heap.size, 3, none⟩)) (Sv.re (j := 2) (v := .bool true) HV.out e2) e3) (fun u hu => by cases hu; rfl), HST.out⟩
         ·have d2 := ready_dep hr (k := 2) (by kernel_rfl)
          clear hr
          have e2 : s 2 = .bool true := HV.out.v d2 rfl
          refine wpOp_step rfl (fun K hK => ?_)
          go_simp
          refine hK _ _ ?_
          exact ⟨upd (upd s 2 (.bool true)) 5 (.int .i64 i), rfl, Sv.put (Sv.re (j := 2) (v := .bool true) HV.out e2) (fun u hu => by cases hu; rfl), HST.out⟩
         ·have d2 := ready_dep hr (k := 2) (by kernel_rfl)
          have d5 := ready_dep hr (k := 5) (by kernel_rfl)
          clear hr
          have e2 : s 2 = .bool true := HV.out.v d2 rfl
          have e5 : s 5 = .int .i64 i := HV.out.v d5 rfl
          refine wpOp_step rfl (fun K hK => ?_)
          go_simp
          refine hK _ _ ?_
          exact ⟨upd (upd (upd s 2 (.bool true)) 5 (.int .i64 i)) 6 (.int .i64 j), rfl, Sv.put (Sv.re (j := 5) (v := .int .i64 i) (Sv.re (j := 2) (v := .bool true) HV.out e2) e5) (fun u hu => by cases hu; rfl), HST.out⟩
         ·have d2 := ready_dep hr (k := 2) (by kernel_rfl)
          have d4 := ready_dep hr (k := 4) (by kernel_rfl)
          have d6 := ready_dep hr (k := 6) (by kernel_rfl)
          clear hr
          have e2 : s 2 = .bool true := HV.out.v d2 rfl
          have e4 : s 4 = .slice (some ⟨bC, oC, none⟩) nc cc := HV.out.v d4 rfl
          have e6 : s 6 = .int .i64 j := HV.out.v d6 rfl
          refine wpOp_step rfl (fun K hK => ?_)
          go_simp
          refine hK _ _ ?_
          exact ⟨upd (upd (upd (upd s 2 (.bool true)) 4 (.slice (some ⟨bC, oC, none⟩) nc cc)) 6 (.int .i64 j)) 7 (.pointer (some ⟨bC, oC + j * 5, none⟩)), rfl, Sv.put (Sv.re (j := 6) (v := .int .i64 j) (Sv.re (j := 4) (v := .slice (some ⟨bC, oC, none⟩) nc cc) (Sv.re (j := 2) (v := .bool true) HV.out e2) e4) e6) (fun u hu => by cases hu; rfl), HST.out⟩
         ·have d2 := ready_dep hr (k := 2) (by kernel_rfl)
          have d7 := ready_dep hr (k := 7) (by kernel_rfl)
          clear hr
          have e2 : s 2 = .bool true := HV.out.v d2 rfl
          have e7 : s 7 = .pointer (some ⟨bC, oC + j * 5, none⟩) := HV.out.v d7 rfl
          refine wpOp_step rfl (fun K hK => ?_)
          go_simp
          refine hK _ _ ?_
          exact ⟨upd (upd (upd s 2 (.bool true)) 7 (.pointer (some ⟨bC, oC + j * 5, none⟩))) 8 (.pointer (some ⟨bC, oC + j * 5, none⟩)), rfl, Sv.put (Sv.re (j := 7) (v := .pointer (some ⟨bC, oC + j * 5, none⟩)) (Sv.re (j := 2) (v := .bool true) HV.out e2) e7) (fun u hu => by cases hu; rfl), HST.out⟩
         ·have d2 := ready_dep hr (k := 2) (by kernel_rfl)
          have d8 := ready_dep hr (k := 8) (by kernel_rfl)
          clear hr
          have e2 : s 2 = .bool true := HV.out.v d2 rfl
          have e8 : s 8 = .pointer (some ⟨bC, oC + j * 5, none⟩) := HV.out.v d8 rfl
          obtain ⟨q0, q1, q2, q3, q4, q5, q6, q7, q8, q9, hbl⟩ := HST.out
          refine wpOp_step rfl (fun K hK => ?_)
          go_simp
          refine hK _ _ ?_
          exact ⟨upd (upd (upd s 2 (.bool true)) 8 (.pointer (some ⟨bC, oC + j * 5, none⟩))) 9 (.agg #[.int .i64 pe.1, .int .i64 pe.2.1, .int .i64 pe.2.2.1, .int .i64 pe.2.2.2]), rfl, Sv.put (Sv.re (j := 8) (v := .pointer (some ⟨bC, oC + j * 5, none⟩)) (Sv.re (j := 2) (v := .bool true) HV.out e2) e8) (fun u hu => by cases hu; rfl), HST.out⟩
         ·have d2 := ready_dep hr (k := 2) (by kernel_rfl)
          clear hr
          have e2 : s 2 = .bool true := HV.out.v d2 rfl
          refine wpOp_step rfl (fun K hK => ?_)
          go_simp
          refine hK _ _ ?_
          exact ⟨upd (upd s 2 (.bool true)) 10 (.pointer (some ⟨wr.heap.size, 0, none⟩)), rfl, Sv.put (Sv.re (j := 2) (v := .bool true) HV.out e2) (fun u hu => by cases hu; rfl), HST.out⟩
         ·have d2 := ready_dep hr (k := 2) (by kernel_rfl)
          have d10 := ready_dep hr (k := 10) (by kernel_rfl)
          clear hr
          have e2 : s 2 = .bool true := HV.out.v d2 rfl
          have e10 : s 10 = .pointer (some ⟨wr.heap.size, 0, none⟩) := HV.out.v d10 rfl
          obtain ⟨q0, q1, q2, q3, q4, q5, q6, q7, q8, q9, hbl⟩ := HST.out
          refine wpOp_step rfl (fun K hK => ?_)
          go_simp
          refine hK _ _ ?_
          exact ⟨upd (upd (upd s 2 (.bool true)) 10 (.pointer (some ⟨wr.heap.size, 0, none⟩))) 11 (.agg #[.int .i64 e.1, .int .i64 e.2.1, .int .i64 e.2.2.1, .int .i64 e.2.2.2]), rfl, Sv.put (Sv.re (j := 10) (v := .pointer (some ⟨wr.heap.size, 0, none⟩)) (Sv.re (j := 2) (v := .bool true) HV.out e2) e10) (fun u hu => by cases hu; rfl), HST.out⟩
         ·have d2 := ready_dep hr (k := 2) (by kernel_rfl)
          have d9 := ready_dep hr (k := 9) (by kernel_rfl)
          have d11 := ready_dep hr (k := 11) (by kernel_rfl)
          clear hr
          have e2 : s 2 = .bool true := HV.out.v d2 rfl
          have e9 : s 9 = .agg #[.int .i64 pe.1, .int .i64 pe.2.1, .int .i64 pe.2.2.1, .int .i64 pe.2.2.2] := HV.out.v d9 rfl
          have e11 : s 11 = .agg #[.int .i64 e.1, .int .i64 e.2.1, .int .i64 e.2.2.1, .int .i64 e.2.2.2] := HV.out.v d11 rfl
          obtain ⟨q0, q1, q2, q3, q4, q5, q6, q7, q8, q9, hbl⟩ := HST.out
          refine wpOp_step rfl (fun K hK => ?_)
          go_simp
          refine (CC.out _).mono ?_
          rintro e' wc ⟨he, hgr⟩
          have hbc := hgr.below
          subst he
          refine hK _ _ ?_
          exact ⟨upd (upd (upd (upd s 2 (.bool true)) 9 (.agg #[.int .i64 pe.1, .int .i64 pe.2.1, .int .i64 pe.2.2.1, .int .i64 pe.2.2.2])) 11 (.agg #[.int .i64 e.1, .int .i64 e.2.1, .int .i64 e.2.2.1, .int .i64 e.2.2.2])) 12 (.int .i64 Z), rfl, Sv.put (Sv.re (j := 11) (v := .agg #[.int .i64 e.1, .int .i64 e.2.1, .int .i64 e.2.2.1, .int .i64 e.2.2.2]) (Sv.re (j := 9) (v := .agg #[.int .i64 pe.1, .int .i64 pe.2.1, .int .i64 pe.2.2.1, .int .i64 pe.2.2.2]) (Sv.re (j := 2) (v := .bool true) HV.out e2) e9) e11) (fun u hu => by cases hu; rfl), ⟨stay_c q0 hbc (Nat.le_refl _), stay_c q1 hbc (Nat.le_refl _), stay_c q2 hbc (Nat.le_refl _), stay_c q3 hbc (Nat.le_refl _), stay_c q4 hbc (Nat.le_refl _), stay_c q5 hbc (Nat.le_refl _), stay_c q6 hbc (Nat.le_refl _), stay_c q7 hbc (Nat.le_refl _), stay_c q8 hbc (Nat.le_refl _), stay_c q9 hbc (Nat.le_refl _), stay_b hbl hbc⟩⟩
         ·have d2 := ready_dep hr (k := 2) (by kernel_rfl)
          have d12 := ready_dep hr (k := 12) (by kernel_rfl)
          clear hr
          have e2 : s 2 = .bool true := HV.out.v d2 rfl
          have e12 : s 12 = .int .i64 Z := HV.out.v d12 rfl
          refine wpOp_step rfl (fun K hK => ?_)
          go_simp
          refine hK _ _ ?_
          exact ⟨upd (upd (upd s 2 (.bool true)) 12 (.int .i64 Z)) 13 (.bool false), rfl, Sv.put (Sv.re (j := 12) (v := .int .i64 Z) (Sv.re (j := 2) (v := .bool true) HV.out e2) e12) (fun u hu => by cases hu; rfl), HST.out⟩
         ·have d2 := ready_dep hr (k := 2) (by kernel_rfl)
          have d13 := ready_dep hr (k := 13) (by kernel_rfl)
          clear hr
          have e2 : s 2 = .bool true := HV.out.v d2 rfl
          have e13 : s 13 = .bool false := HV.out.v d13 rfl
          refine wpOp_step rfl (fun K hK => ?_)
          go_simp
          refine hK _ _ ?_
          exact ⟨upd (upd (upd s 2 (.bool true)) 13 (.bool false)) 14 (.bool false), rfl, Sv.put (Sv.re (j := 13) (v := .bool false) (Sv.re (j := 2) (v := .bool true) HV.out e2) e13) (fun u hu => by cases hu; rfl), HST.out⟩
         ·have d14 := ready_dep hr (k := 14) (by kernel_rfl)
          clear hr
          have e14 : s 14 = .bool false := HV.out.v d14 rfl
          refine wpOp_step rfl (fun K hK => ?_)
          go_simp
          refine hK _ _ ?_
          exact ⟨upd (upd s 14 (.bool false)) 15 (.bool false), rfl, Sv.put (Sv.re (j := 14) (v := .bool false) HV.out e14) (fun u hu => by cases hu; rfl), HST.out⟩
         ·have d15 := ready_dep hr (k := 15) (by kernel_rfl)
          clear hr
          have e15 : s 15 = .bool false := HV.out.v d15 rfl
          refine wpOp_step rfl (fun K hK => ?_)
          go_simp
          refine hK _ _ ?_
          exact ⟨upd (upd s 15 (.bool false)) 16 (.pointer (some ⟨wr.heap.size, 4, none⟩)), rfl, Sv.put (Sv.re (j := 15) (v := .bool false) HV.out e15) (fun u hu => by cases hu; rfl), HST.out⟩
         ·have d15 := ready_dep hr (k := 15) (by kernel_rfl)
          have d16 := ready_dep hr (k := 16) (by kernel_rfl)
          clear hr
          have e15 : s 15 = .bool false := HV.out.v d15 rfl
          have e16 : s 16 = .pointer (some ⟨wr.heap.size, 4, none⟩) := HV.out.v d16 rfl
          obtain ⟨q0, q1, q2, q3, q4, q5, q6, q7, q8, q9, hbl⟩ := HST.out
          refine wpOp_step rfl (fun K hK => ?_)
          go_simp
          refine hK _ _ ?_
          exact ⟨upd (upd (upd s 15 (.bool false)) 16 (.pointer (some ⟨wr.heap.size, 4, none⟩))) 17 (.int .i64 2), rfl, Sv.put (Sv.re (j := 16) (v := .pointer (some ⟨wr.heap.size, 4, none⟩)) (Sv.re (j := 15) (v := .bool false) HV.out e15) e16) (fun u hu => by cases hu; rfl), HST.out⟩
         ·have d15 := ready_dep hr (k := 15) (by kernel_rfl)
          have d17 := ready_dep hr (k := 17) (by kernel_rfl)
          clear hr
          have e15 : s 15 = .bool false := HV.out.v d15 rfl
          have e17 : s 17 = .int .i64 2 := HV.out.v d17 rfl
          refine wpOp_step rfl (fun K hK => ?_)
          go_simp
          refine hK _ _ ?_
          exact ⟨upd (upd (upd s 15 (.bool false)) 17 (.int .i64 2)) 18 (.bool true), rfl, Sv.put (Sv.re (j := 17) (v := .int .i64 2) (Sv.re (j := 15) (v := .bool false) HV.out e15) e17) (fun u hu => by cases hu; rfl), HST.out⟩
         ·have d15 := ready_dep hr (k := 15) (by kernel_rfl)
          have d18 := ready_dep hr (k := 18) (by kernel_rfl)
          clear hr
          have e15 : s 15 = .bool false := HV.out.v d15 rfl
          have e18 : s 18 = .bool true := HV.out.v d18 rfl
          refine wpOp_step rfl (fun K hK => ?_)
          go_simp
          refine hK _ _ ?_
          exact ⟨upd (upd (upd s 15 (.bool false)) 18 (.bool true)) 19 (.bool true), rfl, Sv.put (Sv.re (j := 18) (v := .bool true) (Sv.re (j := 15) (v := .bool false) HV.out e15) e18) (fun u hu => by cases hu; rfl), HST.out⟩
         ·have d19 := ready_dep hr (k := 19) (by kernel_rfl)
          clear hr
          have e19 : s 19 = .bool true := HV.out.v d19 rfl
          refine wpOp_step rfl (fun K hK => ?_)
          go_simp
          refine hK _ _ ?_
          exact ⟨upd (upd s 19 (.bool true)) 20 (.pointer (some ⟨wr.heap.size, 4, none⟩)), rfl, Sv.put (Sv.re (j := 19) (v := .bool true) HV.out e19) (fun u hu => by cases hu; rfl), HST.out⟩
         ·have d19 := ready_dep hr (k := 19) (by kernel_rfl)
          have d20 := ready_dep hr (k := 20) (by kernel_rfl)
          clear hr
          have e19 : s 19 = .bool true := HV.out.v d19 rfl
          have e20 : s 20 = .pointer (some ⟨wr.heap.size, 4, none⟩) := HV.out.v d20 rfl
          obtain ⟨q0, q1, q2, q3, q4, q5, q6, q7, q8, q9, hbl⟩ := HST.out
          refine wpOp_step rfl (fun K hK => ?_)
          go_simp
          refine hK _ _ ?_
          exact ⟨upd (upd (upd s 19 (.bool true)) 20 (.pointer (some ⟨wr.heap.size, 4, none⟩))) 21 (.int .i64 2), rfl, Sv.put (Sv.re (j := 20) (v := .pointer (some ⟨wr.heap.size, 4, none⟩)) (Sv.re (j := 19) (v := .bool true) HV.out e19) e20) (fun u hu => by cases hu; rfl), HST.out⟩
         ·have d19 := ready_dep hr (k := 19) (by kernel_rfl)
          have d21 := ready_dep hr (k := 21) (by kernel_rfl)
          clear hr
          have e19 : s 19 = .bool true := HV.out.v d19 rfl
          have e21 : s 21 = .int .i64 2 := HV.out.v d21 rfl
          refine wpOp_step rfl (fun K hK => ?_)
          go_simp
          refine hK _ _ ?_
          exact ⟨upd (upd (upd s 19 (.bool true)) 21 (.int .i64 2)) 22 (.bool false), rfl, Sv.put (Sv.re (j := 21) (v := .int .i64 2) (Sv.re (j := 19) (v := .bool true) HV.out e19) e21) (fun u hu => by cases hu; rfl), HST.out⟩
         ·have d15 := ready_dep hr (k := 15) (by kernel_rfl)
          have d19 := ready_dep hr (k := 19) (by kernel_rfl)
          have d22 := ready_dep hr (k := 22) (by kernel_rfl)
          clear hr
          have e15 : s 15 = .bool false := HV.out.v d15 rfl
          have e19 : s 19 = .bool true := HV.out.v d19 rfl
          have e22 : s 22 = .bool false := HV.out.v d22 rfl
          refine wpOp_step rfl (fun K hK => ?_)
          go_simp
          refine hK _ _ ?_
          exact ⟨upd (upd (upd (upd s 15 (.bool false)) 19 (.bool true)) 22 (.bool false)) 23 (.bool false), rfl, Sv.put (Sv.re (j := 22) (v := .bool false) (Sv.re (j := 19) (v := .bool true) (Sv.re (j := 15) (v := .bool false) HV.out e15) e19) e22) (fun u hu => by cases hu; rfl), HST.out⟩
         ·have d15 := ready_dep hr (k := 15) (by kernel_rfl)
          have d23 := ready_dep hr (k := 23) (by kernel_rfl)
          clear hr
          have e15 : s 15 = .bool false := HV.out.v d15 rfl
          have e23 : s 23 = .bool false := HV.out.v d23 rfl
          refine wpOp_step rfl (fun K hK => ?_)
          go_simp
          refine hK _ _ ?_
          exact ⟨upd (upd (upd s 15 (.bool false)) 23 (.bool false)) 24 (.bool false), rfl, Sv.put (Sv.re (j := 23) (v := .bool false) (Sv.re (j := 15) (v := .bool false) HV.out e15) e23) (fun u hu => by cases hu; rfl), HST.out⟩
         ·have d24 := ready_dep hr (k := 24) (by kernel_rfl)
          clear hr
          have e24 : s 24 = .bool false := HV.out.v d24 rfl
          refine wpOp_step rfl (fun K hK => ?_)
          go_simp
          refine hK _ _ ?_
          exact ⟨upd (upd s 24 (.bool false)) 25 (.bool false), rfl, Sv.put (Sv.re (j := 24) (v := .bool false) HV.out e24) (fun u hu => by cases hu; rfl), HST.out⟩
         ·have d25 := ready_dep hr (k := 25) (by kernel_rfl)
          clear hr
          have e25 : s 25 = .bool false := HV.out.v d25 rfl
          refine wpOp_step rfl (fun K hK => ?_)
          go_simp
          refine hK _ _ ?_
          exact ⟨upd (upd s 25 (.bool false)) 26 (.pointer (some ⟨w.heap.size + 1 + 1 + 1 + 1, 0, none⟩)), rfl, Sv.put (Sv.re (j := 25) (v := .bool false) HV.out e25) (fun u hu => by cases hu; rfl), HST.out⟩
         ·have d25 := ready_dep hr (k := 25) (by kernel_rfl)
          clear hr
          have e25 : s 25 = .bool false := HV.out.v d25 rfl
          refine wpOp_step rfl (fun K hK => ?_)
          go_simp
          refine hK _ _ ?_
          exact ⟨upd (upd s 25 (.bool false)) 27 (.pointer (some ⟨wr.heap.size, 0, none⟩)), rfl, Sv.put (Sv.re (j := 25) (v := .bool false) HV.out e25) (fun u hu => by cases hu; rfl), HST.out⟩
         ·have d25 := ready_dep hr (k := 25) (by kernel_rfl)
          have d27 := ready_dep hr (k := 27) (by kernel_rfl)
          clear hr
          have e25 : s 25 = .bool false := HV.out.v d25 rfl
          have e27 : s 27 = .pointer (some ⟨wr.heap.size, 0, none⟩) := HV.out.v d27 rfl
          obtain ⟨q0, q1, q2, q3, q4, q5, q6, q7, q8, q9, hbl⟩ := HST.out
          refine wpOp_step rfl (fun K hK => ?_)
          go_simp
          refine hK _ _ ?_
          exact ⟨upd (upd (upd s 25 (.bool false)) 27 (.pointer (some ⟨wr.heap.size, 0, none⟩))) 28 (.agg #[.int .i64 e.1, .int .i64 e.2.1, .int .i64 e.2.2.1, .int .i64 e.2.2.2]), rfl, Sv.put (Sv.re (j := 27) (v := .pointer (some ⟨wr.heap.size, 0, none⟩)) (Sv.re (j := 25) (v := .bool false) HV.out e25) e27) (fun u hu => by cases hu; rfl), HST.out⟩
         ·have d25 := ready_dep hr (k := 25) (by kernel_rfl)
          have d26 := ready_dep hr (k := 26) (by kernel_rfl)
          have d28 := ready_dep hr (k := 28) (by kernel_rfl)
          clear hr
          have e25 : s 25 = .bool false := HV.out.v d25 rfl
          have e26 : s 26 = .pointer (some ⟨w.heap.size + 1 + 1 + 1 + 1, 0, none⟩) := HV.out.v d26 rfl
          have e28 : s 28 = .agg #[.int .i64 e.1, .int .i64 e.2.1, .int .i64 e.2.2.1, .int .i64 e.2.2.2] := HV.out.v d28 rfl
          obtain ⟨q0, q1, q2, q3, q4, q5, q6, q7, q8, q9, hbl⟩ := HST.out
          refine wpOp_step rfl (fun K hK => ?_)
          go_simp
          refine (CI.out _ hbl).mono ?_
          rintro e' wc ⟨he, hbc⟩
          subst he
          refine hK _ _ ?_
          exact ⟨upd (upd (upd (upd s 25 (.bool false)) 26 (.pointer (some ⟨w.heap.size + 1 + 1 + 1 + 1, 0, none⟩))) 28 (.agg #[.int .i64 e.1, .int .i64 e.2.1, .int .i64 e.2.2.1, .int .i64 e.2.2.2])) 29 (.bool IB), rfl, Sv.put (Sv.re (j := 28) (v := .agg #[.int .i64 e.1, .int .i64 e.2.1, .int .i64 e.2.2.1, .int .i64 e.2.2.2]) (Sv.re (j := 26) (v := .pointer (some ⟨w.heap.size + 1 + 1 + 1 + 1, 0, none⟩)) (Sv.re (j := 25) (v := .bool false) HV.out e25) e26) e28) (fun u hu => by cases hu; rfl), ⟨stay_c q0 hbc (Nat.le_refl _), stay_c q1 hbc (Nat.le_refl _), stay_c q2 hbc (Nat.le_refl _), stay_c q3 hbc (Nat.le_refl _), stay_c q4 hbc (Nat.le_refl _), stay_c q5 hbc (Nat.le_refl _), stay_c q6 hbc (Nat.le_refl _), stay_c q7 hbc (Nat.le_refl _), stay_c q8 hbc (Nat.le_refl _), stay_c q9 hbc (Nat.le_refl _), stay_b hbl hbc⟩⟩
         ·have d25 := ready_dep hr (k := 25) (by kernel_rfl)
          have d29 := ready_dep hr (k := 29) (by kernel_rfl)
          clear hr
          have e25 : s 25 = .bool false := HV.out.v d25 rfl
          have e29 : s 29 = .bool IB := HV.out.v d29 rfl
          refine wpOp_step rfl (fun K hK => ?_)
          go_simp
          refine hK _ _ ?_
          exact ⟨upd (upd (upd s 25 (.bool false)) 29 (.bool IB)) 30 (.bool (!IB)), rfl, Sv.put (Sv.re (j := 29) (v := .bool IB) (Sv.re (j := 25) (v := .bool false) HV.out e25) e29) (fun u hu => by cases hu; rfl), HST.out⟩
         ·have d25 := ready_dep hr (k := 25) (by kernel_rfl)
          have d30 := ready_dep hr (k := 30) (by kernel_rfl)
          clear hr
          have e25 : s 25 = .bool false := HV.out.v d25 rfl
          have e30 : s 30 = .bool (!IB) := HV.out.v d30 rfl
          refine wpOp_step rfl (fun K hK => ?_)
          go_simp
          refine hK _ _ ?_
          exact ⟨upd (upd (upd s 25 (.bool false)) 30 (.bool (!IB))) 31 (.bool (!IB)), rfl, Sv.put (Sv.re (j := 30) (v := .bool (!IB)) (Sv.re (j := 25) (v := .bool false) HV.out e25) e30) (fun u hu => by cases hu; rfl), HST.out⟩
        ·intro Lq aq WN hI hrd
         obtain ⟨s, ha, hv, hst⟩ := hI
         have hall := all_listedM hrd hv.sz (by kernel_rfl)
         clear hrd
         have e0 : s 0 = (.int .i64 i) := hv.v (hall 0 (by decide)) rfl
         have e1 : s 1 = (.bool true) := hv.v (hall 1 (by decide)) rfl
         have e2 : s 2 = (.bool true) := hv.v (hall 2 (by decide)) rfl
         have e3 : s 3 = (.pointer (some ⟨w.heap.size, 3, none⟩)) := hv.v (hall 3 (by decide)) rfl
         have e4 : s 4 = (.slice (some ⟨bC, oC, none⟩) nc cc) := hv.v (hall 4 (by decide)) rfl
         have e5 : s 5 = (.int .i64 i) := hv.v (hall 5 (by decide)) rfl
         have e6 : s 6 = (.int .i64 j) := hv.v (hall 6 (by decide)) rfl
         have e7 : s 7 = (.pointer (some ⟨bC, oC + j * 5, none⟩)) := hv.v (hall 7 (by decide)) rfl
         have e8 : s 8 = (.pointer (some ⟨bC, oC + j * 5, none⟩)) := hv.v (hall 8 (by decide)) rfl
         have e9 : s 9 = (.agg #[.int .i64 pe.1, .int .i64 pe.2.1, .int .i64 pe.2.2.1, .int .i64 pe.2.2.2]) := hv.v (hall 9 (by decide)) rfl
         have e10 : s 10 = (.pointer (some ⟨wr.heap.size, 0, none⟩)) := hv.v (hall 10 (by decide)) rfl
         have e11 : s 11 = (.agg #[.int .i64 e.1, .int .i64 e.2.1, .int .i64 e.2.2.1, .int .i64 e.2.2.2]) := hv.v (hall 11 (by decide)) rfl
         have e12 : s 12 = (.int .i64 Z) := hv.v (hall 12 (by decide)) rfl
         have e13 : s 13 = (.bool false) := hv.v (hall 13 (by decide)) rfl
         have e14 : s 14 = (.bool false) := hv.v (hall 14 (by decide)) rfl
         have e15 : s 15 = (.bool false) := hv.v (hall 15 (by decide)) rfl
         have e16 : s 16 = (.pointer (some ⟨wr.heap.size, 4, none⟩)) := hv.v (hall 16 (by decide)) rfl
         have e17 : s 17 = (.int .i64 2) := hv.v (hall 17 (by decide)) rfl
         have e18 : s 18 = (.bool true) := hv.v (hall 18 (by decide)) rfl
         have e19 : s 19 = (.bool true) := hv.v (hall 19 (by decide)) rfl
         have e20 : s 20 = (.pointer (some ⟨wr.heap.size, 4, none⟩)) := hv.v (hall 20 (by decide)) rfl
         have e21 : s 21 = (.int .i64 2) := hv.v (hall 21 (by decide)) rfl
         have e22 : s 22 = (.bool false) := hv.v (hall 22 (by decide)) rfl
         have e23 : s 23 = (.bool false) := hv.v (hall 23 (by decide)) rfl
         have e24 : s 24 = (.bool false) := hv.v (hall 24 (by decide)) rfl
         have e25 : s 25 = (.bool false) := hv.v (hall 25 (by decide)) rfl
         have e26 : s 26 = (.pointer (some ⟨w.heap.size + 1 + 1 + 1 + 1, 0, none⟩)) := hv.v (hall 26 (by decide)) rfl
         have e27 : s 27 = (.pointer (some ⟨wr.heap.size, 0, none⟩)) := hv.v (hall 27 (by decide)) rfl
         have e28 : s 28 = (.agg #[.int .i64 e.1, .int .i64 e.2.1, .int .i64 e.2.2.1, .int .i64 e.2.2.2]) := hv.v (hall 28 (by decide)) rfl
         have e29 : s 29 = (.bool IB) := hv.v (hall 29 (by decide)) rfl
         have e30 : s 30 = (.bool (!IB)) := hv.v (hall 30 (by decide)) rfl
         have e31 : s 31 = (.bool (!IB)) := hv.v (hall 31 (by decide)) rfl
         simp only [e0, e1, e2, e3, e4, e5, e6, e7, e8, e9, e10, e11, e12, e13, e14, e15, e16, e17, e18, e19, e20, e21, e22, e23, e24, e25, e26, e27, e28, e29, e30, e31] at ha
         subst ha
         clear hall hv e0 e1 e2 e3 e4 e5 e6 e7 e8 e9 e10 e11 e12 e13 e14 e15 e16 e17 e18 e19 e20 e21 e22 e23 e24 e25 e26 e27 e28 e29 e30 e31
         obtain ⟨q0, q1, q2, q3, q4, q5, q6, q7, q8, q9, hbl⟩ := hst
         cases IB with
         | false =>
          simp only [Bool.not_false]
          have hkd : creaseB L (prevC cs i) (e, 2) = false := by rw [creaseB_eq]; simp only; rw [← HIB.out, Bool.and_false]
          have HKD := Lib.hid hkd
          clear hkd
          have hbfin := HS2.out.bel.trans (hbl.mono HS2.out.bel.size)
          have HBF := Lib.hid hbfin
          clear hbfin
          go_wp2
          go_ret2
          exact ⟨HBF.out, .inl ⟨HNF.out (HF.out HKD.out), _, rfl⟩⟩
         | true =>
          simp only [Bool.not_true]
          have hkd : creaseB L (prevC cs i) (e, 2) = true := by rw [creaseB_eq]; simp only; rw [← HIB.out, HPV.out]; decide
          have HKD := Lib.hid hkd
          have hS3 := HS2.out.below hbl
          have z6 := hS3.pap.c6
          have hok := inner_ok HSM.out HIB.out.symm
          have HOK := Lib.hid hok
          have HS3 := Lib.hid hS3
          clear hkd hok hS3
          go_wp2_with fail
          go_still_tail 8, (by kernel_rfl)
          change wpList _ _ _ _ _ WN.drew
          go_wp2_with (at_mapUpdate; go_loud (refine wpList_putI (k := kE) rfl _ _ _ rfl HS3.out.pap.kin.drew rfl (by unfold maxLen; omega) e HOK.out 2 rfl rfl (by decide) ?_); intro w6 hm6 hg6)
          have HN := Lib.hid ((HS3.out.below (Below.refl _ _).drew).put HCI.out hg6 hm6)
          go_roundw
          case rel => exact ⟨i + 1, by omega, by go_num, Lib.hid (HST.out HKD.out), HN⟩
          case measure => simp [intOf]; omega
       ·have hkk : (kd != 1) = true := by simpa using hk1
        have hkk2 : (kd != 2) = true := by simpa using hk2
        have hkd : creaseB L (prevC cs i) (e, kd) = false := by rw [creaseB_eq, decide_eq_false (show ¬ (kd = 1 ∨ kd = 2) by omega)]; simp
        have HKD := Lib.hid hkd
        clear hkd hk1 hk2
        refine wp_region_inv (fun Lq aq WN => ∃ s : Nat → Value, aq = { tmps := #[.agg #[.int .i64 (Wn : Int), .int .i64 (Hn : Int), .slice Am nm cm, .slice (some ⟨bC, oC, none⟩) nc cc], .pointer (some ⟨w.heap.size, 0, none⟩), u2, u3, .pointer (some ⟨w.heap.size + 1 + 1 + 1 + 1, 0, none⟩), .bool true, .int .i64 i, .pointer (some ⟨wr.heap.size, 0, none⟩), .tuple #[.pointer (some ⟨w.heap.size + 1 + 1 + 1 + 1, 0, none⟩), .bool true], .agg #[.int .i64 (Wn : Int), .int .i64 (Hn : Int), .slice Am nm cm, .slice (some ⟨bC, oC, none⟩) nc cc], .tuple #[.pointer (some ⟨w.heap.size + 1 + 1 + 1 + 1, 0, none⟩), .bool true], .pointer (some ⟨w.heap.size + 1 + 1 + 1 + 1, 0, none⟩), .bool true, .bool true, .bool false, .pointer (some ⟨w.heap.size, 3, none⟩), .slice (some ⟨bC, oC, none⟩) nc cc, .int .i64 nc, .int .i64 i, .bool true, .int .i64 i, .pointer (some ⟨bC, oC + i * 5, none⟩), .agg #[.int .i64 e.1, .int .i64 e.2.1, .int .i64 e.2.2.1, .int .i64 e.2.2.2, .int .i64 kd], (s 0), (s 1), (s 2), (s 3), (s 4), (s 5), (s 6), (s 7), (s 8), (s 9), (s 10), (s 11), (s 12), (s 13), (s 14), (s 15), (s 16), (s 17), (s 18), (s 19), (s 20), (s 21), (s 22), (s 23), (s 24), (s 25), (s 26), (s 27), (s 28), (s 29), (s 30), (s 31), u55, u56, u57, u58, u59, u60, u61, u62, u63, undef, undef, undef], defers := [] } ∧ Sv 32 [some (.int .i64 i), some (.bool true), some (.bool true), some (.pointer (some ⟨w.heap.size, 3, none⟩)), some (.slice (some ⟨bC, oC, none⟩) nc cc), some (.int .i64 i), some (.int .i64 j), some (.pointer (some ⟨bC, oC + j * 5, none⟩)), some (.pointer (some ⟨bC, oC + j * 5, none⟩)), some (.agg #[.int .i64 pe.1, .int .i64 pe.2.1, .int .i64 pe.2.2.1, .int .i64 pe.2.2.2]), some (.pointer (some ⟨wr.heap.size, 0, none⟩)), some (.agg #[.int .i64 e.1, .int .i64 e.2.1, .int .i64 e.2.2.1, .int .i64 e.2.2.2]), some (.int .i64 Z), some (.bool false), some (.bool false), some (.bool false), some (.pointer (some ⟨wr.heap.size, 4, none⟩)), some (.int .i64 kd), some (.bool true), some (.bool true), some (.pointer (some ⟨wr.heap.size, 4, none⟩)), some (.int .i64 kd), some (.bool true), some (.bool true), some (.bool true), some (.bool true), some (undef), some (undef), some (undef), some (undef), some (undef), some (.bool true)] Lq s ∧ (WN.cell? ⟨w.heap.size, 3, none⟩ = some (.slice (some ⟨bC, oC, none⟩) nc cc) ∧ WN.cell? ⟨wr.heap.size, 0, none⟩ = some (.int .i64 e.1) ∧ WN.cell? ⟨wr.heap.size, 1, none⟩ = some (.int .i64 e.2.1) ∧ WN.cell? ⟨wr.heap.size, 2, none⟩ = some (.int .i64 e.2.2.1) ∧ WN.cell? ⟨wr.heap.size, 3, none⟩ = some (.int .i64 e.2.2.2) ∧ WN.cell? ⟨wr.heap.size, 4, none⟩ = some (.int .i64 kd) ∧ WN.cell? ⟨bC, oC + j * 5, none⟩ = some (.int .i64 pe.1) ∧ WN.cell? ⟨bC, oC + j * 5 + 1, none⟩ = some (.int .i64 pe.2.1) ∧ WN.cell? ⟨bC, oC + j * 5 + 2, none⟩ = some (.int .i64 pe.2.2.1) ∧ WN.cell? ⟨bC, oC + j * 5 + 3, none⟩ = some (.int .i64 pe.2.2.2) ∧ Below w2.heap.size w2 WN)) (by kernel_rfl) ?_ ?_ ?_
        ·exact ⟨listF [u23, u24, u25, u26, u27, u28, u29, u30, u31, u32, u33, u34, u35, u36, u37, u38, u39, u40, u41, u42, u43, u44, u45, u46, u47, u48, u49, u50, u51, u52, u53, u54], rfl, Sv.start 32 _ _, ⟨b3, g0, g1, g2, g3, g4, y0, y1, y2, y3, (Below.refl _ _).drew⟩⟩
        ·intro Lq aq WN i0 hI hr
         obtain ⟨s, rfl, hv, hst⟩ := hI
         have hi0 : i0 < 32 := ready_lt hr
         have HV := Lib.hid hv
         have HST := Lib.hid hst
         clear hv hst
         have hii : i0 = 0 ∨ i0 = 1 ∨ i0 = 2 ∨ i0 = 3 ∨ i0 = 4 ∨ i0 = 5 ∨ i0 = 6 ∨ i0 = 7 ∨ i0 = 8 ∨ i0 = 9 ∨ i0 = 10 ∨ i0 = 11 ∨ i0 = 12 ∨ i0 = 13 ∨ i0 = 14 ∨ i0 = 15 ∨ i0 = 16 ∨ i0 = 17 ∨ i0 = 18 ∨ i0 = 19 ∨ i0 = 20 ∨ i0 = 21 ∨ i0 = 22 ∨ i0 = 23 ∨ i0 = 24 ∨ i0 = 25 ∨ i0 = 26 ∨ i0 = 27 ∨ i0 = 28 ∨ i0 = 29 ∨ i0 = 30 ∨ i0 = 31 := by omega
         clear hi0
         rcases hii with rfl | rfl | rfl | rfl | rfl | rfl | rfl | rfl | rfl | rfl | rfl | rfl | rfl | rfl | rfl | rfl | rfl | rfl | rfl | rfl | rfl | rfl | rfl | rfl | rfl | rfl | rfl | rfl | rfl | rfl | rfl | rfl
         ·clear hr
          refine wpOp_step rfl (fun K hK => ?_)
          go_simp
          refine hK _ _ ?_
          exact ⟨upd s 0 (.int .i64 i), rfl, Sv.put HV.out (fun u hu => by cases hu; rfl), HST.out⟩
         ·have d0 := ready_dep hr (k := 0) (by kernel_rfl)
          clear hr
          have e0 : s 0 = .int .i64 i := HV.out.v d0 rfl
          refine wpOp_step rfl (fun K hK => ?_)
          go_simp
          refine hK _ _ ?_
          exact ⟨upd (upd s 0 (.int .i64 i)) 1 (.bool true), rfl, Sv.put (Sv.re (j := 0) (v := .int .i64 i) HV.out e0) (fun u hu => by cases hu; rfl), HST.out⟩
         ·have d1 := ready_dep hr (k := 1) (by kernel_rfl)
          clear hr
          have e1 : s 1 = .bool true := HV.out.v d1 rfl
          refine wpOp_step rfl (fun K hK => ?_)
          go_simp
          refine hK _ _ ?_
          exact ⟨upd (upd s 1 (.bool true)) 2 (.bool true), rfl, Sv.put (Sv.re (j := 1) (v := .bool true) HV.out e1) (fun u hu => by cases hu; rfl), HST.out⟩
         ·have d2 := ready_dep hr (k := 2) (by kernel_rfl)
          clear hr
          have e2 : s 2 = .bool true := HV.out.v d2 rfl
          refine wpOp_step rfl (fun K hK => ?_)
          go_simp
          refine hK _ _ ?_
          exact ⟨upd (upd s 2 (.bool true)) 3 (.pointer (some ⟨w.heap.size, 3, none⟩)), rfl, Sv.put (Sv.re (j := 2) (v := .bool true) HV.out e2) (fun u hu => by cases hu; rfl), HST.out⟩
         ·have d2 := ready_dep hr (k := 2) (by kernel_rfl)
          have d3 := ready_dep hr (k := 3) (by kernel_rfl)
          clear hr
          have e2 : s 2 = .bool true := HV.out.v d2 rfl
          have e3 : s 3 = .pointer (some ⟨w.heap.size, 3, none⟩) := HV.out.v d3 rfl
          obtain ⟨q0, q1, q2, q3, q4, q5, q6, q7, q8, q9, hbl⟩ := HST.out
          refine wpOp_step rfl (fun K hK => ?_)
          go_simp
          refine hK _ _ ?_
          exact ⟨upd (upd (upd s 2 (.bool true)) 3 (.pointer (some ⟨w.heap.size, 3, none⟩))) 4 (.slice (some ⟨bC, oC, none⟩) nc cc), rfl, Sv.put (Sv.re (j := 3) (v := .pointer (some ⟨w.heap.size, 3, none⟩)) (Sv.re (j := 2) (v := .bool true) HV.out e2) e3) (fun u hu => by cases hu; rfl), HST.out⟩
         ·have d2 := ready_dep hr (k := 2) (by kernel_rfl)
          clear hr
          have e2 : s 2 = .bool true := HV.out.v d2 rfl
          refine wpOp_step rfl (fun K hK => ?_)
          go_simp
          refine hK _ _ ?_
          exact ⟨upd (upd s 2 (.bool true)) 5 (.int .i64 i), rfl, Sv.put (Sv.re (j := 2) (v := .bool true) HV.out e2) (fun u hu => by cases hu; rfl), HST.out⟩
         ·have d2 := ready_dep hr (k := 2) (by kernel_rfl)
          have d5 := ready_dep hr (k := 5) (by kernel_rfl)
          clear hr
          have e2 : s 2 = .bool true := HV.out.v d2 rfl
          have e5 : s 5 = .int .i64 i := HV.out.v d5 rfl
          refine wpOp_step rfl (fun K hK => ?_)
          go_simp
          refine hK _ _ ?_
          exact ⟨upd (upd (upd s 2 (.bool true)) 5 (.int .i64 i)) 6 (.int .i64 j), rfl, Sv.put (Sv.re (j := 5) (v := .int .i64 i) (Sv.re (j := 2) (v := .bool true) HV.out e2) e5) (fun u hu => by cases hu; rfl), HST.out⟩
         ·have d2 := ready_dep hr (k := 2) (by kernel_rfl)
          have d4 := ready_dep hr (k := 4) (by kernel_rfl)
          have d6 := ready_dep hr (k := 6) (by kernel_rfl)
          clear hr
          have e2 : s 2 = .bool true := HV.out.v d2 rfl
          have e4 : s 4 = .slice (some ⟨bC, oC, none⟩) nc cc := HV.out.v d4 rfl
          have e6 : s 6 = .int .i64 j := HV.out.v d6 rfl
          refine wpOp_step rfl (fun K hK => ?_)
          go_simp
          refine hK _ _ ?_
          exact ⟨upd (upd (upd (upd s 2 (.bool true)) 4 (.slice (some ⟨bC, oC, none⟩) nc cc)) 6 (.int .i64 j)) 7 (.pointer (some ⟨bC, oC + j * 5, none⟩)), rfl, Sv.put (Sv.re (j := 6) (v := .int .i64 j) (Sv.re (j := 4) (v := .slice (some ⟨bC, oC, none⟩) nc cc) (Sv.re (j := 2) (v := .bool true) HV.out e2) e4) e6) (fun u hu => by cases hu; rfl), HST.out⟩
         ·have d2 := ready_dep hr (k := 2) (by kernel_rfl)
          have d7 := ready_dep hr (k := 7) (by kernel_rfl)
          clear hr
          have e2 : s 2 = .bool true := HV.out.v d2 rfl
          have e7 : s 7 = .pointer (some ⟨bC, oC + j * 5, none⟩) := HV.out.v d7 rfl
          refine wpOp_step rfl (fun K hK => ?_)
          go_simp
          refine hK _ _ ?_
          exact ⟨upd (upd (upd s 2 (.bool true)) 7 (.pointer (some ⟨bC, oC + j * 5, none⟩))) 8 (.pointer (some ⟨bC, oC + j * 5, none⟩)), rfl, Sv.put (Sv.re (j := 7) (v := .pointer (some ⟨bC, oC + j * 5, none⟩)) (Sv.re (j := 2) (v := .bool true) HV.out e2) e7) (fun u hu => by cases hu; rfl), HST.out⟩
         ·have d2 := ready_dep hr (k := 2) (by kernel_rfl)
          have d8 := ready_dep hr (k := 8) (by kernel_rfl)
          clear hr
          have e2 : s 2 = .bool true := HV.out.v d2 rfl
          have e8 : s 8 = .pointer (some ⟨bC, oC + j * 5, none⟩) := HV.out.v d8 rfl
          obtain ⟨q0, q1, q2, q3, q4, q5, q6, q7, q8, q9, hbl⟩ := HST.out
          refine wpOp_step rfl (fun K hK => ?_)
          go_simp
          refine hK _ _ ?_
          exact ⟨upd (upd (upd s 2 (.bool true)) 8 (.pointer (some ⟨bC, oC + j * 5, none⟩))) 9 (.agg #[.int .i64 pe.1, .int .i64 pe.2.1, .int .i64 pe.2.2.1, .int .i64 pe.2.2.2]), rfl, Sv.put (Sv.re (j := 8) (v := .pointer (some ⟨bC, oC + j * 5, none⟩)) (Sv.re (j := 2) (v := .bool true) HV.out e2) e8) (fun u hu => by cases hu; rfl), HST.out⟩
         ·have d2 := ready_dep hr (k := 2) (by kernel_rfl)
          clear hr
          have e2 : s 2 = .bool true := HV.out.v d2 rfl
          refine wpOp_step rfl (fun K hK => ?_)
          go_simp
          refine hK _ _ ?_
          exact ⟨upd (upd s 2 (.bool true)) 10 (.pointer (some ⟨wr.heap.size, 0, none⟩)), rfl, Sv.put (Sv.re (j := 2) (v := .bool true) HV.out e2) (fun u hu => by cases hu; rfl), HST.out⟩
         ·have d2 := ready_dep hr (k := 2) (by kernel_rfl)
          have d10 := ready_dep hr (k := 10) (by kernel_rfl)
          clear hr
          have e2 : s 2 = .bool true := HV.out.v d2 rfl
          have e10 : s 10 = .pointer (some ⟨wr.heap.size, 0, none⟩) := HV.out.v d10 rfl
          obtain ⟨q0, q1, q2, q3, q4, q5, q6, q7, q8, q9, hbl⟩ := HST.out
          refine wpOp_step rfl (fun K hK => ?_)
          go_simp
          refine hK _ _ ?_
          exact ⟨upd (upd (upd s 2 (.bool true)) 10 (.pointer (some ⟨wr.heap.size, 0, none⟩))) 11 (.agg #[.int .i64 e.1, .int .i64 e.2.1, .int .i64 e.2.2.1, .int .i64 e.2.2.2]), rfl, Sv.put (Sv.re (j := 10) (v := .pointer (some ⟨wr.heap.size, 0, none⟩)) (Sv.re (j := 2) (v := .bool true) HV.out e2) e10) (fun u hu => by cases hu; rfl), HST.out⟩
         ·have d2 := ready_dep hr (k := 2) (by kernel_rfl)
          have d9 := ready_dep hr (k := 9) (by kernel_rfl)
          have d11 := ready_dep hr (k := 11) (by kernel_rfl)
          clear hr
          have e2 : s 2 = .bool true := HV.out.v d2 rfl
          have e9 : s 9 = .agg #[.int .i64 pe.1, .int .i64 pe.2.1, .int .i64 pe.2.2.1, .int .i64 pe.2.2.2] := HV.out.v d9 rfl
          have e11 : s 11 = .agg #[.int .i64 e.1, .int .i64 e.2.1, .int .i64 e.2.2.1, .int .i64 e.2.2.2] := HV.out.v d11 rfl
          obtain ⟨q0, q1, q2, q3, q4, q5, q6, q7, q8, q9, hbl⟩ := HST.out
          refine wpOp_step rfl (fun K hK => ?_)
          go_simp
          refine (CC.out _).mono ?_
          rintro e' wc ⟨he, hgr⟩
          have hbc := hgr.below
          subst he
          refine hK _ _ ?_
          exact ⟨upd (upd (upd (upd s 2 (.bool true)) 9 (.agg #[.int .i64 pe.1, .int .i64 pe.2.1, .int .i64 pe.2.2.1, .int .i64 pe.2.2.2])) 11 (.agg #[.int .i64 e.1, .int .i64 e.2.1, .int .i64 e.2.2.1, .int .i64 e.2.2.2])) 12 (.int .i64 Z), rfl, Sv.put (Sv.re (j := 11) (v := .agg #[.int .i64 e.1, .int .i64 e.2.1, .int .i64 e.2.2.1, .int .i64 e.2.2.2]) (Sv.re (j := 9) (v := .agg #[.int .i64 pe.1, .int .i64 pe.2.1, .int .i64 pe.2.2.1, .int .i64 pe.2.2.2]) (Sv.re (j := 2) (v := .bool true) HV.out e2) e9) e11) (fun u hu => by cases hu; rfl), ⟨stay_c q0 hbc (Nat.le_refl _), stay_c q1 hbc (Nat.le_refl _), stay_c q2 hbc (Nat.le_refl _), stay_c q3 hbc (Nat.le_refl _), stay_c q4 hbc (Nat.le_refl _), stay_c q5 hbc (Nat.le_refl _), stay_c q6 hbc (Nat.le_refl _), stay_c q7 hbc (Nat.le_refl _), stay_c q8 hbc (Nat.le_refl _), stay_c q9 hbc (Nat.le_refl _), stay_b hbl hbc⟩⟩
         ·have d2 := ready_dep hr (k := 2) (by kernel_rfl)
          have d12 := ready_dep hr (k := 12) (by kernel_rfl)
          clear hr
          have e2 : s 2 = .bool true := HV.out.v d2 rfl
          have e12 : s 12 = .int .i64 Z := HV.out.v d12 rfl
          refine wpOp_step rfl (fun K hK => ?_)
          go_simp
          refine hK _ _ ?_
          exact ⟨upd (upd (upd s 2 (.bool true)) 12 (.int .i64 Z)) 13 (.bool false), rfl, Sv.put (Sv.re (j := 12) (v := .int .i64 Z) (Sv.re (j := 2) (v := .bool true) HV.out e2) e12) (fun u hu => by cases hu; rfl), HST.out⟩
         ·have d2 := ready_dep hr (k := 2) (by kernel_rfl)
          have d13 := ready_dep hr (k := 13) (by kernel_rfl)
          clear hr
          have e2 : s 2 = .bool true := HV.out.v d2 rfl
          have e13 : s 13 = .bool false := HV.out.v d13 rfl
          refine wpOp_step rfl (fun K hK => ?_)
          go_simp
          refine hK _ _ ?_
          exact ⟨upd (upd (upd s 2 (.bool true)) 13 (.bool false)) 14 (.bool false), rfl, Sv.put (Sv.re (j := 13) (v := .bool false) (Sv.re (j := 2) (v := .bool true) HV.out e2) e13) (fun u hu => by cases hu; rfl), HST.out⟩
         ·have d14 := ready_dep hr (k := 14) (by kernel_rfl)
          clear hr
          have e14 : s 14 = .bool false := HV.out.v d14 rfl
          refine wpOp_step rfl (fun K hK => ?_)
          go_simp
          refine hK _ _ ?_
          exact ⟨upd (upd s 14 (.bool false)) 15 (.bool false), rfl, Sv.put (Sv.re (j := 14) (v := .bool false) HV.out e14) (fun u hu => by cases hu; rfl), HST.out⟩
         ·have d15 := ready_dep hr (k := 15) (by kernel_rfl)
          clear hr
          have e15 : s 15 = .bool false := HV.out.v d15 rfl
          refine wpOp_step rfl (fun K hK => ?_)
          go_simp
          refine hK _ _ ?_
          exact ⟨upd (upd s 15 (.bool false)) 16 (.pointer (some ⟨wr.heap.size, 4, none⟩)), rfl, Sv.put (Sv.re (j := 15) (v := .bool false) HV.out e15) (fun u hu => by cases hu; rfl), HST.out⟩
         ·have d15 := ready_dep hr (k := 15) (by kernel_rfl)
          have d16 := ready_dep hr (k := 16) (by kernel_rfl)
          clear hr
          have e15 : s 15 = .bool false := HV.out.v d15 rfl
          have e16 : s 16 = .pointer (some ⟨wr.heap.size, 4, none⟩) := HV.out.v d16 rfl
          obtain ⟨q0, q1, q2, q3, q4, q5, q6, q7, q8, q9, hbl⟩ := HST.out
          refine wpOp_step rfl (fun K hK => ?_)
          go_simp
          refine hK _ _ ?_
          exact ⟨upd (upd (upd s 15 (.bool false)) 16 (.pointer (some ⟨wr.heap.size, 4, none⟩))) 17 (.int .i64 kd), rfl, Sv.put (Sv.re (j := 16) (v := .pointer (some ⟨wr.heap.size, 4, none⟩)) (Sv.re (j := 15) (v := .bool false) HV.out e15) e16) (fun u hu => by cases hu; rfl), HST.out⟩
         ·have d15 := ready_dep hr (k := 15) (by kernel_rfl)
          have d17 := ready_dep hr (k := 17) (by kernel_rfl)
          clear hr
          have e15 : s 15 = .bool false := HV.out.v d15 rfl
          have e17 : s 17 = .int .i64 kd := HV.out.v d17 rfl
          refine wpOp_step rfl (fun K hK => ?_)
          go_simp
          refine hK _ _ ?_
          exact ⟨upd (upd (upd s 15 (.bool false)) 17 (.int .i64 kd)) 18 (.bool true), rfl, Sv.put (Sv.re (j := 17) (v := .int .i64 kd) (Sv.re (j := 15) (v := .bool false) HV.out e15) e17) (fun u hu => by cases hu; rfl), HST.out⟩
         ·have d15 := ready_dep hr (k := 15) (by kernel_rfl)
          have d18 := ready_dep hr (k := 18) (by kernel_rfl)
          clear hr
          have e15 : s 15 = .bool false := HV.out.v d15 rfl
          have e18 : s 18 = .bool true := HV.out.v d18 rfl
          refine wpOp_step rfl (fun K hK => ?_)
          go_simp
          refine hK _ _ ?_
          exact ⟨upd (upd (upd s 15 (.bool false)) 18 (.bool true)) 19 (.bool true), rfl, Sv.put (Sv.re (j := 18) (v := .bool true) (Sv.re (j := 15) (v := .bool false) HV.out e15) e18) (fun u hu => by cases hu; rfl), HST.out⟩
         ·have d19 := ready_dep hr (k := 19) (by kernel_rfl)
          clear hr
          have e19 : s 19 = .bool true := HV.out.v d19 rfl
          refine wpOp_step rfl (fun K hK => ?_)
          go_simp
          refine hK _ _ ?_
          exact ⟨upd (upd s 19 (.bool true)) 20 (.pointer (some ⟨wr.heap.size, 4, none⟩)), rfl, Sv.put (Sv.re (j := 19) (v := .bool true) HV.out e19) (fun u hu => by cases hu; rfl), HST.out⟩
         ·have d19 := ready_dep hr (k := 19) (by kernel_rfl)
          have d20 := ready_dep hr (k := 20) (by kernel_rfl)
          clear hr
          have e19 : s 19 = .bool true := HV.out.v d19 rfl
          have e20 : s 20 = .pointer (some ⟨wr.heap.size, 4, none⟩) := HV.out.v d20 rfl
          obtain ⟨q0, q1, q2, q3, q4, q5, q6, q7, q8, q9, hbl⟩ := HST.out
          refine wpOp_step rfl (fun K hK => ?_)
          go_simp
          refine hK _ _ ?_
          exact ⟨upd (upd (upd s 19 (.bool true)) 20 (.pointer (some ⟨wr.heap.size, 4, none⟩))) 21 (.int .i64 kd), rfl, Sv.put (Sv.re (j := 20) (v := .pointer (some ⟨wr.heap.size, 4, none⟩)) (Sv.re (j := 19) (v := .bool true) HV.out e19) e20) (fun u hu => by cases hu; rfl), HST.out⟩
         ·have d19 := ready_dep hr (k := 19) (by kernel_rfl)
          have d21 := ready_dep hr (k := 21) (by kernel_rfl)
          clear hr
          have e19 : s 19 = .bool true := HV.out.v d19 rfl
          have e21 : s 21 = .int .i64 kd := HV.out.v d21 rfl
          refine wpOp_step rfl (fun K hK => ?_)
          go_simp
          refine hK _ _ ?_
          exact ⟨upd (upd (upd s 19 (.bool true)) 21 (.int .i64 kd)) 22 (.bool true), rfl, Sv.put (Sv.re (j := 21) (v := .int .i64 kd) (Sv.re (j := 19) (v := .bool true) HV.out e19) e21) (fun u hu => by cases hu; rfl), HST.out⟩
         ·have d15 := ready_dep hr (k := 15) (by kernel_rfl)
          have d19 := ready_dep hr (k := 19) (by kernel_rfl)
          have d22 := ready_dep hr (k := 22) (by kernel_rfl)
          clear hr
          have e15 : s 15 = .bool false := HV.out.v d15 rfl
          have e19 : s 19 = .bool true := HV.out.v d19 rfl
          have e22 : s 22 = .bool true := HV.out.v d22 rfl
          refine wpOp_step rfl (fun K hK => ?_)
          go_simp
          refine hK _ _ ?_
          exact ⟨upd (upd (upd (upd s 15 (.bool false)) 19 (.bool true)) 22 (.bool true)) 23 (.bool true), rfl, Sv.put (Sv.re (j := 22) (v := .bool true) (Sv.re (j := 19) (v := .bool true) (Sv.re (j := 15) (v := .bool false) HV.out e15) e19) e22) (fun u hu => by cases hu; rfl), HST.out⟩
         ·have d15 := ready_dep hr (k := 15) (by kernel_rfl)
          have d23 := ready_dep hr (k := 23) (by kernel_rfl)
          clear hr
          have e15 : s 15 = .bool false := HV.out.v d15 rfl
          have e23 : s 23 = .bool true := HV.out.v d23 rfl
          refine wpOp_step rfl (fun K hK => ?_)
          go_simp
          refine hK _ _ ?_
          exact ⟨upd (upd (upd s 15 (.bool false)) 23 (.bool true)) 24 (.bool true), rfl, Sv.put (Sv.re (j := 23) (v := .bool true) (Sv.re (j := 15) (v := .bool false) HV.out e15) e23) (fun u hu => by cases hu; rfl), HST.out⟩
         ·have d24 := ready_dep hr (k := 24) (by kernel_rfl)
          clear hr
          have e24 : s 24 = .bool true := HV.out.v d24 rfl
          refine wpOp_step rfl (fun K hK => ?_)
          go_simp
          refine hK _ _ ?_
          exact ⟨upd (upd s 24 (.bool true)) 25 (.bool true), rfl, Sv.put (Sv.re (j := 24) (v := .bool true) HV.out e24) (fun u hu => by cases hu; rfl), HST.out⟩
         ·have d25 := ready_dep hr (k := 25) (by kernel_rfl)
          clear hr
          have e25 : s 25 = .bool true := HV.out.v d25 rfl
          refine wpOp_step rfl (fun K hK => ?_)
          go_simp
          refine hK _ _ ?_
          exact ⟨upd (upd s 25 (.bool true)) 26 (undef), rfl, Sv.put (Sv.re (j := 25) (v := .bool true) HV.out e25) (fun u hu => by cases hu; rfl), HST.out⟩
         ·have d25 := ready_dep hr (k := 25) (by kernel_rfl)
          clear hr
          have e25 : s 25 = .bool true := HV.out.v d25 rfl
          refine wpOp_step rfl (fun K hK => ?_)
          go_simp
          refine hK _ _ ?_
          exact ⟨upd (upd s 25 (.bool true)) 27 (undef), rfl, Sv.put (Sv.re (j := 25) (v := .bool true) HV.out e25) (fun u hu => by cases hu; rfl), HST.out⟩
         ·have d25 := ready_dep hr (k := 25) (by kernel_rfl)
          clear hr
          have e25 : s 25 = .bool true := HV.out.v d25 rfl
          refine wpOp_step rfl (fun K hK => ?_)
          go_simp
          refine hK _ _ ?_
          exact ⟨upd (upd s 25 (.bool true)) 28 (undef), rfl, Sv.put (Sv.re (j := 25) (v := .bool true) HV.out e25) (fun u hu => by cases hu; rfl), HST.out⟩
         ·have d25 := ready_dep hr (k := 25) (by kernel_rfl)
          clear hr
          have e25 : s 25 = .bool true := HV.out.v d25 rfl
          refine wpOp_step rfl (fun K hK => ?_)
          go_simp
          refine hK _ _ ?_
          exact ⟨upd (upd s 25 (.bool true)) 29 (undef), rfl, Sv.put (Sv.re (j := 25) (v := .bool true) HV.out e25) (fun u hu => by cases hu; rfl), HST.out⟩
         ·have d25 := ready_dep hr (k := 25) (by kernel_rfl)
          clear hr
          have e25 : s 25 = .bool true := HV.out.v d25 rfl
          refine wpOp_step rfl (fun K hK => ?_)
          go_simp
          refine hK _ _ ?_
          exact ⟨upd (upd s 25 (.bool true)) 30 (undef), rfl, Sv.put (Sv.re (j := 25) (v := .bool true) HV.out e25) (fun u hu => by cases hu; rfl), HST.out⟩
         ·have d25 := ready_dep hr (k := 25) (by kernel_rfl)
          have d30 := ready_dep hr (k := 30) (by kernel_rfl)
          clear hr
          have e25 : s 25 = .bool true := HV.out.v d25 rfl
          have e30 : s 30 = undef := HV.out.v d30 rfl
          refine wpOp_step rfl (fun K hK => ?_)
          go_simp
          refine hK _ _ ?_
          exact ⟨upd (upd (upd s 25 (.bool true)) 30 (undef)) 31 (.bool true), rfl, Sv.put (Sv.re (j := 30) (v := undef) (Sv.re (j := 25) (v := .bool true) HV.out e25) e30) (fun u hu => by cases hu; rfl), HST.out⟩
        ·intro Lq aq WN hI hrd
         obtain ⟨s, ha, hv, hst⟩ := hI
         have hall := all_listedM hrd hv.sz (by kernel_rfl)
         clear hrd
         have e0 : s 0 = (.int .i64 i) := hv.v (hall 0 (by decide)) rfl
         have e1 : s 1 = (.bool true) := hv.v (hall 1 (by decide)) rfl
         have e2 : s 2 = (.bool true) := hv.v (hall 2 (by decide)) rfl
         have e3 : s 3 = (.pointer (some ⟨w.heap.size, 3, none⟩)) := hv.v (hall 3 (by decide)) rfl
         have e4 : s 4 = (.slice (some ⟨bC, oC, none⟩) nc cc) := hv.v (hall 4 (by decide)) rfl
         have e5 : s 5 = (.int .i64 i) := hv.v (hall 5 (by decide)) rfl
         have e6 : s 6 = (.int .i64 j) := hv.v (hall 6 (by decide)) rfl
         have e7 : s 7 = (.pointer (some ⟨bC, oC + j * 5, none⟩)) := hv.v (hall 7 (by decide)) rfl
         have e8 : s 8 = (.pointer (some ⟨bC, oC + j * 5, none⟩)) := hv.v (hall 8 (by decide)) rfl
         have e9 : s 9 = (.agg #[.int .i64 pe.1, .int .i64 pe.2.1, .int .i64 pe.2.2.1, .int .i64 pe.2.2.2]) := hv.v (hall 9 (by decide)) rfl
         have e10 : s 10 = (.pointer (some ⟨wr.heap.size, 0, none⟩)) := hv.v (hall 10 (by decide)) rfl
         have e11 : s 11 = (.agg #[.int .i64 e.1, .int .i64 e.2.1, .int .i64 e.2.2.1, .int .i64 e.2.2.2]) := hv.v (hall 11 (by decide)) rfl
         have e12 : s 12 = (.int .i64 Z) := hv.v (hall 12 (by decide)) rfl
         have e13 : s 13 = (.bool false) := hv.v (hall 13 (by decide)) rfl
         have e14 : s 14 = (.bool false) := hv.v (hall 14 (by decide)) rfl
         have e15 : s 15 = (.bool false) := hv.v (hall 15 (by decide)) rfl
         have e16 : s 16 = (.pointer (some ⟨wr.heap.size, 4, none⟩)) := hv.v (hall 16 (by decide)) rfl
         have e17 : s 17 = (.int .i64 kd) := hv.v (hall 17 (by decide)) rfl
         have e18 : s 18 = (.bool true) := hv.v (hall 18 (by decide)) rfl
         have e19 : s 19 = (.bool true) := hv.v (hall 19 (by decide)) rfl
         have e20 : s 20 = (.pointer (some ⟨wr.heap.size, 4, none⟩)) := hv.v (hall 20 (by decide)) rfl
         have e21 : s 21 = (.int .i64 kd) := hv.v (hall 21 (by decide)) rfl
         have e22 : s 22 = (.bool true) := hv.v (hall 22 (by decide)) rfl
         have e23 : s 23 = (.bool true) := hv.v (hall 23 (by decide)) rfl
         have e24 : s 24 = (.bool true) := hv.v (hall 24 (by decide)) rfl
         have e25 : s 25 = (.bool true) := hv.v (hall 25 (by decide)) rfl
         have e26 : s 26 = (undef) := hv.v (hall 26 (by decide)) rfl
         have e27 : s 27 = (undef) := hv.v (hall 27 (by decide)) rfl
         have e28 : s 28 = (undef) := hv.v (hall 28 (by decide)) rfl
         have e29 : s 29 = (undef) := hv.v (hall 29 (by decide)) rfl
         have e30 : s 30 = (undef) := hv.v (hall 30 (by decide)) rfl
         have e31 : s 31 = (.bool true) := hv.v (hall 31 (by decide)) rfl
         simp only [e0, e1, e2, e3, e4, e5, e6, e7, e8, e9, e10, e11, e12, e13, e14, e15, e16, e17, e18, e19, e20, e21, e22, e23, e24, e25, e26, e27, e28, e29, e30, e31] at ha
         subst ha
         clear hall hv e0 e1 e2 e3 e4 e5 e6 e7 e8 e9 e10 e11 e12 e13 e14 e15 e16 e17 e18 e19 e20 e21 e22 e23 e24 e25 e26 e27 e28 e29 e30 e31
         obtain ⟨q0, q1, q2, q3, q4, q5, q6, q7, q8, q9, hbl⟩ := hst
         have hbfin := HS2.out.bel.trans (hbl.mono HS2.out.bel.size)
         have HBF := Lib.hid hbfin
         clear hbfin
         go_wp2
         go_ret2
         exact ⟨HBF.out, .inl ⟨HNF.out (HF.out HKD.out), _, rfl⟩⟩
   ·obtain rfl : i = nc := by omega
    have hii : ¬ (i : Int) < (i : Int) := by omega
    have hsm : ∀ t ∈ L, SmT t := fun t ht => by have := HTR.out t ht; exact ⟨by omega, by omega, this.2.2.2.2⟩
    have cJ := joined_any (w.heap.size + 1 + 1 + 1 + 1) (w.heap.size + 1 + 1) (w.heap.size + 1 + 1 + 1) Wn Hn w.heap.size (.slice Am nm cm) (.slice Ac i cc) vt L m i (kindF (cs.take i)) wr (HS.out.below hS.out.bel) hS.out.pap hS.out.own hsm HLN.out HSO.out
    have hall : creasesB L none cs = true := by have := hcr.out; rwa [List.take_of_length_le (by omega)] at this
    have hnb : NB = joinB L := by rw [HNB2.out, hall, Bool.true_and]
    obtain ⟨J, hJ⟩ : ∃ J, J = joinB L := ⟨_, rfl⟩
    rw [← hJ] at cJ hnb
    have CJ := Lib.hid cJ
    have HNJ := Lib.hid hnb
    clear cJ hnb hJ hall hsm
    go_wp2_with (go_at_call 62; refine CJ.out.mono ?_; rintro r w9 ⟨rfl, hb9⟩)
    go_ret2
    have hfin := hS.out.below hb9
    refine ⟨hfin.bel, ?_⟩
    have hnj := HNJ.out
    subst hnj
    cases NB with
    | false => exact .inl ⟨rfl, _, rfl⟩
    | true =>
     refine .inr ⟨rfl, Wn, Hn, w.heap.size + 1 + 1 + 1 + 1, w.heap.size, w.heap.size + 1 + 1, w.heap.size + 1 + 1 + 1, m, vt, rfl, rfl, hW, hH, hml, rfl, ?_⟩
     rw [← HLE.out, hcl]
     exact hfin
end Go.Proofs.YtoienokpchbglaaDoor
