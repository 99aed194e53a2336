/- The walk of the law CutTells. -/
import Derived.Test.YtnndadhkedlohaaDoorK51
import Derived.Test.YtnndadhkedlohaaDoorK47
import Derived.Test.YtnndadhkedlohaaDoorK48
namespace Go.Proofs.YtnndadhkedlohaaDoor
set_option linter.unusedSimpArgs false
set_option linter.unusedVariables false
section
open Go.RowKit Go.Maps
def prj : Nat → Value → Value
 | i, .tuple vs => vs.getD i undef
 | _, _ => undef
def CutTellsRes (W H v c : Int) (mask : List Int) (cs : List C5) (ms : List V6) (sts : List Stk) (B : Nat) (p : Value) (n : Int) (wr : World) : Prop :=
 (stateB W H mask cs ms sts = false ∧ p = .slice none 0 0 ∧ n = 10) ∨ (stateB W H mask cs ms sts = true ∧ lineMayB v c = false ∧ p = .slice none 0 0 ∧ n = 3) ∨ (stateB W H mask cs ms sts = true ∧ lineMayB v c = true ∧ n = 0 ∧ ∃ vs, RowsT wr B p (pcsL (trisL W.toNat mask) (cutC (trisL W.toNat mask) noG (hdL v c (trisL W.toNat mask) ms)) noG (trisL W.toNat mask).length) vs)
set_option maxRecDepth 100000 in
set_option maxHeartbeats 12800000 in
theorem cutTells_walk (W H : Int) (v c : Int) (Am Ac Ap As : Option Addr) (nm cm nc cc np cp ns cS : Nat) (mask : List Int) (cs : List C5) (ms : List V6) (sts : List Stk) (w : World) (hs : Steps w) (hm : Rd w 1 Am nm (vis mask)) (hc : Rd w 5 Ac nc (ccs cs)) (hp : Rd w 6 Ap np (mcs ms)) (hst : StkR w As ns sts)
  (hAm : Am = none → cm = 0) (hAc : Ac = none → cc = 0) (hAp : Ap = none → cp = 0) (hnm : nm * 8 ≤ 140737488351232) (hnc : nc * 40 ≤ 140737488351232) (hnp : np * 48 ≤ 140737488351232) (hts : ∀ s ∈ sts, s.2.length * 24 ≤ 140737488351232) (hns : ns * 48 ≤ 140737488351232) :
  Calls Tryd.prog 4 #[.agg #[.int .i64 W, .int .i64 H, .slice Am nm cm, .slice Ac nc cc, .slice Ap np cp, .slice As ns cS], .agg #[.int .i64 v, .int .i64 c]] w fun e w' => e = .returned (.bool true) ∧ Below w.heap.size w w' := by
 have kb0 := blk_alloc (heap_alloc_new w (.cells #[.int .i64 W, .int .i64 H, .slice Am nm cm, .slice Ac nc cc, .slice Ap np cp, .slice As ns cS] 29)) (.cells #[.int .i64 v, .int .i64 c] 46)
 have kb1 := heap_alloc_new (w.alloc (.cells #[.int .i64 W, .int .i64 H, .slice Am nm cm, .slice Ac nc cc, .slice Ap np cp, .slice As ns cS] 29)) (.cells #[.int .i64 v, .int .i64 c] 46)
 rw [World.size_alloc] at kb1
 have hb0 := ba (below_new w (.cells #[.int .i64 W, .int .i64 H, .slice Am nm cm, .slice Ac nc cc, .slice Ap np cp, .slice As ns cS] 29)) (.cells #[.int .i64 v, .int .i64 c] 46)
 have a0 := cell_of_blk kb0 0
 have a1 := cell_of_blk kb0 1
 have a2 := cell_of_blk kb0 2
 have a3 := cell_of_blk kb0 3
 have a4 := cell_of_blk kb0 4
 have a5 := cell_of_blk kb0 5
 have l0 := cell_of_blk kb1 0
 have l1 := cell_of_blk kb1 1
 simp only [List.getElem?_toArray, List.getElem?_cons_zero, List.getElem?_cons_succ] at a0 a1 a2 a3 a4 a5 l0 l1
 have cSo := fun (W' : World) (hb : Below w.heap.size w W') => stateOf_any W H Am Ac Ap As nm cm nc cc np cp ns cS mask cs ms sts W' (hm.below hb) (hc.below hb) (hp.below hb) (hst.below hb) hnm hnc hnp hAm hAc hAp hts hns
 have cSm := fun (W' : World) (hb : Below w.heap.size w W') => stateMay_any W H Am Ac Ap As nm cm nc cc np cp ns cS mask cs ms sts W' (hm.below hb) (hc.below hb) (hp.below hb) (hst.below hb) (by omega) (by omega) (by omega)
 have CSO := Lib.hid cSo
 have CSM := Lib.hid cSm
 have HB0 := Lib.hid hb0
 have HS := Lib.hid hs
 have HSH := Lib.hid (And.intro hm (And.intro hc hp))
 clear cSo cSm hb0 hs hm hc hp hst kb0 kb1 hAm hAc hAp hts
 go_enter Tryd.func4, Tryd.ntmps4
 go_wp2_with fail
 generalize (w.alloc (.cells #[.int .i64 W, .int .i64 H, .slice Am nm cm, .slice Ac nc cc, .slice Ap np cp, .slice As ns cS] 29)).alloc (.cells #[.int .i64 v, .int .i64 c] 46) = w0 at a0 a1 a2 a3 a4 a5 l0 l1 HB0 ⊢
 refine rg_chn2 (fin := ?z1) [1, 3] [[true, false, true, false, false, false, false, false, false], [false, false, true, false, false, false, false, false, false], [false, false, false, false, true, true, true, true, true]] [[0], [1, 2, 0]] [[], [4, 5, 6, 7, 8]] (fun x => [.agg #[.int .i64 W, .int .i64 H, .slice Am nm cm, .slice Ac nc cc, .slice Ap np cp, .slice As ns cS], (x 0), .agg #[.int .i64 v, .int .i64 c], (x 1), (x 1), (prj 0 (x 1)), (prj 1 (x 1)), (prj 0 (x 1)), (prj 1 (x 1))]) (fun jS x WN => match jS with | 0 => WN.cell? ⟨w.heap.size, 0, none⟩ = some (.int .i64 W) ∧ WN.cell? ⟨w.heap.size, 1, none⟩ = some (.int .i64 H) ∧ WN.cell? ⟨w.heap.size, 2, none⟩ = some (.slice Am nm cm) ∧ WN.cell? ⟨w.heap.size, 3, none⟩ = some (.slice Ac nc cc) ∧ WN.cell? ⟨w.heap.size, 4, none⟩ = some (.slice Ap np cp) ∧ WN.cell? ⟨w.heap.size, 5, none⟩ = some (.slice As ns cS) ∧ WN.cell? ⟨w.heap.size + 1, 0, none⟩ = some (.int .i64 v) ∧ WN.cell? ⟨w.heap.size + 1, 1, none⟩ = some (.int .i64 c) ∧ Below w.heap.size w WN | 1 => WN.cell? ⟨w.heap.size, 0, none⟩ = some (.int .i64 W) ∧ WN.cell? ⟨w.heap.size, 1, none⟩ = some (.int .i64 H) ∧ WN.cell? ⟨w.heap.size, 2, none⟩ = some (.slice Am nm cm) ∧ WN.cell? ⟨w.heap.size, 3, none⟩ = some (.slice Ac nc cc) ∧ WN.cell? ⟨w.heap.size, 4, none⟩ = some (.slice Ap np cp) ∧ WN.cell? ⟨w.heap.size, 5, none⟩ = some (.slice As ns cS) ∧ WN.cell? ⟨w.heap.size + 1, 0, none⟩ = some (.int .i64 v) ∧ WN.cell? ⟨w.heap.size + 1, 1, none⟩ = some (.int .i64 c) ∧ Below w.heap.size w WN ∧ ∃ Bm cm2 Bc cc2 Bp cp2 Bs cS2, Hid (x 0 = .agg #[.int .i64 W, .int .i64 H, .slice Bm nm cm2, .slice Bc nc cc2, .slice Bp np cp2, .slice Bs ns cS2]) ∧ Hid (Rd WN 1 Bm nm (vis mask) ∧ Rd WN 5 Bc nc (ccs cs) ∧ Rd WN 6 Bp np (mcs ms) ∧ StkR WN Bs ns sts) | _ => WN.cell? ⟨w.heap.size, 0, none⟩ = some (.int .i64 W) ∧ WN.cell? ⟨w.heap.size, 1, none⟩ = some (.int .i64 H) ∧ WN.cell? ⟨w.heap.size, 2, none⟩ = some (.slice Am nm cm) ∧ WN.cell? ⟨w.heap.size, 3, none⟩ = some (.slice Ac nc cc) ∧ WN.cell? ⟨w.heap.size, 4, none⟩ = some (.slice Ap np cp) ∧ WN.cell? ⟨w.heap.size, 5, none⟩ = some (.slice As ns cS) ∧ WN.cell? ⟨w.heap.size + 1, 0, none⟩ = some (.int .i64 v) ∧ WN.cell? ⟨w.heap.size + 1, 1, none⟩ = some (.int .i64 c) ∧ Below w.heap.size w WN ∧ ∃ (p : Value) (n : Int), Hid (x 1 = .tuple #[p, .int .i64 n]) ∧ Hid (CutTellsRes W H v c mask cs ms sts w.heap.size (p) (n) WN)) ?hf (by kernel_rfl) (by kernel_rfl) (fun _ => rfl) (by kernel_rfl) (by kernel_rfl) ?hv ⟨a0, a1, a2, a3, a4, a5, l0, l1, HB0.out.drew⟩ ?hA ?hT (fun x WN hst => ?he)
 case hf => intro x; simp only [putOps, Act.put, List.setIfInBounds_toArray, List.set_cons_succ, List.set_cons_zero]; exact rfl
 case hv =>
  intro x jS t v h
  cases jS with
  | zero =>
   cases h
   iterate 9 (refine ⟨?_, ?_⟩; · first | exact rfl | exact trivial)
   exact trivial
  | succ jS =>
   cases jS with
   | zero =>
    cases h
    iterate 9 (refine ⟨?_, ?_⟩; · first | exact rfl | exact trivial)
    exact trivial
   | succ jS =>
    simp at h
 case hA =>
  intro jS x WN hj hst
  have hj : jS ≤ 2 := hj
  rcases (show jS = 0 ∨ jS = 1 ∨ jS = 2 by omega) with rfl | rfl | rfl
  ·have HST := Lib.hid hst
   obtain ⟨a0, a1, a2, a3, a4, a5, l0, l1, hbl⟩ := hst
   iterate 2 refine ⟨?_, fun K hK => ?_⟩
   ·trivial
   all_goals try (go_simp; exact hK _ HST.out; done)
  ·have HST := Lib.hid hst
   obtain ⟨a0, a1, a2, a3, a4, a5, l0, l1, hbl, Bm, cm2, Bc, cc2, Bp, cp2, Bs, cS2, hx0, hr⟩ := hst
   iterate 1 refine ⟨?_, fun K hK => ?_⟩
   ·trivial
   all_goals try (go_simp; exact hK _ HST.out; done)
  ·have HST := Lib.hid hst
   obtain ⟨a0, a1, a2, a3, a4, a5, l0, l1, hbl, p, n, e1, hR⟩ := hst
   iterate 5 refine ⟨?_, fun K hK => ?_⟩
   ·trivial
   ·have hx := e1.out
    rw [hx] at hK HST ⊢
    go_simp
    exact hK _ HST.out
   ·have hx := e1.out
    rw [hx] at hK HST ⊢
    go_simp
    exact hK _ HST.out
   ·have hx := e1.out
    rw [hx] at hK HST ⊢
    go_simp
    exact hK _ HST.out
   ·have hx := e1.out
    rw [hx] at hK HST ⊢
    go_simp
    exact hK _ HST.out
   ·have hx := e1.out
    rw [hx] at hK HST ⊢
    go_simp
    exact hK _ HST.out
 case hT =>
  intro jS t x WN ht hst o ho K hK
  cases jS with
  | zero =>
   cases ht; cases ho
   obtain ⟨a0, a1, a2, a3, a4, a5, l0, l1, hbl⟩ := hst
   go_simp
   refine (CSO.out WN hbl).mono ?_
   rintro e' wc ⟨Bm, cm2, Bc, cc2, Bp, cp2, Bs, cS2, he, h1, h2, h3, h4, hbc⟩
   subst he
   exact hK _ _ ⟨sd a0 hbc, sd a1 hbc, sd a2 hbc, sd a3 hbc, sd a4 hbc, sd a5 hbc, sd l0 hbc, sd l1 hbc, stay_b hbl hbc, Bm, cm2, Bc, cc2, Bp, cp2, Bs, cS2, Lib.hid rfl, Lib.hid ⟨h1, h2, h3, h4⟩⟩
  | succ jS =>
   cases jS with
   | zero =>
    cases ht; cases ho
    obtain ⟨a0, a1, a2, a3, a4, a5, l0, l1, hbl, Bm, cm2, Bc, cc2, Bp, cp2, Bs, cS2, hx0, hr⟩ := hst
    have hx := hx0.out
    have cP := cutPieces_any W H v c Bm Bc Bp Bs nm cm2 nc cc2 np cp2 ns cS2 mask cs ms sts WN (HS.out.below hbl) hr.out.1 hr.out.2.1 hr.out.2.2.1 hr.out.2.2.2 (by omega) (by omega) (by omega)
    rw [hx] at hK ⊢
    have CPx := Lib.hid cP
    clear cP
    go_simp
    refine CPx.out.mono ?_
    rintro e' wc ⟨hbc, ⟨f1, he⟩ | ⟨f1, f2, he⟩ | ⟨f1, f2, p, vs, he, hp⟩⟩
    all_goals subst he
    ·exact hK _ _ ⟨sd a0 hbc, sd a1 hbc, sd a2 hbc, sd a3 hbc, sd a4 hbc, sd a5 hbc, sd l0 hbc, sd l1 hbc, stay_b hbl hbc, _, _, Lib.hid rfl, Lib.hid (.inl ⟨f1, rfl, rfl⟩)⟩
    ·exact hK _ _ ⟨sd a0 hbc, sd a1 hbc, sd a2 hbc, sd a3 hbc, sd a4 hbc, sd a5 hbc, sd l0 hbc, sd l1 hbc, stay_b hbl hbc, _, _, Lib.hid rfl, Lib.hid (.inr (.inl ⟨f1, f2, rfl, rfl⟩))⟩
    ·exact hK _ _ ⟨sd a0 hbc, sd a1 hbc, sd a2 hbc, sd a3 hbc, sd a4 hbc, sd a5 hbc, sd l0 hbc, sd l1 hbc, stay_b hbl hbc, _, _, Lib.hid rfl, Lib.hid (.inr (.inr ⟨f1, f2, rfl, vs, hp.mono2 hbl.size⟩))⟩
   | succ jS =>
    simp at ht
 case he =>
  obtain ⟨a0, a1, a2, a3, a4, a5, l0, l1, hbl, p, n, e1, hR⟩ := hst
  have q1 := e1.out
  obtain ⟨x0, hx0⟩ : ∃ y, y = x 0 := ⟨_, rfl⟩
  rw [← hx0, q1]
  have HBL := Lib.hid hbl
  have HR := hR
  clear hx0 hbl hR e1 q1
  rw [show prj 0 (.tuple #[p, .int .i64 n]) = p from rfl]
  rw [show prj 1 (.tuple #[p, .int .i64 n]) = .int .i64 n from rfl]
  obtain ⟨w2, hw2⟩ : ∃ y, y = WN := ⟨_, rfl⟩
  subst hw2
  rcases HR.out with ⟨f1, g1, g2⟩ | ⟨f1, f2, g1, g2⟩ | ⟨f1, f2, g2, vs, hrr⟩
  ·have F1 := Lib.hid f1
   subst g2
   subst g1
   have cM := fun (W' : World) (hb : Below w.heap.size w W') => CSM.out W' hb
   rw [f1] at cM
   have CM := Lib.hid cM
   clear cM f1
   go_wp2_with (first
    | (go_at_call 7; refine (CM.out _ HBL.out).mono ?_; rintro r w3 ⟨rfl, hb3⟩; have HB3 := Lib.hid (stay_b HBL.out hb3); replace a0 := sd a0 hb3; replace a1 := sd a1 hb3; replace a2 := sd a2 hb3; replace a3 := sd a3 hb3; replace a4 := sd a4 hb3; replace a5 := sd a5 hb3; replace l0 := sd l0 hb3; replace l1 := sd l1 hb3; have HX3 := Lib.hid hb3; clear hb3))
   go_ret
   exact ⟨by first | rfl | simp, HB3.out⟩
  ·have F1 := Lib.hid f1
   have F2 := Lib.hid f2
   clear f2
   subst g2
   subst g1
   have cM := fun (W' : World) (hb : Below w.heap.size w W') => CSM.out W' hb
   rw [f1] at cM
   have CM := Lib.hid cM
   clear cM f1
   have cL := fun (W' : World) => refLine_any v c W'
   rw [F2.out] at cL
   have CL := Lib.hid cL
   clear cL
   go_wp2_with (first
    | (go_at_call 7; refine (CM.out _ HBL.out).mono ?_; rintro r w3 ⟨rfl, hb3⟩; have HB3 := Lib.hid (stay_b HBL.out hb3); replace a0 := sd a0 hb3; replace a1 := sd a1 hb3; replace a2 := sd a2 hb3; replace a3 := sd a3 hb3; replace a4 := sd a4 hb3; replace a5 := sd a5 hb3; replace l0 := sd l0 hb3; replace l1 := sd l1 hb3; have HX3 := Lib.hid hb3; clear hb3)
    | (go_at_call 13; refine (CL.out _).mono ?_; rintro r w4 ⟨rfl, hb4⟩; have HB4 := Lib.hid (stay_b HB3.out hb4); replace a0 := sd a0 hb4; replace a1 := sd a1 hb4; replace a2 := sd a2 hb4; replace a3 := sd a3 hb4; replace a4 := sd a4 hb4; replace a5 := sd a5 hb4; replace l0 := sd l0 hb4; replace l1 := sd l1 hb4; have HX4 := Lib.hid hb4; clear hb4))
   go_ret
   exact ⟨by first | rfl | simp, HB4.out⟩
  ·have F1 := Lib.hid f1
   have F2 := Lib.hid f2
   clear f2
   subst g2
   have cM := fun (W' : World) (hb : Below w.heap.size w W') => CSM.out W' hb
   rw [f1] at cM
   have CM := Lib.hid cM
   clear cM f1
   have cL := fun (W' : World) => refLine_any v c W'
   rw [F2.out] at cL
   have CL := Lib.hid cL
   clear cL
   have hsp := stateB_iff.1 F1.out
   obtain ⟨Wn, Hn, rfl, rfl, d3, d4, d5⟩ := newB_dimS hsp.sheet
   have hWt : ((Wn : Int)).toNat = Wn := by omega
   rw [hWt] at hrr
   have hmp := hsp.maps
   rw [hWt] at hmp
   have hsh : ShM w Wn Hn Am nm mask Ac nc cs := ⟨d3, d4, d5, HSH.out.1, HSH.out.2.1, by omega⟩
   have HSHM := Lib.hid hsh
   have HMP := Lib.hid hmp
   have HRR := Lib.hid hrr
   clear hsp hWt hmp hsh hrr d3 d4 d5
   go_wp2_with (first
    | (go_at_call 7; refine (CM.out _ HBL.out).mono ?_; rintro r w3 ⟨rfl, hb3⟩; have HB3 := Lib.hid (stay_b HBL.out hb3); replace a0 := sd a0 hb3; replace a1 := sd a1 hb3; replace a2 := sd a2 hb3; replace a3 := sd a3 hb3; replace a4 := sd a4 hb3; replace a5 := sd a5 hb3; replace l0 := sd l0 hb3; replace l1 := sd l1 hb3; have HX3 := Lib.hid hb3; clear hb3)
    | (go_at_call 13; refine (CL.out _).mono ?_; rintro r w4 ⟨rfl, hb4⟩; have HB4 := Lib.hid (stay_b HB3.out hb4); replace a0 := sd a0 hb4; replace a1 := sd a1 hb4; replace a2 := sd a2 hb4; replace a3 := sd a3 hb4; replace a4 := sd a4 hb4; replace a5 := sd a5 hb4; replace l0 := sd l0 hb4; replace l1 := sd l1 hb4; have HX4 := Lib.hid hb4; clear hb4)
    | (go_at_call 14; refine (cutOf_any Wn Hn Am Ac Ap As nm cm nc cc np cp ns cS v c mask cs ms _ _ (HSHM.out.below HB4.out) (HSH.out.2.2.below HB4.out) HMP.out F2.out).mono ?_; rintro r w5 ⟨x5, vs5, rfl, hr5, hb5⟩; have HR5 := Lib.hid hr5; have HB5 := Lib.hid (stay_b HB4.out hb5); have HX5 := Lib.hid hb5; clear hr5 hb5)
    | (go_at_call 11; refine (samePieces_any _ _ _ _ _ _ vs vs5 w5 (((HRR.out.below HX3.out).below HX4.out).below HX5.out) HR5.out).mono ?_; rintro r w7 ⟨rfl, hb7⟩; have HB7 := Lib.hid (stay_b HB5.out hb7); clear hb7))
   go_ret
   exact ⟨by first | rfl | simp, HB7.out⟩
end
end Go.Proofs.YtnndadhkedlohaaDoor
