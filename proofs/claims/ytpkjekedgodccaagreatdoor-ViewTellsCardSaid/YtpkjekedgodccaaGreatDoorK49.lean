/- The document's StateOf: a copy. -/
import Derived.Test.YtpkjekedgodccaaGreatDoorK46
import Derived.Test.YtpkjekedgodccaaGreatDoorK22
import Derived.Test.YtpkjekedgodccaaGreatDoorK47
import Derived.Test.YtpkjekedgodccaaGreatDoorK48
namespace Go.Proofs.YtpkjekedgodccaaGreatDoor
set_option linter.unusedSimpArgs false
set_option linter.unusedVariables false
section
open Go.RowKit Go.Maps
set_option maxRecDepth 100000 in
set_option maxHeartbeats 12800000 in
theorem stateOf_any (W H : Int) (Am Ac Ap As : Option Addr) (nm cm nc cc np cp ns cS : Nat) (mask : List Int) (cs : List C5) (ms : List V6) (sts : List Stk) (w : World) (hm : Rd w 1 Am nm (vis mask)) (hc : Rd w 5 Ac nc (ccs cs)) (hp : Rd w 6 Ap np (mcs ms)) (hst : StkR w As ns sts)
  (hnm : nm * 8 ≤ 140737488351232) (hnc : nc * 40 ≤ 140737488351232) (hnp : np * 48 ≤ 140737488351232) (hAm : Am = none → cm = 0) (hAc : Ac = none → cc = 0) (hAp : Ap = none → cp = 0) (hts : ∀ s ∈ sts, s.2.length * 24 ≤ 140737488351232) (hns : ns * 48 ≤ 140737488351232) :
  Calls Tryz.prog 5 #[.agg #[.int .i64 W, .int .i64 H, .slice Am nm cm, .slice Ac nc cc, .slice Ap np cp, .slice As ns cS]] w fun e w' => ∃ Bm cm' Bc cc' Bp cp' Bs cS', e = .returned (.agg #[.int .i64 W, .int .i64 H, .slice Bm nm cm', .slice Bc nc cc', .slice Bp np cp', .slice Bs ns cS']) ∧ Rd w' 1 Bm nm (vis mask) ∧ Rd w' 5 Bc nc (ccs cs) ∧ Rd w' 6 Bp np (mcs ms) ∧ StkR w' Bs ns sts ∧ Below w.heap.size w w' := by
 have HNL := Lib.hid hst.len
 have HTS := Lib.hid hts
 have kb0 := heap_alloc_new w (.cells #[.int .i64 W, .int .i64 H, .slice Am nm cm, .slice Ac nc cc, .slice Ap np cp, .slice As ns cS] 29)
 have hb0 := below_new w (.cells #[.int .i64 W, .int .i64 H, .slice Am nm cm, .slice Ac nc cc, .slice Ap np cp, .slice As ns cS] 29)
 have cN := fun (W' : World) (hb : Below w.heap.size w W') => sheetOfO_any W H Am Ac nm cm nc cc mask cs W' (hm.below hb) (hc.below hb) hnm hnc hAm hAc
 have CN := Lib.hid cN
 have HP := Lib.hid hp
 have HST := Lib.hid hst
 clear cN hm hc hp hst hts
 go_enter Tryz.func5, Tryz.ntmps5
 go_wp2_with fail
 have hb1 := hb0.alloc (by simp) (.cells #[.int .i64 0, .int .i64 0, .slice none 0 0, .slice none 0 0, .slice none 0 0, .slice none 0 0] 29)
 have kr := heap_alloc_new (w.alloc (.cells #[.int .i64 W, .int .i64 H, .slice Am nm cm, .slice Ac nc cc, .slice Ap np cp, .slice As ns cS] 29)) (.cells #[.int .i64 0, .int .i64 0, .slice none 0 0, .slice none 0 0, .slice none 0 0, .slice none 0 0] 29)
 have kb1 := blk_alloc kb0 (.cells #[.int .i64 0, .int .i64 0, .slice none 0 0, .slice none 0 0, .slice none 0 0, .slice none 0 0] 29)
 have a0 := cell_of_blk kb1 0
 have a1 := cell_of_blk kb1 1
 have a2 := cell_of_blk kb1 2
 have a3 := cell_of_blk kb1 3
 have a4 := cell_of_blk kb1 4
 have a5 := cell_of_blk kb1 5
 simp only [List.getElem?_toArray, List.getElem?_cons_zero, List.getElem?_cons_succ] at a0 a1 a2 a3 a4 a5
 rw [World.size_alloc] at kr
 have KR := Lib.hid kr
 have HB1 := Lib.hid hb1
 clear kb0 hb0 kr kb1
 generalize (w.alloc (.cells #[.int .i64 W, .int .i64 H, .slice Am nm cm, .slice Ac nc cc, .slice Ap np cp, .slice As ns cS] 29)).alloc (.cells #[.int .i64 0, .int .i64 0, .slice none 0 0, .slice none 0 0, .slice none 0 0, .slice none 0 0] 29) = w1 at a0 a1 a2 a3 a4 a5 KR HB1 hb1 ⊢
 refine rg_flo (fin := ?z1) [2, 5, 6, 8] 7 [[true, true, false, true, true, false, false, false, false], [false, false, false, true, true, false, false, false, false], [true, true, false, false, false, false, false, false, false], [false, false, false, false, false, false, false, false, false], [false, false, false, false, false, false, false, false, false]] [[true, true, false, true, true, false, false, false, false], [false, false, false, true, true, false, false, false, false], [true, true, false, false, false, false, false, false, false], [false, false, false, false, false, false, false, false, false], [false, false, false, false, false, false, false, false, false]] [[1, 0], [4, 3], [2, 5, 1, 4, 0, 3], [7, 6, 2, 5, 1, 4, 0, 3]] [] (fun x => [.pointer (some ⟨w.heap.size, 0, none⟩), .agg #[.int .i64 W, .int .i64 H, .slice Am nm cm, .slice Ac nc cc], (x 0), .pointer (some ⟨w.heap.size, 4, none⟩), .slice Ap np cp, (x 1), (x 2), (x 4), (x 3)]) (fun j b x WN => match j, b with | 0, false => WN.cell? ⟨w.heap.size, 0, none⟩ = some (.int .i64 W) ∧ WN.cell? ⟨w.heap.size, 1, none⟩ = some (.int .i64 H) ∧ WN.cell? ⟨w.heap.size, 2, none⟩ = some (.slice Am nm cm) ∧ WN.cell? ⟨w.heap.size, 3, none⟩ = some (.slice Ac nc cc) ∧ WN.cell? ⟨w.heap.size, 4, none⟩ = some (.slice Ap np cp) ∧ WN.cell? ⟨w.heap.size, 5, none⟩ = some (.slice As ns cS) ∧ Below w1.heap.size w1 WN | 0, true => WN.cell? ⟨w.heap.size, 0, none⟩ = some (.int .i64 W) ∧ WN.cell? ⟨w.heap.size, 1, none⟩ = some (.int .i64 H) ∧ WN.cell? ⟨w.heap.size, 2, none⟩ = some (.slice Am nm cm) ∧ WN.cell? ⟨w.heap.size, 3, none⟩ = some (.slice Ac nc cc) ∧ WN.cell? ⟨w.heap.size, 4, none⟩ = some (.slice Ap np cp) ∧ WN.cell? ⟨w.heap.size, 5, none⟩ = some (.slice As ns cS) ∧ Below w1.heap.size w1 WN ∧ (∃ g, Hid (x 4 = .pointer (some ⟨g, 0, none⟩)) ∧ WN.heap[g]? = some (.cells #[.int .i64 0, .int .i64 0, .slice none 0 0, .slice none 0 0, .slice none 0 0, .slice none 0 0] 29 (0, 0)) ∧ Hid (w1.heap.size ≤ g)) | 1, false => WN.cell? ⟨w.heap.size, 0, none⟩ = some (.int .i64 W) ∧ WN.cell? ⟨w.heap.size, 1, none⟩ = some (.int .i64 H) ∧ WN.cell? ⟨w.heap.size, 2, none⟩ = some (.slice Am nm cm) ∧ WN.cell? ⟨w.heap.size, 3, none⟩ = some (.slice Ac nc cc) ∧ WN.cell? ⟨w.heap.size, 4, none⟩ = some (.slice Ap np cp) ∧ WN.cell? ⟨w.heap.size, 5, none⟩ = some (.slice As ns cS) ∧ Below w1.heap.size w1 WN ∧ ∃ Bm cm2 Bc cc2, Hid (x 0 = .agg #[.int .i64 W, .int .i64 H, .slice Bm nm cm2, .slice Bc nc cc2]) ∧ Hid (WN.ownsRow w.heap.size 3 1 (.slice Bm nm cm2) nm (vis mask) ∧ WN.ownsRow w.heap.size 102 5 (.slice Bc nc cc2) nc (ccs cs)) | 1, true => WN.cell? ⟨w.heap.size, 0, none⟩ = some (.int .i64 W) ∧ WN.cell? ⟨w.heap.size, 1, none⟩ = some (.int .i64 H) ∧ WN.cell? ⟨w.heap.size, 2, none⟩ = some (.slice Am nm cm) ∧ WN.cell? ⟨w.heap.size, 3, none⟩ = some (.slice Ac nc cc) ∧ WN.cell? ⟨w.heap.size, 4, none⟩ = some (.slice Ap np cp) ∧ WN.cell? ⟨w.heap.size, 5, none⟩ = some (.slice As ns cS) ∧ Below w1.heap.size w1 WN ∧ (∃ g, Hid (x 4 = .pointer (some ⟨g, 0, none⟩)) ∧ WN.heap[g]? = some (.cells #[.int .i64 0, .int .i64 0, .slice none 0 0, .slice none 0 0, .slice none 0 0, .slice none 0 0] 29 (0, 0)) ∧ Hid (w1.heap.size ≤ g)) ∧ ∃ Bm cm2 Bc cc2, Hid (x 0 = .agg #[.int .i64 W, .int .i64 H, .slice Bm nm cm2, .slice Bc nc cc2]) ∧ Hid (WN.ownsRow w.heap.size 3 1 (.slice Bm nm cm2) nm (vis mask) ∧ WN.ownsRow w.heap.size 102 5 (.slice Bc nc cc2) nc (ccs cs)) | 2, false => WN.cell? ⟨w.heap.size, 0, none⟩ = some (.int .i64 W) ∧ WN.cell? ⟨w.heap.size, 1, none⟩ = some (.int .i64 H) ∧ WN.cell? ⟨w.heap.size, 2, none⟩ = some (.slice Am nm cm) ∧ WN.cell? ⟨w.heap.size, 3, none⟩ = some (.slice Ac nc cc) ∧ WN.cell? ⟨w.heap.size, 4, none⟩ = some (.slice Ap np cp) ∧ WN.cell? ⟨w.heap.size, 5, none⟩ = some (.slice As ns cS) ∧ Below w1.heap.size w1 WN ∧ ∃ Bm cm2 Bc cc2, Hid (x 0 = .agg #[.int .i64 W, .int .i64 H, .slice Bm nm cm2, .slice Bc nc cc2]) ∧ Hid (WN.ownsRow w.heap.size 3 1 (.slice Bm nm cm2) nm (vis mask) ∧ WN.ownsRow w.heap.size 102 5 (.slice Bc nc cc2) nc (ccs cs)) ∧ ∃ Bp cp2, Hid (x 1 = .slice Bp np cp2) ∧ Hid (WN.ownsRow w.heap.size 63 6 (.slice Bp np cp2) np (mcs ms)) | 2, true => WN.cell? ⟨w.heap.size, 0, none⟩ = some (.int .i64 W) ∧ WN.cell? ⟨w.heap.size, 1, none⟩ = some (.int .i64 H) ∧ WN.cell? ⟨w.heap.size, 2, none⟩ = some (.slice Am nm cm) ∧ WN.cell? ⟨w.heap.size, 3, none⟩ = some (.slice Ac nc cc) ∧ WN.cell? ⟨w.heap.size, 4, none⟩ = some (.slice Ap np cp) ∧ WN.cell? ⟨w.heap.size, 5, none⟩ = some (.slice As ns cS) ∧ Below w1.heap.size w1 WN ∧ (∃ g, Hid (x 4 = .pointer (some ⟨g, 0, none⟩)) ∧ WN.heap[g]? = some (.cells #[.int .i64 0, .int .i64 0, .slice none 0 0, .slice none 0 0, .slice none 0 0, .slice none 0 0] 29 (0, 0)) ∧ Hid (w1.heap.size ≤ g)) ∧ ∃ Bm cm2 Bc cc2, Hid (x 0 = .agg #[.int .i64 W, .int .i64 H, .slice Bm nm cm2, .slice Bc nc cc2]) ∧ Hid (WN.ownsRow w.heap.size 3 1 (.slice Bm nm cm2) nm (vis mask) ∧ WN.ownsRow w.heap.size 102 5 (.slice Bc nc cc2) nc (ccs cs)) ∧ ∃ Bp cp2, Hid (x 1 = .slice Bp np cp2) ∧ Hid (WN.ownsRow w.heap.size 63 6 (.slice Bp np cp2) np (mcs ms)) | 3, false => WN.cell? ⟨w.heap.size, 0, none⟩ = some (.int .i64 W) ∧ WN.cell? ⟨w.heap.size, 1, none⟩ = some (.int .i64 H) ∧ WN.cell? ⟨w.heap.size, 2, none⟩ = some (.slice Am nm cm) ∧ WN.cell? ⟨w.heap.size, 3, none⟩ = some (.slice Ac nc cc) ∧ WN.cell? ⟨w.heap.size, 4, none⟩ = some (.slice Ap np cp) ∧ WN.cell? ⟨w.heap.size, 5, none⟩ = some (.slice As ns cS) ∧ Below w1.heap.size w1 WN ∧ ∃ Bm cm2 Bc cc2, Hid (x 0 = .agg #[.int .i64 W, .int .i64 H, .slice Bm nm cm2, .slice Bc nc cc2]) ∧ Hid (WN.ownsRow w.heap.size 3 1 (.slice Bm nm cm2) nm (vis mask) ∧ WN.ownsRow w.heap.size 102 5 (.slice Bc nc cc2) nc (ccs cs)) ∧ ∃ Bp cp2, Hid (x 1 = .slice Bp np cp2) ∧ Hid (WN.ownsRow w.heap.size 63 6 (.slice Bp np cp2) np (mcs ms)) ∧ Hid (x 2 = .agg #[.int .i64 W, .int .i64 H, .slice Bm nm cm2, .slice Bc nc cc2, .slice Bp np cp2, .slice none 0 0]) | 3, true => WN.cell? ⟨w.heap.size, 0, none⟩ = some (.int .i64 W) ∧ WN.cell? ⟨w.heap.size, 1, none⟩ = some (.int .i64 H) ∧ WN.cell? ⟨w.heap.size, 2, none⟩ = some (.slice Am nm cm) ∧ WN.cell? ⟨w.heap.size, 3, none⟩ = some (.slice Ac nc cc) ∧ WN.cell? ⟨w.heap.size, 4, none⟩ = some (.slice Ap np cp) ∧ WN.cell? ⟨w.heap.size, 5, none⟩ = some (.slice As ns cS) ∧ Below w1.heap.size w1 WN ∧ (∃ g, Hid (x 4 = .pointer (some ⟨g, 0, none⟩)) ∧ WN.heap[g]? = some (.cells #[.int .i64 0, .int .i64 0, .slice none 0 0, .slice none 0 0, .slice none 0 0, .slice none 0 0] 29 (0, 0)) ∧ Hid (w1.heap.size ≤ g)) ∧ ∃ Bm cm2 Bc cc2, Hid (x 0 = .agg #[.int .i64 W, .int .i64 H, .slice Bm nm cm2, .slice Bc nc cc2]) ∧ Hid (WN.ownsRow w.heap.size 3 1 (.slice Bm nm cm2) nm (vis mask) ∧ WN.ownsRow w.heap.size 102 5 (.slice Bc nc cc2) nc (ccs cs)) ∧ ∃ Bp cp2, Hid (x 1 = .slice Bp np cp2) ∧ Hid (WN.ownsRow w.heap.size 63 6 (.slice Bp np cp2) np (mcs ms)) ∧ Hid (x 2 = .agg #[.int .i64 W, .int .i64 H, .slice Bm nm cm2, .slice Bc nc cc2, .slice Bp np cp2, .slice none 0 0]) | _, false => False | _, true => Below w1.heap.size w1 WN ∧ ∃ g Bm cm2 Bc cc2 Bp cp2, Hid (x 4 = .pointer (some ⟨g, 0, none⟩)) ∧ WN.heap[g]? = some (.cells #[.int .i64 W, .int .i64 H, .slice Bm nm cm2, .slice Bc nc cc2, .slice Bp np cp2, .slice none 0 0] 29 (0, 0)) ∧ Hid (w1.heap.size ≤ g) ∧ Hid (x 0 = .agg #[.int .i64 W, .int .i64 H, .slice Bm nm cm2, .slice Bc nc cc2]) ∧ Hid (x 1 = .slice Bp np cp2) ∧ Hid (x 2 = .agg #[.int .i64 W, .int .i64 H, .slice Bm nm cm2, .slice Bc nc cc2, .slice Bp np cp2, .slice none 0 0]) ∧ Hid (WN.ownsRow w.heap.size 3 1 (.slice Bm nm cm2) nm (vis mask) ∧ WN.ownsRow w.heap.size 102 5 (.slice Bc nc cc2) nc (ccs cs) ∧ WN.ownsRow w.heap.size 63 6 (.slice Bp np cp2) np (mcs ms))) ?hf (by kernel_rfl) (by kernel_rfl) (fun _ => rfl) (by kernel_rfl) ?hv ?hvf ⟨a0, a1, a2, a3, a4, a5, (Below.refl _ _).drew⟩ ?hA ?hT ?hF (fun x WN hst => ?he)
 case hf => intro x; simp only [putOps, Act.put, List.setIfInBounds_toArray, List.set_cons_succ, List.set_cons_zero]; exact rfl
 case hv =>
  intro x j t v h
  cases j with
  | zero => cases h; rfl
  | succ j =>
   cases j with
   | zero => cases h; rfl
   | succ j =>
    cases j with
    | zero => cases h; rfl
    | succ j =>
     cases j with
     | zero => cases h; rfl
     | succ j =>
      simp at h
 case hvf => intro x v; rfl
 case hA =>
  intro j b x WN hj hst
  have hj : j ≤ 4 := hj
  rcases (show j = 0 ∨ j = 1 ∨ j = 2 ∨ j = 3 ∨ j = 4 by omega) with rfl | rfl | rfl | rfl | rfl <;> cases b
  ·have HST := Lib.hid hst
   obtain ⟨a0, a1, a2, a3, a4, a5, hbl⟩ := hst
   iterate 4 refine ⟨?_, fun K hK => ?_⟩
   ·trivial
   all_goals try (go_simp; exact hK _ HST.out; done)
  ·have HST := Lib.hid hst
   obtain ⟨a0, a1, a2, a3, a4, a5, hbl, ⟨g, hx4, hkg, hgw⟩⟩ := hst
   iterate 4 refine ⟨?_, fun K hK => ?_⟩
   ·trivial
   all_goals try (go_simp; exact hK _ HST.out; done)
  ·have HST := Lib.hid hst
   obtain ⟨a0, a1, a2, a3, a4, a5, hbl, Bm, cm2, Bc, cc2, hx0, hr0⟩ := hst
   iterate 2 refine ⟨?_, fun K hK => ?_⟩
   ·trivial
   all_goals try (go_simp; exact hK _ HST.out; done)
  ·have HST := Lib.hid hst
   obtain ⟨a0, a1, a2, a3, a4, a5, hbl, ⟨g, hx4, hkg, hgw⟩, Bm, cm2, Bc, cc2, hx0, hr0⟩ := hst
   iterate 2 refine ⟨?_, fun K hK => ?_⟩
   ·trivial
   all_goals try (go_simp; exact hK _ HST.out; done)
  ·have HST := Lib.hid hst
   obtain ⟨a0, a1, a2, a3, a4, a5, hbl, Bm, cm2, Bc, cc2, hx0, hr0, Bp, cp2, hx1, hr1⟩ := hst
   iterate 2 refine ⟨?_, fun K hK => ?_⟩
   ·trivial
   all_goals try (go_simp; exact hK _ HST.out; done)
  ·have HST := Lib.hid hst
   obtain ⟨a0, a1, a2, a3, a4, a5, hbl, ⟨g, hx4, hkg, hgw⟩, Bm, cm2, Bc, cc2, hx0, hr0, Bp, cp2, hx1, hr1⟩ := hst
   iterate 2 refine ⟨?_, fun K hK => ?_⟩
   ·trivial
   all_goals try (go_simp; exact hK _ HST.out; done)
  ·trivial
  ·trivial
  ·exact hst.elim
  ·trivial
 case hT =>
  intro j b t x WN ht hw hst o ho K hK
  cases j with
  | zero =>
   cases ht; cases ho
   cases b
   ·obtain ⟨a0, a1, a2, a3, a4, a5, hbl⟩ := hst
    go_simp
    refine (CN.out WN (HB1.out.trans (hbl.mono HB1.out.size))).mono ?_
    rintro e' wc ⟨Bm, cm2, Bc, cc2, he, h1, h2, hbc⟩
    subst he
    have hsz := HB1.out.size
    have hs2 := hbl.size
    exact hK _ _ ⟨sd a0 hbc, sd a1 hbc, sd a2 hbc, sd a3 hbc, sd a4 hbc, sd a5 hbc, stay_b hbl hbc, Bm, cm2, Bc, cc2, Lib.hid rfl, Lib.hid ⟨own_mono h1 (by omega), own_mono h2 (by omega)⟩⟩
   ·obtain ⟨a0, a1, a2, a3, a4, a5, hbl, ⟨g, hx4, hkg, hgw⟩⟩ := hst
    go_simp
    refine (CN.out WN (HB1.out.trans (hbl.mono HB1.out.size))).mono ?_
    rintro e' wc ⟨Bm, cm2, Bc, cc2, he, h1, h2, hbc⟩
    subst he
    have hsz := HB1.out.size
    have hs2 := hbl.size
    exact hK _ _ ⟨sd a0 hbc, sd a1 hbc, sd a2 hbc, sd a3 hbc, sd a4 hbc, sd a5 hbc, stay_b hbl hbc, ⟨g, hx4, blk_below hkg hbc (blk_lt hkg), hgw⟩, Bm, cm2, Bc, cc2, Lib.hid rfl, Lib.hid ⟨own_mono h1 (by omega), own_mono h2 (by omega)⟩⟩
  | succ j =>
   cases j with
   | zero =>
    cases ht; cases ho
    cases b
    ·obtain ⟨a0, a1, a2, a3, a4, a5, hbl, Bm, cm2, Bc, cc2, hx0, hr0⟩ := hst
     have hsz := HB1.out.size
     have hs2 := hbl.size
     refine step_copyA Tryz.underlying26 map_info6 rfl (by decide) rfl _ _ rfl rfl Ap np cp (mcs ms) rfl hAp (HP.out.below (HB1.out.trans (hbl.mono HB1.out.size))) (mcs_one6 ms) hnp (by omega) (fun vv ww h1 h2 => ?_)
     obtain ⟨Bp, cp2, hv, _⟩ := own_slice h1
     subst hv
     exact hK _ _ ⟨sd a0 h2, sd a1 h2, sd a2 h2, sd a3 h2, sd a4 h2, sd a5 h2, stay_b hbl h2, Bm, cm2, Bc, cc2, hx0, Lib.hid ⟨od hr0.out.1 h2, od hr0.out.2 h2⟩, Bp, cp2, Lib.hid rfl, Lib.hid (own_mono h1 (by omega))⟩
    ·obtain ⟨a0, a1, a2, a3, a4, a5, hbl, ⟨g, hx4, hkg, hgw⟩, Bm, cm2, Bc, cc2, hx0, hr0⟩ := hst
     have hsz := HB1.out.size
     have hs2 := hbl.size
     refine step_copyA Tryz.underlying26 map_info6 rfl (by decide) rfl _ _ rfl rfl Ap np cp (mcs ms) rfl hAp (HP.out.below (HB1.out.trans (hbl.mono HB1.out.size))) (mcs_one6 ms) hnp (by omega) (fun vv ww h1 h2 => ?_)
     obtain ⟨Bp, cp2, hv, _⟩ := own_slice h1
     subst hv
     exact hK _ _ ⟨sd a0 h2, sd a1 h2, sd a2 h2, sd a3 h2, sd a4 h2, sd a5 h2, stay_b hbl h2, ⟨g, hx4, blk_below hkg h2 (blk_lt hkg), hgw⟩, Bm, cm2, Bc, cc2, hx0, Lib.hid ⟨od hr0.out.1 h2, od hr0.out.2 h2⟩, Bp, cp2, Lib.hid rfl, Lib.hid (own_mono h1 (by omega))⟩
   | succ j =>
    cases j with
    | zero =>
     cases ht; cases ho
     cases b
     ·obtain ⟨a0, a1, a2, a3, a4, a5, hbl, Bm, cm2, Bc, cc2, hx0, hr0, Bp, cp2, hx1, hr1⟩ := hst
      have hx := hx0.out
      have hy := hx1.out
      rw [hx, hy] at hK ⊢
      go_simp
      exact hK _ _ ⟨a0, a1, a2, a3, a4, a5, hbl, Bm, cm2, Bc, cc2, hx0, hr0, Bp, cp2, hx1, hr1, Lib.hid rfl⟩
     ·obtain ⟨a0, a1, a2, a3, a4, a5, hbl, ⟨g, hx4, hkg, hgw⟩, Bm, cm2, Bc, cc2, hx0, hr0, Bp, cp2, hx1, hr1⟩ := hst
      have hx := hx0.out
      have hy := hx1.out
      rw [hx, hy] at hK ⊢
      go_simp
      exact hK _ _ ⟨a0, a1, a2, a3, a4, a5, hbl, ⟨g, hx4, hkg, hgw⟩, Bm, cm2, Bc, cc2, hx0, hr0, Bp, cp2, hx1, hr1, Lib.hid rfl⟩
    | succ j =>
     cases j with
     | zero =>
      cases ht; cases ho
      cases b
      ·exact absurd (hw (by kernel_rfl)) (by decide)
      ·obtain ⟨a0, a1, a2, a3, a4, a5, hbl, ⟨g, hx4, hkg, hgw⟩, Bm, cm2, Bc, cc2, hx0, hr0, Bp, cp2, hx1, hr1, hx2⟩ := hst
       have hx := hx4.out
       have hz := hx2.out
       have z0 := cell_of_blk hkg 0
       have z1 := cell_of_blk hkg 1
       have z2 := cell_of_blk hkg 2
       have z3 := cell_of_blk hkg 3
       have z4 := cell_of_blk hkg 4
       have z5 := cell_of_blk hkg 5
       simp only [List.getElem?_toArray, List.getElem?_cons_zero, List.getElem?_cons_succ] at z0 z1 z2 z3 z4 z5
       have zf := frozen_of_blk hkg
       have zl := blk_lt hkg
       have o1 := hr0.out.1
       have o2 := hr0.out.2
       have o3 := hr1.out
       have n1 := own_not o1 hkg (by decide)
       have n2 := own_not o2 hkg (by decide)
       have n3 := own_not o3 hkg (by decide)
       have hkk := Lib.hid (blk_set (blk_set (blk_set (blk_set (blk_set (blk_set hkg 0 (.int .i64 W)) 1 (.int .i64 H)) 2 (.slice Bm nm cm2)) 3 (.slice Bc nc cc2)) 4 (.slice Bp np cp2)) 5 (.slice none 0 0))
       have hbb := Lib.hid ((((((hbl.setCell (p := ⟨g, 0, none⟩) hgw.out (.int .i64 W)).setCell (p := ⟨g, 1, none⟩) hgw.out (.int .i64 H)).setCell (p := ⟨g, 2, none⟩) hgw.out (.slice Bm nm cm2)).setCell (p := ⟨g, 3, none⟩) hgw.out (.slice Bc nc cc2)).setCell (p := ⟨g, 4, none⟩) hgw.out (.slice Bp np cp2)).setCell (p := ⟨g, 5, none⟩) hgw.out (.slice none 0 0))
       have po1 := Lib.hid (own_set (own_set (own_set (own_set (own_set (own_set o1 (fun k hk e => n1 (by rw [hk, e])) 0 (.int .i64 W)) (fun k hk e => n1 (by rw [hk, e])) 1 (.int .i64 H)) (fun k hk e => n1 (by rw [hk, e])) 2 (.slice Bm nm cm2)) (fun k hk e => n1 (by rw [hk, e])) 3 (.slice Bc nc cc2)) (fun k hk e => n1 (by rw [hk, e])) 4 (.slice Bp np cp2)) (fun k hk e => n1 (by rw [hk, e])) 5 (.slice none 0 0))
       have po2 := Lib.hid (own_set (own_set (own_set (own_set (own_set (own_set o2 (fun k hk e => n2 (by rw [hk, e])) 0 (.int .i64 W)) (fun k hk e => n2 (by rw [hk, e])) 1 (.int .i64 H)) (fun k hk e => n2 (by rw [hk, e])) 2 (.slice Bm nm cm2)) (fun k hk e => n2 (by rw [hk, e])) 3 (.slice Bc nc cc2)) (fun k hk e => n2 (by rw [hk, e])) 4 (.slice Bp np cp2)) (fun k hk e => n2 (by rw [hk, e])) 5 (.slice none 0 0))
       have po3 := Lib.hid (own_set (own_set (own_set (own_set (own_set (own_set o3 (fun k hk e => n3 (by rw [hk, e])) 0 (.int .i64 W)) (fun k hk e => n3 (by rw [hk, e])) 1 (.int .i64 H)) (fun k hk e => n3 (by rw [hk, e])) 2 (.slice Bm nm cm2)) (fun k hk e => n3 (by rw [hk, e])) 3 (.slice Bc nc cc2)) (fun k hk e => n3 (by rw [hk, e])) 4 (.slice Bp np cp2)) (fun k hk e => n3 (by rw [hk, e])) 5 (.slice none 0 0))
       clear n1 n2 n3 o1 o2 o3
       rw [hx, hz] at hK ⊢
       go_simp
       exact hK undef _ ⟨hbb.out, g, Bm, cm2, Bc, cc2, Bp, cp2, hx4, by simpa using hkk.out, hgw, hx0, hx1, hx2, Lib.hid ⟨po1.out, po2.out, po3.out⟩⟩
     | succ j =>
      simp at ht
 case hF =>
  intro j x WN hj hst o ho K hK
  have hj : j ≤ 4 := hj
  cases ho
  rcases (show j = 0 ∨ j = 1 ∨ j = 2 ∨ j = 3 ∨ j = 4 by omega) with rfl | rfl | rfl | rfl | rfl
  ·obtain ⟨a0, a1, a2, a3, a4, a5, hbl⟩ := hst
   go_simp
   exact hK (.pointer (some ⟨WN.heap.size, 0, none⟩)) _ ⟨al_c a0 (.cells #[.int .i64 0, .int .i64 0, .slice none 0 0, .slice none 0 0, .slice none 0 0, .slice none 0 0] 29), al_c a1 (.cells #[.int .i64 0, .int .i64 0, .slice none 0 0, .slice none 0 0, .slice none 0 0, .slice none 0 0] 29), al_c a2 (.cells #[.int .i64 0, .int .i64 0, .slice none 0 0, .slice none 0 0, .slice none 0 0, .slice none 0 0] 29), al_c a3 (.cells #[.int .i64 0, .int .i64 0, .slice none 0 0, .slice none 0 0, .slice none 0 0, .slice none 0 0] 29), al_c a4 (.cells #[.int .i64 0, .int .i64 0, .slice none 0 0, .slice none 0 0, .slice none 0 0, .slice none 0 0] 29), al_c a5 (.cells #[.int .i64 0, .int .i64 0, .slice none 0 0, .slice none 0 0, .slice none 0 0, .slice none 0 0] 29), hbl.alloc hbl.size (.cells #[.int .i64 0, .int .i64 0, .slice none 0 0, .slice none 0 0, .slice none 0 0, .slice none 0 0] 29), ⟨WN.heap.size, Lib.hid rfl, heap_alloc_new WN (.cells #[.int .i64 0, .int .i64 0, .slice none 0 0, .slice none 0 0, .slice none 0 0, .slice none 0 0] 29), Lib.hid hbl.size⟩⟩
  ·obtain ⟨a0, a1, a2, a3, a4, a5, hbl, Bm, cm2, Bc, cc2, hx0, hr0⟩ := hst
   go_simp
   exact hK (.pointer (some ⟨WN.heap.size, 0, none⟩)) _ ⟨al_c a0 (.cells #[.int .i64 0, .int .i64 0, .slice none 0 0, .slice none 0 0, .slice none 0 0, .slice none 0 0] 29), al_c a1 (.cells #[.int .i64 0, .int .i64 0, .slice none 0 0, .slice none 0 0, .slice none 0 0, .slice none 0 0] 29), al_c a2 (.cells #[.int .i64 0, .int .i64 0, .slice none 0 0, .slice none 0 0, .slice none 0 0, .slice none 0 0] 29), al_c a3 (.cells #[.int .i64 0, .int .i64 0, .slice none 0 0, .slice none 0 0, .slice none 0 0, .slice none 0 0] 29), al_c a4 (.cells #[.int .i64 0, .int .i64 0, .slice none 0 0, .slice none 0 0, .slice none 0 0, .slice none 0 0] 29), al_c a5 (.cells #[.int .i64 0, .int .i64 0, .slice none 0 0, .slice none 0 0, .slice none 0 0, .slice none 0 0] 29), hbl.alloc hbl.size (.cells #[.int .i64 0, .int .i64 0, .slice none 0 0, .slice none 0 0, .slice none 0 0, .slice none 0 0] 29), ⟨WN.heap.size, Lib.hid rfl, heap_alloc_new WN (.cells #[.int .i64 0, .int .i64 0, .slice none 0 0, .slice none 0 0, .slice none 0 0, .slice none 0 0] 29), Lib.hid hbl.size⟩, Bm, cm2, Bc, cc2, hx0, Lib.hid ⟨od hr0.out.1 (below_new WN (.cells #[.int .i64 0, .int .i64 0, .slice none 0 0, .slice none 0 0, .slice none 0 0, .slice none 0 0] 29)), od hr0.out.2 (below_new WN (.cells #[.int .i64 0, .int .i64 0, .slice none 0 0, .slice none 0 0, .slice none 0 0, .slice none 0 0] 29))⟩⟩
  ·obtain ⟨a0, a1, a2, a3, a4, a5, hbl, Bm, cm2, Bc, cc2, hx0, hr0, Bp, cp2, hx1, hr1⟩ := hst
   go_simp
   exact hK (.pointer (some ⟨WN.heap.size, 0, none⟩)) _ ⟨al_c a0 (.cells #[.int .i64 0, .int .i64 0, .slice none 0 0, .slice none 0 0, .slice none 0 0, .slice none 0 0] 29), al_c a1 (.cells #[.int .i64 0, .int .i64 0, .slice none 0 0, .slice none 0 0, .slice none 0 0, .slice none 0 0] 29), al_c a2 (.cells #[.int .i64 0, .int .i64 0, .slice none 0 0, .slice none 0 0, .slice none 0 0, .slice none 0 0] 29), al_c a3 (.cells #[.int .i64 0, .int .i64 0, .slice none 0 0, .slice none 0 0, .slice none 0 0, .slice none 0 0] 29), al_c a4 (.cells #[.int .i64 0, .int .i64 0, .slice none 0 0, .slice none 0 0, .slice none 0 0, .slice none 0 0] 29), al_c a5 (.cells #[.int .i64 0, .int .i64 0, .slice none 0 0, .slice none 0 0, .slice none 0 0, .slice none 0 0] 29), hbl.alloc hbl.size (.cells #[.int .i64 0, .int .i64 0, .slice none 0 0, .slice none 0 0, .slice none 0 0, .slice none 0 0] 29), ⟨WN.heap.size, Lib.hid rfl, heap_alloc_new WN (.cells #[.int .i64 0, .int .i64 0, .slice none 0 0, .slice none 0 0, .slice none 0 0, .slice none 0 0] 29), Lib.hid hbl.size⟩, Bm, cm2, Bc, cc2, hx0, Lib.hid ⟨od hr0.out.1 (below_new WN (.cells #[.int .i64 0, .int .i64 0, .slice none 0 0, .slice none 0 0, .slice none 0 0, .slice none 0 0] 29)), od hr0.out.2 (below_new WN (.cells #[.int .i64 0, .int .i64 0, .slice none 0 0, .slice none 0 0, .slice none 0 0, .slice none 0 0] 29))⟩, Bp, cp2, hx1, Lib.hid (od hr1.out (below_new WN (.cells #[.int .i64 0, .int .i64 0, .slice none 0 0, .slice none 0 0, .slice none 0 0, .slice none 0 0] 29)))⟩
  ·obtain ⟨a0, a1, a2, a3, a4, a5, hbl, Bm, cm2, Bc, cc2, hx0, hr0, Bp, cp2, hx1, hr1, hx2⟩ := hst
   go_simp
   exact hK (.pointer (some ⟨WN.heap.size, 0, none⟩)) _ ⟨al_c a0 (.cells #[.int .i64 0, .int .i64 0, .slice none 0 0, .slice none 0 0, .slice none 0 0, .slice none 0 0] 29), al_c a1 (.cells #[.int .i64 0, .int .i64 0, .slice none 0 0, .slice none 0 0, .slice none 0 0, .slice none 0 0] 29), al_c a2 (.cells #[.int .i64 0, .int .i64 0, .slice none 0 0, .slice none 0 0, .slice none 0 0, .slice none 0 0] 29), al_c a3 (.cells #[.int .i64 0, .int .i64 0, .slice none 0 0, .slice none 0 0, .slice none 0 0, .slice none 0 0] 29), al_c a4 (.cells #[.int .i64 0, .int .i64 0, .slice none 0 0, .slice none 0 0, .slice none 0 0, .slice none 0 0] 29), al_c a5 (.cells #[.int .i64 0, .int .i64 0, .slice none 0 0, .slice none 0 0, .slice none 0 0, .slice none 0 0] 29), hbl.alloc hbl.size (.cells #[.int .i64 0, .int .i64 0, .slice none 0 0, .slice none 0 0, .slice none 0 0, .slice none 0 0] 29), ⟨WN.heap.size, Lib.hid rfl, heap_alloc_new WN (.cells #[.int .i64 0, .int .i64 0, .slice none 0 0, .slice none 0 0, .slice none 0 0, .slice none 0 0] 29), Lib.hid hbl.size⟩, Bm, cm2, Bc, cc2, hx0, Lib.hid ⟨od hr0.out.1 (below_new WN (.cells #[.int .i64 0, .int .i64 0, .slice none 0 0, .slice none 0 0, .slice none 0 0, .slice none 0 0] 29)), od hr0.out.2 (below_new WN (.cells #[.int .i64 0, .int .i64 0, .slice none 0 0, .slice none 0 0, .slice none 0 0, .slice none 0 0] 29))⟩, Bp, cp2, hx1, Lib.hid (od hr1.out (below_new WN (.cells #[.int .i64 0, .int .i64 0, .slice none 0 0, .slice none 0 0, .slice none 0 0, .slice none 0 0] 29))), hx2⟩
  ·exact hst.elim
 case he =>
  obtain ⟨hbl, g, Bm, cm2, Bc, cc2, Bp, cp2, hx4, hkg, hgw, hx0, hx1, hx2, hr⟩ := hst
  have e0 := hx0.out
  have e1 := hx1.out
  have e2 := hx2.out
  have e4 := hx4.out
  rw [e0, e1, e2, e4]
  have HI0 : Hid (SoI w w1 g W H (.slice Bm nm cm2) (.slice Bc nc cc2) (.slice Bp np cp2) (.slice none 0 0) (.slice none 0 0) nm nc np mask cs ms (sts.take 0) WN) := Lib.hid ⟨hbl, hgw.out, hkg, hr.out.1, hr.out.2.1, hr.out.2.2, by rw [List.take_zero]; exact StkW.nil _ _⟩
  have HGW := hgw
  clear e0 e1 e2 e4 hx0 hx1 hx2 hx4 hkg hgw hr hbl a0 a1 a2 a3 a4
  go_wp2_with fail
  go_loopw [4] (fun x wr => ∃ (i : Nat) (S : Value), i ≤ sts.length ∧ x = .int .i64 i ∧ Hid (SoI w w1 g W H (.slice Bm nm cm2) (.slice Bc nc cc2) (.slice Bp np cp2) S S nm nc np mask cs ms (sts.take i) wr)) (fun x _ => sts.length - (intOf x).toNat)
  case atStart => exact ⟨0, .slice none 0 0, by omega, rfl, HI0⟩
  case round =>
   clear HI0
   obtain ⟨i, S, hi, rfl, hI⟩ := hrel
   replace a5 := sd a5 hI.out.bel
   have gc := hI.out.cell
   by_cases his : i < sts.length
   ·have hii : (i : Int) < (ns : Int) := by have := HNL.out; omega
    obtain ⟨s, hs⟩ : ∃ s, sts[i]? = some s := ⟨_, List.getElem?_eq_getElem his⟩
    have hR := HST.out.below HB1.out
    obtain ⟨b, off, A', c', hA, hbw, hrd, ⟨hz1, hz2, hz3⟩, f0, f1, f2, f3⟩ := hR.at3 hs
    subst hA
    replace hrd := hrd.keep hI.out.bel (Nat.le_refl _)
    replace f0 := sd f0 hI.out.bel
    replace f1 := sd f1 hI.out.bel
    replace f2 := sd f2 hI.out.bel
    replace f3 := sd f3 hI.out.bel
    have hb24 := HTS.out s (List.mem_of_getElem? hs)
    have htk : sts.take (i + 1) = sts.take i ++ [s] := by rw [List.take_add_one, hs]; rfl
    have htl : (sts.take i).length = i := by rw [List.length_take]; omega
    have HTK := Lib.hid htk
    have HTL := Lib.hid htl
    have HRD := Lib.hid hrd
    have HA := Lib.hid hz3
    have hsz1 := hI.out.bel.size
    clear hR hrd hz3 htk htl hs
    go_wp2_with fail
    refine rg_chn (fin := ?z2) [14, 15, 16, 17, 19] [[true, true, true, true, true, true, true, true, true, true, true, true, true, true, false, false, false, false, true, false], [true, true, true, true, true, true, true, true, false, false, false, false, false, false, false, false, false, false, true, false], [true, true, false, false, false, false, false, false, false, false, false, false, false, false, false, false, false, false, true, false], [true, true, false, false, false, false, false, false, false, false, false, false, false, false, false, false, false, false, true, false], [false, false, false, false, false, false, false, false, false, false, false, false, false, false, false, false, false, false, true, false], [false, false, false, false, false, false, false, false, false, false, false, false, false, false, false, false, false, false, false, false]] [[13, 12, 11, 9, 10, 8], [7, 14, 6, 13, 5, 12, 3, 4, 11, 2, 9, 10, 8], [15, 7, 14, 6, 13, 5, 12, 3, 4, 11, 2, 9, 10, 8], [1, 16, 0, 15, 7, 14, 6, 13, 5, 12, 3, 4, 11, 2, 9, 10, 8], [18, 17, 1, 16, 0, 15, 7, 14, 6, 13, 5, 12, 3, 4, 11, 2, 9, 10, 8]] (fun x => [.pointer (some ⟨g, 5, none⟩), S, .pointer (some ⟨w.heap.size, 5, none⟩), .slice (some ⟨b, off, none⟩) ns cS, .int .i64 (i : Int), .pointer (some ⟨b, off + i * 4, none⟩), .pointer (some ⟨b, off + i * 4, none⟩), .agg #[.int .i64 s.1.1, .int .i64 s.1.2.1, .int .i64 s.1.2.2], .pointer (some ⟨w.heap.size, 5, none⟩), .slice (some ⟨b, off, none⟩) ns cS, .int .i64 (i : Int), .pointer (some ⟨b, off + i * 4, none⟩), .pointer (some ⟨b, off + i * 4 + 3, none⟩), .slice A' s.2.length c', (x 0), (x 1), (x 2), (x 3), .pointer (some ⟨g, 5, none⟩), (x 4)]) (fun j x WN => match j with | 0 => WN.cell? ⟨b, off + i * 4, none⟩ = some (.int .i64 s.1.1) ∧ WN.cell? ⟨b, off + i * 4 + 1, none⟩ = some (.int .i64 s.1.2.1) ∧ WN.cell? ⟨b, off + i * 4 + 2, none⟩ = some (.int .i64 s.1.2.2) ∧ WN.cell? ⟨b, off + i * 4 + 3, none⟩ = some (.slice A' s.2.length c') ∧ WN.cell? ⟨w.heap.size, 5, none⟩ = some (.slice (some ⟨b, off, none⟩) ns cS) ∧ WN.cell? ⟨g, 5, none⟩ = some S ∧ Below wr.heap.size wr WN ∧ Hid (SoI w w1 g W H (.slice Bm nm cm2) (.slice Bc nc cc2) (.slice Bp np cp2) S S nm nc np mask cs ms (sts.take i) WN) | 1 => WN.cell? ⟨b, off + i * 4, none⟩ = some (.int .i64 s.1.1) ∧ WN.cell? ⟨b, off + i * 4 + 1, none⟩ = some (.int .i64 s.1.2.1) ∧ WN.cell? ⟨b, off + i * 4 + 2, none⟩ = some (.int .i64 s.1.2.2) ∧ WN.cell? ⟨b, off + i * 4 + 3, none⟩ = some (.slice A' s.2.length c') ∧ WN.cell? ⟨w.heap.size, 5, none⟩ = some (.slice (some ⟨b, off, none⟩) ns cS) ∧ WN.cell? ⟨g, 5, none⟩ = some S ∧ Below wr.heap.size wr WN ∧ Hid (SoI w w1 g W H (.slice Bm nm cm2) (.slice Bc nc cc2) (.slice Bp np cp2) S S nm nc np mask cs ms (sts.take i) WN) ∧ ∃ A2 c2, Hid (x 0 = .slice A2 s.2.length c2) ∧ Hid (WN.ownsRow w1.heap.size 44 3 (.slice A2 s.2.length c2) s.2.length (tcT s.2)) | 2 => WN.cell? ⟨b, off + i * 4, none⟩ = some (.int .i64 s.1.1) ∧ WN.cell? ⟨b, off + i * 4 + 1, none⟩ = some (.int .i64 s.1.2.1) ∧ WN.cell? ⟨b, off + i * 4 + 2, none⟩ = some (.int .i64 s.1.2.2) ∧ WN.cell? ⟨b, off + i * 4 + 3, none⟩ = some (.slice A' s.2.length c') ∧ WN.cell? ⟨w.heap.size, 5, none⟩ = some (.slice (some ⟨b, off, none⟩) ns cS) ∧ WN.cell? ⟨g, 5, none⟩ = some S ∧ Below wr.heap.size wr WN ∧ Hid (SoI w w1 g W H (.slice Bm nm cm2) (.slice Bc nc cc2) (.slice Bp np cp2) S S nm nc np mask cs ms (sts.take i) WN) ∧ ∃ A2 c2, Hid (x 0 = .slice A2 s.2.length c2) ∧ Hid (WN.ownsRow w1.heap.size 44 3 (.slice A2 s.2.length c2) s.2.length (tcT s.2)) ∧ Hid (x 1 = .agg #[.int .i64 s.1.1, .int .i64 s.1.2.1, .int .i64 s.1.2.2, .slice A2 s.2.length c2]) | 3 => WN.cell? ⟨b, off + i * 4, none⟩ = some (.int .i64 s.1.1) ∧ WN.cell? ⟨b, off + i * 4 + 1, none⟩ = some (.int .i64 s.1.2.1) ∧ WN.cell? ⟨b, off + i * 4 + 2, none⟩ = some (.int .i64 s.1.2.2) ∧ WN.cell? ⟨b, off + i * 4 + 3, none⟩ = some (.slice A' s.2.length c') ∧ WN.cell? ⟨w.heap.size, 5, none⟩ = some (.slice (some ⟨b, off, none⟩) ns cS) ∧ WN.cell? ⟨g, 5, none⟩ = some S ∧ Below wr.heap.size wr WN ∧ Hid (SoI w w1 g W H (.slice Bm nm cm2) (.slice Bc nc cc2) (.slice Bp np cp2) S S nm nc np mask cs ms (sts.take i) WN) ∧ ∃ A2 c2, Hid (x 0 = .slice A2 s.2.length c2) ∧ Hid (WN.ownsRow w1.heap.size 44 3 (.slice A2 s.2.length c2) s.2.length (tcT s.2)) ∧ ∃ h, Hid (x 2 = .slice (some ⟨h, 0, none⟩) 1 1) ∧ WN.heap[h]? = some (.cells #[.int .i64 s.1.1, .int .i64 s.1.2.1, .int .i64 s.1.2.2, .slice A2 s.2.length c2] 54 (0, 0)) | 4 => Below w1.heap.size w1 WN ∧ Hid (SoI w w1 g W H (.slice Bm nm cm2) (.slice Bc nc cc2) (.slice Bp np cp2) S (x 3) nm nc np mask cs ms (sts.take (i + 1)) WN) | _ => Below w1.heap.size w1 WN ∧ Hid (SoI w w1 g W H (.slice Bm nm cm2) (.slice Bc nc cc2) (.slice Bp np cp2) (x 3) (x 3) nm nc np mask cs ms (sts.take (i + 1)) WN)) ?hf (by kernel_rfl) (by kernel_rfl) (fun _ => rfl) (by kernel_rfl) ?hv ⟨f0, f1, f2, f3, a5, gc, (Below.refl _ _).drew, Lib.hid (hI.out.below (Below.refl _ _).drew)⟩ ?hA ?hT (fun x WN hst => ?he)
    case hf => intro x; simp only [putOps, Act.put, List.setIfInBounds_toArray, List.set_cons_succ, List.set_cons_zero]; exact rfl
    case hv =>
     intro x j t v h
     cases j with
     | zero => cases h; rfl
     | succ j =>
      cases j with
      | zero => cases h; rfl
      | succ j =>
       cases j with
       | zero => cases h; rfl
       | succ j =>
        cases j with
        | zero => cases h; rfl
        | succ j =>
         cases j with
         | zero => cases h; rfl
         | succ j =>
          simp at h
    case hA =>
     intro j x WN hj hst
     have hj : j ≤ 5 := hj
     rcases (show j = 0 ∨ j = 1 ∨ j = 2 ∨ j = 3 ∨ j = 4 ∨ j = 5 by omega) with rfl | rfl | rfl | rfl | rfl | rfl
     ·have HST := Lib.hid hst
      obtain ⟨f0, f1, f2, f3, a5, gc, hbl, hI⟩ := hst
      iterate 15 refine ⟨?_, fun K hK => ?_⟩
      ·trivial
      all_goals try (go_simp; exact hK _ HST.out; done)
     ·have HST := Lib.hid hst
      obtain ⟨f0, f1, f2, f3, a5, gc, hbl, hI, A2, c2, hx0, ho⟩ := hst
      iterate 9 refine ⟨?_, fun K hK => ?_⟩
      ·trivial
      all_goals try (go_simp; exact hK _ HST.out; done)
     ·have HST := Lib.hid hst
      obtain ⟨f0, f1, f2, f3, a5, gc, hbl, hI, A2, c2, hx0, ho, hx1⟩ := hst
      iterate 3 refine ⟨?_, fun K hK => ?_⟩
      ·trivial
      all_goals try (go_simp; exact hK _ HST.out; done)
     ·have HST := Lib.hid hst
      obtain ⟨f0, f1, f2, f3, a5, gc, hbl, hI, A2, c2, hx0, ho, h, hx2, hkh⟩ := hst
      iterate 3 refine ⟨?_, fun K hK => ?_⟩
      ·trivial
      all_goals try (go_simp; exact hK _ HST.out; done)
     ·have HST := Lib.hid hst
      obtain ⟨hbl, hI⟩ := hst
      iterate 1 refine ⟨?_, fun K hK => ?_⟩
      ·trivial
      all_goals try (go_simp; exact hK _ HST.out; done)
     ·trivial
    case hT =>
     intro j t x WN ht hst o ho K hK
     cases j with
     | zero =>
      cases ht; cases ho
      obtain ⟨f0, f1, f2, f3, a5, gc, hbl, hI⟩ := hst
      have hs2 := hI.out.bel.size
      refine step_copyA Tryz.underlying52 tri_info rfl (by decide) rfl _ _ rfl rfl A' s.2.length c' (tcT s.2) rfl HA.out (HRD.out.below hbl) (tcT_ones s.2) hb24 (by omega) (fun vv ww h1 h2 => ?_)
      obtain ⟨A2, c2, hv, _⟩ := own_slice h1
      subst hv
      exact hK _ _ ⟨sd f0 h2, sd f1 h2, sd f2 h2, sd f3 h2, sd a5 h2, sd gc h2, stay_b hbl h2, Lib.hid (hI.out.below h2), A2, c2, Lib.hid rfl, Lib.hid (own_mono h1 hs2)⟩
     | succ j =>
      cases j with
      | zero =>
       cases ht; cases ho
       obtain ⟨f0, f1, f2, f3, a5, gc, hbl, hI, A2, c2, hx0, ho⟩ := hst
       have hx := hx0.out
       rw [hx] at hK ⊢
       go_simp
       exact hK _ _ ⟨f0, f1, f2, f3, a5, gc, hbl, hI, A2, c2, hx0, ho, Lib.hid rfl⟩
      | succ j =>
       cases j with
       | zero =>
        cases ht; cases ho
        obtain ⟨f0, f1, f2, f3, a5, gc, hbl, hI, A2, c2, hx0, ho, hx1⟩ := hst
        have hx := hx1.out
        rw [hx] at hK ⊢
        go_simp
        have hbn := below_new WN (.cells #[.int .i64 s.1.1, .int .i64 s.1.2.1, .int .i64 s.1.2.2, .slice A2 s.2.length c2] 54)
        exact hK (.slice (some ⟨WN.heap.size, 0, none⟩) 1 1) _ ⟨sd f0 hbn, sd f1 hbn, sd f2 hbn, sd f3 hbn, sd a5 hbn, sd gc hbn, stay_b hbl hbn, Lib.hid (hI.out.below hbn), A2, c2, hx0, Lib.hid (od ho.out hbn), WN.heap.size, Lib.hid rfl, heap_alloc_new WN (.cells #[.int .i64 s.1.1, .int .i64 s.1.2.1, .int .i64 s.1.2.2, .slice A2 s.2.length c2] 54)⟩
       | succ j =>
        cases j with
        | zero =>
         cases ht; cases ho
         obtain ⟨f0, f1, f2, f3, a5, gc, hbl, hI, A2, c2, hx0, ho, h, hx2, hkh⟩ := hst
         have hx := hx2.out
         obtain ⟨xs, hown, hpush⟩ := hI.out.push (s := s) ho.out
         have hs2 := hI.out.bel.size
         rw [hx] at hK ⊢
         refine step_app2 Tryz.underlying27 stack_info rfl (by decide) rfl _ _ rfl w1.heap.size S (sts.take i).length xs [.int .i64 s.1.1, .int .i64 s.1.2.1, .int .i64 s.1.2.2, .slice A2 s.2.length c2] rfl hown hs2 1 h rfl hkh rfl (stk_one _ _ _ _ _ _) (by rw [HTL.out]; omega) (by rw [HTL.out]; omega) (fun vv ww o1 o2 o3 => ?_)
         have hI2 := hpush vv ww o1 o2 o3
         rw [← HTK.out] at hI2
         exact hK _ _ ⟨hI2.bel, Lib.hid hI2⟩
        | succ j =>
         cases j with
         | zero =>
          cases ht; cases ho
          obtain ⟨hbl, hI⟩ := hst
          obtain ⟨A9, n9, c9, hx9⟩ : ∃ A n c, x 3 = .slice A n c := by obtain ⟨A, c, h⟩ := hI.out.stk.sl; exact ⟨A, _, c, h⟩
          rw [hx9] at hI hK ⊢
          have hg := hI.out.blk
          have z5 := hI.out.cell
          have zf := frozen_of_blk hg
          have zl := blk_lt hg
          go_simp
          refine hK undef _ ⟨hI.out.store.bel, ?_⟩
          rw [show updV x (0 + 1 + 1 + 1 + 1) undef 3 = x 3 from rfl, hx9]
          exact Lib.hid hI.out.store
         | succ j =>
          simp at ht
    case he =>
     obtain ⟨hbl, hI⟩ := hst
     have h3 := hI
     obtain ⟨T', hT'⟩ : ∃ T', T' = x 3 := ⟨_, rfl⟩
     rw [← hT'] at h3
     clear hT' hI
     go_wp2
     go_roundw
     case rel => exact ⟨i + 1, T', by omega, by go_num, h3⟩
     case measure => simp [intOf]; omega
   ·obtain rfl : i = sts.length := by omega
    have hnl : ¬ ((sts.length : Int) < (ns : Int)) := by have := HNL.out; omega
    rw [List.take_length] at hI
    obtain ⟨As2, cS2, hS2⟩ := hI.out.stk.sl
    subst hS2
    have kr := blk_below KR.out hI.out.bel (blk_lt KR.out)
    have hgk := hI.out.blk
    have hne : w.heap.size + 1 < w1.heap.size := blk_lt KR.out
    have z0 := cell_of_blk hgk 0
    have z1 := cell_of_blk hgk 1
    have z2 := cell_of_blk hgk 2
    have z3 := cell_of_blk hgk 3
    have z4 := cell_of_blk hgk 4
    have z5 := cell_of_blk hgk 5
    have y0 := cell_of_blk kr 0
    have y1 := cell_of_blk kr 1
    have y2 := cell_of_blk kr 2
    have y3 := cell_of_blk kr 3
    have y4 := cell_of_blk kr 4
    have y5 := cell_of_blk kr 5
    simp only [List.getElem?_toArray, List.getElem?_cons_zero, List.getElem?_cons_succ] at z0 z1 z2 z3 z4 z5 y0 y1 y2 y3 y4 y5
    have yf := frozen_of_blk kr
    have yl := blk_lt kr
    clear hgk
    go_wp2_with fail
    have hbW : Below w.heap.size w wr := HB1.out.trans (hI.out.bel.mono HB1.out.size)
    have hkF := blk_set6 kr (.int .i64 W) (.int .i64 H) (.slice Bm nm cm2) (.slice Bc nc cc2) (.slice Bp np cp2) (.slice As2 sts.length cS2)
    have o1 := own_set6 hI.out.r1 kr (by decide) (.int .i64 W) (.int .i64 H) (.slice Bm nm cm2) (.slice Bc nc cc2) (.slice Bp np cp2) (.slice As2 sts.length cS2)
    have o2 := own_set6 hI.out.r2 kr (by decide) (.int .i64 W) (.int .i64 H) (.slice Bm nm cm2) (.slice Bc nc cc2) (.slice Bp np cp2) (.slice As2 sts.length cS2)
    have o3 := own_set6 hI.out.r3 kr (by decide) (.int .i64 W) (.int .i64 H) (.slice Bm nm cm2) (.slice Bc nc cc2) (.slice Bp np cp2) (.slice As2 sts.length cS2)
    have o4 := hI.out.stk.set6 kr (by decide) (by decide) (.int .i64 W) (.int .i64 H) (.slice Bm nm cm2) (.slice Bc nc cc2) (.slice Bp np cp2) (.slice As2 sts.length cS2)
    have hbF := below_set6 hbW (Nat.le_succ w.heap.size) (.int .i64 W) (.int .i64 H) (.slice Bm nm cm2) (.slice Bc nc cc2) (.slice Bp np cp2) (.slice As2 sts.length cS2)
    generalize ((((((wr.setCell ⟨w.heap.size + 1, 0, none⟩ (.int .i64 W)).setCell ⟨w.heap.size + 1, 1, none⟩ (.int .i64 H)).setCell ⟨w.heap.size + 1, 2, none⟩ (.slice Bm nm cm2)).setCell ⟨w.heap.size + 1, 3, none⟩ (.slice Bc nc cc2)).setCell ⟨w.heap.size + 1, 4, none⟩ (.slice Bp np cp2)).setCell ⟨w.heap.size + 1, 5, none⟩ (.slice As2 sts.length cS2)) = wF at hkF o1 o2 o3 o4 hbF ⊢
    have j0 := cell_of_blk hkF 0
    have j1 := cell_of_blk hkF 1
    have j2 := cell_of_blk hkF 2
    have j3 := cell_of_blk hkF 3
    have j4 := cell_of_blk hkF 4
    have j5 := cell_of_blk hkF 5
    simp only [List.getElem?_toArray, List.getElem?_cons_zero, List.getElem?_cons_succ] at j0 j1 j2 j3 j4 j5
    have hz : ∀ s ∈ sts, s.2.length ≤ 140737488351232 := fun s hs => by have := HTS.out s hs; omega
    have hn48 : sts.length * 48 ≤ 140737488351232 := by have := HNL.out; omega
    have hR := o4.rd rfl (fun s hs => HST.out.ok s hs) hz (by omega)
    refine bodyPost_ret (v := .agg #[.int .i64 W, .int .i64 H, .slice Bm nm cm2, .slice Bc nc cc2, .slice Bp np cp2, .slice As2 sts.length cS2]) (by simp [results, Tryz.results5, go_sem, j0, j1, j2, j3, j4, j5]) rfl ⟨Bm, cm2, Bc, cc2, Bp, cp2, As2, ⟨cS2, by rw [HNL.out]⟩, Rd.of_own o1, Rd.of_own o2, Rd.of_own o3, (by rw [HNL.out]; exact hR), hbF⟩
end
end Go.Proofs.YtpkjekedgodccaaGreatDoor
