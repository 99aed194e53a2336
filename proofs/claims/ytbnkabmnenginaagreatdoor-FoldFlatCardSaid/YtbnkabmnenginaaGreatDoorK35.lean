/- (*Pile).State. -/
import Derived.Test.YtbnkabmnenginaaGreatDoorK34
namespace Go.Proofs.YtbnkabmnenginaaGreatDoor
set_option linter.unusedSimpArgs false
set_option linter.unusedVariables false
section
open Go.RowKit Go.Maps
set_option pp.deepTerms true in
set_option pp.maxSteps 10000000 in
set_option maxRecDepth 100000 in
set_option maxHeartbeats 12800000 in
theorem state_any (xb pb nb kb W H mb B base n : Nat) (Am Ac Ap : Option Addr) (nm cm nc cc np cp ct gt : Nat) (mask : List Int) (cs : List C5) (ms : List V6) (va vl : Value) (L : List T3) (mn mk : Nat) (fk : E4 → Option Int) (f : T3 → Option Value) (G : T3 → List Nat) (w : World)
  (hp : PapI w pb nb kb W H (.slice Am nm cm) (.slice Ac nc cc) (.slice (some ⟨gt, 0, none⟩) L.length ct) L mn mk fk) (ho : w.ownsRow B 59 3 (.slice (some ⟨gt, 0, none⟩) L.length ct) L.length (tcT L)) (hx : PilB w xb pb (.slice Ap np cp) va vl mb) (hM : PilM w base mb n f G)
  (hm : Rd w 1 Am nm (vis mask)) (hc : Rd w 5 Ac nc (ccs cs)) (hms : Rd w 6 Ap np (mcs ms)) (hnm : nm * 8 ≤ 140737488351232) (hnc : nc * 40 ≤ 140737488351232) (hnp : np * 48 ≤ 140737488351232) (hAm : Am = none → cm = 0) (hAc : Ac = none → cc = 0) (hAp : Ap = none → cp = 0)
  (hLl : L.length ≤ 1000) (hG : ∀ x, ∀ i ∈ G x, i < L.length) (hGl : ∀ x, (G x).length ≤ 1000) (hK : ∀ ss : List T3, ss.Nodup → (∀ x ∈ ss, (f x).isSome = true) → ss.length ≤ 1000) :
  Calls Tryz.prog 14 #[.pointer (some ⟨xb, 0, none⟩)] w fun e w' => ∃ Bm cm' Bc cc' Bp cp' Bs cS ss, e = .returned (.agg #[.int .i64 W, .int .i64 H, .slice Bm nm cm', .slice Bc nc cc', .slice Bp np cp', .slice Bs ss.length cS]) ∧ w'.ownsRow w.heap.size 3 1 (.slice Bm nm cm') nm (vis mask) ∧ w'.ownsRow w.heap.size 52 5 (.slice Bc nc cc') nc (ccs cs) ∧ w'.ownsRow w.heap.size 57 6 (.slice Bp np cp') np (mcs ms) ∧ StkW w' w.heap.size (.slice Bs ss.length cS) (stkOf L G (srtT ss)) ∧ ss.Nodup ∧ (∀ x, x ∈ ss ↔ (f x).isSome = true) ∧ Below w.heap.size w w' := by
 have hb0 := below_new w (.cells #[.int .i64 0, .int .i64 0, .slice none 0 0, .slice none 0 0, .slice none 0 0, .slice none 0 0] 29)
 have kr := heap_alloc_new w (.cells #[.int .i64 0, .int .i64 0, .slice none 0 0, .slice none 0 0, .slice none 0 0, .slice none 0 0] 29)
 have cN := fun (W' : World) (hb : Below w.heap.size w W') => copied_any W H Am Ac nm cm nc cc mask cs W' (hm.below hb) (hc.below hb) hnm hnc hAm hAc
 have cM := fun (W' : World) (hb : Below w.heap.size w W') => cloneN_any Ap np cp ms W' (hms.below hb) hAp hnp
 have CN := Lib.hid cN
 have CM := Lib.hid cM
 have HP := Lib.hid hp
 have HO := Lib.hid ho
 have HX := Lib.hid hx
 have HM := Lib.hid hM
 have HG := Lib.hid hG
 have HGL := Lib.hid hGl
 have HK := Lib.hid hK
 have a0 := sd hx.c0 hb0
 have a1 := sd hx.c1 hb0
 have b0 : (w.alloc (.cells #[.int .i64 0, .int .i64 0, .slice none 0 0, .slice none 0 0, .slice none 0 0, .slice none 0 0] 29)).cell? ⟨pb, 0, none⟩ = some (.int .i64 W) := sd ((cell_of_blk hp.blk 0).trans rfl) hb0
 have b1 : (w.alloc (.cells #[.int .i64 0, .int .i64 0, .slice none 0 0, .slice none 0 0, .slice none 0 0, .slice none 0 0] 29)).cell? ⟨pb, 1, none⟩ = some (.int .i64 H) := sd ((cell_of_blk hp.blk 1).trans rfl) hb0
 have b2 : (w.alloc (.cells #[.int .i64 0, .int .i64 0, .slice none 0 0, .slice none 0 0, .slice none 0 0, .slice none 0 0] 29)).cell? ⟨pb, 2, none⟩ = some (.slice Am nm cm) := sd ((cell_of_blk hp.blk 2).trans rfl) hb0
 have b3 : (w.alloc (.cells #[.int .i64 0, .int .i64 0, .slice none 0 0, .slice none 0 0, .slice none 0 0, .slice none 0 0] 29)).cell? ⟨pb, 3, none⟩ = some (.slice Ac nc cc) := sd ((cell_of_blk hp.blk 3).trans rfl) hb0
 clear cN cM hp ho hx hM hG hGl hK hm hc hms hAm hAc hAp hnm hnc hnp
 go_enter Tryz.func14, Tryz.ntmps14
 go_wp2_with fail
 have KR := Lib.hid kr
 have HB1 := Lib.hid hb0
 clear kr hb0
 generalize w.alloc (.cells #[.int .i64 0, .int .i64 0, .slice none 0 0, .slice none 0 0, .slice none 0 0, .slice none 0 0] 29) = w1 at a0 a1 b0 b1 b2 b3 KR HB1 ⊢
 refine rg_flo (fin := ?z1) [7, 12, 13, 15] 14 [[true, true, true, true, true, true, true, false, true, true, true, true, false, false, false, false], [false, false, false, false, false, false, false, false, true, true, true, true, false, false, false, false], [true, true, true, true, true, true, true, false, false, false, false, false, false, false, false, false], [false, false, false, false, false, false, false, false, false, false, false, false, false, false, false, false], [false, false, false, false, false, false, false, false, false, false, false, false, false, false, false, false]] [[true, true, true, true, true, true, true, false, true, true, true, true, false, false, false, false], [false, false, false, false, false, false, false, false, true, true, true, true, false, false, false, false], [true, true, true, true, true, true, true, false, false, false, false, false, false, false, false, false], [false, false, false, false, false, false, false, false, false, false, false, false, false, false, false, false], [false, false, false, false, false, false, false, false, false, false, false, false, false, false, false, false]] [[6, 5, 4, 3, 2, 1, 0], [11, 10, 9, 8], [7, 12, 6, 11, 5, 10, 4, 9, 3, 8, 2, 1, 0], [14, 13, 7, 12, 6, 11, 5, 10, 4, 9, 3, 8, 2, 1, 0]] [] (fun x => [.pointer (some ⟨xb, 0, none⟩), .pointer (some ⟨xb, 0, none⟩), .pointer (some ⟨xb, 0, none⟩), .pointer (some ⟨pb, 0, none⟩), .pointer (some ⟨pb, 0, none⟩), .pointer (some ⟨pb, 0, none⟩), .agg #[.int .i64 W, .int .i64 H, .slice Am nm cm, .slice Ac nc cc], (x 0), .pointer (some ⟨xb, 0, none⟩), .pointer (some ⟨xb, 0, none⟩), .pointer (some ⟨xb, 1, none⟩), .slice Ap np cp, (x 1), (x 2), (x 4), (x 3)]) (fun jS bS x WN => match jS, bS with | 0, false => WN.cell? ⟨xb, 0, none⟩ = some (.pointer (some ⟨pb, 0, none⟩)) ∧ WN.cell? ⟨xb, 1, none⟩ = some (.slice Ap np cp) ∧ WN.cell? ⟨pb, 0, none⟩ = some (.int .i64 W) ∧ WN.cell? ⟨pb, 1, none⟩ = some (.int .i64 H) ∧ WN.cell? ⟨pb, 2, none⟩ = some (.slice Am nm cm) ∧ WN.cell? ⟨pb, 3, none⟩ = some (.slice Ac nc cc) ∧ Below w1.heap.size w1 WN | 0, true => WN.cell? ⟨xb, 0, none⟩ = some (.pointer (some ⟨pb, 0, none⟩)) ∧ WN.cell? ⟨xb, 1, none⟩ = some (.slice Ap np cp) ∧ WN.cell? ⟨pb, 0, none⟩ = some (.int .i64 W) ∧ WN.cell? ⟨pb, 1, none⟩ = some (.int .i64 H) ∧ WN.cell? ⟨pb, 2, none⟩ = some (.slice Am nm cm) ∧ WN.cell? ⟨pb, 3, none⟩ = some (.slice Ac nc cc) ∧ Below w1.heap.size w1 WN ∧ (∃ g, Hid (x 4 = .pointer (some ⟨g, 0, none⟩)) ∧ WN.heap[g]? = some (.cells #[.int .i64 0, .int .i64 0, .slice none 0 0, .slice none 0 0, .slice none 0 0, .slice none 0 0] 29 (0, 0)) ∧ Hid (w1.heap.size ≤ g)) | 1, false => WN.cell? ⟨xb, 0, none⟩ = some (.pointer (some ⟨pb, 0, none⟩)) ∧ WN.cell? ⟨xb, 1, none⟩ = some (.slice Ap np cp) ∧ WN.cell? ⟨pb, 0, none⟩ = some (.int .i64 W) ∧ WN.cell? ⟨pb, 1, none⟩ = some (.int .i64 H) ∧ WN.cell? ⟨pb, 2, none⟩ = some (.slice Am nm cm) ∧ WN.cell? ⟨pb, 3, none⟩ = some (.slice Ac nc cc) ∧ Below w1.heap.size w1 WN ∧ ∃ Bm cm2 Bc cc2, Hid (x 0 = .agg #[.int .i64 W, .int .i64 H, .slice Bm nm cm2, .slice Bc nc cc2]) ∧ Hid (WN.ownsRow w.heap.size 3 1 (.slice Bm nm cm2) nm (vis mask) ∧ WN.ownsRow w.heap.size 52 5 (.slice Bc nc cc2) nc (ccs cs)) | 1, true => WN.cell? ⟨xb, 0, none⟩ = some (.pointer (some ⟨pb, 0, none⟩)) ∧ WN.cell? ⟨xb, 1, none⟩ = some (.slice Ap np cp) ∧ WN.cell? ⟨pb, 0, none⟩ = some (.int .i64 W) ∧ WN.cell? ⟨pb, 1, none⟩ = some (.int .i64 H) ∧ WN.cell? ⟨pb, 2, none⟩ = some (.slice Am nm cm) ∧ WN.cell? ⟨pb, 3, none⟩ = some (.slice Ac nc cc) ∧ Below w1.heap.size w1 WN ∧ (∃ g, Hid (x 4 = .pointer (some ⟨g, 0, none⟩)) ∧ WN.heap[g]? = some (.cells #[.int .i64 0, .int .i64 0, .slice none 0 0, .slice none 0 0, .slice none 0 0, .slice none 0 0] 29 (0, 0)) ∧ Hid (w1.heap.size ≤ g)) ∧ ∃ Bm cm2 Bc cc2, Hid (x 0 = .agg #[.int .i64 W, .int .i64 H, .slice Bm nm cm2, .slice Bc nc cc2]) ∧ Hid (WN.ownsRow w.heap.size 3 1 (.slice Bm nm cm2) nm (vis mask) ∧ WN.ownsRow w.heap.size 52 5 (.slice Bc nc cc2) nc (ccs cs)) | 2, false => WN.cell? ⟨xb, 0, none⟩ = some (.pointer (some ⟨pb, 0, none⟩)) ∧ WN.cell? ⟨xb, 1, none⟩ = some (.slice Ap np cp) ∧ WN.cell? ⟨pb, 0, none⟩ = some (.int .i64 W) ∧ WN.cell? ⟨pb, 1, none⟩ = some (.int .i64 H) ∧ WN.cell? ⟨pb, 2, none⟩ = some (.slice Am nm cm) ∧ WN.cell? ⟨pb, 3, none⟩ = some (.slice Ac nc cc) ∧ Below w1.heap.size w1 WN ∧ ∃ Bm cm2 Bc cc2, Hid (x 0 = .agg #[.int .i64 W, .int .i64 H, .slice Bm nm cm2, .slice Bc nc cc2]) ∧ Hid (WN.ownsRow w.heap.size 3 1 (.slice Bm nm cm2) nm (vis mask) ∧ WN.ownsRow w.heap.size 52 5 (.slice Bc nc cc2) nc (ccs cs)) ∧ ∃ Bp cp2, Hid (x 1 = .slice Bp np cp2) ∧ Hid (WN.ownsRow w.heap.size 57 6 (.slice Bp np cp2) np (mcs ms)) | 2, true => WN.cell? ⟨xb, 0, none⟩ = some (.pointer (some ⟨pb, 0, none⟩)) ∧ WN.cell? ⟨xb, 1, none⟩ = some (.slice Ap np cp) ∧ WN.cell? ⟨pb, 0, none⟩ = some (.int .i64 W) ∧ WN.cell? ⟨pb, 1, none⟩ = some (.int .i64 H) ∧ WN.cell? ⟨pb, 2, none⟩ = some (.slice Am nm cm) ∧ WN.cell? ⟨pb, 3, none⟩ = some (.slice Ac nc cc) ∧ Below w1.heap.size w1 WN ∧ (∃ g, Hid (x 4 = .pointer (some ⟨g, 0, none⟩)) ∧ WN.heap[g]? = some (.cells #[.int .i64 0, .int .i64 0, .slice none 0 0, .slice none 0 0, .slice none 0 0, .slice none 0 0] 29 (0, 0)) ∧ Hid (w1.heap.size ≤ g)) ∧ ∃ Bm cm2 Bc cc2, Hid (x 0 = .agg #[.int .i64 W, .int .i64 H, .slice Bm nm cm2, .slice Bc nc cc2]) ∧ Hid (WN.ownsRow w.heap.size 3 1 (.slice Bm nm cm2) nm (vis mask) ∧ WN.ownsRow w.heap.size 52 5 (.slice Bc nc cc2) nc (ccs cs)) ∧ ∃ Bp cp2, Hid (x 1 = .slice Bp np cp2) ∧ Hid (WN.ownsRow w.heap.size 57 6 (.slice Bp np cp2) np (mcs ms)) | 3, false => WN.cell? ⟨xb, 0, none⟩ = some (.pointer (some ⟨pb, 0, none⟩)) ∧ WN.cell? ⟨xb, 1, none⟩ = some (.slice Ap np cp) ∧ WN.cell? ⟨pb, 0, none⟩ = some (.int .i64 W) ∧ WN.cell? ⟨pb, 1, none⟩ = some (.int .i64 H) ∧ WN.cell? ⟨pb, 2, none⟩ = some (.slice Am nm cm) ∧ WN.cell? ⟨pb, 3, none⟩ = some (.slice Ac nc cc) ∧ Below w1.heap.size w1 WN ∧ ∃ Bm cm2 Bc cc2, Hid (x 0 = .agg #[.int .i64 W, .int .i64 H, .slice Bm nm cm2, .slice Bc nc cc2]) ∧ Hid (WN.ownsRow w.heap.size 3 1 (.slice Bm nm cm2) nm (vis mask) ∧ WN.ownsRow w.heap.size 52 5 (.slice Bc nc cc2) nc (ccs cs)) ∧ ∃ Bp cp2, Hid (x 1 = .slice Bp np cp2) ∧ Hid (WN.ownsRow w.heap.size 57 6 (.slice Bp np cp2) np (mcs ms)) ∧ Hid (x 2 = .agg #[.int .i64 W, .int .i64 H, .slice Bm nm cm2, .slice Bc nc cc2, .slice Bp np cp2, .slice none 0 0]) | 3, true => WN.cell? ⟨xb, 0, none⟩ = some (.pointer (some ⟨pb, 0, none⟩)) ∧ WN.cell? ⟨xb, 1, none⟩ = some (.slice Ap np cp) ∧ WN.cell? ⟨pb, 0, none⟩ = some (.int .i64 W) ∧ WN.cell? ⟨pb, 1, none⟩ = some (.int .i64 H) ∧ WN.cell? ⟨pb, 2, none⟩ = some (.slice Am nm cm) ∧ WN.cell? ⟨pb, 3, none⟩ = some (.slice Ac nc cc) ∧ Below w1.heap.size w1 WN ∧ (∃ g, Hid (x 4 = .pointer (some ⟨g, 0, none⟩)) ∧ WN.heap[g]? = some (.cells #[.int .i64 0, .int .i64 0, .slice none 0 0, .slice none 0 0, .slice none 0 0, .slice none 0 0] 29 (0, 0)) ∧ Hid (w1.heap.size ≤ g)) ∧ ∃ Bm cm2 Bc cc2, Hid (x 0 = .agg #[.int .i64 W, .int .i64 H, .slice Bm nm cm2, .slice Bc nc cc2]) ∧ Hid (WN.ownsRow w.heap.size 3 1 (.slice Bm nm cm2) nm (vis mask) ∧ WN.ownsRow w.heap.size 52 5 (.slice Bc nc cc2) nc (ccs cs)) ∧ ∃ Bp cp2, Hid (x 1 = .slice Bp np cp2) ∧ Hid (WN.ownsRow w.heap.size 57 6 (.slice Bp np cp2) np (mcs ms)) ∧ Hid (x 2 = .agg #[.int .i64 W, .int .i64 H, .slice Bm nm cm2, .slice Bc nc cc2, .slice Bp np cp2, .slice none 0 0]) | _, false => False | _, true => Below w1.heap.size w1 WN ∧ ∃ g Bm cm2 Bc cc2 Bp cp2, Hid (x 4 = .pointer (some ⟨g, 0, none⟩)) ∧ WN.heap[g]? = some (.cells #[.int .i64 W, .int .i64 H, .slice Bm nm cm2, .slice Bc nc cc2, .slice Bp np cp2, .slice none 0 0] 29 (0, 0)) ∧ Hid (w1.heap.size ≤ g) ∧ Hid (x 0 = .agg #[.int .i64 W, .int .i64 H, .slice Bm nm cm2, .slice Bc nc cc2]) ∧ Hid (x 1 = .slice Bp np cp2) ∧ Hid (x 2 = .agg #[.int .i64 W, .int .i64 H, .slice Bm nm cm2, .slice Bc nc cc2, .slice Bp np cp2, .slice none 0 0]) ∧ Hid (WN.ownsRow w.heap.size 3 1 (.slice Bm nm cm2) nm (vis mask) ∧ WN.ownsRow w.heap.size 52 5 (.slice Bc nc cc2) nc (ccs cs) ∧ WN.ownsRow w.heap.size 57 6 (.slice Bp np cp2) np (mcs ms))) ?hf (by kernel_rfl) (by kernel_rfl) (fun _ => rfl) (by kernel_rfl) ?hv ?hvf ⟨a0, a1, b0, b1, b2, b3, (Below.refl _ _).drew⟩ ?hA ?hT ?hF (fun x WN hst => ?he)
 case hf => intro x; simp only [putOps, Act.put, List.setIfInBounds_toArray, List.set_cons_succ, List.set_cons_zero]; exact rfl
 case hv =>
  intro x jS t v h
  cases jS with
  | zero => cases h; rfl
  | succ jS =>
   cases jS with
   | zero => cases h; rfl
   | succ jS =>
    cases jS with
    | zero => cases h; rfl
    | succ jS =>
     cases jS with
     | zero => cases h; rfl
     | succ jS =>
      simp at h
 case hvf => intro x v; rfl
 case hA =>
  intro jS b x WN hj hst
  have hj : jS ≤ 4 := hj
  rcases (show jS = 0 ∨ jS = 1 ∨ jS = 2 ∨ jS = 3 ∨ jS = 4 by omega) with rfl | rfl | rfl | rfl | rfl <;> cases b
  ·have HST := Lib.hid hst
   obtain ⟨a0, a1, b0, b1, b2, b3, hbl⟩ := hst
   iterate 11 refine ⟨?_, fun K hK => ?_⟩
   ·trivial
   all_goals try (go_simp; exact hK _ HST.out; done)
  ·have HST := Lib.hid hst
   obtain ⟨a0, a1, b0, b1, b2, b3, hbl, ⟨g, hx4, hkg, hgw⟩⟩ := hst
   iterate 11 refine ⟨?_, fun K hK => ?_⟩
   ·trivial
   all_goals try (go_simp; exact hK _ HST.out; done)
  ·have HST := Lib.hid hst
   obtain ⟨a0, a1, b0, b1, b2, b3, hbl, Bm, cm2, Bc, cc2, hx0, hr0⟩ := hst
   iterate 4 refine ⟨?_, fun K hK => ?_⟩
   ·trivial
   all_goals try (go_simp; exact hK _ HST.out; done)
  ·have HST := Lib.hid hst
   obtain ⟨a0, a1, b0, b1, b2, b3, hbl, ⟨g, hx4, hkg, hgw⟩, Bm, cm2, Bc, cc2, hx0, hr0⟩ := hst
   iterate 4 refine ⟨?_, fun K hK => ?_⟩
   ·trivial
   all_goals try (go_simp; exact hK _ HST.out; done)
  ·have HST := Lib.hid hst
   obtain ⟨a0, a1, b0, b1, b2, b3, hbl, Bm, cm2, Bc, cc2, hx0, hr0, Bp, cp2, hx1, hr1⟩ := hst
   iterate 7 refine ⟨?_, fun K hK => ?_⟩
   ·trivial
   all_goals try (go_simp; exact hK _ HST.out; done)
  ·have HST := Lib.hid hst
   obtain ⟨a0, a1, b0, b1, b2, b3, hbl, ⟨g, hx4, hkg, hgw⟩, Bm, cm2, Bc, cc2, hx0, hr0, Bp, cp2, hx1, hr1⟩ := hst
   iterate 7 refine ⟨?_, fun K hK => ?_⟩
   ·trivial
   all_goals try (go_simp; exact hK _ HST.out; done)
  ·trivial
  ·trivial
  ·exact hst.elim
  ·trivial
 case hT =>
  intro jS b t x WN ht hw hst o ho K hK
  cases jS with
  | zero =>
   cases ht; cases ho
   cases b
   ·obtain ⟨a0, a1, b0, b1, b2, b3, hbl⟩ := hst
    go_simp
    refine (CN.out WN (HB1.out.trans (hbl.mono HB1.out.size))).mono ?_
    rintro e' wc ⟨Bm, cm2, Bc, cc2, he, h1, h2, hbc⟩
    subst he
    have hsz := HB1.out.size
    have hs2 := hbl.size
    exact hK _ _ ⟨sd a0 hbc, sd a1 hbc, sd b0 hbc, sd b1 hbc, sd b2 hbc, sd b3 hbc, stay_b hbl hbc, Bm, cm2, Bc, cc2, Lib.hid rfl, Lib.hid ⟨own_mono h1 (by omega), own_mono h2 (by omega)⟩⟩
   ·obtain ⟨a0, a1, b0, b1, b2, b3, hbl, ⟨g, hx4, hkg, hgw⟩⟩ := hst
    go_simp
    refine (CN.out WN (HB1.out.trans (hbl.mono HB1.out.size))).mono ?_
    rintro e' wc ⟨Bm, cm2, Bc, cc2, he, h1, h2, hbc⟩
    subst he
    have hsz := HB1.out.size
    have hs2 := hbl.size
    exact hK _ _ ⟨sd a0 hbc, sd a1 hbc, sd b0 hbc, sd b1 hbc, sd b2 hbc, sd b3 hbc, stay_b hbl hbc, ⟨g, hx4, blk_below hkg hbc (blk_lt hkg), hgw⟩, Bm, cm2, Bc, cc2, Lib.hid rfl, Lib.hid ⟨own_mono h1 (by omega), own_mono h2 (by omega)⟩⟩
  | succ jS =>
   cases jS with
   | zero =>
    cases ht; cases ho
    cases b
    ·obtain ⟨a0, a1, b0, b1, b2, b3, hbl, Bm, cm2, Bc, cc2, hx0, hr0⟩ := hst
     go_simp
     refine (CM.out WN (HB1.out.trans (hbl.mono HB1.out.size))).mono ?_
     rintro e' wc ⟨Bp, cp2, he, h1, hbc⟩
     subst he
     have hsz := HB1.out.size
     have hs2 := hbl.size
     exact hK _ _ ⟨sd a0 hbc, sd a1 hbc, sd b0 hbc, sd b1 hbc, sd b2 hbc, sd b3 hbc, stay_b hbl hbc, Bm, cm2, Bc, cc2, hx0, Lib.hid ⟨od hr0.out.1 hbc, od hr0.out.2 hbc⟩, Bp, cp2, Lib.hid rfl, Lib.hid (own_mono h1 (by omega))⟩
    ·obtain ⟨a0, a1, b0, b1, b2, b3, hbl, ⟨g, hx4, hkg, hgw⟩, Bm, cm2, Bc, cc2, hx0, hr0⟩ := hst
     go_simp
     refine (CM.out WN (HB1.out.trans (hbl.mono HB1.out.size))).mono ?_
     rintro e' wc ⟨Bp, cp2, he, h1, hbc⟩
     subst he
     have hsz := HB1.out.size
     have hs2 := hbl.size
     exact hK _ _ ⟨sd a0 hbc, sd a1 hbc, sd b0 hbc, sd b1 hbc, sd b2 hbc, sd b3 hbc, stay_b hbl hbc, ⟨g, hx4, blk_below hkg hbc (blk_lt hkg), hgw⟩, Bm, cm2, Bc, cc2, hx0, Lib.hid ⟨od hr0.out.1 hbc, od hr0.out.2 hbc⟩, Bp, cp2, Lib.hid rfl, Lib.hid (own_mono h1 (by omega))⟩
   | succ jS =>
    cases jS with
    | zero =>
     cases ht; cases ho
     cases b
     ·obtain ⟨a0, a1, b0, b1, b2, b3, hbl, Bm, cm2, Bc, cc2, hx0, hr0, Bp, cp2, hx1, hr1⟩ := hst
      have hx := hx0.out
      have hy := hx1.out
      rw [hx, hy] at hK ⊢
      go_simp
      exact hK _ _ ⟨a0, a1, b0, b1, b2, b3, hbl, Bm, cm2, Bc, cc2, hx0, hr0, Bp, cp2, hx1, hr1, Lib.hid rfl⟩
     ·obtain ⟨a0, a1, b0, b1, b2, b3, hbl, ⟨g, hx4, hkg, hgw⟩, Bm, cm2, Bc, cc2, hx0, hr0, Bp, cp2, hx1, hr1⟩ := hst
      have hx := hx0.out
      have hy := hx1.out
      rw [hx, hy] at hK ⊢
      go_simp
      exact hK _ _ ⟨a0, a1, b0, b1, b2, b3, hbl, ⟨g, hx4, hkg, hgw⟩, Bm, cm2, Bc, cc2, hx0, hr0, Bp, cp2, hx1, hr1, Lib.hid rfl⟩
    | succ jS =>
     cases jS with
     | zero =>
      cases ht; cases ho
      cases b
      ·exact absurd (hw (by kernel_rfl)) (by decide)
      ·obtain ⟨a0, a1, b0, b1, b2, b3, hbl, ⟨g, hx4, hkg, hgw⟩, Bm, cm2, Bc, cc2, hx0, hr0, Bp, cp2, hx1, hr1, hx2⟩ := hst
       have hx := hx4.out
       have hz := hx2.out
       have z0 := cell_of_blk hkg 0
       have z1 := cell_of_blk hkg 1
       have z2 := cell_of_blk hkg 2
       have z3 := cell_of_blk hkg 3
       have z4 := cell_of_blk hkg 4
       have z5 := cell_of_blk hkg 5
       simp only [List.getElem?_toArray, List.getElem?_cons_zero, List.getElem?_cons_succ] at z0 z1 z2 z3 z4 z5
       have zf := frozen_of_blk hkg
       have zl := blk_lt hkg
       have o1 := hr0.out.1
       have o2 := hr0.out.2
       have o3 := hr1.out
       have n1 := own_not o1 hkg (by decide)
       have n2 := own_not o2 hkg (by decide)
       have n3 := own_not o3 hkg (by decide)
       have hkk := Lib.hid (blk_set (blk_set (blk_set (blk_set (blk_set (blk_set hkg 0 (.int .i64 W)) 1 (.int .i64 H)) 2 (.slice Bm nm cm2)) 3 (.slice Bc nc cc2)) 4 (.slice Bp np cp2)) 5 (.slice none 0 0))
       have hbb := Lib.hid ((((((hbl.setCell (p := ⟨g, 0, none⟩) hgw.out (.int .i64 W)).setCell (p := ⟨g, 1, none⟩) hgw.out (.int .i64 H)).setCell (p := ⟨g, 2, none⟩) hgw.out (.slice Bm nm cm2)).setCell (p := ⟨g, 3, none⟩) hgw.out (.slice Bc nc cc2)).setCell (p := ⟨g, 4, none⟩) hgw.out (.slice Bp np cp2)).setCell (p := ⟨g, 5, none⟩) hgw.out (.slice none 0 0))
       have po1 := Lib.hid (own_set (own_set (own_set (own_set (own_set (own_set o1 (fun k hk e => n1 (by rw [hk, e])) 0 (.int .i64 W)) (fun k hk e => n1 (by rw [hk, e])) 1 (.int .i64 H)) (fun k hk e => n1 (by rw [hk, e])) 2 (.slice Bm nm cm2)) (fun k hk e => n1 (by rw [hk, e])) 3 (.slice Bc nc cc2)) (fun k hk e => n1 (by rw [hk, e])) 4 (.slice Bp np cp2)) (fun k hk e => n1 (by rw [hk, e])) 5 (.slice none 0 0))
       have po2 := Lib.hid (own_set (own_set (own_set (own_set (own_set (own_set o2 (fun k hk e => n2 (by rw [hk, e])) 0 (.int .i64 W)) (fun k hk e => n2 (by rw [hk, e])) 1 (.int .i64 H)) (fun k hk e => n2 (by rw [hk, e])) 2 (.slice Bm nm cm2)) (fun k hk e => n2 (by rw [hk, e])) 3 (.slice Bc nc cc2)) (fun k hk e => n2 (by rw [hk, e])) 4 (.slice Bp np cp2)) (fun k hk e => n2 (by rw [hk, e])) 5 (.slice none 0 0))
       have po3 := Lib.hid (own_set (own_set (own_set (own_set (own_set (own_set o3 (fun k hk e => n3 (by rw [hk, e])) 0 (.int .i64 W)) (fun k hk e => n3 (by rw [hk, e])) 1 (.int .i64 H)) (fun k hk e => n3 (by rw [hk, e])) 2 (.slice Bm nm cm2)) (fun k hk e => n3 (by rw [hk, e])) 3 (.slice Bc nc cc2)) (fun k hk e => n3 (by rw [hk, e])) 4 (.slice Bp np cp2)) (fun k hk e => n3 (by rw [hk, e])) 5 (.slice none 0 0))
       clear n1 n2 n3 o1 o2 o3
       rw [hx, hz] at hK ⊢
       go_simp
       exact hK undef _ ⟨hbb.out, g, Bm, cm2, Bc, cc2, Bp, cp2, hx4, by simpa using hkk.out, hgw, hx0, hx1, hx2, Lib.hid ⟨po1.out, po2.out, po3.out⟩⟩
     | succ jS =>
      simp at ht
 case hF =>
  intro jS x WN hj hst o ho K hK
  have hj : jS ≤ 4 := hj
  cases ho
  rcases (show jS = 0 ∨ jS = 1 ∨ jS = 2 ∨ jS = 3 ∨ jS = 4 by omega) with rfl | rfl | rfl | rfl | rfl
  ·obtain ⟨a0, a1, b0, b1, b2, b3, hbl⟩ := hst
   go_simp
   exact hK (.pointer (some ⟨WN.heap.size, 0, none⟩)) _ ⟨al_c a0 (.cells #[.int .i64 0, .int .i64 0, .slice none 0 0, .slice none 0 0, .slice none 0 0, .slice none 0 0] 29), al_c a1 (.cells #[.int .i64 0, .int .i64 0, .slice none 0 0, .slice none 0 0, .slice none 0 0, .slice none 0 0] 29), al_c b0 (.cells #[.int .i64 0, .int .i64 0, .slice none 0 0, .slice none 0 0, .slice none 0 0, .slice none 0 0] 29), al_c b1 (.cells #[.int .i64 0, .int .i64 0, .slice none 0 0, .slice none 0 0, .slice none 0 0, .slice none 0 0] 29), al_c b2 (.cells #[.int .i64 0, .int .i64 0, .slice none 0 0, .slice none 0 0, .slice none 0 0, .slice none 0 0] 29), al_c b3 (.cells #[.int .i64 0, .int .i64 0, .slice none 0 0, .slice none 0 0, .slice none 0 0, .slice none 0 0] 29), hbl.alloc hbl.size (.cells #[.int .i64 0, .int .i64 0, .slice none 0 0, .slice none 0 0, .slice none 0 0, .slice none 0 0] 29), ⟨WN.heap.size, Lib.hid rfl, heap_alloc_new WN (.cells #[.int .i64 0, .int .i64 0, .slice none 0 0, .slice none 0 0, .slice none 0 0, .slice none 0 0] 29), Lib.hid hbl.size⟩⟩
  ·obtain ⟨a0, a1, b0, b1, b2, b3, hbl, Bm, cm2, Bc, cc2, hx0, hr0⟩ := hst
   go_simp
   exact hK (.pointer (some ⟨WN.heap.size, 0, none⟩)) _ ⟨al_c a0 (.cells #[.int .i64 0, .int .i64 0, .slice none 0 0, .slice none 0 0, .slice none 0 0, .slice none 0 0] 29), al_c a1 (.cells #[.int .i64 0, .int .i64 0, .slice none 0 0, .slice none 0 0, .slice none 0 0, .slice none 0 0] 29), al_c b0 (.cells #[.int .i64 0, .int .i64 0, .slice none 0 0, .slice none 0 0, .slice none 0 0, .slice none 0 0] 29), al_c b1 (.cells #[.int .i64 0, .int .i64 0, .slice none 0 0, .slice none 0 0, .slice none 0 0, .slice none 0 0] 29), al_c b2 (.cells #[.int .i64 0, .int .i64 0, .slice none 0 0, .slice none 0 0, .slice none 0 0, .slice none 0 0] 29), al_c b3 (.cells #[.int .i64 0, .int .i64 0, .slice none 0 0, .slice none 0 0, .slice none 0 0, .slice none 0 0] 29), hbl.alloc hbl.size (.cells #[.int .i64 0, .int .i64 0, .slice none 0 0, .slice none 0 0, .slice none 0 0, .slice none 0 0] 29), ⟨WN.heap.size, Lib.hid rfl, heap_alloc_new WN (.cells #[.int .i64 0, .int .i64 0, .slice none 0 0, .slice none 0 0, .slice none 0 0, .slice none 0 0] 29), Lib.hid hbl.size⟩, Bm, cm2, Bc, cc2, hx0, Lib.hid ⟨od hr0.out.1 (below_new WN (.cells #[.int .i64 0, .int .i64 0, .slice none 0 0, .slice none 0 0, .slice none 0 0, .slice none 0 0] 29)), od hr0.out.2 (below_new WN (.cells #[.int .i64 0, .int .i64 0, .slice none 0 0, .slice none 0 0, .slice none 0 0, .slice none 0 0] 29))⟩⟩
  ·obtain ⟨a0, a1, b0, b1, b2, b3, hbl, Bm, cm2, Bc, cc2, hx0, hr0, Bp, cp2, hx1, hr1⟩ := hst
   go_simp
   exact hK (.pointer (some ⟨WN.heap.size, 0, none⟩)) _ ⟨al_c a0 (.cells #[.int .i64 0, .int .i64 0, .slice none 0 0, .slice none 0 0, .slice none 0 0, .slice none 0 0] 29), al_c a1 (.cells #[.int .i64 0, .int .i64 0, .slice none 0 0, .slice none 0 0, .slice none 0 0, .slice none 0 0] 29), al_c b0 (.cells #[.int .i64 0, .int .i64 0, .slice none 0 0, .slice none 0 0, .slice none 0 0, .slice none 0 0] 29), al_c b1 (.cells #[.int .i64 0, .int .i64 0, .slice none 0 0, .slice none 0 0, .slice none 0 0, .slice none 0 0] 29), al_c b2 (.cells #[.int .i64 0, .int .i64 0, .slice none 0 0, .slice none 0 0, .slice none 0 0, .slice none 0 0] 29), al_c b3 (.cells #[.int .i64 0, .int .i64 0, .slice none 0 0, .slice none 0 0, .slice none 0 0, .slice none 0 0] 29), hbl.alloc hbl.size (.cells #[.int .i64 0, .int .i64 0, .slice none 0 0, .slice none 0 0, .slice none 0 0, .slice none 0 0] 29), ⟨WN.heap.size, Lib.hid rfl, heap_alloc_new WN (.cells #[.int .i64 0, .int .i64 0, .slice none 0 0, .slice none 0 0, .slice none 0 0, .slice none 0 0] 29), Lib.hid hbl.size⟩, Bm, cm2, Bc, cc2, hx0, Lib.hid ⟨od hr0.out.1 (below_new WN (.cells #[.int .i64 0, .int .i64 0, .slice none 0 0, .slice none 0 0, .slice none 0 0, .slice none 0 0] 29)), od hr0.out.2 (below_new WN (.cells #[.int .i64 0, .int .i64 0, .slice none 0 0, .slice none 0 0, .slice none 0 0, .slice none 0 0] 29))⟩, Bp, cp2, hx1, Lib.hid (od hr1.out (below_new WN (.cells #[.int .i64 0, .int .i64 0, .slice none 0 0, .slice none 0 0, .slice none 0 0, .slice none 0 0] 29)))⟩
  ·obtain ⟨a0, a1, b0, b1, b2, b3, hbl, Bm, cm2, Bc, cc2, hx0, hr0, Bp, cp2, hx1, hr1, hx2⟩ := hst
   go_simp
   exact hK (.pointer (some ⟨WN.heap.size, 0, none⟩)) _ ⟨al_c a0 (.cells #[.int .i64 0, .int .i64 0, .slice none 0 0, .slice none 0 0, .slice none 0 0, .slice none 0 0] 29), al_c a1 (.cells #[.int .i64 0, .int .i64 0, .slice none 0 0, .slice none 0 0, .slice none 0 0, .slice none 0 0] 29), al_c b0 (.cells #[.int .i64 0, .int .i64 0, .slice none 0 0, .slice none 0 0, .slice none 0 0, .slice none 0 0] 29), al_c b1 (.cells #[.int .i64 0, .int .i64 0, .slice none 0 0, .slice none 0 0, .slice none 0 0, .slice none 0 0] 29), al_c b2 (.cells #[.int .i64 0, .int .i64 0, .slice none 0 0, .slice none 0 0, .slice none 0 0, .slice none 0 0] 29), al_c b3 (.cells #[.int .i64 0, .int .i64 0, .slice none 0 0, .slice none 0 0, .slice none 0 0, .slice none 0 0] 29), hbl.alloc hbl.size (.cells #[.int .i64 0, .int .i64 0, .slice none 0 0, .slice none 0 0, .slice none 0 0, .slice none 0 0] 29), ⟨WN.heap.size, Lib.hid rfl, heap_alloc_new WN (.cells #[.int .i64 0, .int .i64 0, .slice none 0 0, .slice none 0 0, .slice none 0 0, .slice none 0 0] 29), Lib.hid hbl.size⟩, Bm, cm2, Bc, cc2, hx0, Lib.hid ⟨od hr0.out.1 (below_new WN (.cells #[.int .i64 0, .int .i64 0, .slice none 0 0, .slice none 0 0, .slice none 0 0, .slice none 0 0] 29)), od hr0.out.2 (below_new WN (.cells #[.int .i64 0, .int .i64 0, .slice none 0 0, .slice none 0 0, .slice none 0 0, .slice none 0 0] 29))⟩, Bp, cp2, hx1, Lib.hid (od hr1.out (below_new WN (.cells #[.int .i64 0, .int .i64 0, .slice none 0 0, .slice none 0 0, .slice none 0 0, .slice none 0 0] 29))), hx2⟩
  ·exact hst.elim
 case he =>
  obtain ⟨hbl, g, Bm, cm2, Bc, cc2, Bp, cp2, hx4, hkg, hgw, hx0, hx1, hx2, hr⟩ := hst
  have e0 := hx0.out
  have e1 := hx1.out
  have e2 := hx2.out
  have e4 := hx4.out
  rw [e0, e1, e2, e4]
  obtain ⟨w5, hw5⟩ : ∃ x, x = WN := ⟨_, rfl⟩
  subst hw5
  have hw15 : Below w.heap.size w w5 := HB1.out.trans (hbl.mono HB1.out.size)
  have HW5 := Lib.hid hw15
  have KR5 := Lib.hid (blk_below KR.out hbl (blk_lt KR.out))
  have hgw1 := hgw.out
  have hw1g : w.heap.size < w1.heap.size := blk_lt KR.out
  have c4 := sd HX.out.c4 hw15
  obtain ⟨D, hown, hD, ks0, hk1, hk2, hk3, hk4⟩ := (HM.out.map.below hw15 HM.out.map.lt)
  have hN : ∀ ss : List T3, ss.Nodup → (∀ a ∈ ss, kdT.ok a ∧ (f a).isSome = true) → ss.length ≤ 1000 := fun ss hn ha => HK.out ss hn (fun x hx => (ha x hx).2)
  have hkc : (w5.alloc (.cells #[.map (some mb)] 76)).cell? ⟨w5.heap.size, 0, none⟩ = some (.map (some mb)) := (cell_of_blk (heap_alloc_new w5 (.cells #[.map (some mb)] 76)) 0).trans rfl
  have cK := (callsIn_wide (n := 6)).1 (keysT_in Fence.wide 6 trivial rfl (some mb) w5)
  have cS := (callsIn_wide (n := 6)).1 (sortedT_in 6 63 #[.pointer (some ⟨w5.heap.size, 0, none⟩)] (enters_of Tryz.func63 (by kernel_rfl) rfl) _ 1000 (w5.alloc (.cells #[.map (some mb)] 76)) (by omega) (by omega) (keysT_gives Fence.wide 3 trivial rfl (by omega) w5.heap.size mb n 1000 D _ hD.keys hN (w5.alloc (.cells #[.map (some mb)] 76)) (by simp) hkc (hown.alloc _)))
  have CK := Lib.hid cK
  have CS := Lib.hid cS
  have HK3 := Lib.hid (And.intro hk2 hk3)
  have HGB := Lib.hid (show w5.heap[g]? = some _ from hkg)
  clear e0 e1 e2 e4 hx0 hx1 hx2 hx4 hw15 hown hD hk1 hk2 hk3 hk4 hN hkc cK cS hkg a0 a1 b0 b1 b2 b3
  go_wp2_with (first
   | (go_at_call 34; refine CK.out.mono ?_; rintro e w6 ⟨rfl, hw6⟩; rw [hw6])
   | (go_at_call 33; refine CS.out.mono ?_; rintro e w6 ⟨v, ss, rfl, hss, hsl, hrow, hb6⟩; obtain ⟨Av, cv, hv, _, _⟩ := own_slice hrow; subst hv; have HSS := Lib.hid hss; have HROW := Lib.hid hrow; have HB6 := Lib.hid hb6; clear hss hrow hb6 hw6)
   | fail)
  obtain ⟨xs, hxs⟩ : ∃ xs, xs = srtT ss := ⟨_, rfl⟩
  have hxl : xs.length = ss.length := by rw [hxs]; exact (srtT_perm ss).length_eq
  rw [← hxs] at HROW
  rw [← hxl] at HROW ⊢
  have hsl : xs.length ≤ 1000 := by omega
  have h56 : Below w5.heap.size w5 w6 := (below_new w5 _).trans (HB6.out.mono (by simp))
  have hmem : ∀ x ∈ xs, inR x.1 ∧ inR x.2.1 ∧ inR x.2.2 := fun x hx => ((HSS.out.mem x).1 ((srtT_perm ss).mem_iff.1 (by rw [← hxs]; exact hx))).1
  have HXS := Lib.hid hxs
  have HXL := Lib.hid hxl
  have HMEM := Lib.hid hmem
  have hgl := blk_lt HGB.out
  have hkS := own_mono HROW.out (show w5.heap.size ≤ _ by simp)
  have HKR := Lib.hid hkS
  have hI0 : StI w6 g W H (.slice Bm nm cm2) (.slice Bc nc cc2) (.slice Bp np cp2) (.slice none 0 0) (.slice none 0 0) [] w6 := ⟨Kp2.refl _ _ _, blk_below HGB.out h56 hgl, StkW.nil _ _, Nat.lt_of_lt_of_le hgl h56.size⟩
  have HI0 := Lib.hid hI0
  have HGB6 := Lib.hid (blk_below HGB.out h56 hgl)
  have KR6 := Lib.hid (blk_below KR5.out h56 (blk_lt KR5.out))
  have HW6 := Lib.hid (HW5.out.trans (h56.mono HW5.out.size))
  have HR3 := Lib.hid (And.intro (od hr.out.1 h56) (And.intro (od hr.out.2.1 h56) (od hr.out.2.2 h56)))
  have hgw' := hgw.out
  have hw1 := HB1.out.size
  have hwg : w.heap.size ≤ g := by omega
  have hw56 := h56.size
  have hw05 := HW5.out.size
  clear hxs hxl hmem hkS hI0 h56 HROW HB6 CK CS hr hbl HGB hgw'
  go_loopw [30] (fun v wr => ∃ (i : Nat) (S : Value), i ≤ xs.length ∧ v = .int .i64 i ∧ Hid (StI w6 g W H (.slice Bm nm cm2) (.slice Bc nc cc2) (.slice Bp np cp2) S S (stkOf L G (xs.take i)) wr)) (fun v _ => xs.length - (intOf v).toNat)
  case atStart => exact ⟨0, .slice none 0 0, by omega, rfl, HI0⟩
  case round =>
   clear HI0 c4
   obtain ⟨i, S, hi, rfl, hI⟩ := hrel
   by_cases hin : i < xs.length
   ·obtain ⟨pz, hx⟩ : ∃ x, xs[i]? = some x := ⟨_, List.getElem?_eq_getElem hin⟩
    have hii : (i : Int) < (xs.length : Int) := by omega
    have hi0 : (0 : Int) ≤ (i : Int) := by omega
    have hxm := HMEM.out pz (List.mem_of_getElem? hx)
    have HXI := Lib.hid hx
    have HXM := Lib.hid hxm
    have hkr := HKR.out
    obtain ⟨gv, cv2, curv, hve, _, _, _, hgvH⟩ := own_addr hkr (show 0 < xs.length by omega)
    cases hve
    have hgvg : gv ≠ g := fun e => by
     obtain ⟨o, ho⟩ : ∃ cs, w6.heap[g]? = some (.cells cs 29 (0, 0)) := ⟨_, HGB6.out⟩
     rw [← e, hgvH] at ho
     simp at ho
    obtain ⟨t0, t1, t2⟩ := own_tri hkr hx
    have t0 := hI.out.kp.cell t0 hgvg hgvg
    have t1 := hI.out.kp.cell t1 hgvg hgvg
    have t2 := hI.out.kp.cell t2 hgvg hgvg
    obtain ⟨wo, hwo⟩ : ∃ x, x = wr := ⟨_, rfl⟩
    subst hwo
    have hbo : Below wo.heap.size wo ((wo.alloc (.cells #[.int .i64 pz.1, .int .i64 pz.2.1, .int .i64 pz.2.2] 59)).alloc (.cells #[.int .i64 pz.1, .int .i64 pz.2.1, .int .i64 pz.2.2, .slice none 0 0] 62)) := (below_new wo (.cells #[.int .i64 pz.1, .int .i64 pz.2.1, .int .i64 pz.2.2] 59)).alloc (by simp) (.cells #[.int .i64 pz.1, .int .i64 pz.2.1, .int .i64 pz.2.2, .slice none 0 0] 62)
    have kK := blk_alloc (heap_alloc_new wo (.cells #[.int .i64 pz.1, .int .i64 pz.2.1, .int .i64 pz.2.2] 59)) (.cells #[.int .i64 pz.1, .int .i64 pz.2.1, .int .i64 pz.2.2, .slice none 0 0] 62)
    have kS := heap_alloc_new (wo.alloc (.cells #[.int .i64 pz.1, .int .i64 pz.2.1, .int .i64 pz.2.2] 59)) (.cells #[.int .i64 pz.1, .int .i64 pz.2.1, .int .i64 pz.2.2, .slice none 0 0] 62)
    rw [World.size_alloc] at kS
    have hsz2 : ((wo.alloc (.cells #[.int .i64 pz.1, .int .i64 pz.2.1, .int .i64 pz.2.2] 59)).alloc (.cells #[.int .i64 pz.1, .int .i64 pz.2.1, .int .i64 pz.2.2, .slice none 0 0] 62)).heap.size = wo.heap.size + 2 := by simp
    have hwo6 := hI.out.kp.size
    have hww : Below w.heap.size w wo := HW6.out.trans (hI.out.kp.out hwg hwg (by omega))
    have HWW := Lib.hid hww
    have HI := hI
    clear hx hxm hkr hgvH hI hww
    go_wp2_with fail
    have z0 := cell_of_blk kK 0
    have z1 := cell_of_blk kK 1
    have z2 := cell_of_blk kK 2
    simp only [List.getElem?_toArray, List.getElem?_cons_zero, List.getElem?_cons_succ] at z0 z1 z2
    have HBO := Lib.hid hbo
    have HKS := Lib.hid kS
    clear t0 t1 t2 kK kS hbo
    generalize (wo.alloc (.cells #[.int .i64 pz.1, .int .i64 pz.2.1, .int .i64 pz.2.2] 59)).alloc (.cells #[.int .i64 pz.1, .int .i64 pz.2.1, .int .i64 pz.2.2, .slice none 0 0] 62) = w7 at z0 z1 z2 HBO HKS hsz2 ⊢
    have hw7 : Below w.heap.size w w7 := HWW.out.trans (HBO.out.mono HWW.out.size)
    have c4 := sd HX.out.c4 hw7
    have hM7 := HM.out.below (hw7.mono (Nat.le_refl _))
    obtain ⟨ql, hql⟩ : ∃ q, q = (G pz).length := ⟨_, rfl⟩
    have hv7 := hM7.val pz
    have hq8 : ql ≤ 1000 := by rw [hql]; exact HGL.out pz
    rw [← hql] at hv7
    obtain ⟨AR, cR, hvRe, _⟩ := own_slice hv7
    have hvw := HM.out.val pz
    rw [← hql, hvRe] at hvw
    have hlk : ∀ W' : World, Below w7.heap.size w7 W' → (Instr.lookup 76 (.map (some mb)) (aggT3 pz) false).run Tryz.prog W' = .ok (.slice AR ql cR) W' := fun W' hb => by
     have h1 := (hM7.map.stay hb).look1 (a := pz) HXM.out
     rw [← hvRe]
     exact h1
    have HLK := Lib.hid hlk
    have HVW := Lib.hid hvw
    have HQL := Lib.hid hql
    have HW7 := Lib.hid hw7
    clear hlk hv7 hvRe hql hM7 hw7 hvw
    refine rg_plain (fin := ?z2) [.pointer (some ⟨xb, 0, none⟩), .pointer (some ⟨xb, 0, none⟩), .pointer (some ⟨xb, 4, none⟩), .map (some mb), aggT3 pz, .slice AR ql cR, .int .i64 (ql : Int), .int .i64 0] (fun WN => WN.cell? ⟨xb, 4, none⟩ = some (.map (some mb)) ∧ WN.cell? ⟨wo.heap.size, 0, none⟩ = some (.int .i64 pz.1) ∧ WN.cell? ⟨wo.heap.size, 1, none⟩ = some (.int .i64 pz.2.1) ∧ WN.cell? ⟨wo.heap.size, 2, none⟩ = some (.int .i64 pz.2.2) ∧ Below w7.heap.size w7 WN) ?hf (by kernel_rfl) (by kernel_rfl) rfl ⟨c4, z0, z1, z2, (Below.refl _ _).drew⟩ (fun WN hst => ?hs) (fun WN hst => ?he)
    case hf => simp only [putOps, Act.put, List.setIfInBounds_toArray, List.set_cons_succ, List.set_cons_zero]; exact rfl
    case hs =>
     have HST := Lib.hid hst
     obtain ⟨c4, z0, z1, z2, hbl⟩ := hst
     iterate 8 refine ⟨?_, fun K hK => ?_⟩
     ·trivial
     all_goals try (go_simp; exact hK _ HST.out; done)
     ·have hlk := HLK.out WN hbl
      go_simp
      exact hK _ HST.out
    case he =>
     obtain ⟨c4, z0, z1, z2, hbl⟩ := hst
     obtain ⟨w8, hw8⟩ : ∃ x, x = WN := ⟨_, rfl⟩
     subst hw8
     have hP0 : StP wo w8 (wo.heap.size + 1) pz (.slice none 0 0) [] w8 := ⟨HBO.out.trans (hbl.mono HBO.out.size), blk_below HKS.out hbl (blk_lt HKS.out), World.ownsRow_nil _ _ _ _, by omega, by have := hbl.size; omega, Nat.le_refl _⟩
     have HP0 := Lib.hid hP0
     have hw8 := hbl.size
     have HW8 := Lib.hid (HW7.out.trans (hbl.mono HW7.out.size))
     clear hP0 c4 z0 z1 z2 HLK hbl
     go_wp2_with fail
     go_loopw [43] (fun v wr => ∃ (h : Nat) (U : Value), h ≤ ql ∧ v = .int .i64 h ∧ Hid (StP wo w8 (wo.heap.size + 1) pz U (trsOf L ((G pz).take h)) wr)) (fun v _ => ql - (intOf v).toNat)
     case atStart => exact ⟨0, .slice none 0 0, by omega, rfl, HP0⟩
     case round =>
      clear HP0
      obtain ⟨h, U, hh, rfl, hQ⟩ := hrel
      by_cases hhq : h < ql
      ·obtain ⟨j, hj⟩ : ∃ j, (G pz)[h]? = some j := ⟨_, List.getElem?_eq_getElem (by rw [← HQL.out]; exact hhq)⟩
       have hjL := HG.out pz j (List.mem_of_getElem? hj)
       obtain ⟨t, ht⟩ : ∃ t, L[j]? = some t := ⟨_, List.getElem?_eq_getElem hjL⟩
       obtain ⟨gr, cr, _, hre, _, _, _, _⟩ := own_addr HVW.out (show 0 < ql by omega)
       cases hre
       obtain ⟨wi, hwi⟩ : ∃ x, x = wr := ⟨_, rfl⟩
       subst hwi
       have hbw : Below w.heap.size w wi := HWW.out.trans (hQ.out.bel.mono HWW.out.size)
       have c0 := sd (own_num HVW.out hj) hbw
       obtain ⟨y0, y1, y2⟩ := own_tri HO.out ht
       have y0 := sd y0 hbw
       have y1 := sd y1 hbw
       have y2 := sd y2 hbw
       have a0 := sd HX.out.c0 hbw
       have q4 := sd HP.out.c4 hbw
       have p3 := hQ.out.cell
       obtain ⟨l, hl⟩ : ∃ l, l = trsOf L ((G pz).take h) := ⟨_, rfl⟩
       have hll : l.length ≤ 1000 := by rw [hl, trsOf_len, List.length_take]; omega
       have hln := trsOf_take hj ht
       rw [← hl] at hQ hln
       have hhi : (h : Int) < (ql : Int) := by omega
       have hh0 : (0 : Int) ≤ (h : Int) := by omega
       have hji : (j : Int) < (L.length : Int) := by omega
       have hj0 : (0 : Int) ≤ (j : Int) := by omega
       have HLN := Lib.hid hln
       clear hj ht hl hln hbw
       go_wp2_with fail
       refine rg_chn (fin := ?z3) [12, 13, 15] [[true, true, true, true, true, true, true, true, true, true, true, true, false, false, true, false], [true, true, false, false, false, false, false, false, false, false, false, false, false, false, true, false], [false, false, false, false, false, false, false, false, false, false, false, false, false, false, true, false], [false, false, false, false, false, false, false, false, false, false, false, false, false, false, false, false]] [[11, 10, 8, 9, 7, 6, 5, 4, 3, 2], [1, 12, 0, 11, 10, 8, 9, 7, 6, 5, 4, 3, 2], [14, 13, 1, 12, 0, 11, 10, 8, 9, 7, 6, 5, 4, 3, 2]] (fun x => [.pointer (some ⟨wo.heap.size + 1, 3, none⟩), U, .pointer (some ⟨xb, 0, none⟩), .pointer (some ⟨xb, 0, none⟩), .pointer (some ⟨xb, 0, none⟩), .pointer (some ⟨pb, 0, none⟩), .pointer (some ⟨pb, 0, none⟩), .pointer (some ⟨pb, 4, none⟩), .slice (some ⟨gt, 0, none⟩) L.length ct, .int .i64 (j : Int), .pointer (some ⟨gt, j * 3, none⟩), aggT3 t, (x 0), (x 1), .pointer (some ⟨wo.heap.size + 1, 3, none⟩), (x 2)]) (fun jS x WN => match jS with | 0 => WN.cell? ⟨wo.heap.size + 1, 3, none⟩ = some (U) ∧ WN.cell? ⟨xb, 0, none⟩ = some (.pointer (some ⟨pb, 0, none⟩)) ∧ WN.cell? ⟨pb, 4, none⟩ = some (.slice (some ⟨gt, 0, none⟩) L.length ct) ∧ WN.cell? ⟨gt, j * 3, none⟩ = some (.int .i64 t.1) ∧ WN.cell? ⟨gt, j * 3 + 1, none⟩ = some (.int .i64 t.2.1) ∧ WN.cell? ⟨gt, j * 3 + 2, none⟩ = some (.int .i64 t.2.2) ∧ Below wi.heap.size wi WN ∧ Hid (StP wo w8 (wo.heap.size + 1) pz U l WN) | 1 => WN.cell? ⟨wo.heap.size + 1, 3, none⟩ = some (U) ∧ WN.cell? ⟨xb, 0, none⟩ = some (.pointer (some ⟨pb, 0, none⟩)) ∧ WN.cell? ⟨pb, 4, none⟩ = some (.slice (some ⟨gt, 0, none⟩) L.length ct) ∧ WN.cell? ⟨gt, j * 3, none⟩ = some (.int .i64 t.1) ∧ WN.cell? ⟨gt, j * 3 + 1, none⟩ = some (.int .i64 t.2.1) ∧ WN.cell? ⟨gt, j * 3 + 2, none⟩ = some (.int .i64 t.2.2) ∧ Below wi.heap.size wi WN ∧ Hid (StP wo w8 (wo.heap.size + 1) pz U l WN) ∧ ∃ g2, Hid (x 0 = .slice (some ⟨g2, 0, none⟩) 1 1) ∧ WN.heap[g2]? = some (.cells #[.int .i64 t.1, .int .i64 t.2.1, .int .i64 t.2.2] 59 (0, 0)) | 2 => Hid (Below wo.heap.size wo WN) ∧ Hid (WN.heap[wo.heap.size + 1]? = some (.cells #[.int .i64 pz.1, .int .i64 pz.2.1, .int .i64 pz.2.2, U] 62 (0, 0))) ∧ Hid (WN.ownsRow w8.heap.size 59 3 (x 1) (l ++ [t]).length (tcT (l ++ [t]))) ∧ Hid (w8.heap.size ≤ WN.heap.size) | _ => Hid (StP wo w8 (wo.heap.size + 1) pz (x 1) (l ++ [t]) WN)) ?hf (by kernel_rfl) (by kernel_rfl) (fun _ => rfl) (by kernel_rfl) ?hv ⟨p3, a0, q4, y0, y1, y2, (Below.refl _ _).drew, Lib.hid (hQ.out.below (Below.refl _ _).drew)⟩ ?hA ?hT (fun x WN hst => ?he)
       case hf => intro x; simp only [putOps, Act.put, List.setIfInBounds_toArray, List.set_cons_succ, List.set_cons_zero]; exact rfl
       case hv =>
        intro x jS t v h
        cases jS with
        | zero => cases h; rfl
        | succ jS =>
         cases jS with
         | zero => cases h; rfl
         | succ jS =>
          cases jS with
          | zero => cases h; rfl
          | succ jS =>
           simp at h
       case hA =>
        intro jS x WN hj hst
        have hj : jS ≤ 3 := hj
        rcases (show jS = 0 ∨ jS = 1 ∨ jS = 2 ∨ jS = 3 by omega) with rfl | rfl | rfl | rfl
        ·have HST := Lib.hid hst
         obtain ⟨p3, a0, q4, y0, y1, y2, hbl, hQ⟩ := hst
         iterate 13 refine ⟨?_, fun K hK => ?_⟩
         ·trivial
         all_goals try (go_simp; exact hK _ HST.out; done)
        ·have HST := Lib.hid hst
         obtain ⟨p3, a0, q4, y0, y1, y2, hbl, hQ, g2, hx0, hkg⟩ := hst
         iterate 3 refine ⟨?_, fun K hK => ?_⟩
         ·trivial
         all_goals try (go_simp; exact hK _ HST.out; done)
        ·have HST := Lib.hid hst
         obtain ⟨h1, h2, h3, h4⟩ := hst
         iterate 1 refine ⟨?_, fun K hK => ?_⟩
         ·trivial
         all_goals try (go_simp; exact hK _ HST.out; done)
        ·trivial
       case hT =>
        intro jS t x WN ht hst o ho K hK
        cases jS with
        | zero =>
         cases ht; cases ho
         obtain ⟨p3, a0, q4, y0, y1, y2, hbl, hQ⟩ := hst
         go_simp
         exact hK (.slice (some ⟨WN.heap.size, 0, none⟩) 1 1) _ ⟨al_c p3 (.cells #[.int .i64 t.1, .int .i64 t.2.1, .int .i64 t.2.2] 59), al_c a0 (.cells #[.int .i64 t.1, .int .i64 t.2.1, .int .i64 t.2.2] 59), al_c q4 (.cells #[.int .i64 t.1, .int .i64 t.2.1, .int .i64 t.2.2] 59), al_c y0 (.cells #[.int .i64 t.1, .int .i64 t.2.1, .int .i64 t.2.2] 59), al_c y1 (.cells #[.int .i64 t.1, .int .i64 t.2.1, .int .i64 t.2.2] 59), al_c y2 (.cells #[.int .i64 t.1, .int .i64 t.2.1, .int .i64 t.2.2] 59), hbl.alloc hbl.size (.cells #[.int .i64 t.1, .int .i64 t.2.1, .int .i64 t.2.2] 59), Lib.hid (hQ.out.below (below_new WN (.cells #[.int .i64 t.1, .int .i64 t.2.1, .int .i64 t.2.2] 59))), WN.heap.size, Lib.hid rfl, heap_alloc_new WN (.cells #[.int .i64 t.1, .int .i64 t.2.1, .int .i64 t.2.2] 59)⟩
        | succ jS =>
         cases jS with
         | zero =>
          cases ht; cases ho
          obtain ⟨p3, a0, q4, y0, y1, y2, hbl, hQ, g2, hx0, hkg⟩ := hst
          have hrow := hQ.out.row
          have hsz := hQ.out.ge.2.2
          refine step_app Tryz.underlying60 tri_info rfl (by decide) (by decide) rfl _ _ rfl w8.heap.size U l.length (tcT l) [.int .i64 t.1, .int .i64 t.2.1, .int .i64 t.2.2] rfl hrow hsz 1 g2 hx0.out hkg rfl (tri_one _ _ _) (by omega) (fun vv ww h1 h2 h3 => hK vv ww ?_)
          obtain ⟨k1, k2, k3, k4⟩ := hQ.out.grow h1 h2 h3
          exact ⟨Lib.hid k1, Lib.hid k2, Lib.hid k3, Lib.hid k4⟩
         | succ jS =>
          cases jS with
          | zero =>
           cases ht; cases ho
           obtain ⟨h1, h2, h3, h4⟩ := hst
           obtain ⟨A9, n9, c9, hx9⟩ : ∃ A n c, x 1 = .slice A n c := by obtain ⟨A, c, h, _⟩ := own_slice h3.out; exact ⟨A, _, c, h⟩
           rw [hx9] at hK ⊢
           have zf := frozen_of_blk h2.out
           have zl := blk_lt h2.out
           have z3 := cell_of_blk h2.out 3
           simp only [List.getElem?_toArray, List.getElem?_cons_zero, List.getElem?_cons_succ] at z3
           have hh3 := h3.out
           rw [hx9] at hh3
           have hfin := StP.set h1.out h2.out hh3 ⟨by omega, by omega⟩ h4.out
           have HFIN := Lib.hid hfin
           clear hfin hh3
           go_simp
           refine hK undef _ ?_
           rw [show updV x (0 + 1 + 1) undef 1 = x 1 from rfl, hx9]
           exact HFIN
          | succ jS =>
           simp at ht
       case he =>
        have hQ := hst
        rw [← HLN.out] at hQ
        obtain ⟨U2, hU2⟩ : ∃ U2, U2 = x 1 := ⟨_, rfl⟩
        rw [← hU2] at hQ
        have HQ := hQ
        clear hU2 hQ HLN c0 y0 y1 y2 a0 q4 p3
        have hwh : IntKind.i64.wrap ((h : Int) + 1) = ((h + 1 : Nat) : Int) := by rw [IntWalk.i64_in _ (by omega)]; omega
        go_wp2
        go_roundw
        case rel => exact ⟨h + 1, U2, by omega, by first | rfl | go_num, HQ⟩
        case measure => simp [intOf]; omega
      ·obtain rfl : h = ql := by omega
       rw [HQL.out, List.take_length] at hQ
       obtain ⟨wi, hwi⟩ : ∃ x, x = wr := ⟨_, rfl⟩
       subst hwi
       have hI2 := HI.out.below hQ.out.bel
       obtain ⟨xs0, hown, hpush⟩ := hI2.push (s := (pz, trsOf L (G pz))) (own_mono hQ.out.row (by have := hQ.out.ge; omega))
       obtain ⟨AU, cU, hU, _⟩ := own_slice hQ.out.row
       subst hU
       have c5 := hI2.cell
       have kb := hQ.out.blk
       have s0 := cell_of_blk kb 0
       have s1 := cell_of_blk kb 1
       have s2 := cell_of_blk kb 2
       have s3 := cell_of_blk kb 3
       simp only [List.getElem?_toArray, List.getElem?_cons_zero, List.getElem?_cons_succ] at s0 s1 s2 s3
       have hstl : (stkOf L G (xs.take i)).length = i := by simp [stkOf]; omega
       have hln := stkOf_take (L := L) (G := G) HXI.out
       have hsz6 := hI2.kp.size
       have HOWN := Lib.hid hown
       have HPUSH := Lib.hid hpush
       have HLN := Lib.hid hln
       have HSTL := Lib.hid hstl
       clear hown hpush hln kb hI2 hQ hstl
       go_wp2_with (first
        | (at_builtin; go_loud (refine app_gen Tryz.underlying27 stack_info rfl (by decide) (by decide) rfl (.tmp 64) (.tmp 66) rfl w6.heap.size S (stkOf L G (xs.take i)).length xs0 [.int .i64 pz.1, .int .i64 pz.2.1, .int .i64 pz.2.2, .slice AU (trsOf L (G pz)).length cU] rfl HOWN.out hsz6 1 _ rfl rfl rfl (stk_one _ _ _ _ _ _) (by rw [HSTL.out]; omega) ?_); intro v' w' hown' hb' hgr'; have hI3 := HPUSH.out v' w' hown' hgr'; obtain ⟨Av2, cv2, hv2, _, _⟩ := own_slice hown'; subst hv2; have f5 := frozen_of_blk hI3.blk; have l5 := blk_lt hI3.blk; have c5' := hI3.cell; rw [← HLN.out] at hI3; have HI3 := Lib.hid hI3; clear hown' hb' hgr' hI3)
        | fail)
       have HI4 := Lib.hid HI3.out.store
       have hwi2 : IntKind.i64.wrap ((i : Int) + 1) = ((i + 1 : Nat) : Int) := by rw [IntWalk.i64_in _ (by omega)]; omega
       clear f5 l5 c5' HI3
       try go_wp2
       go_roundw
       case rel => exact ⟨i + 1, _, by omega, by first | rfl | go_num, HI4⟩
       case measure => simp [intOf]; omega
   ·obtain rfl : i = xs.length := by omega
    rw [List.take_length] at hI
    obtain ⟨As2, cS2, hS2⟩ := hI.out.stk.sl
    subst hS2
    have kr := hI.out.kp.ob KR6.out (show w.heap.size ≠ g by omega) (show w.heap.size ≠ g by omega)
    have hgk := hI.out.blk
    have z0 := cell_of_blk hgk 0
    have z1 := cell_of_blk hgk 1
    have z2 := cell_of_blk hgk 2
    have z3 := cell_of_blk hgk 3
    have z4 := cell_of_blk hgk 4
    have z5 := cell_of_blk hgk 5
    have y0 := cell_of_blk kr 0
    have y1 := cell_of_blk kr 1
    have y2 := cell_of_blk kr 2
    have y3 := cell_of_blk kr 3
    have y4 := cell_of_blk kr 4
    have y5 := cell_of_blk kr 5
    simp only [List.getElem?_toArray, List.getElem?_cons_zero, List.getElem?_cons_succ] at z0 z1 z2 z3 z4 z5 y0 y1 y2 y3 y4 y5
    have yf := frozen_of_blk kr
    have yl := blk_lt kr
    clear hgk
    have KRR := Lib.hid kr
    clear kr
    go_wp2_with fail
    have kr := KRR.out
    have hn1 := own_not HR3.out.1 HGB6.out (by decide)
    have hn2 := own_not HR3.out.2.1 HGB6.out (by decide)
    have hn3 := own_not HR3.out.2.2 HGB6.out (by decide)
    have hbW : Below w.heap.size w wr := HW6.out.trans (hI.out.kp.out hwg hwg (by omega))
    have hkF := blk_set6 kr (.int .i64 W) (.int .i64 H) (.slice Bm nm cm2) (.slice Bc nc cc2) (.slice Bp np cp2) (.slice As2 (stkOf L G xs).length cS2)
    have o1 := own_set6 (own_kp2 HR3.out.1 hI.out.kp hn1 hn1) kr (by decide) (.int .i64 W) (.int .i64 H) (.slice Bm nm cm2) (.slice Bc nc cc2) (.slice Bp np cp2) (.slice As2 (stkOf L G xs).length cS2)
    have o2 := own_set6 (own_kp2 HR3.out.2.1 hI.out.kp hn2 hn2) kr (by decide) (.int .i64 W) (.int .i64 H) (.slice Bm nm cm2) (.slice Bc nc cc2) (.slice Bp np cp2) (.slice As2 (stkOf L G xs).length cS2)
    have o3 := own_set6 (own_kp2 HR3.out.2.2 hI.out.kp hn3 hn3) kr (by decide) (.int .i64 W) (.int .i64 H) (.slice Bm nm cm2) (.slice Bc nc cc2) (.slice Bp np cp2) (.slice As2 (stkOf L G xs).length cS2)
    have o4 := hI.out.stk.set6 kr (by decide) (by decide) (.int .i64 W) (.int .i64 H) (.slice Bm nm cm2) (.slice Bc nc cc2) (.slice Bp np cp2) (.slice As2 (stkOf L G xs).length cS2)
    have hbF := below_set6 hbW (Nat.le_refl w.heap.size) (.int .i64 W) (.int .i64 H) (.slice Bm nm cm2) (.slice Bc nc cc2) (.slice Bp np cp2) (.slice As2 (stkOf L G xs).length cS2)
    generalize ((((((wr.setCell ⟨w.heap.size, 0, none⟩ (.int .i64 W)).setCell ⟨w.heap.size, 1, none⟩ (.int .i64 H)).setCell ⟨w.heap.size, 2, none⟩ (.slice Bm nm cm2)).setCell ⟨w.heap.size, 3, none⟩ (.slice Bc nc cc2)).setCell ⟨w.heap.size, 4, none⟩ (.slice Bp np cp2)).setCell ⟨w.heap.size, 5, none⟩ (.slice As2 (stkOf L G xs).length cS2)) = wF at hkF o1 o2 o3 o4 hbF ⊢
    have j0 := cell_of_blk hkF 0
    have j1 := cell_of_blk hkF 1
    have j2 := cell_of_blk hkF 2
    have j3 := cell_of_blk hkF 3
    have j4 := cell_of_blk hkF 4
    have j5 := cell_of_blk hkF 5
    simp only [List.getElem?_toArray, List.getElem?_cons_zero, List.getElem?_cons_succ] at j0 j1 j2 j3 j4 j5
    have hsl2 : (stkOf L G xs).length = ss.length := by rw [stkOf, List.length_map, HXL.out]
    refine bodyPost_ret (v := .agg #[.int .i64 W, .int .i64 H, .slice Bm nm cm2, .slice Bc nc cc2, .slice Bp np cp2, .slice As2 (stkOf L G xs).length cS2]) (by simp [results, Tryz.results14, go_sem, j0, j1, j2, j3, j4, j5]) rfl ⟨Bm, cm2, Bc, cc2, Bp, cp2, As2, cS2, ss, by rw [hsl2], o1, o2, o3, ?_, HSS.out.nodup, fun x => ⟨fun h => ((HSS.out.mem x).1 h).2, fun h => (HSS.out.mem x).2 ⟨HK3.out.2 x ((HK3.out.1 x).1 h), h⟩⟩, hbF⟩
    rw [← HXS.out, ← hsl2]
    exact o4.mono (by omega)
end
end Go.Proofs.YtbnkabmnenginaaGreatDoor
