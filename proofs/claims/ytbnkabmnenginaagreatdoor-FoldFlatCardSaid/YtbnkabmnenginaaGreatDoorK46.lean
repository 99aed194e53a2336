/- The document's SameState. -/
import Derived.Test.YtbnkabmnenginaaGreatDoorK45
import Derived.Test.YtbnkabmnenginaaGreatDoorK27
import Derived.Test.YtbnkabmnenginaaGreatDoorK30
namespace Go.Proofs.YtbnkabmnenginaaGreatDoor
set_option linter.unusedSimpArgs false
set_option linter.unusedVariables false
section
open Go.RowKit Go.Maps
theorem eqL_tr (U a : T3) : eqL [(U.1, a.1), (U.2.1, a.2.1), (U.2.2, a.2.2)] = decide (U = a) := by
 obtain ⟨x, y, k⟩ := U
 obtain ⟨x', y', k'⟩ := a
 rw [Bool.eq_iff_iff]
 simp [eqL]
set_option maxRecDepth 100000 in
set_option maxHeartbeats 6400000 in
theorem sameState_any (W H W2 H2 : Int) (Am Ac Ap As Am2 Ac2 Ap2 As2 : Option Addr) (nm cm nc cc np cp ns cS nm2 cm2 nc2 cc2 np2 cp2 ns2 cS2 : Nat) (mask mask2 : List Int) (cs cs2 : List C5) (ms ms2 : List V6) (sts sts2 : List Stk) (w : World) (hm : Rd w 1 Am nm (vis mask)) (hc : Rd w 5 Ac nc (ccs cs)) (hp : Rd w 6 Ap np (mcs ms)) (hst : StkR w As ns sts)
  (hm2 : Rd w 1 Am2 nm2 (vis mask2)) (hc2 : Rd w 5 Ac2 nc2 (ccs cs2)) (hp2 : Rd w 6 Ap2 np2 (mcs ms2)) (hst2 : StkR w As2 ns2 sts2) (hnm : nm ≤ 140737488351232) (hnc : nc ≤ 140737488351232) (hnp : np ≤ 140737488351232) :
  Calls Tryz.prog 8 #[.agg #[.int .i64 W, .int .i64 H, .slice Am nm cm, .slice Ac nc cc, .slice Ap np cp, .slice As ns cS], .agg #[.int .i64 W2, .int .i64 H2, .slice Am2 nm2 cm2, .slice Ac2 nc2 cc2, .slice Ap2 np2 cp2, .slice As2 ns2 cS2]] w fun e w' => e = .returned (.bool (decide (W = W2 ∧ H = H2 ∧ mask = mask2 ∧ cs = cs2 ∧ ms = ms2 ∧ sts = sts2))) ∧ Below w.heap.size w w' := by
 have hlp : np = ms.length := by have := hp.1; rw [mcs_len] at this; omega
 have hlp2 : np2 = ms2.length := by have := hp2.1; rw [mcs_len] at this; omega
 subst hlp hlp2
 have hls := hst.len
 have hls2 := hst2.len
 have hzs := hst.sz
 have kb0 := blk_alloc (heap_alloc_new w (.cells #[.int .i64 W, .int .i64 H, .slice Am nm cm, .slice Ac nc cc, .slice Ap ms.length cp, .slice As ns cS] 29)) (.cells #[.int .i64 W2, .int .i64 H2, .slice Am2 nm2 cm2, .slice Ac2 nc2 cc2, .slice Ap2 ms2.length cp2, .slice As2 ns2 cS2] 29)
 have kb1 := heap_alloc_new (w.alloc (.cells #[.int .i64 W, .int .i64 H, .slice Am nm cm, .slice Ac nc cc, .slice Ap ms.length cp, .slice As ns cS] 29)) (.cells #[.int .i64 W2, .int .i64 H2, .slice Am2 nm2 cm2, .slice Ac2 nc2 cc2, .slice Ap2 ms2.length cp2, .slice As2 ns2 cS2] 29)
 rw [World.size_alloc] at kb1
 have hb0 := ba (below_new w (.cells #[.int .i64 W, .int .i64 H, .slice Am nm cm, .slice Ac nc cc, .slice Ap ms.length cp, .slice As ns cS] 29)) (.cells #[.int .i64 W2, .int .i64 H2, .slice Am2 nm2 cm2, .slice Ac2 nc2 cc2, .slice Ap2 ms2.length cp2, .slice As2 ns2 cS2] 29)
 have a0 := cell_of_blk kb0 0
 have a1 := cell_of_blk kb0 1
 have a2 := cell_of_blk kb0 2
 have a3 := cell_of_blk kb0 3
 have a4 := cell_of_blk kb0 4
 have a5 := cell_of_blk kb0 5
 have b0 := cell_of_blk kb1 0
 have b1 := cell_of_blk kb1 1
 have b2 := cell_of_blk kb1 2
 have b3 := cell_of_blk kb1 3
 have b4 := cell_of_blk kb1 4
 have b5 := cell_of_blk kb1 5
 simp only [List.getElem?_toArray, List.getElem?_cons_zero, List.getElem?_cons_succ] at a0 a1 a2 a3 a4 a5 b0 b1 b2 b3 b4 b5
 have cS0 := fun (W' : World) (hb : Below w.heap.size w W') => sameSheet_any W H W2 H2 Am Ac Am2 Ac2 nm cm nc cc nm2 cm2 nc2 cc2 mask mask2 cs cs2 W' (hm.below hb) (hc.below hb) (hm2.below hb) (hc2.below hb) hnm hnc
 obtain ⟨R, hR⟩ : ∃ r, r = decide (W = W2 ∧ H = H2 ∧ mask = mask2 ∧ cs = cs2 ∧ ms = ms2 ∧ sts = sts2) := ⟨_, rfl⟩
 rw [← hR]
 obtain ⟨x1, hx1⟩ : ∃ b, b = decide (W = W2 ∧ H = H2 ∧ mask = mask2 ∧ cs = cs2) := ⟨_, rfl⟩
 rw [← hx1] at cS0
 have CS0 := Lib.hid cS0
 have HR := Lib.hid hR
 have HB0 := Lib.hid hb0
 have HP := Lib.hid (hp.below hb0)
 have HST := Lib.hid (hst.below hb0)
 have HP2 := Lib.hid (hp2.below hb0)
 have HST2 := Lib.hid (hst2.below hb0)
 have HL := Lib.hid (And.intro hls hls2)
 clear hR hb0 hm hc hp hst hm2 hc2 hp2 hst2 kb0 kb1 hls hls2 cS0
 obtain ⟨x2, hx2⟩ : ∃ b, b = !decide (ms.length = ms2.length) := ⟨_, rfl⟩
 have nx21 : ((ms.length : Int) != (ms2.length : Int)) = x2 := by
  rw [hx2, bne]
  by_cases h : ms.length = ms2.length
  ·simp [h]
  ·have : ¬ (ms.length : Int) = (ms2.length : Int) := by omega
   simp [h, this]
 have nx22 : ((ms.length : Int) == (ms2.length : Int)) = !x2 := by rw [← nx21, bne, Bool.not_not]
 have nx23 : decide (ms.length = ms2.length) = !x2 := by rw [hx2]; simp
 have nx24 : (ms.length == ms2.length) = !x2 := by rw [hx2]; by_cases h : ms.length = ms2.length <;> simp [h]
 obtain ⟨x3, hx3⟩ : ∃ b, b = !decide (ns = ns2) := ⟨_, rfl⟩
 have nx31 : ((ns : Int) != (ns2 : Int)) = x3 := by
  rw [hx3, bne]
  by_cases h : ns = ns2
  ·simp [h]
  ·have : ¬ (ns : Int) = (ns2 : Int) := by omega
   simp [h, this]
 have nx32 : ((ns : Int) == (ns2 : Int)) = !x3 := by rw [← nx31, bne, Bool.not_not]
 have nx33 : decide (ns = ns2) = !x3 := by rw [hx3]; simp
 have nx34 : (ns == ns2) = !x3 := by rw [hx3]; by_cases h : ns = ns2 <;> simp [h]
 have HX := Lib.hid (And.intro hx1 (And.intro hx2 hx3))
 clear hx1 hx2 hx3
 go_enter Tryz.func8, Tryz.ntmps8
 go_upto_region 1 with fail
 generalize (w.alloc (.cells #[.int .i64 W, .int .i64 H, .slice Am nm cm, .slice Ac nc cc, .slice Ap ms.length cp, .slice As ns cS] 29)).alloc (.cells #[.int .i64 W2, .int .i64 H2, .slice Am2 nm2 cm2, .slice Ac2 nc2 cc2, .slice Ap2 ms2.length cp2, .slice As2 ns2 cS2] 29) = w0 at a0 a1 a2 a3 a4 a5 b0 b1 b2 b3 b4 b5 HB0 HP HST HP2 HST2 ⊢
 obtain ⟨V5_5, H5_5⟩ : ∃ V : Value, Hid (V = .bool (!x1)) := ⟨_, Lib.hid rfl⟩
 obtain ⟨V5_6, H5_6⟩ : ∃ V : Value, Hid (V = .bool (!x1)) := ⟨_, Lib.hid rfl⟩
 obtain ⟨V5_7, H5_7⟩ : ∃ V : Value, Hid (V = (bif x1 then .pointer (some ⟨w.heap.size, 4, none⟩) else undef)) := ⟨_, Lib.hid rfl⟩
 obtain ⟨V5_8, H5_8⟩ : ∃ V : Value, Hid (V = (bif x1 then .slice Ap ms.length cp else undef)) := ⟨_, Lib.hid rfl⟩
 obtain ⟨V5_9, H5_9⟩ : ∃ V : Value, Hid (V = (bif x1 then .int .i64 (ms.length : Int) else undef)) := ⟨_, Lib.hid rfl⟩
 obtain ⟨V5_10, H5_10⟩ : ∃ V : Value, Hid (V = (bif x1 then .pointer (some ⟨w.heap.size + 1, 4, none⟩) else undef)) := ⟨_, Lib.hid rfl⟩
 obtain ⟨V5_11, H5_11⟩ : ∃ V : Value, Hid (V = (bif x1 then .slice Ap2 ms2.length cp2 else undef)) := ⟨_, Lib.hid rfl⟩
 obtain ⟨V5_12, H5_12⟩ : ∃ V : Value, Hid (V = (bif x1 then .int .i64 (ms2.length : Int) else undef)) := ⟨_, Lib.hid rfl⟩
 obtain ⟨V5_13, H5_13⟩ : ∃ V : Value, Hid (V = (bif x1 then .bool x2 else undef)) := ⟨_, Lib.hid rfl⟩
 obtain ⟨V5_14, H5_14⟩ : ∃ V : Value, Hid (V = .bool ((!x1) || x2)) := ⟨_, Lib.hid rfl⟩
 obtain ⟨V5_15, H5_15⟩ : ∃ V : Value, Hid (V = .bool ((!x1) || x2)) := ⟨_, Lib.hid rfl⟩
 obtain ⟨V5_16, H5_16⟩ : ∃ V : Value, Hid (V = (bif (!((!x1) || x2)) then .pointer (some ⟨w.heap.size, 5, none⟩) else undef)) := ⟨_, Lib.hid rfl⟩
 obtain ⟨V5_17, H5_17⟩ : ∃ V : Value, Hid (V = (bif (!((!x1) || x2)) then .slice As ns cS else undef)) := ⟨_, Lib.hid rfl⟩
 obtain ⟨V5_18, H5_18⟩ : ∃ V : Value, Hid (V = (bif (!((!x1) || x2)) then .int .i64 (ns : Int) else undef)) := ⟨_, Lib.hid rfl⟩
 obtain ⟨V5_19, H5_19⟩ : ∃ V : Value, Hid (V = (bif (!((!x1) || x2)) then .pointer (some ⟨w.heap.size + 1, 5, none⟩) else undef)) := ⟨_, Lib.hid rfl⟩
 obtain ⟨V5_20, H5_20⟩ : ∃ V : Value, Hid (V = (bif (!((!x1) || x2)) then .slice As2 ns2 cS2 else undef)) := ⟨_, Lib.hid rfl⟩
 obtain ⟨V5_21, H5_21⟩ : ∃ V : Value, Hid (V = (bif (!((!x1) || x2)) then .int .i64 (ns2 : Int) else undef)) := ⟨_, Lib.hid rfl⟩
 obtain ⟨V5_22, H5_22⟩ : ∃ V : Value, Hid (V = (bif (!((!x1) || x2)) then .bool x3 else undef)) := ⟨_, Lib.hid rfl⟩
 obtain ⟨V5_23, H5_23⟩ : ∃ V : Value, Hid (V = .bool (((!x1) || x2) || x3)) := ⟨_, Lib.hid rfl⟩
 refine rg_list (fin := ?z6) [.pointer (some ⟨w.heap.size, 0, none⟩), .agg #[.int .i64 W, .int .i64 H, .slice Am nm cm, .slice Ac nc cc], .pointer (some ⟨w.heap.size + 1, 0, none⟩), .agg #[.int .i64 W2, .int .i64 H2, .slice Am2 nm2 cm2, .slice Ac2 nc2 cc2], .bool x1, V5_5, V5_6, V5_7, V5_8, V5_9, V5_10, V5_11, V5_12, V5_13, V5_14, V5_15, V5_16, V5_17, V5_18, V5_19, V5_20, V5_21, V5_22, V5_23] (fun WN => WN.cell? ⟨w.heap.size, 0, none⟩ = some (.int .i64 W) ∧ WN.cell? ⟨w.heap.size, 1, none⟩ = some (.int .i64 H) ∧ WN.cell? ⟨w.heap.size, 2, none⟩ = some (.slice Am nm cm) ∧ WN.cell? ⟨w.heap.size, 3, none⟩ = some (.slice Ac nc cc) ∧ WN.cell? ⟨w.heap.size, 4, none⟩ = some (.slice Ap ms.length cp) ∧ WN.cell? ⟨w.heap.size, 5, none⟩ = some (.slice As ns cS) ∧ WN.cell? ⟨w.heap.size + 1, 0, none⟩ = some (.int .i64 W2) ∧ WN.cell? ⟨w.heap.size + 1, 1, none⟩ = some (.int .i64 H2) ∧ WN.cell? ⟨w.heap.size + 1, 2, none⟩ = some (.slice Am2 nm2 cm2) ∧ WN.cell? ⟨w.heap.size + 1, 3, none⟩ = some (.slice Ac2 nc2 cc2) ∧ WN.cell? ⟨w.heap.size + 1, 4, none⟩ = some (.slice Ap2 ms2.length cp2) ∧ WN.cell? ⟨w.heap.size + 1, 5, none⟩ = some (.slice As2 ns2 cS2) ∧ Below w0.heap.size w0 WN) ?hf (by kernel_rfl) rfl ⟨a0, a1, a2, a3, a4, a5, b0, b1, b2, b3, b4, b5, Below.refl _ _⟩ (fun WN hst => ?hs) (fun WN hst => ?he)
 case hf => simp only [putOps, Act.put, List.setIfInBounds_toArray, List.set_cons_succ, List.set_cons_zero]; exact rfl
 case hs =>
  have HST := Lib.hid hst
  obtain ⟨a0, a1, a2, a3, a4, a5, b0, b1, b2, b3, b4, b5, hbl⟩ := hst
  iterate 24 refine ⟨?_, fun K hK => ?_⟩
  ·trivial
  ·obtain rfl := H5_23.out
   obtain rfl := H5_15.out
   obtain rfl := H5_22.out
   cases x3 <;> cases x2 <;> cases x1 <;> (go_simp; exact hK _ HST.out)
  ·obtain rfl := H5_22.out
   obtain rfl := H5_15.out
   obtain rfl := H5_18.out
   obtain rfl := H5_21.out
   generalize ((!x1) || x2) = y0 at hK ⊢
   cases y0 <;> (go_simp; exact hK _ HST.out)
  ·obtain rfl := H5_21.out
   obtain rfl := H5_15.out
   obtain rfl := H5_20.out
   generalize ((!x1) || x2) = y0 at hK ⊢
   cases y0 <;> (go_simp; exact hK _ HST.out)
  ·obtain rfl := H5_20.out
   obtain rfl := H5_15.out
   obtain rfl := H5_19.out
   generalize ((!x1) || x2) = y0 at hK ⊢
   cases y0 <;> (go_simp; exact hK _ HST.out)
  ·obtain rfl := H5_19.out
   obtain rfl := H5_15.out
   generalize ((!x1) || x2) = y0 at hK ⊢
   cases y0 <;> (go_simp; exact hK _ HST.out)
  ·obtain rfl := H5_18.out
   obtain rfl := H5_15.out
   obtain rfl := H5_17.out
   generalize ((!x1) || x2) = y0 at hK ⊢
   cases y0 <;> (go_simp; exact hK _ HST.out)
  ·obtain rfl := H5_17.out
   obtain rfl := H5_15.out
   obtain rfl := H5_16.out
   generalize ((!x1) || x2) = y0 at hK ⊢
   cases y0 <;> (go_simp; exact hK _ HST.out)
  ·obtain rfl := H5_16.out
   obtain rfl := H5_15.out
   generalize ((!x1) || x2) = y0 at hK ⊢
   cases y0 <;> (go_simp; exact hK _ HST.out)
  ·obtain rfl := H5_15.out
   obtain rfl := H5_14.out
   generalize ((!x1) || x2) = y0 at hK ⊢
   cases y0 <;> (go_simp; exact hK _ HST.out)
  ·obtain rfl := H5_14.out
   obtain rfl := H5_6.out
   obtain rfl := H5_13.out
   cases x1 <;> cases x2 <;> (go_simp; exact hK _ HST.out)
  ·obtain rfl := H5_13.out
   obtain rfl := H5_6.out
   obtain rfl := H5_9.out
   obtain rfl := H5_12.out
   cases x1 <;> (go_simp; exact hK _ HST.out)
  ·obtain rfl := H5_12.out
   obtain rfl := H5_6.out
   obtain rfl := H5_11.out
   cases x1 <;> (go_simp; exact hK _ HST.out)
  ·obtain rfl := H5_11.out
   obtain rfl := H5_6.out
   obtain rfl := H5_10.out
   cases x1 <;> (go_simp; exact hK _ HST.out)
  ·obtain rfl := H5_10.out
   obtain rfl := H5_6.out
   cases x1 <;> (go_simp; exact hK _ HST.out)
  ·obtain rfl := H5_9.out
   obtain rfl := H5_6.out
   obtain rfl := H5_8.out
   cases x1 <;> (go_simp; exact hK _ HST.out)
  ·obtain rfl := H5_8.out
   obtain rfl := H5_6.out
   obtain rfl := H5_7.out
   cases x1 <;> (go_simp; exact hK _ HST.out)
  ·obtain rfl := H5_7.out
   obtain rfl := H5_6.out
   cases x1 <;> (go_simp; exact hK _ HST.out)
  ·obtain rfl := H5_6.out
   obtain rfl := H5_5.out
   generalize (!x1) = y0 at hK ⊢
   cases y0 <;> (go_simp; exact hK _ HST.out)
  ·obtain rfl := H5_5.out
   cases x1 <;> (go_simp; exact hK _ HST.out)
  ·(go_simp; refine (CS0.out WN (stay_b HB0.out hbl)).mono ?_; rintro e' wc ⟨he, hbc⟩; subst he; exact hK _ ⟨sd a0 hbc, sd a1 hbc, sd a2 hbc, sd a3 hbc, sd a4 hbc, sd a5 hbc, sd b0 hbc, sd b1 hbc, sd b2 hbc, sd b3 hbc, sd b4 hbc, sd b5 hbc, stay_b hbl hbc⟩)
  ·(go_simp; exact hK _ HST.out)
  ·(go_simp; exact hK _ HST.out)
  ·(go_simp; exact hK _ HST.out)
  ·(go_simp; exact hK _ HST.out)
 case he =>
  obtain ⟨a0, a1, a2, a3, a4, a5, b0, b1, b2, b3, b4, b5, hbl⟩ := hst
  obtain rfl := H5_23.out
  clear H5_5 H5_6 H5_7 H5_8 H5_9 H5_10 H5_11 H5_12 H5_13 H5_14 H5_15 H5_16 H5_17 H5_18 H5_19 H5_20 H5_21 H5_22 H5_23
  have HBL := Lib.hid (stay_b HB0.out hbl)
  replace HP := Lib.hid (HP.out.below hbl)
  replace HST := Lib.hid (HST.out.below hbl)
  replace HP2 := Lib.hid (HP2.out.below hbl)
  replace HST2 := Lib.hid (HST2.out.below hbl)
  obtain ⟨G, hGG⟩ : ∃ z, z = (((!x1) || x2) || x3) := ⟨_, rfl⟩
  rw [← hGG]
  have HG := Lib.hid hGG
  clear hGG hbl nx21 nx22 nx23 nx24 nx31 nx32 nx33 nx34 CS0
  cases G with
  | true =>
   have hrf : R = false := by
    rw [HR.out]
    refine decide_eq_false ?_
    rintro ⟨h1, h2, h3, h4, h5, h6⟩
    have hl := HL.out
    have hg := HG.out
    rw [HX.out.1, HX.out.2.1, HX.out.2.2, decide_eq_true ⟨h1, h2, h3, h4⟩, decide_eq_true (by rw [h5] : ms.length = ms2.length), decide_eq_true (by rw [hl.1, hl.2, h6] : ns = ns2)] at hg
    cases hg
   subst hrf
   go_wp2
   go_ret
   exact ⟨rfl, HBL.out⟩
  | false =>
   have hg := HG.out.symm
   simp only [Bool.or_eq_false_iff, Bool.not_eq_false'] at hg
   obtain ⟨⟨g1, g2⟩, g3⟩ := hg
   have e1 : W = W2 ∧ H = H2 ∧ mask = mask2 ∧ cs = cs2 := by have := HX.out.1; rw [g1] at this; exact of_decide_eq_true this.symm
   have e2 : ms.length = ms2.length := by have := HX.out.2.1; rw [g2] at this; simpa using this
   have e3 : ns = ns2 := by have := HX.out.2.2; rw [g3] at this; simpa using this
   have hiff : R = true ↔ ms = ms2 ∧ sts = sts2 := by rw [HR.out]; simp [e1]
   have HI := Lib.hid hiff
   have HE := Lib.hid (And.intro e2 e3)
   obtain ⟨wz, hwz⟩ : ∃ x, x = WN := ⟨_, rfl⟩
   subst hwz
   clear g1 g2 g3 e1 e2 e3 hiff HR HX HG
   go_wp2_with fail
   go_loopw [5] (fun x wr => ∃ i : Nat, i ≤ ms.length ∧ x = .int .i64 i ∧ Hid (ms.take i = ms2.take i) ∧ Hid (Below wz.heap.size wz wr)) (fun x _ => ms.length - (intOf x).toNat)
   case atStart => exact ⟨0, by omega, rfl, Lib.hid (by simp), Lib.hid (Below.refl _ _)⟩
   case round =>
    obtain ⟨i, hi, rfl, hT, hB⟩ := hrel
    replace a0 := sd a0 hB.out
    replace a1 := sd a1 hB.out
    replace a2 := sd a2 hB.out
    replace a3 := sd a3 hB.out
    replace a4 := sd a4 hB.out
    replace a5 := sd a5 hB.out
    replace b0 := sd b0 hB.out
    replace b1 := sd b1 hB.out
    replace b2 := sd b2 hB.out
    replace b3 := sd b3 hB.out
    replace b4 := sd b4 hB.out
    replace b5 := sd b5 hB.out
    by_cases hil : i < ms.length
    ·have hii : (i : Int) < (ms.length : Int) := by omega
     have hil2 : i < ms2.length := by have := HE.out.1; omega
     have hii2 : (i : Int) < (ms2.length : Int) := by omega
     have hi0 : (0 : Int) ≤ (i : Int) := by omega
     obtain ⟨p, po, z, hp1, hz, _, s0, s1, s2, s3, s4, s5⟩ := (HP.out.below hB.out).mp hil
     obtain ⟨p2, po2, z2, hq1, hz2, _, t0, t1, t2, t3, t4, t5⟩ := (HP2.out.below hB.out).mp hil2
     subst hp1 hq1
     have hyes : z = z2 → ms.take (i + 1) = ms2.take (i + 1) := fun e => by subst e; exact take_yes hT.out hz hz2
     have hno : z ≠ z2 → R = false := fun e => by
      cases hRR : R
      ·rfl
      ·exact absurd (by have h1 := (HI.out.1 hRR).1; rw [h1, hz2] at hz; exact (Option.some.inj hz).symm) e
     have HY := Lib.hid hyes
     have HN := Lib.hid hno
     clear hyes hno hz hz2
     obtain ⟨d, hd⟩ : ∃ b, b = !decide (z = z2) := ⟨_, rfl⟩
     have hne : ∀ W : World, (binOp .neq 57 (aggM z) (aggM z2)).run Tryz.prog W = .ok (.bool d) W := fun W => by rw [neM, hd]
     have HD := Lib.hid hd
     clear hd
     go_wp2_with fail
     refine rg_plain (fin := ?z7) [.pointer (some ⟨w.heap.size, 4, none⟩), .slice (some ⟨p, po, none⟩) ms.length cp, .int .i64 (i : Int), .pointer (some ⟨p, po + i * 6, none⟩), .agg #[.int .i64 z.1, .int .i64 z.2.1, .int .i64 z.2.2.1, .int .i64 z.2.2.2.1, .int .i64 z.2.2.2.2.1, .int .i64 z.2.2.2.2.2], .pointer (some ⟨w.heap.size + 1, 4, none⟩), .slice (some ⟨p2, po2, none⟩) ms2.length cp2, .int .i64 (i : Int), .pointer (some ⟨p2, po2 + i * 6, none⟩), .agg #[.int .i64 z2.1, .int .i64 z2.2.1, .int .i64 z2.2.2.1, .int .i64 z2.2.2.2.1, .int .i64 z2.2.2.2.2.1, .int .i64 z2.2.2.2.2.2], .bool d] (fun WN => WN.cell? ⟨w.heap.size, 4, none⟩ = some (.slice (some ⟨p, po, none⟩) ms.length cp) ∧ WN.cell? ⟨w.heap.size + 1, 4, none⟩ = some (.slice (some ⟨p2, po2, none⟩) ms2.length cp2) ∧ WN.cell? ⟨p, po + i * 6, none⟩ = some (.int .i64 z.1) ∧ WN.cell? ⟨p, po + i * 6 + 1, none⟩ = some (.int .i64 z.2.1) ∧ WN.cell? ⟨p, po + i * 6 + 2, none⟩ = some (.int .i64 z.2.2.1) ∧ WN.cell? ⟨p, po + i * 6 + 3, none⟩ = some (.int .i64 z.2.2.2.1) ∧ WN.cell? ⟨p, po + i * 6 + 4, none⟩ = some (.int .i64 z.2.2.2.2.1) ∧ WN.cell? ⟨p, po + i * 6 + 5, none⟩ = some (.int .i64 z.2.2.2.2.2) ∧ WN.cell? ⟨p2, po2 + i * 6, none⟩ = some (.int .i64 z2.1) ∧ WN.cell? ⟨p2, po2 + i * 6 + 1, none⟩ = some (.int .i64 z2.2.1) ∧ WN.cell? ⟨p2, po2 + i * 6 + 2, none⟩ = some (.int .i64 z2.2.2.1) ∧ WN.cell? ⟨p2, po2 + i * 6 + 3, none⟩ = some (.int .i64 z2.2.2.2.1) ∧ WN.cell? ⟨p2, po2 + i * 6 + 4, none⟩ = some (.int .i64 z2.2.2.2.2.1) ∧ WN.cell? ⟨p2, po2 + i * 6 + 5, none⟩ = some (.int .i64 z2.2.2.2.2.2) ∧ Below wr.heap.size wr WN) ?hf (by kernel_rfl) (by kernel_rfl) rfl ⟨a4, b4, s0, s1, s2, s3, s4, s5, t0, t1, t2, t3, t4, t5, (Below.refl _ _).drew⟩ (fun WN hst => ?hs) (fun WN hst => ?he)
     case hf => simp only [putOps, Act.put, List.setIfInBounds_toArray, List.set_cons_succ, List.set_cons_zero]; exact rfl
     case hs =>
      have HST := Lib.hid hst
      obtain ⟨a4, b4, s0, s1, s2, s3, s4, s5, t0, t1, t2, t3, t4, t5, hbl⟩ := hst
      iterate 11 refine ⟨?_, fun K hK => ?_⟩
      ·trivial
      all_goals try (go_simp; exact hK _ HST.out; done)
     case he =>
      obtain ⟨a4, b4, s0, s1, s2, s3, s4, s5, t0, t1, t2, t3, t4, t5, hbl⟩ := hst
      have HBN := Lib.hid (stay_b hB.out hbl)
      clear hbl
      cases d with
      | true =>
       have hr := HN.out (by have := HD.out; simpa using this)
       subst hr
       go_wp2
       go_ret
       exact ⟨rfl, stay_b HBL.out HBN.out⟩
      | false =>
       have he := HY.out (by have := HD.out; simpa using this)
       have HE2 := Lib.hid he
       clear he
       go_wp2
       go_roundw
       case rel => exact ⟨i + 1, by omega, by go_num, HE2, HBN⟩
       case measure => simp [intOf]; omega
    ·obtain rfl : i = ms.length := by omega
     have hmm : ms = ms2 := by
      have h := hT.out
      rwa [List.take_length, List.take_of_length_le (by have := HE.out.1; omega)] at h
     have HMM := Lib.hid hmm
     clear hmm
     obtain ⟨wy, hwy⟩ : ∃ x, x = wr := ⟨_, rfl⟩
     subst hwy
     go_wp2_with fail
     go_loopw [6] (fun x wr => ∃ i : Nat, i ≤ ns ∧ x = .int .i64 i ∧ Hid (sts.take i = sts2.take i) ∧ Hid (Below wy.heap.size wy wr)) (fun x _ => ns - (intOf x).toNat)
     case atStart => exact ⟨0, by omega, rfl, Lib.hid (by simp), Lib.hid (Below.refl _ _)⟩
     case round =>
      have HBy := hB
      clear hT hB
      obtain ⟨i, hi, rfl, hT, hB⟩ := hrel
      replace a0 := sd a0 hB.out
      replace a1 := sd a1 hB.out
      replace a2 := sd a2 hB.out
      replace a3 := sd a3 hB.out
      replace a4 := sd a4 hB.out
      replace a5 := sd a5 hB.out
      replace b0 := sd b0 hB.out
      replace b1 := sd b1 hB.out
      replace b2 := sd b2 hB.out
      replace b3 := sd b3 hB.out
      replace b4 := sd b4 hB.out
      replace b5 := sd b5 hB.out
      by_cases hil : i < ns
      ·have hii : (i : Int) < (ns : Int) := by omega
       have hii2 : (i : Int) < (ns2 : Int) := by have := HE.out.2; omega
       have hi0 : (0 : Int) ≤ (i : Int) := by omega
       have hbx := stay_b HBy.out hB.out
       obtain ⟨z, hz⟩ : ∃ z, sts[i]? = some z := ⟨_, List.getElem?_eq_getElem (by have := HL.out.1; omega)⟩
       obtain ⟨z2, hz2⟩ : ∃ z, sts2[i]? = some z := ⟨_, List.getElem?_eq_getElem (by have := HL.out.2; have := HE.out.2; omega)⟩
       obtain ⟨p, po, A1, c1, hp1, r1, ⟨y1, _⟩, s0, s1, s2, s3⟩ := (HST.out.below hbx).at2 hz
       obtain ⟨p2, po2, A2, c2, hq1, r2, ⟨y2, _⟩, t0, t1, t2, t3⟩ := (HST2.out.below hbx).at2 hz2
       subst hp1 hq1
       have hyes : z = z2 → sts.take (i + 1) = sts2.take (i + 1) := fun e => by subst e; exact take_yes hT.out hz hz2
       have hno : z ≠ z2 → R = false := fun e => by
        cases hRR : R
        ·rfl
        ·exact absurd (by have h1 := (HI.out.1 hRR).2; rw [h1, hz2] at hz; exact (Option.some.inj hz).symm) e
       have HY := Lib.hid hyes
       have HN := Lib.hid hno
       have cT := fun (W' : World) (hb : Below wr.heap.size wr W') => sameTris_any A1 A2 z.2.length z2.2.length c1 c2 z.2 z2.2 W' (r1.below hb) (r2.below hb) (by omega) (by omega)
       obtain ⟨d, hd⟩ : ∃ b, b = !decide (z.1 = z2.1) := ⟨_, rfl⟩
       obtain ⟨d2, hd2⟩ : ∃ b, b = decide (z.2 = z2.2) := ⟨_, rfl⟩
       rw [← hd2] at cT
       have hne : ∀ W : World, (binOp .neq 59 (.agg #[.int .i64 z.1.1, .int .i64 z.1.2.1, .int .i64 z.1.2.2]) (.agg #[.int .i64 z2.1.1, .int .i64 z2.1.2.1, .int .i64 z2.1.2.2])).run Tryz.prog W = .ok (.bool d) W := fun W => by rw [neT, eqL_tr, hd]
       have HD := Lib.hid (And.intro hd hd2)
       have CT := Lib.hid cT
       clear hyes hno hz hz2 hbx cT hd hd2 r1 r2
       go_wp2_with fail
       obtain ⟨V8_14, H8_14⟩ : ∃ V : Value, Hid (V = (bif (!d) then .pointer (some ⟨w.heap.size, 5, none⟩) else undef)) := ⟨_, Lib.hid rfl⟩
       obtain ⟨V8_15, H8_15⟩ : ∃ V : Value, Hid (V = (bif (!d) then .slice (some ⟨p, po, none⟩) ns cS else undef)) := ⟨_, Lib.hid rfl⟩
       obtain ⟨V8_16, H8_16⟩ : ∃ V : Value, Hid (V = (bif (!d) then .int .i64 (i : Int) else undef)) := ⟨_, Lib.hid rfl⟩
       obtain ⟨V8_17, H8_17⟩ : ∃ V : Value, Hid (V = (bif (!d) then .pointer (some ⟨p, po + i * 4, none⟩) else undef)) := ⟨_, Lib.hid rfl⟩
       obtain ⟨V8_18, H8_18⟩ : ∃ V : Value, Hid (V = (bif (!d) then .pointer (some ⟨p, po + i * 4 + 3, none⟩) else undef)) := ⟨_, Lib.hid rfl⟩
       obtain ⟨V8_19, H8_19⟩ : ∃ V : Value, Hid (V = (bif (!d) then .slice A1 z.2.length c1 else undef)) := ⟨_, Lib.hid rfl⟩
       obtain ⟨V8_20, H8_20⟩ : ∃ V : Value, Hid (V = (bif (!d) then .pointer (some ⟨w.heap.size + 1, 5, none⟩) else undef)) := ⟨_, Lib.hid rfl⟩
       obtain ⟨V8_21, H8_21⟩ : ∃ V : Value, Hid (V = (bif (!d) then .slice (some ⟨p2, po2, none⟩) ns2 cS2 else undef)) := ⟨_, Lib.hid rfl⟩
       obtain ⟨V8_22, H8_22⟩ : ∃ V : Value, Hid (V = (bif (!d) then .int .i64 (i : Int) else undef)) := ⟨_, Lib.hid rfl⟩
       obtain ⟨V8_23, H8_23⟩ : ∃ V : Value, Hid (V = (bif (!d) then .pointer (some ⟨p2, po2 + i * 4, none⟩) else undef)) := ⟨_, Lib.hid rfl⟩
       obtain ⟨V8_24, H8_24⟩ : ∃ V : Value, Hid (V = (bif (!d) then .pointer (some ⟨p2, po2 + i * 4 + 3, none⟩) else undef)) := ⟨_, Lib.hid rfl⟩
       obtain ⟨V8_25, H8_25⟩ : ∃ V : Value, Hid (V = (bif (!d) then .slice A2 z2.2.length c2 else undef)) := ⟨_, Lib.hid rfl⟩
       obtain ⟨V8_26, H8_26⟩ : ∃ V : Value, Hid (V = (bif (!d) then .bool d2 else undef)) := ⟨_, Lib.hid rfl⟩
       obtain ⟨V8_27, H8_27⟩ : ∃ V : Value, Hid (V = (bif (!d) then .bool (!d2) else undef)) := ⟨_, Lib.hid rfl⟩
       obtain ⟨V8_28, H8_28⟩ : ∃ V : Value, Hid (V = .bool (d || (!d2))) := ⟨_, Lib.hid rfl⟩
       refine rg_plain (fin := ?z9) [.pointer (some ⟨w.heap.size, 5, none⟩), .slice (some ⟨p, po, none⟩) ns cS, .int .i64 (i : Int), .pointer (some ⟨p, po + i * 4, none⟩), .pointer (some ⟨p, po + i * 4, none⟩), .agg #[.int .i64 z.1.1, .int .i64 z.1.2.1, .int .i64 z.1.2.2], .pointer (some ⟨w.heap.size + 1, 5, none⟩), .slice (some ⟨p2, po2, none⟩) ns2 cS2, .int .i64 (i : Int), .pointer (some ⟨p2, po2 + i * 4, none⟩), .pointer (some ⟨p2, po2 + i * 4, none⟩), .agg #[.int .i64 z2.1.1, .int .i64 z2.1.2.1, .int .i64 z2.1.2.2], .bool d, .bool d, V8_14, V8_15, V8_16, V8_17, V8_18, V8_19, V8_20, V8_21, V8_22, V8_23, V8_24, V8_25, V8_26, V8_27, V8_28] (fun WN => WN.cell? ⟨w.heap.size, 5, none⟩ = some (.slice (some ⟨p, po, none⟩) ns cS) ∧ WN.cell? ⟨w.heap.size + 1, 5, none⟩ = some (.slice (some ⟨p2, po2, none⟩) ns2 cS2) ∧ WN.cell? ⟨p, po + i * 4, none⟩ = some (.int .i64 z.1.1) ∧ WN.cell? ⟨p, po + i * 4 + 1, none⟩ = some (.int .i64 z.1.2.1) ∧ WN.cell? ⟨p, po + i * 4 + 2, none⟩ = some (.int .i64 z.1.2.2) ∧ WN.cell? ⟨p, po + i * 4 + 3, none⟩ = some (.slice A1 z.2.length c1) ∧ WN.cell? ⟨p2, po2 + i * 4, none⟩ = some (.int .i64 z2.1.1) ∧ WN.cell? ⟨p2, po2 + i * 4 + 1, none⟩ = some (.int .i64 z2.1.2.1) ∧ WN.cell? ⟨p2, po2 + i * 4 + 2, none⟩ = some (.int .i64 z2.1.2.2) ∧ WN.cell? ⟨p2, po2 + i * 4 + 3, none⟩ = some (.slice A2 z2.2.length c2) ∧ Below wr.heap.size wr WN) ?hf (by kernel_rfl) (by kernel_rfl) rfl ⟨a5, b5, s0, s1, s2, s3, t0, t1, t2, t3, (Below.refl _ _).drew⟩ (fun WN hst => ?hs) (fun WN hst => ?he)
       case hf => simp only [putOps, Act.put, List.setIfInBounds_toArray, List.set_cons_succ, List.set_cons_zero]; exact rfl
       case hs =>
        have HST := Lib.hid hst
        obtain ⟨a5, b5, s0, s1, s2, s3, t0, t1, t2, t3, hbl⟩ := hst
        iterate 29 refine ⟨?_, fun K hK => ?_⟩
        ·trivial
        ·obtain rfl := H8_28.out
         obtain rfl := H8_27.out
         generalize (!d2) = y1 at hK ⊢
         cases d <;> cases y1 <;> (go_simp; exact hK _ HST.out)
        ·obtain rfl := H8_27.out
         obtain rfl := H8_26.out
         cases d <;> cases d2 <;> (go_simp; exact hK _ HST.out)
        ·obtain rfl := H8_26.out
         obtain rfl := H8_19.out
         obtain rfl := H8_25.out
         cases d <;> first | (go_simp; exact hK _ HST.out; done) | (go_simp; refine (CT.out WN hbl).mono ?_; rintro e' wc ⟨he, hbc⟩; subst he; exact hK _ ⟨sd a5 hbc, sd b5 hbc, sd s0 hbc, sd s1 hbc, sd s2 hbc, sd s3 hbc, sd t0 hbc, sd t1 hbc, sd t2 hbc, sd t3 hbc, stay_b hbl hbc⟩)
        ·obtain rfl := H8_25.out
         obtain rfl := H8_24.out
         cases d <;> (go_simp; exact hK _ HST.out)
        ·obtain rfl := H8_24.out
         obtain rfl := H8_23.out
         cases d <;> (go_simp; exact hK _ HST.out)
        ·obtain rfl := H8_23.out
         obtain rfl := H8_21.out
         obtain rfl := H8_22.out
         cases d <;> (go_simp; exact hK _ HST.out)
        ·obtain rfl := H8_22.out
         cases d <;> (go_simp; exact hK _ HST.out)
        ·obtain rfl := H8_21.out
         obtain rfl := H8_20.out
         cases d <;> (go_simp; exact hK _ HST.out)
        ·obtain rfl := H8_20.out
         cases d <;> (go_simp; exact hK _ HST.out)
        ·obtain rfl := H8_19.out
         obtain rfl := H8_18.out
         cases d <;> (go_simp; exact hK _ HST.out)
        ·obtain rfl := H8_18.out
         obtain rfl := H8_17.out
         cases d <;> (go_simp; exact hK _ HST.out)
        ·obtain rfl := H8_17.out
         obtain rfl := H8_15.out
         obtain rfl := H8_16.out
         cases d <;> (go_simp; exact hK _ HST.out)
        ·obtain rfl := H8_16.out
         cases d <;> (go_simp; exact hK _ HST.out)
        ·obtain rfl := H8_15.out
         obtain rfl := H8_14.out
         cases d <;> (go_simp; exact hK _ HST.out)
        ·obtain rfl := H8_14.out
         cases d <;> (go_simp; exact hK _ HST.out)
        ·cases d <;> (go_simp; exact hK _ HST.out)
        ·(go_simp; exact hK _ HST.out)
        ·(go_simp; exact hK _ HST.out)
        ·(go_simp; exact hK _ HST.out)
        ·(go_simp; exact hK _ HST.out)
        ·(go_simp; exact hK _ HST.out)
        ·(go_simp; exact hK _ HST.out)
        ·(go_simp; exact hK _ HST.out)
        ·(go_simp; exact hK _ HST.out)
        ·(go_simp; exact hK _ HST.out)
        ·(go_simp; exact hK _ HST.out)
        ·(go_simp; exact hK _ HST.out)
        ·(go_simp; exact hK _ HST.out)
        ·(go_simp; exact hK _ HST.out)
       case he =>
        obtain ⟨a5, b5, s0, s1, s2, s3, t0, t1, t2, t3, hbl⟩ := hst
        obtain rfl := H8_28.out
        clear H8_14 H8_15 H8_16 H8_17 H8_18 H8_19 H8_20 H8_21 H8_22 H8_23 H8_24 H8_25 H8_26 H8_27 H8_28
        have HBN := Lib.hid (stay_b hB.out hbl)
        clear hbl hne
        obtain ⟨G, hGG⟩ : ∃ y, y = (d || (!d2)) := ⟨_, rfl⟩
        rw [← hGG]
        have HG := Lib.hid hGG
        clear hGG
        cases G with
        | true =>
         have hr := HN.out (by
          rintro rfl
          have h1 := HG.out
          rw [HD.out.1, HD.out.2] at h1
          simp at h1)
         subst hr
         go_wp2
         go_ret
         exact ⟨rfl, stay_b (stay_b HBL.out HBy.out) HBN.out⟩
        | false =>
         have he := HY.out (by
          have h1 := HG.out.symm
          simp only [Bool.or_eq_false_iff, Bool.not_eq_false'] at h1
          have h2 := HD.out.1
          have h3 := HD.out.2
          rw [h1.1] at h2
          rw [h1.2] at h3
          exact Prod.ext (by simpa using h2) (of_decide_eq_true h3.symm))
         have HE2 := Lib.hid he
         clear he
         go_wp2
         go_roundw
         case rel => exact ⟨i + 1, by omega, by go_num, HE2, HBN⟩
         case measure => simp [intOf]; omega
      ·obtain rfl : i = ns := by omega
       have hr : R = true := HI.out.2 ⟨HMM.out, by
        have h := hT.out
        rwa [List.take_of_length_le (by have := HL.out.1; omega), List.take_of_length_le (by have := HL.out.2; have := HE.out.2; omega)] at h⟩
       subst hr
       go_wp2
       go_ret
       exact ⟨rfl, stay_b (stay_b HBL.out HBy.out) hB.out⟩
end
end Go.Proofs.YtbnkabmnenginaaGreatDoor
