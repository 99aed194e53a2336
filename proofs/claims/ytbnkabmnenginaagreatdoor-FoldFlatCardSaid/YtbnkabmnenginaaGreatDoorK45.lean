/- The document's SameSheet. -/
import Derived.Test.YtbnkabmnenginaaGreatDoorK25
import Derived.Test.YtbnkabmnenginaaGreatDoorK27
import Derived.Test.YtbnkabmnenginaaGreatDoorK04
import Derived.Test.YtbnkabmnenginaaGreatDoorK16
namespace Go.Proofs.YtbnkabmnenginaaGreatDoor
set_option linter.unusedSimpArgs false
set_option linter.unusedVariables false
section
open Go.RowKit
theorem neC (a0 a1 a2 a3 a4 b0 b1 b2 b3 b4 : Int) (w : World) : (binOp .neq 52 (.agg #[.int .i64 a0, .int .i64 a1, .int .i64 a2, .int .i64 a3, .int .i64 a4]) (.agg #[.int .i64 b0, .int .i64 b1, .int .i64 b2, .int .i64 b3, .int .i64 b4])).run Tryz.prog w = .ok (.bool (!(eqL [(a0, b0), (a1, b1), (a2, b2), (a3, b3), (a4, b4)]))) w := by
 simp [go_sem, eqL]
 repeat (first | rfl | (split <;> simp_all))
theorem eqL_cr (x y : C5) : eqL [(x.1.1, y.1.1), (x.1.2.1, y.1.2.1), (x.1.2.2.1, y.1.2.2.1), (x.1.2.2.2, y.1.2.2.2), (x.2, y.2)] = decide (x = y) := by
 obtain ⟨⟨a, b, c, d⟩, e⟩ := x
 obtain ⟨⟨a', b', c', d'⟩, e'⟩ := y
 rw [Bool.eq_iff_iff]
 simp [eqL, and_assoc]
theorem take_yes {α : Type} {l m : List α} {i : Nat} {x : α} (h : l.take i = m.take i) (hl : l[i]? = some x) (hm : m[i]? = some x) : l.take (i + 1) = m.take (i + 1) := by
 rw [List.take_add_one, List.take_add_one, hl, hm, h]
set_option maxRecDepth 100000 in
set_option maxHeartbeats 6400000 in
theorem sameSheet_any (W H W2 H2 : Int) (Am Ac Am2 Ac2 : Option Addr) (nm cm nc cc nm2 cm2 nc2 cc2 : Nat) (mask mask2 : List Int) (cs cs2 : List C5) (w : World) (hm : Rd w 1 Am nm (vis mask)) (hc : Rd w 5 Ac nc (ccs cs)) (hm2 : Rd w 1 Am2 nm2 (vis mask2)) (hc2 : Rd w 5 Ac2 nc2 (ccs cs2)) (hnm : nm ≤ 140737488351232) (hnc : nc ≤ 140737488351232) :
  Calls Tryz.prog 19 #[.agg #[.int .i64 W, .int .i64 H, .slice Am nm cm, .slice Ac nc cc], .agg #[.int .i64 W2, .int .i64 H2, .slice Am2 nm2 cm2, .slice Ac2 nc2 cc2]] w fun e w' => e = .returned (.bool (decide (W = W2 ∧ H = H2 ∧ mask = mask2 ∧ cs = cs2))) ∧ Below w.heap.size w w' := by
 have hlm := hm.ints_len
 have hlc := hc.creases_len
 have hlm2 := hm2.ints_len
 have hlc2 := hc2.creases_len
 have kb0 := blk_alloc (heap_alloc_new w (.cells #[.int .i64 W, .int .i64 H, .slice Am nm cm, .slice Ac nc cc] 25)) (.cells #[.int .i64 W2, .int .i64 H2, .slice Am2 nm2 cm2, .slice Ac2 nc2 cc2] 25)
 have kb1 := heap_alloc_new (w.alloc (.cells #[.int .i64 W, .int .i64 H, .slice Am nm cm, .slice Ac nc cc] 25)) (.cells #[.int .i64 W2, .int .i64 H2, .slice Am2 nm2 cm2, .slice Ac2 nc2 cc2] 25)
 rw [World.size_alloc] at kb1
 have hb0 := ba (below_new w (.cells #[.int .i64 W, .int .i64 H, .slice Am nm cm, .slice Ac nc cc] 25)) (.cells #[.int .i64 W2, .int .i64 H2, .slice Am2 nm2 cm2, .slice Ac2 nc2 cc2] 25)
 have a0 := cell_of_blk kb0 0
 have a1 := cell_of_blk kb0 1
 have a2 := cell_of_blk kb0 2
 have a3 := cell_of_blk kb0 3
 have b0 := cell_of_blk kb1 0
 have b1 := cell_of_blk kb1 1
 have b2 := cell_of_blk kb1 2
 have b3 := cell_of_blk kb1 3
 simp only [List.getElem?_toArray, List.getElem?_cons_zero, List.getElem?_cons_succ] at a0 a1 a2 a3 b0 b1 b2 b3
 obtain ⟨R, hR⟩ : ∃ r, r = decide (W = W2 ∧ H = H2 ∧ mask = mask2 ∧ cs = cs2) := ⟨_, rfl⟩
 rw [← hR]
 have HR := Lib.hid hR
 have HB0 := Lib.hid hb0
 have HM := Lib.hid (hm.below hb0)
 have HC := Lib.hid (hc.below hb0)
 have HM2 := Lib.hid (hm2.below hb0)
 have HC2 := Lib.hid (hc2.below hb0)
 have HL := Lib.hid (And.intro hlm (And.intro hlc (And.intro hlm2 hlc2)))
 clear hR hb0 hm hc hm2 hc2 kb0 kb1 hlm hlc hlm2 hlc2
 obtain ⟨x1, hx1⟩ : ∃ b, b = !decide (W = W2) := ⟨_, rfl⟩
 have nx11 : (W != W2) = x1 := by rw [hx1, bne]; by_cases h : W = W2 <;> simp [h]
 have nx12 : (W == W2) = !x1 := by rw [hx1]; by_cases h : W = W2 <;> simp [h]
 have nx13 : decide (W = W2) = !x1 := by rw [hx1]; simp
 obtain ⟨x2, hx2⟩ : ∃ b, b = !decide (H = H2) := ⟨_, rfl⟩
 have nx21 : (H != H2) = x2 := by rw [hx2, bne]; by_cases h : H = H2 <;> simp [h]
 have nx22 : (H == H2) = !x2 := by rw [hx2]; by_cases h : H = H2 <;> simp [h]
 have nx23 : decide (H = H2) = !x2 := by rw [hx2]; simp
 obtain ⟨x3, hx3⟩ : ∃ b, b = !decide (nm = nm2) := ⟨_, rfl⟩
 have nx31 : ((nm : Int) != (nm2 : Int)) = x3 := by
  rw [hx3, bne]
  by_cases h : nm = nm2
  ·simp [h]
  ·have : ¬ (nm : Int) = (nm2 : Int) := by omega
   simp [h, this]
 have nx32 : ((nm : Int) == (nm2 : Int)) = !x3 := by rw [← nx31, bne, Bool.not_not]
 have nx33 : decide (nm = nm2) = !x3 := by rw [hx3]; simp
 have nx34 : (nm == nm2) = !x3 := by rw [hx3]; by_cases h : nm = nm2 <;> simp [h]
 obtain ⟨x4, hx4⟩ : ∃ b, b = !decide (nc = nc2) := ⟨_, rfl⟩
 have nx41 : ((nc : Int) != (nc2 : Int)) = x4 := by
  rw [hx4, bne]
  by_cases h : nc = nc2
  ·simp [h]
  ·have : ¬ (nc : Int) = (nc2 : Int) := by omega
   simp [h, this]
 have nx42 : ((nc : Int) == (nc2 : Int)) = !x4 := by rw [← nx41, bne, Bool.not_not]
 have nx43 : decide (nc = nc2) = !x4 := by rw [hx4]; simp
 have nx44 : (nc == nc2) = !x4 := by rw [hx4]; by_cases h : nc = nc2 <;> simp [h]
 have HX := Lib.hid (And.intro hx1 (And.intro hx2 (And.intro hx3 hx4)))
 clear hx1 hx2 hx3 hx4
 go_enter Tryz.func19, Tryz.ntmps19
 go_upto_region 1 with fail
 generalize (w.alloc (.cells #[.int .i64 W, .int .i64 H, .slice Am nm cm, .slice Ac nc cc] 25)).alloc (.cells #[.int .i64 W2, .int .i64 H2, .slice Am2 nm2 cm2, .slice Ac2 nc2 cc2] 25) = w0 at a0 a1 a2 a3 b0 b1 b2 b3 HB0 HM HC HM2 HC2 ⊢
 obtain ⟨V1_6, H1_6⟩ : ∃ V : Value, Hid (V = (bif (!x1) then .pointer (some ⟨w.heap.size, 1, none⟩) else undef)) := ⟨_, Lib.hid rfl⟩
 obtain ⟨V1_7, H1_7⟩ : ∃ V : Value, Hid (V = (bif (!x1) then .int .i64 H else undef)) := ⟨_, Lib.hid rfl⟩
 obtain ⟨V1_8, H1_8⟩ : ∃ V : Value, Hid (V = (bif (!x1) then .pointer (some ⟨w.heap.size + 1, 1, none⟩) else undef)) := ⟨_, Lib.hid rfl⟩
 obtain ⟨V1_9, H1_9⟩ : ∃ V : Value, Hid (V = (bif (!x1) then .int .i64 H2 else undef)) := ⟨_, Lib.hid rfl⟩
 obtain ⟨V1_10, H1_10⟩ : ∃ V : Value, Hid (V = (bif (!x1) then .bool x2 else undef)) := ⟨_, Lib.hid rfl⟩
 obtain ⟨V1_11, H1_11⟩ : ∃ V : Value, Hid (V = .bool (x1 || x2)) := ⟨_, Lib.hid rfl⟩
 obtain ⟨V1_12, H1_12⟩ : ∃ V : Value, Hid (V = .bool (x1 || x2)) := ⟨_, Lib.hid rfl⟩
 obtain ⟨V1_13, H1_13⟩ : ∃ V : Value, Hid (V = (bif (!(x1 || x2)) then .pointer (some ⟨w.heap.size, 2, none⟩) else undef)) := ⟨_, Lib.hid rfl⟩
 obtain ⟨V1_14, H1_14⟩ : ∃ V : Value, Hid (V = (bif (!(x1 || x2)) then .slice Am nm cm else undef)) := ⟨_, Lib.hid rfl⟩
 obtain ⟨V1_15, H1_15⟩ : ∃ V : Value, Hid (V = (bif (!(x1 || x2)) then .int .i64 (nm : Int) else undef)) := ⟨_, Lib.hid rfl⟩
 obtain ⟨V1_16, H1_16⟩ : ∃ V : Value, Hid (V = (bif (!(x1 || x2)) then .pointer (some ⟨w.heap.size + 1, 2, none⟩) else undef)) := ⟨_, Lib.hid rfl⟩
 obtain ⟨V1_17, H1_17⟩ : ∃ V : Value, Hid (V = (bif (!(x1 || x2)) then .slice Am2 nm2 cm2 else undef)) := ⟨_, Lib.hid rfl⟩
 obtain ⟨V1_18, H1_18⟩ : ∃ V : Value, Hid (V = (bif (!(x1 || x2)) then .int .i64 (nm2 : Int) else undef)) := ⟨_, Lib.hid rfl⟩
 obtain ⟨V1_19, H1_19⟩ : ∃ V : Value, Hid (V = (bif (!(x1 || x2)) then .bool x3 else undef)) := ⟨_, Lib.hid rfl⟩
 obtain ⟨V1_20, H1_20⟩ : ∃ V : Value, Hid (V = .bool ((x1 || x2) || x3)) := ⟨_, Lib.hid rfl⟩
 obtain ⟨V1_21, H1_21⟩ : ∃ V : Value, Hid (V = .bool ((x1 || x2) || x3)) := ⟨_, Lib.hid rfl⟩
 obtain ⟨V1_22, H1_22⟩ : ∃ V : Value, Hid (V = (bif (!((x1 || x2) || x3)) then .pointer (some ⟨w.heap.size, 3, none⟩) else undef)) := ⟨_, Lib.hid rfl⟩
 obtain ⟨V1_23, H1_23⟩ : ∃ V : Value, Hid (V = (bif (!((x1 || x2) || x3)) then .slice Ac nc cc else undef)) := ⟨_, Lib.hid rfl⟩
 obtain ⟨V1_24, H1_24⟩ : ∃ V : Value, Hid (V = (bif (!((x1 || x2) || x3)) then .int .i64 (nc : Int) else undef)) := ⟨_, Lib.hid rfl⟩
 obtain ⟨V1_25, H1_25⟩ : ∃ V : Value, Hid (V = (bif (!((x1 || x2) || x3)) then .pointer (some ⟨w.heap.size + 1, 3, none⟩) else undef)) := ⟨_, Lib.hid rfl⟩
 obtain ⟨V1_26, H1_26⟩ : ∃ V : Value, Hid (V = (bif (!((x1 || x2) || x3)) then .slice Ac2 nc2 cc2 else undef)) := ⟨_, Lib.hid rfl⟩
 obtain ⟨V1_27, H1_27⟩ : ∃ V : Value, Hid (V = (bif (!((x1 || x2) || x3)) then .int .i64 (nc2 : Int) else undef)) := ⟨_, Lib.hid rfl⟩
 obtain ⟨V1_28, H1_28⟩ : ∃ V : Value, Hid (V = (bif (!((x1 || x2) || x3)) then .bool x4 else undef)) := ⟨_, Lib.hid rfl⟩
 obtain ⟨V1_29, H1_29⟩ : ∃ V : Value, Hid (V = .bool (((x1 || x2) || x3) || x4)) := ⟨_, Lib.hid rfl⟩
 refine rg_list (fin := ?z2) [.pointer (some ⟨w.heap.size, 0, none⟩), .int .i64 W, .pointer (some ⟨w.heap.size + 1, 0, none⟩), .int .i64 W2, .bool x1, .bool x1, V1_6, V1_7, V1_8, V1_9, V1_10, V1_11, V1_12, V1_13, V1_14, V1_15, V1_16, V1_17, V1_18, V1_19, V1_20, V1_21, V1_22, V1_23, V1_24, V1_25, V1_26, V1_27, V1_28, V1_29] (fun WN => WN.cell? ⟨w.heap.size, 0, none⟩ = some (.int .i64 W) ∧ WN.cell? ⟨w.heap.size, 1, none⟩ = some (.int .i64 H) ∧ WN.cell? ⟨w.heap.size, 2, none⟩ = some (.slice Am nm cm) ∧ WN.cell? ⟨w.heap.size, 3, none⟩ = some (.slice Ac nc cc) ∧ WN.cell? ⟨w.heap.size + 1, 0, none⟩ = some (.int .i64 W2) ∧ WN.cell? ⟨w.heap.size + 1, 1, none⟩ = some (.int .i64 H2) ∧ WN.cell? ⟨w.heap.size + 1, 2, none⟩ = some (.slice Am2 nm2 cm2) ∧ WN.cell? ⟨w.heap.size + 1, 3, none⟩ = some (.slice Ac2 nc2 cc2) ∧ Below w0.heap.size w0 WN) ?hf (by kernel_rfl) rfl ⟨a0, a1, a2, a3, b0, b1, b2, b3, Below.refl _ _⟩ (fun WN hst => ?hs) (fun WN hst => ?he)
 case hf => simp only [putOps, Act.put, List.setIfInBounds_toArray, List.set_cons_succ, List.set_cons_zero]; exact rfl
 case hs =>
  have HST := Lib.hid hst
  obtain ⟨a0, a1, a2, a3, b0, b1, b2, b3, hbl⟩ := hst
  iterate 30 refine ⟨?_, fun K hK => ?_⟩
  ·trivial
  ·obtain rfl := H1_29.out
   obtain rfl := H1_21.out
   obtain rfl := H1_28.out
   cases x4 <;> cases x3 <;> cases x1 <;> cases x2 <;> (go_simp; exact hK _ HST.out)
  ·obtain rfl := H1_28.out
   obtain rfl := H1_21.out
   obtain rfl := H1_24.out
   obtain rfl := H1_27.out
   generalize ((x1 || x2) || x3) = y0 at hK ⊢
   cases y0 <;> (go_simp; exact hK _ HST.out)
  ·obtain rfl := H1_27.out
   obtain rfl := H1_21.out
   obtain rfl := H1_26.out
   generalize ((x1 || x2) || x3) = y0 at hK ⊢
   cases y0 <;> (go_simp; exact hK _ HST.out)
  ·obtain rfl := H1_26.out
   obtain rfl := H1_21.out
   obtain rfl := H1_25.out
   generalize ((x1 || x2) || x3) = y0 at hK ⊢
   cases y0 <;> (go_simp; exact hK _ HST.out)
  ·obtain rfl := H1_25.out
   obtain rfl := H1_21.out
   generalize ((x1 || x2) || x3) = y0 at hK ⊢
   cases y0 <;> (go_simp; exact hK _ HST.out)
  ·obtain rfl := H1_24.out
   obtain rfl := H1_21.out
   obtain rfl := H1_23.out
   generalize ((x1 || x2) || x3) = y0 at hK ⊢
   cases y0 <;> (go_simp; exact hK _ HST.out)
  ·obtain rfl := H1_23.out
   obtain rfl := H1_21.out
   obtain rfl := H1_22.out
   generalize ((x1 || x2) || x3) = y0 at hK ⊢
   cases y0 <;> (go_simp; exact hK _ HST.out)
  ·obtain rfl := H1_22.out
   obtain rfl := H1_21.out
   generalize ((x1 || x2) || x3) = y0 at hK ⊢
   cases y0 <;> (go_simp; exact hK _ HST.out)
  ·obtain rfl := H1_21.out
   obtain rfl := H1_20.out
   generalize ((x1 || x2) || x3) = y0 at hK ⊢
   cases y0 <;> (go_simp; exact hK _ HST.out)
  ·obtain rfl := H1_20.out
   obtain rfl := H1_12.out
   obtain rfl := H1_19.out
   cases x3 <;> cases x1 <;> cases x2 <;> (go_simp; exact hK _ HST.out)
  ·obtain rfl := H1_19.out
   obtain rfl := H1_12.out
   obtain rfl := H1_15.out
   obtain rfl := H1_18.out
   generalize (x1 || x2) = y0 at hK ⊢
   cases y0 <;> (go_simp; exact hK _ HST.out)
  ·obtain rfl := H1_18.out
   obtain rfl := H1_12.out
   obtain rfl := H1_17.out
   generalize (x1 || x2) = y0 at hK ⊢
   cases y0 <;> (go_simp; exact hK _ HST.out)
  ·obtain rfl := H1_17.out
   obtain rfl := H1_12.out
   obtain rfl := H1_16.out
   generalize (x1 || x2) = y0 at hK ⊢
   cases y0 <;> (go_simp; exact hK _ HST.out)
  ·obtain rfl := H1_16.out
   obtain rfl := H1_12.out
   generalize (x1 || x2) = y0 at hK ⊢
   cases y0 <;> (go_simp; exact hK _ HST.out)
  ·obtain rfl := H1_15.out
   obtain rfl := H1_12.out
   obtain rfl := H1_14.out
   generalize (x1 || x2) = y0 at hK ⊢
   cases y0 <;> (go_simp; exact hK _ HST.out)
  ·obtain rfl := H1_14.out
   obtain rfl := H1_12.out
   obtain rfl := H1_13.out
   generalize (x1 || x2) = y0 at hK ⊢
   cases y0 <;> (go_simp; exact hK _ HST.out)
  ·obtain rfl := H1_13.out
   obtain rfl := H1_12.out
   generalize (x1 || x2) = y0 at hK ⊢
   cases y0 <;> (go_simp; exact hK _ HST.out)
  ·obtain rfl := H1_12.out
   obtain rfl := H1_11.out
   generalize (x1 || x2) = y0 at hK ⊢
   cases y0 <;> (go_simp; exact hK _ HST.out)
  ·obtain rfl := H1_11.out
   obtain rfl := H1_10.out
   cases x1 <;> cases x2 <;> (go_simp; exact hK _ HST.out)
  ·obtain rfl := H1_10.out
   obtain rfl := H1_7.out
   obtain rfl := H1_9.out
   cases x1 <;> (go_simp; exact hK _ HST.out)
  ·obtain rfl := H1_9.out
   obtain rfl := H1_8.out
   cases x1 <;> (go_simp; exact hK _ HST.out)
  ·obtain rfl := H1_8.out
   cases x1 <;> (go_simp; exact hK _ HST.out)
  ·obtain rfl := H1_7.out
   obtain rfl := H1_6.out
   cases x1 <;> (go_simp; exact hK _ HST.out)
  ·obtain rfl := H1_6.out
   cases x1 <;> (go_simp; exact hK _ HST.out)
  ·cases x1 <;> (go_simp; exact hK _ HST.out)
  ·(go_simp; exact hK _ HST.out)
  ·(go_simp; exact hK _ HST.out)
  ·(go_simp; exact hK _ HST.out)
  ·(go_simp; exact hK _ HST.out)
  ·(go_simp; exact hK _ HST.out)
 case he =>
  obtain ⟨a0, a1, a2, a3, b0, b1, b2, b3, hbl⟩ := hst
  obtain rfl := H1_29.out
  clear H1_6 H1_7 H1_8 H1_9 H1_10 H1_11 H1_12 H1_13 H1_14 H1_15 H1_16 H1_17 H1_18 H1_19 H1_20 H1_21 H1_22 H1_23 H1_24 H1_25 H1_26 H1_27 H1_28 H1_29
  have HBL := Lib.hid (stay_b HB0.out hbl)
  replace HM := Lib.hid (HM.out.below hbl)
  replace HC := Lib.hid (HC.out.below hbl)
  replace HM2 := Lib.hid (HM2.out.below hbl)
  replace HC2 := Lib.hid (HC2.out.below hbl)
  obtain ⟨G, hGG⟩ : ∃ z, z = (((x1 || x2) || x3) || x4) := ⟨_, rfl⟩
  rw [← hGG]
  have HG := Lib.hid hGG
  clear hGG hbl nx11 nx12 nx13 nx21 nx22 nx23 nx31 nx32 nx33 nx34 nx41 nx42 nx43 nx44
  cases G with
  | true =>
   have hrf : R = false := by
    rw [HR.out]
    refine decide_eq_false ?_
    rintro ⟨h1, h2, h3, h4⟩
    have hl := HL.out
    have hg := HG.out
    rw [HX.out.1, HX.out.2.1, HX.out.2.2.1, HX.out.2.2.2, decide_eq_true h1, decide_eq_true h2, decide_eq_true (by rw [← hl.1, ← hl.2.2.1, h3] : nm = nm2), decide_eq_true (by rw [← hl.2.1, ← hl.2.2.2, h4] : nc = nc2)] at hg
    cases hg
   subst hrf
   go_wp2
   go_ret
   exact ⟨rfl, HBL.out⟩
  | false =>
   have hg := HG.out.symm
   simp only [Bool.or_eq_false_iff] at hg
   obtain ⟨⟨⟨g1, g2⟩, g3⟩, g4⟩ := hg
   have e1 : W = W2 := by have := HX.out.1; rw [g1] at this; simpa using this
   have e2 : H = H2 := by have := HX.out.2.1; rw [g2] at this; simpa using this
   have e3 : nm = nm2 := by have := HX.out.2.2.1; rw [g3] at this; simpa using this
   have e4 : nc = nc2 := by have := HX.out.2.2.2; rw [g4] at this; simpa using this
   have hiff : R = true ↔ mask = mask2 ∧ cs = cs2 := by rw [HR.out]; simp [e1, e2]
   have HI := Lib.hid hiff
   have HE := Lib.hid (And.intro e3 e4)
   obtain ⟨wz, hwz⟩ : ∃ x, x = WN := ⟨_, rfl⟩
   subst hwz
   clear g1 g2 g3 g4 e1 e2 e3 e4 hiff HR HX HG
   go_wp2_with fail
   go_loopw [5] (fun x wr => ∃ i : Nat, i ≤ nm ∧ x = .int .i64 i ∧ Hid (mask.take i = mask2.take i) ∧ Hid (Below wz.heap.size wz wr)) (fun x _ => nm - (intOf x).toNat)
   case atStart => exact ⟨0, by omega, rfl, Lib.hid (by simp), Lib.hid (Below.refl _ _)⟩
   case round =>
    obtain ⟨i, hi, rfl, hT, hB⟩ := hrel
    replace a0 := sd a0 hB.out
    replace a1 := sd a1 hB.out
    replace a2 := sd a2 hB.out
    replace a3 := sd a3 hB.out
    replace b0 := sd b0 hB.out
    replace b1 := sd b1 hB.out
    replace b2 := sd b2 hB.out
    replace b3 := sd b3 hB.out
    by_cases hil : i < nm
    ·have hii : (i : Int) < (nm : Int) := by omega
     have hii2 : (i : Int) < (nm2 : Int) := by have := HE.out.1; omega
     have hi0 : (0 : Int) ≤ (i : Int) := by omega
     obtain ⟨p, po, z, hp1, hp2, hz, hcz⟩ := (HM.out.below hB.out).int hil
     obtain ⟨p2, po2, z2, hq1, hq2, hz2, hcz2⟩ := (HM2.out.below hB.out).int (show i < nm2 by have := HE.out.1; omega)
     subst hp1 hq1
     have hyes : z = z2 → mask.take (i + 1) = mask2.take (i + 1) := fun e => by subst e; exact take_yes hT.out hz hz2
     have hno : z ≠ z2 → R = false := fun e => by
      cases hRR : R
      ·rfl
      ·exact absurd (by have h1 := (HI.out.1 hRR).1; rw [h1, hz2] at hz; exact (Option.some.inj hz).symm) e
     have HY := Lib.hid hyes
     have HN := Lib.hid hno
     clear hyes hno hz hz2
     obtain ⟨d, hd⟩ : ∃ b, b = !decide (z = z2) := ⟨_, rfl⟩
     have nd1 : (z != z2) = d := by rw [hd, bne]; by_cases h : z = z2 <;> simp [h]
     have nd2 : (z == z2) = !d := by rw [hd]; by_cases h : z = z2 <;> simp [h]
     have nd3 : decide (z = z2) = !d := by rw [hd]; simp
     have HD := Lib.hid hd
     clear hd
     go_wp2_with fail
     refine rg_plain (fin := ?z3) [.pointer (some ⟨w.heap.size, 2, none⟩), .slice (some ⟨p, po, none⟩) nm cm, .int .i64 (i : Int), .pointer (some ⟨p, po + i, none⟩), .int .i64 z, .pointer (some ⟨w.heap.size + 1, 2, none⟩), .slice (some ⟨p2, po2, none⟩) nm2 cm2, .int .i64 (i : Int), .pointer (some ⟨p2, po2 + i, none⟩), .int .i64 z2, .bool d] (fun WN => WN.cell? ⟨w.heap.size, 2, none⟩ = some (.slice (some ⟨p, po, none⟩) nm cm) ∧ WN.cell? ⟨w.heap.size + 1, 2, none⟩ = some (.slice (some ⟨p2, po2, none⟩) nm2 cm2) ∧ WN.cell? ⟨p, po + i, none⟩ = some (.int .i64 z) ∧ WN.cell? ⟨p2, po2 + i, none⟩ = some (.int .i64 z2) ∧ Below wr.heap.size wr WN) ?hf (by kernel_rfl) (by kernel_rfl) rfl ⟨a2, b2, hcz, hcz2, (Below.refl _ _).drew⟩ (fun WN hst => ?hs) (fun WN hst => ?he)
     case hf => simp only [putOps, Act.put, List.setIfInBounds_toArray, List.set_cons_succ, List.set_cons_zero]; exact rfl
     case hs =>
      have HST := Lib.hid hst
      obtain ⟨a2, b2, hcz, hcz2, hbl⟩ := hst
      iterate 11 refine ⟨?_, fun K hK => ?_⟩
      ·trivial
      all_goals try (go_simp; exact hK _ HST.out; done)
     case he =>
      obtain ⟨a2, b2, hcz, hcz2, hbl⟩ := hst
      have HBN := Lib.hid (stay_b hB.out hbl)
      clear hbl
      cases d with
      | true =>
       have hr := HN.out (by have := HD.out; simpa using this)
       subst hr
       go_wp2
       go_ret
       exact ⟨rfl, stay_b HBL.out HBN.out⟩
      | false =>
       have he := HY.out (by have := HD.out; simpa using this)
       have HE2 := Lib.hid he
       clear he
       go_wp2
       go_roundw
       case rel => exact ⟨i + 1, by omega, by go_num, HE2, HBN⟩
       case measure => simp [intOf]; omega
    ·obtain rfl : i = nm := by omega
     have hmm : mask = mask2 := by
      have h := hT.out
      rwa [List.take_of_length_le (by have := HL.out.1; omega), List.take_of_length_le (by have := HL.out.2.2.1; have := HE.out.1; omega)] at h
     have HMM := Lib.hid hmm
     clear hmm
     obtain ⟨wy, hwy⟩ : ∃ x, x = wr := ⟨_, rfl⟩
     subst hwy
     go_wp2_with fail
     go_loopw [6] (fun x wr => ∃ i : Nat, i ≤ nc ∧ x = .int .i64 i ∧ Hid (cs.take i = cs2.take i) ∧ Hid (Below wy.heap.size wy wr)) (fun x _ => nc - (intOf x).toNat)
     case atStart => exact ⟨0, by omega, rfl, Lib.hid (by simp), Lib.hid (Below.refl _ _)⟩
     case round =>
      have HBy := hB
      clear hT hB
      obtain ⟨i, hi, rfl, hT, hB⟩ := hrel
      replace a0 := sd a0 hB.out
      replace a1 := sd a1 hB.out
      replace a2 := sd a2 hB.out
      replace a3 := sd a3 hB.out
      replace b0 := sd b0 hB.out
      replace b1 := sd b1 hB.out
      replace b2 := sd b2 hB.out
      replace b3 := sd b3 hB.out
      by_cases hil : i < nc
      ·have hii : (i : Int) < (nc : Int) := by omega
       have hii2 : (i : Int) < (nc2 : Int) := by have := HE.out.2; omega
       have hi0 : (0 : Int) ≤ (i : Int) := by omega
       have hbx := stay_b HBy.out hB.out
       obtain ⟨p, po, hp1, _, _⟩ := (HC.out.below hbx).2 (by omega)
       obtain ⟨p2, po2, hq1, _, _⟩ := (HC2.out.below hbx).2 (by omega)
       subst hp1 hq1
       obtain ⟨z, hz⟩ : ∃ z, cs[i]? = some z := ⟨_, List.getElem?_eq_getElem (by have := HL.out.2.1; omega)⟩
       obtain ⟨z2, hz2⟩ : ∃ z, cs2[i]? = some z := ⟨_, List.getElem?_eq_getElem (by have := HL.out.2.2.2; have := HE.out.2; omega)⟩
       obtain ⟨s0, s1, s2, s3, s4⟩ := (HC.out.below hbx).crease hz
       obtain ⟨t0, t1, t2, t3, t4⟩ := (HC2.out.below hbx).crease hz2
       have hyes : z = z2 → cs.take (i + 1) = cs2.take (i + 1) := fun e => by subst e; exact take_yes hT.out hz hz2
       have hno : z ≠ z2 → R = false := fun e => by
        cases hRR : R
        ·rfl
        ·exact absurd (by have h1 := (HI.out.1 hRR).2; rw [h1, hz2] at hz; exact (Option.some.inj hz).symm) e
       have HY := Lib.hid hyes
       have HN := Lib.hid hno
       clear hyes hno hz hz2 hbx
       obtain ⟨d, hd⟩ : ∃ b, b = !decide (z = z2) := ⟨_, rfl⟩
       have hne : ∀ W : World, (binOp .neq 52 (.agg #[.int .i64 z.1.1, .int .i64 z.1.2.1, .int .i64 z.1.2.2.1, .int .i64 z.1.2.2.2, .int .i64 z.2]) (.agg #[.int .i64 z2.1.1, .int .i64 z2.1.2.1, .int .i64 z2.1.2.2.1, .int .i64 z2.1.2.2.2, .int .i64 z2.2])).run Tryz.prog W = .ok (.bool d) W := fun W => by rw [neC, eqL_cr, hd]
       have HD := Lib.hid hd
       clear hd
       go_wp2_with fail
       refine rg_plain (fin := ?z4) [.pointer (some ⟨w.heap.size, 3, none⟩), .slice (some ⟨p, po, none⟩) nc cc, .int .i64 (i : Int), .pointer (some ⟨p, po + i * 5, none⟩), .agg #[.int .i64 z.1.1, .int .i64 z.1.2.1, .int .i64 z.1.2.2.1, .int .i64 z.1.2.2.2, .int .i64 z.2], .pointer (some ⟨w.heap.size + 1, 3, none⟩), .slice (some ⟨p2, po2, none⟩) nc2 cc2, .int .i64 (i : Int), .pointer (some ⟨p2, po2 + i * 5, none⟩), .agg #[.int .i64 z2.1.1, .int .i64 z2.1.2.1, .int .i64 z2.1.2.2.1, .int .i64 z2.1.2.2.2, .int .i64 z2.2], .bool d] (fun WN => WN.cell? ⟨w.heap.size, 3, none⟩ = some (.slice (some ⟨p, po, none⟩) nc cc) ∧ WN.cell? ⟨w.heap.size + 1, 3, none⟩ = some (.slice (some ⟨p2, po2, none⟩) nc2 cc2) ∧ WN.cell? ⟨p, po + i * 5, none⟩ = some (.int .i64 z.1.1) ∧ WN.cell? ⟨p, po + i * 5 + 1, none⟩ = some (.int .i64 z.1.2.1) ∧ WN.cell? ⟨p, po + i * 5 + 2, none⟩ = some (.int .i64 z.1.2.2.1) ∧ WN.cell? ⟨p, po + i * 5 + 3, none⟩ = some (.int .i64 z.1.2.2.2) ∧ WN.cell? ⟨p, po + i * 5 + 4, none⟩ = some (.int .i64 z.2) ∧ WN.cell? ⟨p2, po2 + i * 5, none⟩ = some (.int .i64 z2.1.1) ∧ WN.cell? ⟨p2, po2 + i * 5 + 1, none⟩ = some (.int .i64 z2.1.2.1) ∧ WN.cell? ⟨p2, po2 + i * 5 + 2, none⟩ = some (.int .i64 z2.1.2.2.1) ∧ WN.cell? ⟨p2, po2 + i * 5 + 3, none⟩ = some (.int .i64 z2.1.2.2.2) ∧ WN.cell? ⟨p2, po2 + i * 5 + 4, none⟩ = some (.int .i64 z2.2) ∧ Below wr.heap.size wr WN) ?hf (by kernel_rfl) (by kernel_rfl) rfl ⟨a3, b3, s0, s1, s2, s3, s4, t0, t1, t2, t3, t4, (Below.refl _ _).drew⟩ (fun WN hst => ?hs) (fun WN hst => ?he)
       case hf => simp only [putOps, Act.put, List.setIfInBounds_toArray, List.set_cons_succ, List.set_cons_zero]; exact rfl
       case hs =>
        have HST := Lib.hid hst
        obtain ⟨a3, b3, s0, s1, s2, s3, s4, t0, t1, t2, t3, t4, hbl⟩ := hst
        iterate 11 refine ⟨?_, fun K hK => ?_⟩
        ·trivial
        all_goals try (go_simp; exact hK _ HST.out; done)
       case he =>
        obtain ⟨a3, b3, s0, s1, s2, s3, s4, t0, t1, t2, t3, t4, hbl⟩ := hst
        have HBN := Lib.hid (stay_b hB.out hbl)
        clear hbl
        cases d with
        | true =>
         have hr := HN.out (by have := HD.out; simpa using this)
         subst hr
         go_wp2
         go_ret
         exact ⟨rfl, stay_b (stay_b HBL.out HBy.out) HBN.out⟩
        | false =>
         have he := HY.out (by have := HD.out; simpa using this)
         have HE2 := Lib.hid he
         clear he
         go_wp2
         go_roundw
         case rel => exact ⟨i + 1, by omega, by go_num, HE2, HBN⟩
         case measure => simp [intOf]; omega
      ·obtain rfl : i = nc := by omega
       have hr : R = true := HI.out.2 ⟨HMM.out, by
        have h := hT.out
        rwa [List.take_of_length_le (by have := HL.out.2.1; omega), List.take_of_length_le (by have := HL.out.2.2.2; have := HE.out.2; omega)] at h⟩
       subst hr
       go_wp2
       go_ret
       exact ⟨rfl, stay_b (stay_b HBL.out HBy.out) hB.out⟩
end
end Go.Proofs.YtbnkabmnenginaaGreatDoor
