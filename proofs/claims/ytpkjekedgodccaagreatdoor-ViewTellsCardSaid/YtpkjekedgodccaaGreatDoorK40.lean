/- The document's LessTri; its PlaceOf over what lies in memory.. The document's TopOf. The document's letter.. -/
import Derived.Test.YtpkjekedgodccaaGreatDoorK39
import Derived.Test.YtpkjekedgodccaaGreatDoorK34
import Derived.Test.YtpkjekedgodccaaGreatDoorK32
namespace Go.Proofs.YtpkjekedgodccaaGreatDoor
set_option linter.unusedSimpArgs false
set_option linter.unusedVariables false
section
open Go.RowKit Go.Maps
open Classical in
noncomputable def ltT (a b : T3) : Bool := decide (triLt a b)
theorem ltT_iff {a b : T3} : ltT a b = true ↔ triLt a b := @decide_eq_true_iff _ (Classical.propDecidable _)
theorem ltT_yes {a b : T3} (h : triLt a b) : ltT a b = true := ltT_iff.2 h
theorem ltT_no {a b : T3} (h : ¬ triLt a b) : ltT a b = false := @decide_eq_false _ (Classical.propDecidable _) h
set_option maxRecDepth 100000 in
set_option maxHeartbeats 3200000 in
theorem lessTri_any (a b c x y z : Int) (w : World) : Calls Tryz.prog 19 #[.agg #[.int .i64 a, .int .i64 b, .int .i64 c], .agg #[.int .i64 x, .int .i64 y, .int .i64 z]] w fun r w' => r = .returned (.bool (ltT (a, b, c) (x, y, z))) ∧ Below w.heap.size w w' := by
 have hb := ba (below_new w (.cells #[.int .i64 a, .int .i64 b, .int .i64 c] 44)) (.cells #[.int .i64 x, .int .i64 y, .int .i64 z] 44)
 obtain ⟨R, hR⟩ : ∃ R, R = ltT (a, b, c) (x, y, z) := ⟨_, rfl⟩
 rw [← hR]
 by_cases h1 : b = y
 ·subst h1
  by_cases h2 : a = x
  ·subst h2
   have hr : R = decide (c < z) := by
    rw [hR]
    by_cases h3 : c < z
    ·rw [decide_eq_true h3]; exact ltT_yes (by unfold triLt; simp; omega)
    ·rw [decide_eq_false h3]; exact ltT_no (by unfold triLt; simp; omega)
   have HR := Lib.hid hr
   clear hR hr
   go_enter Tryz.func19, Tryz.ntmps19
   go_wp2
   go_ret
   exact ⟨ret_bool HR.out.symm, hb⟩
  ·have hr : R = decide (a < x) := by
    rw [hR]
    by_cases h3 : a < x
    ·rw [decide_eq_true h3]; exact ltT_yes (by unfold triLt; simp; omega)
    ·rw [decide_eq_false h3]; exact ltT_no (by unfold triLt; simp; omega)
   have HR := Lib.hid hr
   clear hR hr
   go_enter Tryz.func19, Tryz.ntmps19
   go_wp2
   go_ret
   exact ⟨ret_bool HR.out.symm, hb⟩
 ·have hr : R = decide (b < y) := by
   rw [hR]
   by_cases h3 : b < y
   ·rw [decide_eq_true h3]; exact ltT_yes (by unfold triLt; simp; omega)
   ·rw [decide_eq_false h3]; exact ltT_no (by unfold triLt; simp; omega)
  have HR := Lib.hid hr
  clear hR hr
  go_enter Tryz.func19, Tryz.ntmps19
  go_wp2
  go_ret
  exact ⟨ret_bool HR.out.symm, hb⟩
set_option maxRecDepth 100000 in
set_option maxHeartbeats 3200000 in
theorem placeRd_any (A : Option Addr) (c : Nat) (L : List T3) (t : T3) (w : World) (ho : Rd w 3 A L.length (tcT L)) (hL : L.length ≤ 140737488351232) :
  Calls Tryz.prog 20 #[.slice A L.length c, aggT3 t] w fun r w' => r = .returned (.int .i64 (placeI L t)) ∧ Below w.heap.size w w' := by
 have ke := heap_alloc_new w (.cells #[.int .i64 t.1, .int .i64 t.2.1, .int .i64 t.2.2] 44)
 have hbw : Below w.heap.size w (w.alloc (.cells #[.int .i64 t.1, .int .i64 t.2.1, .int .i64 t.2.2] 44)) := below_new _ _
 have e0 := cell_of_blk ke 0
 have e1 := cell_of_blk ke 1
 have e2 := cell_of_blk ke 2
 simp only [List.getElem?_toArray, List.getElem?_cons_zero, List.getElem?_cons_succ] at e0 e1 e2
 have hrc := ho.below hbw
 obtain ⟨R, hR⟩ : ∃ R, R = placeI L t := ⟨_, rfl⟩
 rw [← hR]
 have HRC := Lib.hid hrc
 have HR := Lib.hid hR
 clear ho ke hrc hR
 go_enter Tryz.func20, Tryz.ntmps20
 go_wp2_with fail
 generalize (w.alloc (.cells #[.int .i64 t.1, .int .i64 t.2.1, .int .i64 t.2.2] 44)) = w0 at e0 e1 e2 hbw HRC
 have hz0 : w.heap.size < w0.heap.size := World.block_lt_of_cell? _ _ e0
 go_loopw [5] (fun i wr => ∃ j : Nat, j ≤ L.length ∧ i = .int .i64 j ∧ Hid (∀ d ∈ L.take j, d ≠ t) ∧ Below w0.heap.size w0 wr) (fun i _ => L.length - (intOf i).toNat)
 case atStart => exact ⟨0, by omega, rfl, Lib.hid (by simp), Below.refl _ _⟩
 case round =>
  obtain ⟨j, hj, rfl, hall, hbr⟩ := hrel
  by_cases hjn : j < L.length
  ·have hji : (j : Int) < (L.length : Int) := by omega
   have hj0 : (0 : Int) ≤ (j : Int) := by omega
   obtain ⟨u, hu⟩ : ∃ u, L[j]? = some u := ⟨_, List.getElem?_eq_getElem (by omega)⟩
   obtain ⟨gv, ov, hv2, x0, x1, x2⟩ := (HRC.out.below hbr).tr hu rfl
   subst hv2
   have hq : ∀ w', (binOp .eql 44 (.agg #[.int .i64 u.1, .int .i64 u.2.1, .int .i64 u.2.2]) (.agg #[.int .i64 t.1, .int .i64 t.2.1, .int .i64 t.2.2])).run Tryz.prog w' = .ok (.bool (decide (u = t))) w' := fun w' => by
    have h := eqT u.1 u.2.1 u.2.2 t.1 t.2.1 t.2.2 w'
    rw [eqT_dec] at h
    exact h
   have k0 := keep_c e0 hbr hz0
   have k1 := keep_c e1 hbr hz0
   have k2 := keep_c e2 hbr hz0
   have HC := Lib.hid hu
   clear hu
   by_cases hce : u = t
   ·rw [decide_eq_true hce] at hq
    have hres : R = j := by rw [HR.out]; exact placeI_at (hce ▸ HC.out) hall.out
    have HRES := Lib.hid hres
    clear hres hce
    go_wp2_with fail
    have hSS : wr.drew.cell? ⟨gv, ov + j * 3, none⟩ = some (.int .i64 u.1) ∧ wr.drew.cell? ⟨gv, ov + j * 3 + 1, none⟩ = some (.int .i64 u.2.1) ∧ wr.drew.cell? ⟨gv, ov + j * 3 + 2, none⟩ = some (.int .i64 u.2.2) ∧ wr.drew.cell? ⟨w.heap.size, 0, none⟩ = some (.int .i64 t.1) ∧ wr.drew.cell? ⟨w.heap.size, 1, none⟩ = some (.int .i64 t.2.1) ∧ wr.drew.cell? ⟨w.heap.size, 2, none⟩ = some (.int .i64 t.2.2) ∧ Below w0.heap.size w0 wr.drew := ⟨x0, x1, x2, k0, k1, k2, hbr.drew⟩
    go_region_held3 (fun w' => w'.cell? ⟨gv, ov + j * 3, none⟩ = some (.int .i64 u.1) ∧ w'.cell? ⟨gv, ov + j * 3 + 1, none⟩ = some (.int .i64 u.2.1) ∧ w'.cell? ⟨gv, ov + j * 3 + 2, none⟩ = some (.int .i64 u.2.2) ∧ w'.cell? ⟨w.heap.size, 0, none⟩ = some (.int .i64 t.1) ∧ w'.cell? ⟨w.heap.size, 1, none⟩ = some (.int .i64 t.2.1) ∧ w'.cell? ⟨w.heap.size, 2, none⟩ = some (.int .i64 t.2.2) ∧ Below w0.heap.size w0 w')
     (first
      | with_reducible exact hSS
      | with_reducible assumption)
     (first
      | fail)
    rename_i hSE
    have hbe : Below w0.heap.size w0 _ := hSE.2.2.2.2.2.2
    clear hSS hSE
    go_wp2
    go_ret
    exact ⟨ret_int HRES.out.symm, stay_b hbw hbe⟩
   ·rw [decide_eq_false hce] at hq
    have hnx := take_no (P := fun d : T3 => d ≠ t) HC.out hall.out hce
    have HNX := Lib.hid hnx
    clear hnx hce
    go_wp2_with fail
    have hSS : wr.drew.cell? ⟨gv, ov + j * 3, none⟩ = some (.int .i64 u.1) ∧ wr.drew.cell? ⟨gv, ov + j * 3 + 1, none⟩ = some (.int .i64 u.2.1) ∧ wr.drew.cell? ⟨gv, ov + j * 3 + 2, none⟩ = some (.int .i64 u.2.2) ∧ wr.drew.cell? ⟨w.heap.size, 0, none⟩ = some (.int .i64 t.1) ∧ wr.drew.cell? ⟨w.heap.size, 1, none⟩ = some (.int .i64 t.2.1) ∧ wr.drew.cell? ⟨w.heap.size, 2, none⟩ = some (.int .i64 t.2.2) ∧ Below w0.heap.size w0 wr.drew := ⟨x0, x1, x2, k0, k1, k2, hbr.drew⟩
    go_region_held3 (fun w' => w'.cell? ⟨gv, ov + j * 3, none⟩ = some (.int .i64 u.1) ∧ w'.cell? ⟨gv, ov + j * 3 + 1, none⟩ = some (.int .i64 u.2.1) ∧ w'.cell? ⟨gv, ov + j * 3 + 2, none⟩ = some (.int .i64 u.2.2) ∧ w'.cell? ⟨w.heap.size, 0, none⟩ = some (.int .i64 t.1) ∧ w'.cell? ⟨w.heap.size, 1, none⟩ = some (.int .i64 t.2.1) ∧ w'.cell? ⟨w.heap.size, 2, none⟩ = some (.int .i64 t.2.2) ∧ Below w0.heap.size w0 w')
     (first
      | with_reducible exact hSS
      | with_reducible assumption)
     (first
      | fail)
    rename_i hSE
    have hbe : Below w0.heap.size w0 _ := hSE.2.2.2.2.2.2
    clear hSS hSE
    go_wp2
    go_roundw
    case rel => exact ⟨j + 1, by omega, by go_num, HNX, hbe⟩
    case measure => simp [intOf]; omega
  ·obtain rfl : j = L.length := by omega
   have hres : R = -1 := by
    rw [HR.out]
    refine placeI_no ?_
    have := hall.out
    rwa [List.take_length] at this
   have HRES := Lib.hid hres
   clear hres
   go_wp2
   go_ret
   exact ⟨ret_int HRES.out.symm, stay_b hbw hbr⟩
end
section
open Go.RowKit Go.Maps
set_option maxRecDepth 100000 in
set_option maxHeartbeats 6400000 in
theorem topRef_any (W H : Nat) (Am Ac Ap As : Option Addr) (nm cm nc cc np cp ns cS : Nat) (mask : List Int) (cs : List C5) (L : List T3) (ms : List V6) (sts : List Stk) (w : World) (hS : ShM w W H Am nm mask Ac nc cs) (hL : trisL W mask = L) (hp : Rd w 6 Ap np (mcs ms)) (hst : StkR w As ns sts) (hv : VwP L ms sts) :
    Calls Tryz.prog 9 #[.agg #[.int .i64 W, .int .i64 H, .slice Am nm cm, .slice Ac nc cc, .slice Ap np cp, .slice As ns cS]] w fun e w' => ∃ v, e = .returned v ∧ w'.ownsRow w.heap.size 46 7 v sts.length (sns (tops L ms sts)) ∧ Below w.heap.size w w' := by
  have kb0 := heap_alloc_new w (.cells #[.int .i64 W, .int .i64 H, .slice Am nm cm, .slice Ac nc cc, .slice Ap np cp, .slice As ns cS] 29)
  have hb0 := below_new w (.cells #[.int .i64 W, .int .i64 H, .slice Am nm cm, .slice Ac nc cc, .slice Ap np cp, .slice As ns cS] 29)
  have a0 := cell_of_blk kb0 0
  have a1 := cell_of_blk kb0 1
  have a2 := cell_of_blk kb0 2
  have a3 := cell_of_blk kb0 3
  have a4 := cell_of_blk kb0 4
  have a5 := cell_of_blk kb0 5
  simp only [List.getElem?_toArray, List.getElem?_cons_zero, List.getElem?_cons_succ] at a0 a1 a2 a3 a4 a5
  have hsz0 : w.heap.size ≤ (w.alloc (.cells #[.int .i64 W, .int .i64 H, .slice Am nm cm, .slice Ac nc cc, .slice Ap np cp, .slice As ns cS] 29)).heap.size := hb0.size
  have cT := trisOf_any W H Am Ac nm cm nc cc mask cs (w.alloc (.cells #[.int .i64 W, .int .i64 H, .slice Am nm cm, .slice Ac nc cc, .slice Ap np cp, .slice As ns cS] 29)) (hS.below hb0)
  rw [hL] at cT
  unfold shV at cT
  have hnl := hst.len
  have hpl := hp.1
  rw [mcs_len] at hpl
  obtain rfl : np = ms.length := by omega
  have CTR := Lib.hid cT
  have HST := Lib.hid (hst.below hb0)
  have HP := Lib.hid (hp.below hb0)
  have HV := Lib.hid hv
  have HB0 := Lib.hid hb0
  have hv6 := hv.few
  have hvs := hv.small
  have hvl1 : ms.length ≤ L.length := Nat.le_of_eq hv.len
  have hvl2 : L.length ≤ ms.length := Nat.le_of_eq hv.len.symm
  have HNL := Lib.hid hnl
  clear hst hp hv hb0 kb0 hnl hS hL cT hpl
  go_enter Tryz.func9, Tryz.ntmps9
  go_wp2_with fail
  refine CTR.out.mono ?_
  rintro e w2 ⟨vt, rfl, ho2, hb2⟩
  obtain ⟨At, ct, hvt, _, _⟩ := own_slice ho2
  subst hvt
  have HO2 := Lib.hid ho2
  replace a4 := sd a4 hb2
  replace a5 := sd a5 hb2
  have HST2 := Lib.hid (HST.out.below hb2)
  have HP2 := Lib.hid (HP.out.below hb2)
  clear HST HP
  have HST := HST2
  have HP := HP2
  have HB2 := Lib.hid (HB0.out.trans (hb2.mono hsz0))
  clear ho2 hb2 CTR a0 a1 a2 a3 HST2 HP2
  go_wp2_with fail
  have hsz2 := HB2.out.size
  have hrow0 : Hid (w2.ownsRow w2.heap.size 46 7 (.slice none 0 0) 0 (sns (tops L ms (sts.take 0)))) := Lib.hid (World.ownsRow_nil _ _ _ _)
  go_loopw [4, 5] (fun x v wr => ∃ (i : Nat) (T : Value), i ≤ sts.length ∧ v = .int .i64 i ∧ T = x ∧ Hid (wr.ownsRow w2.heap.size 46 7 T i (sns (tops L ms (sts.take i)))) ∧ Hid (Below w2.heap.size w2 wr)) (fun _ v _ => sts.length - (intOf v).toNat)
  case atStart => exact ⟨0, _, by omega, rfl, rfl, hrow0, Lib.hid (Below.refl _ _)⟩
  case round =>
    clear hrow0
    obtain ⟨i, T, hi, rfl, rfl, hrow, hbr⟩ := hrel
    obtain ⟨wo, hwo⟩ : ∃ x, x = wr := ⟨_, rfl⟩
    subst hwo
    by_cases hin : i < sts.length
    · skip
      obtain ⟨s, hs⟩ : ∃ s, sts[i]? = some s := ⟨_, List.getElem?_eq_getElem hin⟩
      obtain ⟨hne, htL⟩ := HV.out.ne s (List.mem_of_getElem? hs)
      obtain ⟨bS, oS, A2, c2, hA, hbS, hr2, hq2, s0, s1, s2, s3⟩ := HST.out.at3 hs
      cases hA
      obtain ⟨t, ht⟩ : ∃ t, t = lastT s.2 := ⟨_, rfl⟩
      have hsl : 0 < s.2.length := List.length_pos_iff.2 hne
      have htq : s.2[s.2.length - 1]? = some t := by rw [ht, lastT, List.getD_eq_getElem?_getD, List.getElem?_eq_getElem (by omega)]; rfl
      obtain ⟨bT, oT, hA2, t0, t1, t2⟩ := Rd.tr hr2 htq rfl
      subst hA2
      rw [← ht] at htL
      obtain ⟨d, hd⟩ : ∃ d, d = L.idxOf t := ⟨_, rfl⟩
      have hdl : d < L.length := by rw [hd]; exact List.idxOf_lt_length_of_mem htL
      obtain ⟨m, hm⟩ : ∃ m, ms[d]? = some m := ⟨_, List.getElem?_eq_getElem (by rw [HV.out.len]; exact hdl)⟩
      obtain ⟨b, hb⟩ : ∃ b, b = turnB m := ⟨_, rfl⟩
      have htop : topA L ms s = (s.1, t, b) := by rw [topA, ← ht, ← hd, List.getD_eq_getElem?_getD, hm, hb]; rfl
      have hwT := fun (W' : World) => turnsOver_any m (HV.out.map m (List.mem_of_getElem? hm)) W'
      rw [← hb] at hwT
      have CT := Lib.hid hwT
      have HTOP := Lib.hid htop
      have HSI := Lib.hid hs
      have hsl1 : (((s.2.length : Nat) : Int) - 1) = ((s.2.length - 1 : Nat) : Int) := by omega
      have hsw : IntKind.i64.wrap (((s.2.length : Nat) : Int) - 1) = ((s.2.length - 1 : Nat) : Int) := by rw [hsl1, IntWalk.i64_in _ (by omega)]
      obtain ⟨e, he⟩ : ∃ e, e = s.2.length - 1 := ⟨_, rfl⟩
      rw [← he] at hsw t0 t1 t2
      have he0 : (0 : Int) ≤ (e : Int) := by omega
      have hen : (e : Int) < (s.2.length : Int) := by omega
      have hii : (i : Int) < (ns : Int) := by have := HST.out.len; omega
      have hi0 : (0 : Int) ≤ (i : Int) := by omega
      have hd0 : (0 : Int) ≤ (d : Int) := by omega
      have hd1 : (d : Int) < (L.length : Int) := by omega
      have HTL := Lib.hid (And.intro htL hd)
      have HM := Lib.hid hm
      have hd2 : (d : Int) < (ms.length : Int) := by omega
      obtain ⟨bM, oM, m', hAp, hmi, hbM, m0, m1, m2, m3, m4, m5⟩ := Rd.mp HP.out (show d < ms.length by omega)
      subst hAp
      rw [hm] at hmi
      cases hmi
      replace s0 := sd s0 hbr.out
      replace s1 := sd s1 hbr.out
      replace s2 := sd s2 hbr.out
      replace s3 := sd s3 hbr.out
      replace t0 := sd t0 hbr.out
      replace t1 := sd t1 hbr.out
      replace t2 := sd t2 hbr.out
      replace m0 := sd m0 hbr.out
      replace m1 := sd m1 hbr.out
      replace m2 := sd m2 hbr.out
      replace m3 := sd m3 hbr.out
      replace m4 := sd m4 hbr.out
      replace m5 := sd m5 hbr.out
      have kS1 := heap_alloc_new wo (.cells #[.int .i64 s.1.1, .int .i64 s.1.2.1, .int .i64 s.1.2.2, .slice (some ⟨bT, oT, none⟩) s.2.length c2] 54)
      have y0 := cell_of_blk kS1 0
      have y1 := cell_of_blk kS1 1
      have y2 := cell_of_blk kS1 2
      have y3 := cell_of_blk kS1 3
      simp only [List.getElem?_toArray, List.getElem?_cons_zero, List.getElem?_cons_succ] at y0 y1 y2 y3
      replace t0 := al_c t0 (.cells #[.int .i64 s.1.1, .int .i64 s.1.2.1, .int .i64 s.1.2.2, .slice (some ⟨bT, oT, none⟩) s.2.length c2] 54)
      replace t1 := al_c t1 (.cells #[.int .i64 s.1.1, .int .i64 s.1.2.1, .int .i64 s.1.2.2, .slice (some ⟨bT, oT, none⟩) s.2.length c2] 54)
      replace t2 := al_c t2 (.cells #[.int .i64 s.1.1, .int .i64 s.1.2.1, .int .i64 s.1.2.2, .slice (some ⟨bT, oT, none⟩) s.2.length c2] 54)
      have b4 := sd a4 hbr.out
      have b5 := sd a5 hbr.out
      clear hs hne htL hr2 hq2 ht htq hd hm hb htop hwT hsl1 he kS1
      go_wp2_with fail
      have kb1 := blk_alloc (heap_alloc_new wo (.cells #[.int .i64 s.1.1, .int .i64 s.1.2.1, .int .i64 s.1.2.2, .slice (some ⟨bT, oT, none⟩) s.2.length c2] 54)) (.cells #[.int .i64 t.1, .int .i64 t.2.1, .int .i64 t.2.2] 44)
      have kb2 := heap_alloc_new (wo.alloc (.cells #[.int .i64 s.1.1, .int .i64 s.1.2.1, .int .i64 s.1.2.2, .slice (some ⟨bT, oT, none⟩) s.2.length c2] 54)) (.cells #[.int .i64 t.1, .int .i64 t.2.1, .int .i64 t.2.2] 44)
      rw [World.size_alloc] at kb2
      have hbo := ba (below_new wo (.cells #[.int .i64 s.1.1, .int .i64 s.1.2.1, .int .i64 s.1.2.2, .slice (some ⟨bT, oT, none⟩) s.2.length c2] 54)) (.cells #[.int .i64 t.1, .int .i64 t.2.1, .int .i64 t.2.2] 44)
      have x0 := cell_of_blk kb1 0
      have x1 := cell_of_blk kb1 1
      have x2 := cell_of_blk kb1 2
      have z0 := cell_of_blk kb2 0
      have z1 := cell_of_blk kb2 1
      have z2 := cell_of_blk kb2 2
      simp only [List.getElem?_toArray, List.getElem?_cons_zero, List.getElem?_cons_succ] at x0 x1 x2 z0 z1 z2
      have HBO := Lib.hid hbo
      clear kb1 kb2 hbo y0 y1 y2 y3 s0 s1 s2 s3 t0 t1 t2
      generalize (wo.alloc (.cells #[.int .i64 s.1.1, .int .i64 s.1.2.1, .int .i64 s.1.2.2, .slice (some ⟨bT, oT, none⟩) s.2.length c2] 54)).alloc (.cells #[.int .i64 t.1, .int .i64 t.2.1, .int .i64 t.2.2] 44) = w1 at x0 x1 x2 z0 z1 z2 HBO ⊢
      have hb1 := Lib.hid (hbr.out.trans (HBO.out.mono hbr.out.size))
      have hro1 := Lib.hid (od hrow.out HBO.out)
      replace b4 := sd b4 HBO.out
      replace m0 := sd m0 HBO.out
      replace m1 := sd m1 HBO.out
      replace m2 := sd m2 HBO.out
      replace m3 := sd m3 HBO.out
      replace m4 := sd m4 HBO.out
      replace m5 := sd m5 HBO.out
      have hsw0 : w2.heap.size ≤ w1.heap.size := hb1.out.size
      have hrt := Rd.of_own (od HO2.out hb1.out)
      have cP := fun (W' : World) (hb : Below w1.heap.size w1 W') => placeRd_any At ct L t W' (hrt.below hb) (by omega)
      rw [show placeI L t = (d : Int) by unfold placeI; rw [if_pos HTL.out.1, HTL.out.2]] at cP
      have CP := Lib.hid cP
      clear hrt cP
      obtain ⟨Ta, Tc, hTv, _, _⟩ := own_slice hro1.out
      subst hTv
      refine rg_acc (by kernel_rfl) (by kernel_rfl) (s := 45) rfl rfl (rg_chnA (fin := ?z2) [13, 14] [[true, true, true, true, true, true, true, true, true, true, true, true, true, false, false, false], [true, false, false, false, false, false, false, false, false, false, false, false, false, false, false, false], [false, false, false, false, false, false, false, false, false, false, false, false, false, false, false, true]] [[12, 2, 3, 11, 1, 10, 9, 5, 8, 4, 6, 7], [0, 13, 12, 2, 3, 11, 1, 10, 9, 5, 8, 4, 6, 7]] (fun x => [.slice Ta i Tc, .pointer (some ⟨wo.heap.size, 0, none⟩), aggT3 s.1, aggT3 t, .pointer (some ⟨w.heap.size, 4, none⟩), .slice (some ⟨bM, oM, none⟩) ms.length cp, .slice At L.length ct, aggT3 t, .int .i64 (d : Int), .pointer (some ⟨bM, oM + d * 6, none⟩), aggM m, .bool b, .agg #[.int .i64 s.1.1, .int .i64 s.1.2.1, .int .i64 s.1.2.2, .int .i64 t.1, .int .i64 t.2.1, .int .i64 t.2.2, .bool b], (x 0), (x 1), undef]) (fun jS x WN => match jS with | 0 => WN.cell? ⟨wo.heap.size, 0, none⟩ = some (.int .i64 s.1.1) ∧ WN.cell? ⟨wo.heap.size, 1, none⟩ = some (.int .i64 s.1.2.1) ∧ WN.cell? ⟨wo.heap.size, 2, none⟩ = some (.int .i64 s.1.2.2) ∧ WN.cell? ⟨wo.heap.size + 1, 0, none⟩ = some (.int .i64 t.1) ∧ WN.cell? ⟨wo.heap.size + 1, 1, none⟩ = some (.int .i64 t.2.1) ∧ WN.cell? ⟨wo.heap.size + 1, 2, none⟩ = some (.int .i64 t.2.2) ∧ WN.cell? ⟨w.heap.size, 4, none⟩ = some (.slice (some ⟨bM, oM, none⟩) ms.length cp) ∧ WN.cell? ⟨bM, oM + d * 6, none⟩ = some (.int .i64 m.1) ∧ WN.cell? ⟨bM, oM + d * 6 + 1, none⟩ = some (.int .i64 m.2.1) ∧ WN.cell? ⟨bM, oM + d * 6 + 2, none⟩ = some (.int .i64 m.2.2.1) ∧ WN.cell? ⟨bM, oM + d * 6 + 3, none⟩ = some (.int .i64 m.2.2.2.1) ∧ WN.cell? ⟨bM, oM + d * 6 + 4, none⟩ = some (.int .i64 m.2.2.2.2.1) ∧ WN.cell? ⟨bM, oM + d * 6 + 5, none⟩ = some (.int .i64 m.2.2.2.2.2) ∧ Below w1.heap.size w1 WN | 1 => WN.cell? ⟨wo.heap.size, 0, none⟩ = some (.int .i64 s.1.1) ∧ WN.cell? ⟨wo.heap.size, 1, none⟩ = some (.int .i64 s.1.2.1) ∧ WN.cell? ⟨wo.heap.size, 2, none⟩ = some (.int .i64 s.1.2.2) ∧ WN.cell? ⟨wo.heap.size + 1, 0, none⟩ = some (.int .i64 t.1) ∧ WN.cell? ⟨wo.heap.size + 1, 1, none⟩ = some (.int .i64 t.2.1) ∧ WN.cell? ⟨wo.heap.size + 1, 2, none⟩ = some (.int .i64 t.2.2) ∧ WN.cell? ⟨w.heap.size, 4, none⟩ = some (.slice (some ⟨bM, oM, none⟩) ms.length cp) ∧ WN.cell? ⟨bM, oM + d * 6, none⟩ = some (.int .i64 m.1) ∧ WN.cell? ⟨bM, oM + d * 6 + 1, none⟩ = some (.int .i64 m.2.1) ∧ WN.cell? ⟨bM, oM + d * 6 + 2, none⟩ = some (.int .i64 m.2.2.1) ∧ WN.cell? ⟨bM, oM + d * 6 + 3, none⟩ = some (.int .i64 m.2.2.2.1) ∧ WN.cell? ⟨bM, oM + d * 6 + 4, none⟩ = some (.int .i64 m.2.2.2.2.1) ∧ WN.cell? ⟨bM, oM + d * 6 + 5, none⟩ = some (.int .i64 m.2.2.2.2.2) ∧ Below w1.heap.size w1 WN ∧ ∃ g2, Hid (x 0 = .slice (some ⟨g2, 0, none⟩) 1 1) ∧ WN.heap[g2]? = some (.cells #[.int .i64 s.1.1, .int .i64 s.1.2.1, .int .i64 s.1.2.2, .int .i64 t.1, .int .i64 t.2.1, .int .i64 t.2.2, .bool b] 46 (0, 0)) | _ => Hid (Below w2.heap.size w1 WN) ∧ Hid (WN.ownsRow w2.heap.size 46 7 (x 1) (i + 1) (sns (tops L ms (sts.take (i + 1)))))) ?hf (by kernel_rfl) (fun _ => rfl) (by kernel_rfl) ?hv ⟨x0, x1, x2, z0, z1, z2, b4, m0, m1, m2, m3, m4, m5, (Below.refl _ _).drew⟩ ?hA ?hT) ?he
      case hf => intro x; simp only [noLast, dropDst, List.toList_toArray, putOps, Act.put, List.setIfInBounds_toArray, List.set_cons_succ, List.set_cons_zero]; exact rfl
      case hv =>
        intro x jS t v h
        cases jS with
        | zero => cases h; rfl
        | succ jS =>
          cases jS with
          | zero => cases h; rfl
          | succ jS =>
            simp at h
      case hA =>
        intro jS x WN hj hst
        have hj : jS ≤ 2 := hj
        rcases (show jS = 0 ∨ jS = 1 ∨ jS = 2 by omega) with rfl | rfl | rfl
        · have HST := Lib.hid hst
          obtain ⟨x0, x1, x2, z0, z1, z2, b4, m0, m1, m2, m3, m4, m5, hbl⟩ := hst
          iterate 13 refine ⟨?_, fun K hK => ?_⟩
          · trivial
          all_goals try (go_simp; exact hK _ HST.out; done)
          · go_simp
            refine (CT.out _).mono ?_
            rintro e' wc ⟨he, hbc⟩
            subst he
            exact hK _ ⟨sd x0 hbc, sd x1 hbc, sd x2 hbc, sd z0 hbc, sd z1 hbc, sd z2 hbc, sd b4 hbc, sd m0 hbc, sd m1 hbc, sd m2 hbc, sd m3 hbc, sd m4 hbc, sd m5 hbc, stay_b hbl hbc⟩
          · go_simp
            refine (CP.out _ hbl).mono ?_
            rintro e' wc ⟨he, hbc⟩
            subst he
            exact hK _ ⟨sd x0 hbc, sd x1 hbc, sd x2 hbc, sd z0 hbc, sd z1 hbc, sd z2 hbc, sd b4 hbc, sd m0 hbc, sd m1 hbc, sd m2 hbc, sd m3 hbc, sd m4 hbc, sd m5 hbc, stay_b hbl hbc⟩
        · have HST := Lib.hid hst
          obtain ⟨x0, x1, x2, z0, z1, z2, b4, m0, m1, m2, m3, m4, m5, hbl, g2, hx0, hkg⟩ := hst
          iterate 1 refine ⟨?_, fun K hK => ?_⟩
          · trivial
          all_goals try (go_simp; exact hK _ HST.out; done)
        · have HST := Lib.hid hst
          obtain ⟨h1, h2⟩ := hst
          iterate 1 refine ⟨?_, fun K hK => ?_⟩
          · trivial
          all_goals try (go_simp; exact hK _ HST.out; done)
      case hT =>
        intro jS t x WN ht hst o ho K hK
        cases jS with
        | zero =>
          cases ht
          simp only [noLast, dropDst, List.toList_toArray, List.getElem?_toArray, List.getElem?_cons_succ, List.getElem?_cons_zero, Option.some.injEq] at ho
          subst ho
          obtain ⟨x0, x1, x2, z0, z1, z2, b4, m0, m1, m2, m3, m4, m5, hbl⟩ := hst
          go_simp
          exact hK (.slice (some ⟨WN.heap.size, 0, none⟩) 1 1) _ ⟨al_c x0 (.cells #[.int .i64 s.1.1, .int .i64 s.1.2.1, .int .i64 s.1.2.2, .int .i64 t.1, .int .i64 t.2.1, .int .i64 t.2.2, .bool b] 46), al_c x1 (.cells #[.int .i64 s.1.1, .int .i64 s.1.2.1, .int .i64 s.1.2.2, .int .i64 t.1, .int .i64 t.2.1, .int .i64 t.2.2, .bool b] 46), al_c x2 (.cells #[.int .i64 s.1.1, .int .i64 s.1.2.1, .int .i64 s.1.2.2, .int .i64 t.1, .int .i64 t.2.1, .int .i64 t.2.2, .bool b] 46), al_c z0 (.cells #[.int .i64 s.1.1, .int .i64 s.1.2.1, .int .i64 s.1.2.2, .int .i64 t.1, .int .i64 t.2.1, .int .i64 t.2.2, .bool b] 46), al_c z1 (.cells #[.int .i64 s.1.1, .int .i64 s.1.2.1, .int .i64 s.1.2.2, .int .i64 t.1, .int .i64 t.2.1, .int .i64 t.2.2, .bool b] 46), al_c z2 (.cells #[.int .i64 s.1.1, .int .i64 s.1.2.1, .int .i64 s.1.2.2, .int .i64 t.1, .int .i64 t.2.1, .int .i64 t.2.2, .bool b] 46), al_c b4 (.cells #[.int .i64 s.1.1, .int .i64 s.1.2.1, .int .i64 s.1.2.2, .int .i64 t.1, .int .i64 t.2.1, .int .i64 t.2.2, .bool b] 46), al_c m0 (.cells #[.int .i64 s.1.1, .int .i64 s.1.2.1, .int .i64 s.1.2.2, .int .i64 t.1, .int .i64 t.2.1, .int .i64 t.2.2, .bool b] 46), al_c m1 (.cells #[.int .i64 s.1.1, .int .i64 s.1.2.1, .int .i64 s.1.2.2, .int .i64 t.1, .int .i64 t.2.1, .int .i64 t.2.2, .bool b] 46), al_c m2 (.cells #[.int .i64 s.1.1, .int .i64 s.1.2.1, .int .i64 s.1.2.2, .int .i64 t.1, .int .i64 t.2.1, .int .i64 t.2.2, .bool b] 46), al_c m3 (.cells #[.int .i64 s.1.1, .int .i64 s.1.2.1, .int .i64 s.1.2.2, .int .i64 t.1, .int .i64 t.2.1, .int .i64 t.2.2, .bool b] 46), al_c m4 (.cells #[.int .i64 s.1.1, .int .i64 s.1.2.1, .int .i64 s.1.2.2, .int .i64 t.1, .int .i64 t.2.1, .int .i64 t.2.2, .bool b] 46), al_c m5 (.cells #[.int .i64 s.1.1, .int .i64 s.1.2.1, .int .i64 s.1.2.2, .int .i64 t.1, .int .i64 t.2.1, .int .i64 t.2.2, .bool b] 46), hbl.alloc hbl.size (.cells #[.int .i64 s.1.1, .int .i64 s.1.2.1, .int .i64 s.1.2.2, .int .i64 t.1, .int .i64 t.2.1, .int .i64 t.2.2, .bool b] 46), WN.heap.size, Lib.hid rfl, heap_alloc_new WN (.cells #[.int .i64 s.1.1, .int .i64 s.1.2.1, .int .i64 s.1.2.2, .int .i64 t.1, .int .i64 t.2.1, .int .i64 t.2.2, .bool b] 46)⟩
        | succ jS =>
          cases jS with
          | zero =>
            cases ht
            simp only [noLast, dropDst, List.toList_toArray, List.getElem?_toArray, List.getElem?_cons_succ, List.getElem?_cons_zero, Option.some.injEq] at ho
            subst ho
            obtain ⟨x0, x1, x2, z0, z1, z2, b4, m0, m1, m2, m3, m4, m5, hbl, g2, hx0, hkg⟩ := hst
            have hrow := od hro1.out hbl
            have hwsz := hbl.size
            refine step_app Tryz.underlying30 seen_info rfl (by decide) (by decide) rfl _ _ rfl w2.heap.size (.slice Ta i Tc) i (sns (tops L ms (sts.take i))) (snC (s.1, t, b)) rfl hrow (by omega) 1 g2 hx0.out hkg rfl (snC_one _) (by omega) (fun vv ww h1 h2 h3 => hK vv ww ?_)
            rw [← sns_one, ← sns_app, ← HTOP.out, ← tops_take HSI.out] at h1
            exact ⟨Lib.hid ((hbl.mono hsw0).trans h2), Lib.hid h1⟩
          | succ jS =>
            simp at ht
      case he =>
        rintro aq WN ⟨x, rfl, hst⟩
        obtain ⟨h1, h2⟩ := hst
        have HRN := h2
        have HBN := Lib.hid (hb1.out.trans h1.out)
        clear h1 h2 x0 x1 x2 z0 z1 z2 b4 b5 m0 m1 m2 m3 m4 m5 CP CT HTOP HSI hsw
        have hwi : IntKind.i64.wrap ((i : Int) + 1) = ((i + 1 : Nat) : Int) := by rw [IntWalk.i64_in _ (by omega)]; omega
        go_wp2
        go_roundw
        case rel => exact ⟨i + 1, _, by omega, by first | rfl | go_num, rfl, HRN, HBN⟩
        case measure => simp [intOf]; omega
    ·obtain rfl : i = sts.length := by omega
     rw [List.take_length] at hrow
     have HR := hrow
     have HB := hbr
     have b5 := sd a5 HB.out
     have hnn : ¬ ((sts.length : Int) < (ns : Int)) := by have := HST.out.len; omega
     clear hrow hbr
     go_wp2
     exact bodyPost_ret (v := T) (by simp [results, Tryz.results9, go_sem]) rfl ⟨T, rfl, own_mono HR.out hsz2, HB2.out.trans (HB.out.mono hsz2)⟩
end
section
open Go.RowKit Go.Maps
theorem conv1 (w : World) (x : Int) : (convert 87 9 (.slice (some ⟨w.heap.size, 0, none⟩) 1 1)).run Tryz.prog (w.alloc (.cells #[.int .u8 x] 5)) = .ok (.string ⟨#[UInt8.ofNat x.toNat]⟩) (w.alloc (.cells #[.int .u8 x] 5)) := by
 rw [run_convert_bytes_string _ _ _ _ _ _ _ Tryz.underlying87 Tryz.underlying5 Tryz.underlying9]
 rw [run_bytesToString _ _ 1 1 [x] ?_]
 ·rfl
 ·have h := heap_alloc_new w (.cells #[.int .u8 x] 5)
  have hc := cell_of_blk h 0
  simp at hc
  simp [loadCells, go_sem, hc]
set_option maxRecDepth 100000 in
set_option maxHeartbeats 3200000 in
theorem dec1_any (n : Int) (w : World) (h0 : 0 ≤ n) (h1 : n < 10) :
  Calls Tryz.prog 52 #[.int .i64 n] w fun e w' => e = .returned (.string ⟨#[hexB n]⟩) ∧ Below w.heap.size w w' := by
 have m1 : IntKind.i64.wrap (48 + n) = 48 + n := IntWalk.i64_in _ (by omega)
 have m2 : IntKind.u8.wrap (48 + n) = 48 + n := IntWalk.u8_in _ (by omega)
 have hn0 : ¬ n < 0 := by omega
 have hcv := conv1 w (48 + n)
 have hd : UInt8.ofNat (48 + n).toNat = hexB n := by
  unfold hexB
  rw [if_pos h1, show (48 + n).toNat = 48 + n.toNat by omega]
 rw [hd] at hcv
 clear hd
 go_enter Tryz.func52, Tryz.ntmps52
 go_wp2
 go_ret
 exact ⟨rfl, below_new _ _⟩
set_option maxRecDepth 100000 in
set_option maxHeartbeats 3200000 in
theorem letter_any (n : Int) (w : World) (h0 : 0 ≤ n) (h1 : n ≤ 15) :
  Calls Tryz.prog 23 #[.int .i64 n] w fun e w' => e = .returned (.string ⟨#[hexB n]⟩) ∧ Below w.heap.size w w' := by
 by_cases hs : n < 10
 ·have CD := Lib.hid (dec1_any n w h0 hs)
  go_enter Tryz.func23, Tryz.ntmps23
  go_wp2_with (go_at_call 52; refine CD.out.mono ?_; rintro e w4 ⟨rfl, hb4⟩; have HB4 := Lib.hid hb4; clear hb4)
  go_ret
  exact ⟨rfl, HB4.out⟩
 ·have m3 : IntKind.i64.wrap (97 + n) = 97 + n := IntWalk.i64_in _ (by omega)
  have m4 : IntKind.i64.wrap (97 + n - 10) = 87 + n := by rw [IntWalk.i64_in _ (by omega)]; omega
  have m5 : IntKind.u8.wrap (87 + n) = 87 + n := IntWalk.u8_in _ (by omega)
  have hcv := conv1 w (87 + n)
  have hd : UInt8.ofNat (87 + n).toNat = hexB n := by
   unfold hexB
   rw [if_neg hs, show (87 + n).toNat = 87 + n.toNat by omega]
  rw [hd] at hcv
  clear hd
  go_enter Tryz.func23, Tryz.ntmps23
  go_wp2
  go_ret
  exact ⟨rfl, below_new _ _⟩
theorem pw_wrap {k : Int} (hk : 0 ≤ k ∧ k ≤ 3) : wrap64 (2 ^ k.toNat) = pw k := by
 have hh : k = 0 ∨ k = 1 ∨ k = 2 ∨ k = 3 := by omega
 have h1 : (2 : Int) ^ k.toNat = pw k := by rcases hh with rfl | rfl | rfl | rfl <;> decide
 have h2 : 0 ≤ pw k ∧ pw k ≤ 8 := by unfold pw; split <;> (try split) <;> (try split) <;> omega
 rw [h1]
 exact IntWalk.wrap64_in _ (by omega)
end
end Go.Proofs.YtpkjekedgodccaaGreatDoor
