/- The line of an edge, walked in both layers. Which triangles, lines, maps may be, in both layers (taken over from the door seat).. -/
import Derived.Test.YtpkjekedgodccaaGreatDoorK19
namespace Go.Proofs.YtpkjekedgodccaaGreatDoor
set_option linter.unusedSimpArgs false
set_option linter.unusedVariables false
section
open Go.RowKit Go.Maps
abbrev aggL (v c : Int) : Value := .agg #[.int .i64 v, .int .i64 c]
theorem set2_bel {B : Nat} {a w : World} (h : Below B a w) {g : Nat} (hg : B ≤ g) (u v : Value) : Below B a ((w.setCell ⟨g, 0, none⟩ u).setCell ⟨g, 1, none⟩ v) := (h.setCell (p := ⟨g, 0, none⟩) hg u).setCell (p := ⟨g, 1, none⟩) hg v
set_option maxRecDepth 100000 in
set_option maxHeartbeats 3200000 in
theorem lineP_any (e : E4) (w : World) (he : IsE e) :
  Calls Tryz.prog 66 #[aggE e] w fun r w' => r = .returned (aggL (lnW e) (lnC e)) ∧ Below w.heap.size w w' := by
 have hb0 := ba (below_new w (.cells #[.int .i64 e.1, .int .i64 e.2.1, .int .i64 e.2.2.1, .int .i64 e.2.2.2] 100)) (.cells #[.int .i64 0, .int .i64 0] 113)
 have ke := blk_alloc (heap_alloc_new w (.cells #[.int .i64 e.1, .int .i64 e.2.1, .int .i64 e.2.2.1, .int .i64 e.2.2.2] 100)) (.cells #[.int .i64 0, .int .i64 0] 113)
 have kz := heap_alloc_new (w.alloc (.cells #[.int .i64 e.1, .int .i64 e.2.1, .int .i64 e.2.2.1, .int .i64 e.2.2.2] 100)) (.cells #[.int .i64 0, .int .i64 0] 113)
 rw [World.size_alloc] at kz
 have x0 := cell_of_blk ke 0
 have x1 := cell_of_blk ke 1
 have x2 := cell_of_blk ke 2
 have x3 := cell_of_blk ke 3
 have z0 := cell_of_blk kz 0
 have z1 := cell_of_blk kz 1
 simp only [List.getElem?_toArray, List.getElem?_cons_zero, List.getElem?_cons_succ] at x0 x1 x2 x3 z0 z1
 have fz := frozen_of_blk kz
 have HE := Lib.hid he
 have HB0 := Lib.hid hb0
 have hzl : w.heap.size + 1 < ((w.alloc (.cells #[.int .i64 e.1, .int .i64 e.2.1, .int .i64 e.2.2.1, .int .i64 e.2.2.2] 100)).alloc (.cells #[.int .i64 0, .int .i64 0] 113)).heap.size := by simp
 clear he hb0 ke kz
 go_enter Tryz.func66, Tryz.ntmps66
 go_wp2_with fail
 generalize (w.alloc (.cells #[.int .i64 e.1, .int .i64 e.2.1, .int .i64 e.2.2.1, .int .i64 e.2.2.2] 100)).alloc (.cells #[.int .i64 0, .int .i64 0] 113) = w0 at x0 x1 x2 x3 z0 z1 fz HB0 hzl ⊢
 go_loopw [5] (fun x wr => ∃ j : Nat, j < 4 ∧ x = .int .i64 j ∧ Hid (∀ i, i < j → valP i e ≠ valQ i e) ∧ Hid (Below w0.heap.size w0 wr)) (fun x _ => 4 - (intOf x).toNat)
 case atStart => exact ⟨0, by omega, rfl, Lib.hid (fun i hi => by omega), Lib.hid (Below.refl _ _)⟩
 case round =>
  obtain ⟨j, hj, rfl, hn, hB⟩ := hrel
  have hji : (j : Int) < 4 := by omega
  have b0 := HE.out.b0
  have b1 := HE.out.b1
  have b2 := HE.out.b2
  have b3 := HE.out.b3
  have x0 := sd x0 hB.out
  have x1 := sd x1 hB.out
  have x2 := sd x2 hB.out
  have x3 := sd x3 hB.out
  have cP := fun (W' : World) => value_any (j : Int) e.1 e.2.1 W' (by omega) (by omega) (by omega) (by omega)
  have cQ := fun (W' : World) => value_any (j : Int) e.2.2.1 e.2.2.2 W' (by omega) (by omega) (by omega) (by omega)
  have hat := fun h => ln_at hj hn.out h
  have hmo := fun h => ln_more HE.out hj hn.out h
  have hvp : valP j e = valB j e.1 e.2.1 := rfl
  have hvq : valQ j e = valB j e.2.2.1 e.2.2.2 := rfl
  rw [hvp, hvq] at hat hmo
  obtain ⟨a, ha⟩ : ∃ a, a = valB j e.1 e.2.1 := ⟨_, rfl⟩
  obtain ⟨b, hb⟩ : ∃ b, b = valB j e.2.2.1 e.2.2.2 := ⟨_, rfl⟩
  rw [← ha] at cP hat hmo
  rw [← hb] at cQ hat hmo
  have CP := Lib.hid cP
  have CQ := Lib.hid cQ
  have HAT := Lib.hid hat
  have HMO := Lib.hid hmo
  have HAB := Lib.hid (And.intro (hvp.trans ha.symm) (hvq.trans hb.symm))
  clear cP cQ hat hmo hvp hvq ha hb b0 b1 b2 b3
  go_wp2_with fail
  refine (CP.out _).mono ?_
  rintro r w1 ⟨rfl, hb1⟩
  have x0 := sd x0 hb1
  have x1 := sd x1 hb1
  have x2 := sd x2 hb1
  have x3 := sd x3 hb1
  have HB1 := Lib.hid (stay_b hB.out hb1)
  clear hb1
  go_wp2_with fail
  refine (CQ.out _).mono ?_
  rintro r w2 ⟨rfl, hb2⟩
  have HB2 := Lib.hid (stay_b HB1.out hb2)
  clear hb2 x0 x1 x2 x3
  have z0 := sd z0 HB2.out
  have z1 := sd z1 HB2.out
  have fz : ∀ i, w2.frozen? ⟨w.heap.size + 1, i, none⟩ = false := fun i => (HB2.out.frozen (p := ⟨w.heap.size + 1, i, none⟩) hzl).trans (fz i)
  by_cases hab : a = b
  ·have hd : (a == b) = true := by simpa using hab
   have hres := HAT.out hab
   have HR := Lib.hid hres
   clear hres hab
   go_wp2
   refine bodyPost_ret (v := aggL j a) (by simp [results, Tryz.results66, go_sem, z0, z1]) rfl ⟨by rw [HR.out.1, HR.out.2], ?_⟩
   exact set2_bel (HB0.out.trans (HB2.out.mono HB0.out.size)) (Nat.le_succ _) _ _
  ·have hd : (a == b) = false := by simpa using hab
   have h3 := HMO.out hab
   have hn2 : ∀ i, i < j + 1 → valP i e ≠ valQ i e := by
    intro i hi
    by_cases h : i < j
    ·exact hn.out i h
    ·have : i = j := by omega
     subst this
     rw [HAB.out.1, HAB.out.2]
     exact hab
   have HN := Lib.hid hn2
   clear hn2 hab
   go_wp2
   go_roundw
   case rel => exact ⟨j + 1, by omega, by go_num, HN, HB2⟩
   case measure => simp [intOf]; omega
set_option maxRecDepth 100000 in
set_option maxHeartbeats 3200000 in
theorem lineD_any (e : E4) (w : World) (he : IsE e) :
  Calls Tryz.prog 48 #[aggE e] w fun r w' => r = .returned (aggL (lnW e) (lnC e)) ∧ Below w.heap.size w w' := by
 have hb0 := ba (below_new w (.cells #[.int .i64 e.1, .int .i64 e.2.1, .int .i64 e.2.2.1, .int .i64 e.2.2.2] 100)) (.cells #[.int .i64 0, .int .i64 0] 113)
 have ke := blk_alloc (heap_alloc_new w (.cells #[.int .i64 e.1, .int .i64 e.2.1, .int .i64 e.2.2.1, .int .i64 e.2.2.2] 100)) (.cells #[.int .i64 0, .int .i64 0] 113)
 have kz := heap_alloc_new (w.alloc (.cells #[.int .i64 e.1, .int .i64 e.2.1, .int .i64 e.2.2.1, .int .i64 e.2.2.2] 100)) (.cells #[.int .i64 0, .int .i64 0] 113)
 rw [World.size_alloc] at kz
 have x0 := cell_of_blk ke 0
 have x1 := cell_of_blk ke 1
 have x2 := cell_of_blk ke 2
 have x3 := cell_of_blk ke 3
 have z0 := cell_of_blk kz 0
 have z1 := cell_of_blk kz 1
 simp only [List.getElem?_toArray, List.getElem?_cons_zero, List.getElem?_cons_succ] at x0 x1 x2 x3 z0 z1
 have fz := frozen_of_blk kz
 have HE := Lib.hid he
 have HB0 := Lib.hid hb0
 have hzl : w.heap.size + 1 < ((w.alloc (.cells #[.int .i64 e.1, .int .i64 e.2.1, .int .i64 e.2.2.1, .int .i64 e.2.2.2] 100)).alloc (.cells #[.int .i64 0, .int .i64 0] 113)).heap.size := by simp
 clear he hb0 ke kz
 go_enter Tryz.func48, Tryz.ntmps48
 go_wp2_with fail
 generalize (w.alloc (.cells #[.int .i64 e.1, .int .i64 e.2.1, .int .i64 e.2.2.1, .int .i64 e.2.2.2] 100)).alloc (.cells #[.int .i64 0, .int .i64 0] 113) = w0 at x0 x1 x2 x3 z0 z1 fz HB0 hzl ⊢
 go_loopw [3] (fun x wr => ∃ j : Nat, j < 4 ∧ x = .int .i64 j ∧ Hid (∀ i, i < j → valP i e ≠ valQ i e) ∧ Hid (Below w0.heap.size w0 wr)) (fun x _ => 4 - (intOf x).toNat)
 case atStart => exact ⟨0, by omega, rfl, Lib.hid (fun i hi => by omega), Lib.hid (Below.refl _ _)⟩
 case round =>
  obtain ⟨j, hj, rfl, hn, hB⟩ := hrel
  have b0 := HE.out.b0
  have b1 := HE.out.b1
  have b2 := HE.out.b2
  have b3 := HE.out.b3
  have x0 := sd x0 hB.out
  have x1 := sd x1 hB.out
  have x2 := sd x2 hB.out
  have x3 := sd x3 hB.out
  have cP := fun (W' : World) => valueOf_any (j : Int) e.1 e.2.1 W' (by omega) (by omega) (by omega) (by omega)
  have cQ := fun (W' : World) => valueOf_any (j : Int) e.2.2.1 e.2.2.2 W' (by omega) (by omega) (by omega) (by omega)
  have hat := fun h => ln_at hj hn.out h
  have hmo := fun h => ln_more HE.out hj hn.out h
  have hvp : valP j e = valB j e.1 e.2.1 := rfl
  have hvq : valQ j e = valB j e.2.2.1 e.2.2.2 := rfl
  rw [hvp, hvq] at hat hmo
  obtain ⟨a, ha⟩ : ∃ a, a = valB j e.1 e.2.1 := ⟨_, rfl⟩
  obtain ⟨b, hb⟩ : ∃ b, b = valB j e.2.2.1 e.2.2.2 := ⟨_, rfl⟩
  rw [← ha] at cP hat hmo
  rw [← hb] at cQ hat hmo
  have CP := Lib.hid cP
  have CQ := Lib.hid cQ
  have HAT := Lib.hid hat
  have HMO := Lib.hid hmo
  have HAB := Lib.hid (And.intro (hvp.trans ha.symm) (hvq.trans hb.symm))
  have hw1 : IntKind.i64.wrap ((j : Int) + 1) = (j : Int) + 1 := IntWalk.i64_in _ (by omega)
  clear cP cQ hat hmo hvp hvq ha hb b0 b1 b2 b3
  go_upto_region 9 with fail
  by_cases hab : a = b
  ·have hd : (a != b) = false := by simpa using hab
   have HEQ := Lib.hid hab
   clear hab
   refine wp_region_inv (fun Lq aq WN => ∃ s : Nat → Value, aq = { tmps := #[aggE e, .pointer (some ⟨w.heap.size, 0, none⟩), .pointer (some ⟨w.heap.size + 1, 0, none⟩), .int .i64 (j : Int), (s 0), (s 1), (s 2), (s 3), (s 4), (s 5), (s 6), (s 7), (s 8), u13, u14, undef, undef, undef, undef, undef, undef], defers := [] } ∧ Sv 9 [some (.int .i64 (j : Int)), some (.pointer (some ⟨w.heap.size, 0, none⟩)), some (.agg #[.int .i64 e.1, .int .i64 e.2.1]), some (.int .i64 a), some (.int .i64 (j : Int)), some (.pointer (some ⟨w.heap.size, 2, none⟩)), some (.agg #[.int .i64 e.2.2.1, .int .i64 e.2.2.2]), some (.int .i64 b), some (.bool false)] Lq s ∧ (WN.cell? ⟨w.heap.size, 0, none⟩ = some (.int .i64 e.1) ∧ WN.cell? ⟨w.heap.size, 1, none⟩ = some (.int .i64 e.2.1) ∧ WN.cell? ⟨w.heap.size, 2, none⟩ = some (.int .i64 e.2.2.1) ∧ WN.cell? ⟨w.heap.size, 3, none⟩ = some (.int .i64 e.2.2.2) ∧ Below wr.heap.size wr WN)) (by kernel_rfl) ?_ ?_ ?_
   ·exact ⟨listF [u4, u5, u6, u7, u8, u9, u10, u11, u12], rfl, Sv.start 9 _ _, ⟨x0, x1, x2, x3, (Below.refl _ _).drew⟩⟩
   ·intro Lq aq WN i0 hI hr
    obtain ⟨s, rfl, hv, hst⟩ := hI
    have hi0 : i0 < 9 := ready_lt hr
    have HV := Lib.hid hv
    have HST := Lib.hid hst
    clear hv hst
    have hii : i0 = 0 ∨ i0 = 1 ∨ i0 = 2 ∨ i0 = 3 ∨ i0 = 4 ∨ i0 = 5 ∨ i0 = 6 ∨ i0 = 7 ∨ i0 = 8 := by omega
    clear hi0
    rcases hii with rfl | rfl | rfl | rfl | rfl | rfl | rfl | rfl | rfl
    ·clear hr
     refine wpOp_step rfl (fun K hK => ?_)
     go_simp
     refine hK _ _ ?_
     exact ⟨upd s 0 (.int .i64 (j : Int)), rfl, Sv.put HV.out (fun u hu => by cases hu; rfl), HST.out⟩
    ·clear hr
     refine wpOp_step rfl (fun K hK => ?_)
     go_simp
     refine hK _ _ ?_
     exact ⟨upd s 1 (.pointer (some ⟨w.heap.size, 0, none⟩)), rfl, Sv.put HV.out (fun u hu => by cases hu; rfl), HST.out⟩
    ·have d1 := ready_dep hr (k := 1) (by kernel_rfl)
     clear hr
     have e1 : s 1 = .pointer (some ⟨w.heap.size, 0, none⟩) := HV.out.v d1 rfl
     obtain ⟨q0, q1, q2, q3, hbl⟩ := HST.out
     refine wpOp_step rfl (fun K hK => ?_)
     go_simp
     refine hK _ _ ?_
     exact ⟨upd (upd s 1 (.pointer (some ⟨w.heap.size, 0, none⟩))) 2 (.agg #[.int .i64 e.1, .int .i64 e.2.1]), rfl, Sv.put (Sv.re (j := 1) (v := .pointer (some ⟨w.heap.size, 0, none⟩)) HV.out e1) (fun u hu => by cases hu; rfl), HST.out⟩
    ·have d0 := ready_dep hr (k := 0) (by kernel_rfl)
     have d2 := ready_dep hr (k := 2) (by kernel_rfl)
     clear hr
     have e0 : s 0 = .int .i64 (j : Int) := HV.out.v d0 rfl
     have e2 : s 2 = .agg #[.int .i64 e.1, .int .i64 e.2.1] := HV.out.v d2 rfl
     obtain ⟨q0, q1, q2, q3, hbl⟩ := HST.out
     refine wpOp_step rfl (fun K hK => ?_)
     go_simp
     refine (CP.out _).mono ?_
     rintro e' wc ⟨he, hbc⟩
     subst he
     refine hK _ _ ?_
     exact ⟨upd (upd (upd s 0 (.int .i64 (j : Int))) 2 (.agg #[.int .i64 e.1, .int .i64 e.2.1])) 3 (.int .i64 a), rfl, Sv.put (Sv.re (j := 2) (v := .agg #[.int .i64 e.1, .int .i64 e.2.1]) (Sv.re (j := 0) (v := .int .i64 (j : Int)) HV.out e0) e2) (fun u hu => by cases hu; rfl), ⟨sd q0 hbc, sd q1 hbc, sd q2 hbc, sd q3 hbc, stay_b hbl hbc⟩⟩
    ·clear hr
     refine wpOp_step rfl (fun K hK => ?_)
     go_simp
     refine hK _ _ ?_
     exact ⟨upd s 4 (.int .i64 (j : Int)), rfl, Sv.put HV.out (fun u hu => by cases hu; rfl), HST.out⟩
    ·clear hr
     refine wpOp_step rfl (fun K hK => ?_)
     go_simp
     refine hK _ _ ?_
     exact ⟨upd s 5 (.pointer (some ⟨w.heap.size, 2, none⟩)), rfl, Sv.put HV.out (fun u hu => by cases hu; rfl), HST.out⟩
    ·have d5 := ready_dep hr (k := 5) (by kernel_rfl)
     clear hr
     have e5 : s 5 = .pointer (some ⟨w.heap.size, 2, none⟩) := HV.out.v d5 rfl
     obtain ⟨q0, q1, q2, q3, hbl⟩ := HST.out
     refine wpOp_step rfl (fun K hK => ?_)
     go_simp
     refine hK _ _ ?_
     exact ⟨upd (upd s 5 (.pointer (some ⟨w.heap.size, 2, none⟩))) 6 (.agg #[.int .i64 e.2.2.1, .int .i64 e.2.2.2]), rfl, Sv.put (Sv.re (j := 5) (v := .pointer (some ⟨w.heap.size, 2, none⟩)) HV.out e5) (fun u hu => by cases hu; rfl), HST.out⟩
    ·have d4 := ready_dep hr (k := 4) (by kernel_rfl)
     have d6 := ready_dep hr (k := 6) (by kernel_rfl)
     clear hr
     have e4 : s 4 = .int .i64 (j : Int) := HV.out.v d4 rfl
     have e6 : s 6 = .agg #[.int .i64 e.2.2.1, .int .i64 e.2.2.2] := HV.out.v d6 rfl
     obtain ⟨q0, q1, q2, q3, hbl⟩ := HST.out
     refine wpOp_step rfl (fun K hK => ?_)
     go_simp
     refine (CQ.out _).mono ?_
     rintro e' wc ⟨he, hbc⟩
     subst he
     refine hK _ _ ?_
     exact ⟨upd (upd (upd s 4 (.int .i64 (j : Int))) 6 (.agg #[.int .i64 e.2.2.1, .int .i64 e.2.2.2])) 7 (.int .i64 b), rfl, Sv.put (Sv.re (j := 6) (v := .agg #[.int .i64 e.2.2.1, .int .i64 e.2.2.2]) (Sv.re (j := 4) (v := .int .i64 (j : Int)) HV.out e4) e6) (fun u hu => by cases hu; rfl), ⟨sd q0 hbc, sd q1 hbc, sd q2 hbc, sd q3 hbc, stay_b hbl hbc⟩⟩
    ·have d3 := ready_dep hr (k := 3) (by kernel_rfl)
     have d7 := ready_dep hr (k := 7) (by kernel_rfl)
     clear hr
     have e3 : s 3 = .int .i64 a := HV.out.v d3 rfl
     have e7 : s 7 = .int .i64 b := HV.out.v d7 rfl
     refine wpOp_step rfl (fun K hK => ?_)
     go_simp
     refine hK _ _ ?_
     exact ⟨upd (upd (upd s 3 (.int .i64 a)) 7 (.int .i64 b)) 8 (.bool false), rfl, Sv.put (Sv.re (j := 7) (v := .int .i64 b) (Sv.re (j := 3) (v := .int .i64 a) HV.out e3) e7) (fun u hu => by cases hu; rfl), HST.out⟩
   ·intro Lq aq WN hI hrd
    obtain ⟨s, ha, hv, hst⟩ := hI
    have hall := all_listedM hrd hv.sz (by kernel_rfl)
    clear hrd
    have e0 : s 0 = (.int .i64 (j : Int)) := hv.v (hall 0 (by decide)) rfl
    have e1 : s 1 = (.pointer (some ⟨w.heap.size, 0, none⟩)) := hv.v (hall 1 (by decide)) rfl
    have e2 : s 2 = (.agg #[.int .i64 e.1, .int .i64 e.2.1]) := hv.v (hall 2 (by decide)) rfl
    have e3 : s 3 = (.int .i64 a) := hv.v (hall 3 (by decide)) rfl
    have e4 : s 4 = (.int .i64 (j : Int)) := hv.v (hall 4 (by decide)) rfl
    have e5 : s 5 = (.pointer (some ⟨w.heap.size, 2, none⟩)) := hv.v (hall 5 (by decide)) rfl
    have e6 : s 6 = (.agg #[.int .i64 e.2.2.1, .int .i64 e.2.2.2]) := hv.v (hall 6 (by decide)) rfl
    have e7 : s 7 = (.int .i64 b) := hv.v (hall 7 (by decide)) rfl
    have e8 : s 8 = (.bool false) := hv.v (hall 8 (by decide)) rfl
    simp only [e0, e1, e2, e3, e4, e5, e6, e7, e8] at ha
    subst ha
    clear hall hv e0 e1 e2 e3 e4 e5 e6 e7 e8
    obtain ⟨q0, q1, q2, q3, hbl⟩ := hst
    have hres := HAT.out HEQ.out
    have HR := Lib.hid hres
    have HB2 := Lib.hid (stay_b hB.out hbl)
    clear hres hbl
    go_wp2_with fail
    refine (CP.out _).mono ?_
    rintro r w2 ⟨rfl, hb2⟩
    have HB3 := Lib.hid (stay_b HB2.out hb2)
    have z0 := sd z0 HB3.out
    have z1 := sd z1 HB3.out
    have fz : ∀ i, w2.frozen? ⟨w.heap.size + 1, i, none⟩ = false := fun i => (HB3.out.frozen (p := ⟨w.heap.size + 1, i, none⟩) hzl).trans (fz i)
    clear hb2
    go_wp2
    refine bodyPost_ret (v := aggL j a) (by simp [results, Tryz.results48, go_sem, z0, z1]) rfl ⟨by rw [HR.out.1, HR.out.2], ?_⟩
    exact set2_bel (HB0.out.trans (HB3.out.mono HB0.out.size)) (Nat.le_succ _) _ _
  ·have hd : (a != b) = true := by simpa using hab
   have HEQ := Lib.hid hab
   clear hab
   refine wp_region_inv (fun Lq aq WN => ∃ s : Nat → Value, aq = { tmps := #[aggE e, .pointer (some ⟨w.heap.size, 0, none⟩), .pointer (some ⟨w.heap.size + 1, 0, none⟩), .int .i64 (j : Int), (s 0), (s 1), (s 2), (s 3), (s 4), (s 5), (s 6), (s 7), (s 8), u13, u14, undef, undef, undef, undef, undef, undef], defers := [] } ∧ Sv 9 [some (.int .i64 (j : Int)), some (.pointer (some ⟨w.heap.size, 0, none⟩)), some (.agg #[.int .i64 e.1, .int .i64 e.2.1]), some (.int .i64 a), some (.int .i64 (j : Int)), some (.pointer (some ⟨w.heap.size, 2, none⟩)), some (.agg #[.int .i64 e.2.2.1, .int .i64 e.2.2.2]), some (.int .i64 b), some (.bool true)] Lq s ∧ (WN.cell? ⟨w.heap.size, 0, none⟩ = some (.int .i64 e.1) ∧ WN.cell? ⟨w.heap.size, 1, none⟩ = some (.int .i64 e.2.1) ∧ WN.cell? ⟨w.heap.size, 2, none⟩ = some (.int .i64 e.2.2.1) ∧ WN.cell? ⟨w.heap.size, 3, none⟩ = some (.int .i64 e.2.2.2) ∧ Below wr.heap.size wr WN)) (by kernel_rfl) ?_ ?_ ?_
   ·exact ⟨listF [u4, u5, u6, u7, u8, u9, u10, u11, u12], rfl, Sv.start 9 _ _, ⟨x0, x1, x2, x3, (Below.refl _ _).drew⟩⟩
   ·intro Lq aq WN i0 hI hr
    obtain ⟨s, rfl, hv, hst⟩ := hI
    have hi0 : i0 < 9 := ready_lt hr
    have HV := Lib.hid hv
    have HST := Lib.hid hst
    clear hv hst
    have hii : i0 = 0 ∨ i0 = 1 ∨ i0 = 2 ∨ i0 = 3 ∨ i0 = 4 ∨ i0 = 5 ∨ i0 = 6 ∨ i0 = 7 ∨ i0 = 8 := by omega
    clear hi0
    rcases hii with rfl | rfl | rfl | rfl | rfl | rfl | rfl | rfl | rfl
    ·clear hr
     refine wpOp_step rfl (fun K hK => ?_)
     go_simp
     refine hK _ _ ?_
     exact ⟨upd s 0 (.int .i64 (j : Int)), rfl, Sv.put HV.out (fun u hu => by cases hu; rfl), HST.out⟩
    ·clear hr
     refine wpOp_step rfl (fun K hK => ?_)
     go_simp
     refine hK _ _ ?_
     exact ⟨upd s 1 (.pointer (some ⟨w.heap.size, 0, none⟩)), rfl, Sv.put HV.out (fun u hu => by cases hu; rfl), HST.out⟩
    ·have d1 := ready_dep hr (k := 1) (by kernel_rfl)
     clear hr
     have e1 : s 1 = .pointer (some ⟨w.heap.size, 0, none⟩) := HV.out.v d1 rfl
     obtain ⟨q0, q1, q2, q3, hbl⟩ := HST.out
     refine wpOp_step rfl (fun K hK => ?_)
     go_simp
     refine hK _ _ ?_
     exact ⟨upd (upd s 1 (.pointer (some ⟨w.heap.size, 0, none⟩))) 2 (.agg #[.int .i64 e.1, .int .i64 e.2.1]), rfl, Sv.put (Sv.re (j := 1) (v := .pointer (some ⟨w.heap.size, 0, none⟩)) HV.out e1) (fun u hu => by cases hu; rfl), HST.out⟩
    ·have d0 := ready_dep hr (k := 0) (by kernel_rfl)
     have d2 := ready_dep hr (k := 2) (by kernel_rfl)
     clear hr
     have e0 : s 0 = .int .i64 (j : Int) := HV.out.v d0 rfl
     have e2 : s 2 = .agg #[.int .i64 e.1, .int .i64 e.2.1] := HV.out.v d2 rfl
     obtain ⟨q0, q1, q2, q3, hbl⟩ := HST.out
     refine wpOp_step rfl (fun K hK => ?_)
     go_simp
     refine (CP.out _).mono ?_
     rintro e' wc ⟨he, hbc⟩
     subst he
     refine hK _ _ ?_
     exact ⟨upd (upd (upd s 0 (.int .i64 (j : Int))) 2 (.agg #[.int .i64 e.1, .int .i64 e.2.1])) 3 (.int .i64 a), rfl, Sv.put (Sv.re (j := 2) (v := .agg #[.int .i64 e.1, .int .i64 e.2.1]) (Sv.re (j := 0) (v := .int .i64 (j : Int)) HV.out e0) e2) (fun u hu => by cases hu; rfl), ⟨sd q0 hbc, sd q1 hbc, sd q2 hbc, sd q3 hbc, stay_b hbl hbc⟩⟩
    ·clear hr
     refine wpOp_step rfl (fun K hK => ?_)
     go_simp
     refine hK _ _ ?_
     exact ⟨upd s 4 (.int .i64 (j : Int)), rfl, Sv.put HV.out (fun u hu => by cases hu; rfl), HST.out⟩
    ·clear hr
     refine wpOp_step rfl (fun K hK => ?_)
     go_simp
     refine hK _ _ ?_
     exact ⟨upd s 5 (.pointer (some ⟨w.heap.size, 2, none⟩)), rfl, Sv.put HV.out (fun u hu => by cases hu; rfl), HST.out⟩
    ·have d5 := ready_dep hr (k := 5) (by kernel_rfl)
     clear hr
     have e5 : s 5 = .pointer (some ⟨w.heap.size, 2, none⟩) := HV.out.v d5 rfl
     obtain ⟨q0, q1, q2, q3, hbl⟩ := HST.out
     refine wpOp_step rfl (fun K hK => ?_)
     go_simp
     refine hK _ _ ?_
     exact ⟨upd (upd s 5 (.pointer (some ⟨w.heap.size, 2, none⟩))) 6 (.agg #[.int .i64 e.2.2.1, .int .i64 e.2.2.2]), rfl, Sv.put (Sv.re (j := 5) (v := .pointer (some ⟨w.heap.size, 2, none⟩)) HV.out e5) (fun u hu => by cases hu; rfl), HST.out⟩
    ·have d4 := ready_dep hr (k := 4) (by kernel_rfl)
     have d6 := ready_dep hr (k := 6) (by kernel_rfl)
     clear hr
     have e4 : s 4 = .int .i64 (j : Int) := HV.out.v d4 rfl
     have e6 : s 6 = .agg #[.int .i64 e.2.2.1, .int .i64 e.2.2.2] := HV.out.v d6 rfl
     obtain ⟨q0, q1, q2, q3, hbl⟩ := HST.out
     refine wpOp_step rfl (fun K hK => ?_)
     go_simp
     refine (CQ.out _).mono ?_
     rintro e' wc ⟨he, hbc⟩
     subst he
     refine hK _ _ ?_
     exact ⟨upd (upd (upd s 4 (.int .i64 (j : Int))) 6 (.agg #[.int .i64 e.2.2.1, .int .i64 e.2.2.2])) 7 (.int .i64 b), rfl, Sv.put (Sv.re (j := 6) (v := .agg #[.int .i64 e.2.2.1, .int .i64 e.2.2.2]) (Sv.re (j := 4) (v := .int .i64 (j : Int)) HV.out e4) e6) (fun u hu => by cases hu; rfl), ⟨sd q0 hbc, sd q1 hbc, sd q2 hbc, sd q3 hbc, stay_b hbl hbc⟩⟩
    ·have d3 := ready_dep hr (k := 3) (by kernel_rfl)
     have d7 := ready_dep hr (k := 7) (by kernel_rfl)
     clear hr
     have e3 : s 3 = .int .i64 a := HV.out.v d3 rfl
     have e7 : s 7 = .int .i64 b := HV.out.v d7 rfl
     refine wpOp_step rfl (fun K hK => ?_)
     go_simp
     refine hK _ _ ?_
     exact ⟨upd (upd (upd s 3 (.int .i64 a)) 7 (.int .i64 b)) 8 (.bool true), rfl, Sv.put (Sv.re (j := 7) (v := .int .i64 b) (Sv.re (j := 3) (v := .int .i64 a) HV.out e3) e7) (fun u hu => by cases hu; rfl), HST.out⟩
   ·intro Lq aq WN hI hrd
    obtain ⟨s, ha, hv, hst⟩ := hI
    have hall := all_listedM hrd hv.sz (by kernel_rfl)
    clear hrd
    have e0 : s 0 = (.int .i64 (j : Int)) := hv.v (hall 0 (by decide)) rfl
    have e1 : s 1 = (.pointer (some ⟨w.heap.size, 0, none⟩)) := hv.v (hall 1 (by decide)) rfl
    have e2 : s 2 = (.agg #[.int .i64 e.1, .int .i64 e.2.1]) := hv.v (hall 2 (by decide)) rfl
    have e3 : s 3 = (.int .i64 a) := hv.v (hall 3 (by decide)) rfl
    have e4 : s 4 = (.int .i64 (j : Int)) := hv.v (hall 4 (by decide)) rfl
    have e5 : s 5 = (.pointer (some ⟨w.heap.size, 2, none⟩)) := hv.v (hall 5 (by decide)) rfl
    have e6 : s 6 = (.agg #[.int .i64 e.2.2.1, .int .i64 e.2.2.2]) := hv.v (hall 6 (by decide)) rfl
    have e7 : s 7 = (.int .i64 b) := hv.v (hall 7 (by decide)) rfl
    have e8 : s 8 = (.bool true) := hv.v (hall 8 (by decide)) rfl
    simp only [e0, e1, e2, e3, e4, e5, e6, e7, e8] at ha
    subst ha
    clear hall hv e0 e1 e2 e3 e4 e5 e6 e7 e8
    obtain ⟨q0, q1, q2, q3, hbl⟩ := hst
    have h3 := HMO.out HEQ.out
    have hn2 : ∀ i, i < j + 1 → valP i e ≠ valQ i e := by
     intro i hi
     by_cases h : i < j
     ·exact hn.out i h
     ·have : i = j := by omega
      subst this
      rw [HAB.out.1, HAB.out.2]
      exact HEQ.out
    have HN := Lib.hid hn2
    have HB2 := Lib.hid (stay_b hB.out hbl)
    clear hn2 hbl
    go_wp2
    go_roundw
    case rel => exact ⟨j + 1, by omega, by go_num, HN, HB2⟩
    case measure => simp [intOf]; omega
end
section
open Go.RowKit Go.Maps
open Go.RowKit
set_option maxHeartbeats 400000 in
theorem in_any (n : Int) (w : World) : Calls Tryz.prog 58 #[.int .i64 n] w fun e w' => e = .returned (.bool (inN n)) ∧ w = w' := by
 by_cases h1 : -1000000 ≤ n
 ·go_enter Tryz.func58, Tryz.ntmps58
  go_wp2
  go_ret
  exact ⟨by simp [inN, h1], rfl⟩
 ·go_enter Tryz.func58, Tryz.ntmps58
  go_wp2
  go_ret
  exact ⟨by congr 2; simp [inN]; omega, rfl⟩
set_option maxHeartbeats 800000 in
theorem triMay_any (x y k : Int) (w : World) : Calls Tryz.prog 26 #[.agg #[.int .i64 x, .int .i64 y, .int .i64 k]] w fun e w' => e = .returned (.bool (triMayB x y k)) ∧ Below w.heap.size w w' := by
 have hb := below_new w (.cells #[.int .i64 x, .int .i64 y, .int .i64 k] 44)
 by_cases c0 : 0 ≤ k
 rotate_left
 ·go_enter Tryz.func26, Tryz.ntmps26
  go_wp2
  go_ret
  exact ⟨by first | (simp [triMayB, *]; done) | (simp [triMayB, *]; intros; omega) | (simp [triMayB, *]; rw [Bool.eq_iff_iff]; simp), hb⟩
 by_cases c1 : k ≤ 3
 rotate_left
 ·go_enter Tryz.func26, Tryz.ntmps26
  go_wp2
  go_ret
  exact ⟨by first | (simp [triMayB, *]; done) | (simp [triMayB, *]; intros; omega) | (simp [triMayB, *]; rw [Bool.eq_iff_iff]; simp), hb⟩
 by_cases c2 : inN x = true
 rotate_left
 ·have g2 : inN x = false := by simpa using c2
  have H1 := Lib.hid g2
  go_enter Tryz.func26, Tryz.ntmps26
  go_wp2_with fail
  refine (in_any x _).mono ?_
  rintro e w1 ⟨rfl, rfl⟩
  rw [H1.out]
  go_wp2
  go_ret
  exact ⟨by first | (simp [triMayB, *]; done) | (simp [triMayB, *]; intros; omega) | (simp [triMayB, *]; rw [Bool.eq_iff_iff]; simp), hb⟩
 have H1 := Lib.hid c2
 go_enter Tryz.func26, Tryz.ntmps26
 go_wp2_with fail
 refine (in_any x _).mono ?_
 rintro e w1 ⟨rfl, rfl⟩
 rw [H1.out]
 go_wp2_with fail
 refine (in_any y _).mono ?_
 rintro e w2 ⟨rfl, rfl⟩
 go_wp2
 go_ret
 exact ⟨by first | (simp [triMayB, *]; done) | (simp [triMayB, *]; intros; omega) | (simp [triMayB, *]; rw [Bool.eq_iff_iff]; simp), hb⟩
set_option maxHeartbeats 800000 in
theorem refTri_any (x y k : Int) (w : World) : Calls Tryz.prog 42 #[.agg #[.int .i64 x, .int .i64 y, .int .i64 k]] w fun e w' => e = .returned (.bool (triMayB x y k)) ∧ Below w.heap.size w w' := by
 have hb := below_new w (.cells #[.int .i64 x, .int .i64 y, .int .i64 k] 44)
 by_cases c0 : (decide (0 ≤ k) && decide (k ≤ 3)) = true
 rotate_left
 ·have g0 : (decide (0 ≤ k) && decide (k ≤ 3)) = false := by simpa using c0
  have H1 := Lib.hid g0
  go_enter Tryz.func42, Tryz.ntmps42
  go_wp2_with fail
  refine (inB_any k 0 3 _).mono ?_
  rintro e w1 ⟨rfl, rfl⟩
  rw [H1.out]
  go_wp2
  go_ret
  exact ⟨by first | (simp [triMayB, inN, *]; done) | (simp [triMayB, inN, *]; intros; omega) | (simp [triMayB, inN, *]; rw [Bool.eq_iff_iff]; simp), hb⟩
 have H1 := Lib.hid c0
 by_cases c1 : (decide (-1000000 ≤ x) && decide (x ≤ 1000000)) = true
 rotate_left
 ·have g1 : (decide (-1000000 ≤ x) && decide (x ≤ 1000000)) = false := by simpa using c1
  have H2 := Lib.hid g1
  go_enter Tryz.func42, Tryz.ntmps42
  go_wp2_with fail
  refine (inB_any k 0 3 _).mono ?_
  rintro e w1 ⟨rfl, rfl⟩
  rw [H1.out]
  go_wp2_with fail
  refine (inB_any x (-1000000) 1000000 _).mono ?_
  rintro e w2 ⟨rfl, rfl⟩
  rw [H2.out]
  go_wp2
  go_ret
  exact ⟨by first | (simp [triMayB, inN, *]; done) | (simp [triMayB, inN, *]; intros; omega) | (simp [triMayB, inN, *]; rw [Bool.eq_iff_iff]; simp), hb⟩
 have H2 := Lib.hid c1
 go_enter Tryz.func42, Tryz.ntmps42
 go_wp2_with fail
 refine (inB_any k 0 3 _).mono ?_
 rintro e w1 ⟨rfl, rfl⟩
 rw [H1.out]
 go_wp2_with fail
 refine (inB_any x (-1000000) 1000000 _).mono ?_
 rintro e w2 ⟨rfl, rfl⟩
 rw [H2.out]
 go_wp2_with fail
 refine (inB_any y (-1000000) 1000000 _).mono ?_
 rintro e w3 ⟨rfl, rfl⟩
 go_wp2
 go_ret
 exact ⟨by first | (simp [triMayB, inN, *]; done) | (simp [triMayB, inN, *]; intros; omega) | (simp [triMayB, inN, *]; rw [Bool.eq_iff_iff]; simp), hb⟩
open Go.RowKit
def tailB (e f : Int) : Bool := inN e && inN f && decide (e % 2 = 0) && decide (f % 2 = 0)
def mapMayB (m : V6) : Bool := turnedB m.1 m.2.1 m.2.2.1 m.2.2.2.1 && tailB m.2.2.2.2.1 m.2.2.2.2.2
open Go.RowKit
open Go.RowKit
theorem one_ways {a b : Int} (h : oneB a b = true) : (a = 1 ∨ a = -1) ∧ b = 0 := by simpa [oneB] using h
theorem turned_ways {a b c d : Int} (h : turnedB a b c d = true) : (a = 1 ∧ b = 0 ∧ c = 0 ∧ d = 1) ∨ (a = -1 ∧ b = 0 ∧ c = 0 ∧ d = 1) ∨ (a = 1 ∧ b = 0 ∧ c = 0 ∧ d = -1) ∨ (a = -1 ∧ b = 0 ∧ c = 0 ∧ d = -1) ∨
  (a = 0 ∧ b = 1 ∧ c = 1 ∧ d = 0) ∨ (a = 0 ∧ b = -1 ∧ c = 1 ∧ d = 0) ∨ (a = 0 ∧ b = 1 ∧ c = -1 ∧ d = 0) ∨ (a = 0 ∧ b = -1 ∧ c = -1 ∧ d = 0) := by
 simp only [turnedB, Bool.or_eq_true, Bool.and_eq_true] at h
 rcases h with ⟨h1, h2⟩ | ⟨h1, h2⟩
 ·obtain ⟨h3, rfl⟩ := one_ways h1
  obtain ⟨h4, rfl⟩ := one_ways h2
  rcases h3 with rfl | rfl <;> rcases h4 with rfl | rfl <;> simp
 ·obtain ⟨h3, rfl⟩ := one_ways h1
  obtain ⟨h4, rfl⟩ := one_ways h2
  rcases h3 with rfl | rfl <;> rcases h4 with rfl | rfl <;> simp
end
end Go.Proofs.YtpkjekedgodccaaGreatDoor
