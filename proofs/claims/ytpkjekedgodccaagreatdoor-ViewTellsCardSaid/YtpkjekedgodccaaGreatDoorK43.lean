/- The document's groups. -/
import Derived.Test.YtpkjekedgodccaaGreatDoorK15
namespace Go.Proofs.YtpkjekedgodccaaGreatDoor
set_option linter.unusedSimpArgs false
set_option linter.unusedVariables false
section
open Go.RowKit Go.Maps
set_option maxRecDepth 100000 in
set_option maxHeartbeats 12800000 in
theorem groups_any (cr : Bool) (W H : Nat) (Am Ac : Option Addr) (nm cm nc cc : Nat) (mask : List Int) (cs : List C5) (w : World) (hS : ShM w W H Am nm mask Ac nc cs) :
  Calls Tryz.prog 73 #[shV W H Am nm cm Ac nc cc, .bool cr] w fun r w' => ∃ (who : List Nat) (gw : Nat), r = .returned (.slice (some ⟨gw, 0, none⟩) (trisL W mask).length (trisL W mask).length) ∧ Grp (trisL W mask) (crsF cr cs) who ∧ w'.heap[gw]? = some (.cells (visN who).toArray 3 (0, 0)) ∧ w.heap.size ≤ gw ∧ Below w.heap.size w w' := by
 have hsm : ∀ t ∈ trisL W mask, SmT t := fun t ht => hS.tris_sm ht
 have hnd := sorted_nodup hS.tris_sorted
 have hlen := hS.tris_len
 have kb0 := heap_alloc_new w (.cells #[.int .i64 W, .int .i64 H, .slice Am nm cm, .slice Ac nc cc] 25)
 have hbw : Below w.heap.size w (w.alloc (.cells #[.int .i64 W, .int .i64 H, .slice Am nm cm, .slice Ac nc cc] 25)) := below_new _ _
 have a0 := cell_of_blk kb0 0
 have a1 := cell_of_blk kb0 1
 have a2 := cell_of_blk kb0 2
 have a3 := cell_of_blk kb0 3
 simp only [List.getElem?_toArray, List.getElem?_cons_zero, List.getElem?_cons_succ] at a0 a1 a2 a3
 have cT := trisOf_any W H Am Ac nm cm nc cc mask cs _ (hS.below hbw)
 have hS1 := hS.below hbw
 have hz : w.heap.size < (w.alloc (.cells #[.int .i64 W, .int .i64 H, .slice Am nm cm, .slice Ac nc cc] 25)).heap.size := by simp
 obtain ⟨L, hL⟩ : ∃ L, L = trisL W mask := ⟨_, rfl⟩
 rw [← hL] at cT hsm hnd hlen ⊢
 have CT := Lib.hid cT
 have HSM := Lib.hid hsm
 have HND := Lib.hid hnd
 have HS1 := Lib.hid hS1
 have hmk := make_ints L.length hlen
 clear cT hsm hnd hL hS kb0 hS1
 go_enter Tryz.func73, Tryz.ntmps73
 go_wp2_with (go_at_call 18; refine CT.out.mono ?_; rintro r w1 ⟨v, rfl, ho1, hb1⟩; obtain ⟨Av, cv, hv, _, _⟩ := own_slice ho1; subst hv; have HB1 := Lib.hid hb1; have HO1 := Lib.hid ho1; clear hb1 ho1)
 generalize w.alloc (.cells #[.int .i64 W, .int .i64 H, .slice Am nm cm, .slice Ac nc cc] 25) = w0 at a0 a1 a2 a3 hbw hz HB1 HO1 HS1
 have hbw1 : Below w.heap.size w w1 := stay_b hbw HB1.out
 have a0 := keep_c a0 HB1.out hz
 have a1 := keep_c a1 HB1.out hz
 have a2 := keep_c a2 HB1.out hz
 have a3 := keep_c a3 HB1.out hz
 have hz1 : w.heap.size < w1.heap.size := Nat.lt_of_lt_of_le hz HB1.out.size
 have hS2 := HS1.out.below HB1.out
 have HS2 := Lib.hid hS2
 have HBW := Lib.hid hbw1
 have hg0 : GW w1 w1.heap.size (fillW L.length 0) (w1.alloc (.cells (Array.replicate L.length (.int .i64 0)) 3)) := ⟨below_new _ _, by rw [← vis_zero, vis_arr]; exact heap_alloc_new _ _, Nat.le_refl _⟩
 have HG0 := Lib.hid hg0
 clear hS2 hbw1 hg0 HS1 CT hmk hz hbw HB1
 generalize w1.alloc (.cells (Array.replicate L.length (.int .i64 0)) 3) = wm at HG0 ⊢
 go_loopw [7] (fun i wr => ∃ j : Nat, j ≤ L.length ∧ i = .int .i64 j ∧ Hid (GW w1 w1.heap.size (fillW L.length j) wr)) (fun i _ => L.length - (intOf i).toNat)
 case atStart => exact ⟨0, by omega, rfl, HG0⟩
 case round =>
  obtain ⟨j, hj, rfl, hG⟩ := hrel
  by_cases hjn : j < L.length
  ·have hji : (j : Int) < (L.length : Int) := by omega
   have zc := hG.out.at_ (i := j) (by rw [fillW_len]; exact hjn)
   have zf := hG.out.fz j
   have hG2 := hG.out.set j j
   rw [fillW_set] at hG2
   have HG2 := Lib.hid hG2
   clear hG2
   go_wp2
   go_roundw
   case rel => exact ⟨j + 1, by omega, by go_num, HG2⟩
   case measure => simp [intOf]; omega
  ·obtain rfl : j = L.length := by omega
   have hG2 := hG.out
   rw [fillW_all] at hG2
   have HGR := Lib.hid hG2
   clear hG2 hG HG0
   go_wp2_with fail
   go_loopw [8] (fun ch wr => ∃ (b : Bool) (who : List Nat), ch = .bool b ∧ Hid (GW w1 w1.heap.size who wr) ∧ Hid (GI L (crsF cr cs) who) ∧ Hid (b = false → Grp L (crsF cr cs) who)) (fun ch wr => sumW wr w1.heap.size + (match ch with | .bool true => 1 | _ => 0))
   case atStart => exact ⟨true, List.range L.length, rfl, HGR, Lib.hid (GI.start _ _), Lib.hid (fun h => by cases h)⟩
   case round =>
    clear HGR
    obtain ⟨b, who0, rfl, hG, hI, hD⟩ := hrel
    cases b with
    | false =>
     go_wp2
     go_ret
     exact ⟨who0, w1.heap.size, rfl, hD.out (by first | rfl | trivial), hG.out.row, HBW.out.size, HBW.out.trans (hG.out.bel.mono HBW.out.size)⟩
    | true =>
     have hms := sumW_eq hG.out
     have HMS := Lib.hid hms
     have hst := GP.start hI.out
     have HST0 := Lib.hid hst
     clear hms hst hD
     go_wp2_with fail
     go_loopw [8, 9] (fun ch i wr => ∃ (cb : Bool) (j : Nat) (who : List Nat), j ≤ L.length ∧ ch = .bool cb ∧ i = .int .i64 j ∧ Hid (GW w1 w1.heap.size who wr) ∧ Hid (GP L (crsF cr cs) who0 who cb j 0)) (fun _ i _ => L.length - (intOf i).toNat)
     case atStart => exact ⟨false, 0, who0, by omega, rfl, rfl, hG, HST0⟩
     case round =>
      clear hG hI HST0
      obtain ⟨cb, j, who, hj, rfl, rfl, hG, hP⟩ := hrel
      by_cases hjn : j < L.length
      ·have hji : (j : Int) < (L.length : Int) := by omega
       obtain ⟨t, ht⟩ : ∃ t, L[j]? = some t := ⟨_, List.getElem?_eq_getElem hjn⟩
       obtain ⟨gv, cv2, curv, hv2, _, _, _, _⟩ := own_addr HO1.out (by omega)
       cases hv2
       have hts := HSM.out t (List.mem_of_getElem? ht)
       obtain ⟨t0, t1, t2⟩ := own_tri (od HO1.out hG.out.bel) ht
       have cE := edgesOf_any t.1 t.2.1 t.2.2 wr (by have := hts.1; omega) (by have := hts.1; omega) (by have := hts.2.1; omega) (by have := hts.2.1; omega) hts.2.2.1 hts.2.2.2
       have CE := Lib.hid cE
       have HT := Lib.hid ht
       have HTS := Lib.hid hts
       clear cE ht hts
       go_wp2_with (go_at_call 43; refine CE.out.mono ?_; rintro r w2 ⟨⟨ge, rfl, hke⟩, hb2⟩)
       have hED : EdB w2 ge t := hke
       have hG2 := hG.out.below hb2
       have HG2 := Lib.hid hG2
       have HED := Lib.hid hED
       clear hG2 hED hke hb2 hG t0 t1 t2 CE
       go_loopw [8, 11] (fun ch k wr => ∃ (cb : Bool) (q : Nat) (who : List Nat), q ≤ 3 ∧ ch = .bool cb ∧ k = .int .i64 q ∧ Hid (GW w1 w1.heap.size who wr) ∧ Hid (EdB wr ge t) ∧ Hid (GP L (crsF cr cs) who0 who cb j q)) (fun _ k _ => 3 - (intOf k).toNat)
       case atStart => exact ⟨cb, 0, who, by omega, rfl, rfl, HG2, HED, hP⟩
       case round =>
        clear HG2 HED hP
        obtain ⟨cb, k, who, hk, rfl, rfl, hG, hED, hP⟩ := hrel
        by_cases hk3 : k < 3
        ·have hki : (k : Int) < 3 := by omega
         have hlw := hG.out.bel
         obtain ⟨t0, t1, t2⟩ := own_tri (od HO1.out hlw) HT.out
         obtain ⟨y0, y1, y2, y3⟩ := hED.out.at_ hk3
         have cA := fun (w3 : World) => acrossOf_edge t.1 t.2.1 t.2.2 k w3 hk3 (by have := HTS.out.1; omega) (by have := HTS.out.1; omega) (by have := HTS.out.2.1; omega) (by have := HTS.out.2.1; omega) HTS.out.2.2.1 HTS.out.2.2.2
         have hskip := fun (h : crsF cr cs (eT t k) = false ∨ nT t k ∉ L) => hP.out.skip (clAt_no HT.out h)
         have hskip2 := fun (m : Nat) (hm : L[m]? = some (nT t k)) (h : ¬ who.getD m 0 < who.getD j 0) => hP.out.skip (clAt_ge HND.out HT.out hm h)
         have hset := fun (m : Nat) (hc : crsF cr cs (eT t k) = true) (hm : L[m]? = some (nT t k)) (h : who.getD m 0 < who.getD j 0) => hP.out.set HT.out hk3 hc hm h (k + 1)
         obtain ⟨E, hE⟩ : ∃ E, E = eT t k := ⟨_, rfl⟩
         obtain ⟨U, hU⟩ : ∃ U, U = nT t k := ⟨_, rfl⟩
         rw [show nextT t.1 t.2.1 t.2.2 k = U from hU.symm, show edgeT t.1 t.2.1 t.2.2 k = E from hE.symm] at cA
         rw [← hU] at hskip hskip2 hset
         rw [← hE] at hskip hset y0 y1 y2 y3
         have CA := Lib.hid cA
         have HSK := Lib.hid hskip
         have HSK2 := Lib.hid hskip2
         have HSET := Lib.hid hset
         clear cA hskip hskip2 hset hE hU hlw
         go_wp2_with fail
         refine wp_region_inv (fun Lq aq w0 => ∃ (s : Nat → Value) (b : Nat → Nat), aq = { tmps := #[shV W H Am nm cm Ac nc cc, .bool cr, .pointer (some ⟨w.heap.size, 0, none⟩), undef, .slice none 0 0, .slice (some ⟨gv, 0, none⟩) L.length cv, .slice (some ⟨w1.heap.size, 0, none⟩) L.length L.length, .int .i64 (L.length : Int), .bool cb, .int .i64 (j : Int), .slice (some ⟨ge, 0, none⟩) 3 3, .int .i64 (k : Int), (s 12), (s 14), u14, .agg #[.int .i64 W, .int .i64 H, .slice Am nm cm, .slice Ac nc cc], .slice (some ⟨gv, 0, none⟩) L.length cv, .slice (some ⟨gv, 0, none⟩) L.length cv, .int .i64 (L.length : Int), .slice (some ⟨w1.heap.size, 0, none⟩) L.length L.length, .int .i64 (L.length : Int), .slice (some ⟨gv, 0, none⟩) L.length cv, .int .i64 (L.length : Int), .bool false, u24, u25, u26, u27, u28, u29, .bool true, .int .i64 (j : Int), .slice (some ⟨gv, 0, none⟩) L.length cv, .int .i64 (L.length : Int), .bool true, u35, u36, .slice (some ⟨gv, 0, none⟩) L.length cv, .int .i64 (j : Int), .pointer (some ⟨gv, j * 3, none⟩), .agg #[.int .i64 t.1, .int .i64 t.2.1, .int .i64 t.2.2], .slice (some ⟨ge, 0, none⟩) 3 3, .int .i64 (k : Int), .bool true, u44, u45, (s 9), (s 0), (s 1), (s 2), (s 3), (s 4), (s 5), (s 6), (s 7), (s 8), (s 10), (s 11), u58, u59, u60, u61, u62, u63, u64, u65, u66, u67, u68, u69, u70, u71, u72, u73, u74, u75, u76, u77, u78, u79, u80, u81, u82, u83, u84, u85, u86, u87, u88, u89, u90, u91, undef], defers := [] } ∧ RI 15 wr.heap.size wr [some (.slice (some ⟨gv, 0, none⟩) L.length cv), some (.int .i64 (j : Int)), some (.pointer (some ⟨gv, j * 3, none⟩)), some (.agg #[.int .i64 t.1, .int .i64 t.2.1, .int .i64 t.2.2]), some (.slice (some ⟨ge, 0, none⟩) 3 3), some (.int .i64 (k : Int)), some (.pointer (some ⟨ge, k * 4, none⟩)), some (.agg #[.int .i64 E.1, .int .i64 E.2.1, .int .i64 E.2.2.1, .int .i64 E.2.2.2]), some (.tuple #[.agg #[.int .i64 U.1, .int .i64 U.2.1, .int .i64 U.2.2], .bool true]), some (.tuple #[.agg #[.int .i64 U.1, .int .i64 U.2.1, .int .i64 U.2.2], .bool true]), some (.agg #[.int .i64 U.1, .int .i64 U.2.1, .int .i64 U.2.2]), some (.bool true), none, none, some (.bool true)] [none, none, none, none, none, none, none, none, none, none, none, none, none, none, none] [{ al := 12, st := 13, d := 10, z := (.cells #[.int .i64 0, .int .i64 0, .int .i64 0] 44 (0, 0)), f := fun _ => (.cells #[.int .i64 (U.1), .int .i64 (U.2.1), .int .i64 (U.2.2)] 44 (0, 0)) }] Lq s b w0) (by kernel_rfl) ?_ ?_ ?_
         ·exact ⟨listF [u47, u48, u49, u50, u51, u52, u53, u54, u55, u46, u56, u57, u12, undef, u13], listN [], rfl, ri_start (Nat.le_refl _) (Nat.le_refl 15) (Nat.le_refl 15) rfl⟩
         ·intro Lq aq w0 i hI hr
          obtain ⟨s, b, rfl, hv⟩ := hI
          have hi : i < 15 := ready_lt hr
          have HV := Lib.hid hv
          clear hv
          have hc : i = 0 ∨ i = 1 ∨ i = 2 ∨ i = 3 ∨ i = 4 ∨ i = 5 ∨ i = 6 ∨ i = 7 ∨ i = 8 ∨ i = 9 ∨ i = 10 ∨ i = 11 ∨ i = 12 ∨ i = 13 ∨ i = 14 := by omega
          clear hi
          rcases hc with rfl | rfl | rfl | rfl | rfl | rfl | rfl | rfl | rfl | rfl | rfl | rfl | rfl | rfl | rfl
          ·have hno := isOn_no (n := 15) (by decide) (mem_ready.1 hr).1
           clear hr
           refine wpOp_step rfl (fun K hK => ?_)
           go_simp
           refine hK _ _ ?_
           exact ⟨upd s 0 (.slice (some ⟨gv, 0, none⟩) L.length cv), b, rfl, RI.putV HV.out hno rfl rfl rfl⟩
          ·have hno := isOn_no (n := 15) (by decide) (mem_ready.1 hr).1
           clear hr
           refine wpOp_step rfl (fun K hK => ?_)
           go_simp
           refine hK _ _ ?_
           exact ⟨upd s 1 (.int .i64 (j : Int)), b, rfl, RI.putV HV.out hno rfl rfl rfl⟩
          ·have hno := isOn_no (n := 15) (by decide) (mem_ready.1 hr).1
           have d0 := ready_dep hr (k := 0) (by kernel_rfl)
           have d1 := ready_dep hr (k := 1) (by kernel_rfl)
           clear hr
           have e0 : s 0 = (.slice (some ⟨gv, 0, none⟩) L.length cv) := HV.out.v d0 rfl
           have e1 : s 1 = (.int .i64 (j : Int)) := HV.out.v d1 rfl
           refine wpOp_step rfl (fun K hK => ?_)
           go_simp
           refine hK _ _ ?_
           exact ⟨upd (upd (upd s 0 (.slice (some ⟨gv, 0, none⟩) L.length cv)) 1 (.int .i64 (j : Int))) 2 (.pointer (some ⟨gv, j * 3, none⟩)), b, rfl, RI.putV (RI.re (j := 1) (v := (.int .i64 (j : Int))) (RI.re (j := 0) (v := (.slice (some ⟨gv, 0, none⟩) L.length cv)) HV.out e0) e1) hno rfl rfl rfl⟩
          ·have hno := isOn_no (n := 15) (by decide) (mem_ready.1 hr).1
           have d2 := ready_dep hr (k := 2) (by kernel_rfl)
           clear hr
           have e2 : s 2 = (.pointer (some ⟨gv, j * 3, none⟩)) := HV.out.v d2 rfl
           have q0 := sd t0 HV.out.bel
           have q1 := sd t1 HV.out.bel
           have q2 := sd t2 HV.out.bel
           refine wpOp_step rfl (fun K hK => ?_)
           go_simp
           refine hK _ _ ?_
           exact ⟨upd (upd s 2 (.pointer (some ⟨gv, j * 3, none⟩))) 3 (.agg #[.int .i64 t.1, .int .i64 t.2.1, .int .i64 t.2.2]), b, rfl, RI.putV (RI.re (j := 2) (v := (.pointer (some ⟨gv, j * 3, none⟩))) HV.out e2) hno rfl rfl rfl⟩
          ·have hno := isOn_no (n := 15) (by decide) (mem_ready.1 hr).1
           clear hr
           refine wpOp_step rfl (fun K hK => ?_)
           go_simp
           refine hK _ _ ?_
           exact ⟨upd s 4 (.slice (some ⟨ge, 0, none⟩) 3 3), b, rfl, RI.putV HV.out hno rfl rfl rfl⟩
          ·have hno := isOn_no (n := 15) (by decide) (mem_ready.1 hr).1
           clear hr
           refine wpOp_step rfl (fun K hK => ?_)
           go_simp
           refine hK _ _ ?_
           exact ⟨upd s 5 (.int .i64 (k : Int)), b, rfl, RI.putV HV.out hno rfl rfl rfl⟩
          ·have hno := isOn_no (n := 15) (by decide) (mem_ready.1 hr).1
           have d4 := ready_dep hr (k := 4) (by kernel_rfl)
           have d5 := ready_dep hr (k := 5) (by kernel_rfl)
           clear hr
           have e4 : s 4 = (.slice (some ⟨ge, 0, none⟩) 3 3) := HV.out.v d4 rfl
           have e5 : s 5 = (.int .i64 (k : Int)) := HV.out.v d5 rfl
           refine wpOp_step rfl (fun K hK => ?_)
           go_simp
           refine hK _ _ ?_
           exact ⟨upd (upd (upd s 4 (.slice (some ⟨ge, 0, none⟩) 3 3)) 5 (.int .i64 (k : Int))) 6 (.pointer (some ⟨ge, k * 4, none⟩)), b, rfl, RI.putV (RI.re (j := 5) (v := (.int .i64 (k : Int))) (RI.re (j := 4) (v := (.slice (some ⟨ge, 0, none⟩) 3 3)) HV.out e4) e5) hno rfl rfl rfl⟩
          ·have hno := isOn_no (n := 15) (by decide) (mem_ready.1 hr).1
           have d6 := ready_dep hr (k := 6) (by kernel_rfl)
           clear hr
           have e6 : s 6 = (.pointer (some ⟨ge, k * 4, none⟩)) := HV.out.v d6 rfl
           have q0 := sd y0 HV.out.bel
           have q1 := sd y1 HV.out.bel
           have q2 := sd y2 HV.out.bel
           have q3 := sd y3 HV.out.bel
           refine wpOp_step rfl (fun K hK => ?_)
           go_simp
           refine hK _ _ ?_
           exact ⟨upd (upd s 6 (.pointer (some ⟨ge, k * 4, none⟩))) 7 (.agg #[.int .i64 E.1, .int .i64 E.2.1, .int .i64 E.2.2.1, .int .i64 E.2.2.2]), b, rfl, RI.putV (RI.re (j := 6) (v := (.pointer (some ⟨ge, k * 4, none⟩))) HV.out e6) hno rfl rfl rfl⟩
          ·have hno := isOn_no (n := 15) (by decide) (mem_ready.1 hr).1
           have d3 := ready_dep hr (k := 3) (by kernel_rfl)
           have d7 := ready_dep hr (k := 7) (by kernel_rfl)
           clear hr
           have e3 : s 3 = (.agg #[.int .i64 t.1, .int .i64 t.2.1, .int .i64 t.2.2]) := HV.out.v d3 rfl
           have e7 : s 7 = (.agg #[.int .i64 E.1, .int .i64 E.2.1, .int .i64 E.2.2.1, .int .i64 E.2.2.2]) := HV.out.v d7 rfl
           refine wpOp_step rfl (fun K hK => ?_)
           go_wp2_with fail
           refine (CA.out _).mono ?_
           rintro e' wc ⟨he, hbc⟩
           subst he
           refine hK _ _ ?_
           exact ⟨upd (upd (upd s 3 (.agg #[.int .i64 t.1, .int .i64 t.2.1, .int .i64 t.2.2])) 7 (.agg #[.int .i64 E.1, .int .i64 E.2.1, .int .i64 E.2.2.1, .int .i64 E.2.2.2])) 8 (.tuple #[.agg #[.int .i64 U.1, .int .i64 U.2.1, .int .i64 U.2.2], .bool true]), b, rfl, RI.callV (RI.re (j := 7) (v := (.agg #[.int .i64 E.1, .int .i64 E.2.1, .int .i64 E.2.2.1, .int .i64 E.2.2.2])) (RI.re (j := 3) (v := (.agg #[.int .i64 t.1, .int .i64 t.2.1, .int .i64 t.2.2])) HV.out e3) e7) hbc hno rfl rfl rfl⟩
          ·have hno := isOn_no (n := 15) (by decide) (mem_ready.1 hr).1
           have d8 := ready_dep hr (k := 8) (by kernel_rfl)
           clear hr
           have e8 : s 8 = (.tuple #[.agg #[.int .i64 U.1, .int .i64 U.2.1, .int .i64 U.2.2], .bool true]) := HV.out.v d8 rfl
           refine wpOp_step rfl (fun K hK => ?_)
           go_simp
           refine hK _ _ ?_
           exact ⟨upd (upd s 8 (.tuple #[.agg #[.int .i64 U.1, .int .i64 U.2.1, .int .i64 U.2.2], .bool true])) 9 (.tuple #[.agg #[.int .i64 U.1, .int .i64 U.2.1, .int .i64 U.2.2], .bool true]), b, rfl, RI.putV (RI.re (j := 8) (v := (.tuple #[.agg #[.int .i64 U.1, .int .i64 U.2.1, .int .i64 U.2.2], .bool true])) HV.out e8) hno rfl rfl rfl⟩
          ·have hno := isOn_no (n := 15) (by decide) (mem_ready.1 hr).1
           have d9 := ready_dep hr (k := 9) (by kernel_rfl)
           clear hr
           have e9 : s 9 = (.tuple #[.agg #[.int .i64 U.1, .int .i64 U.2.1, .int .i64 U.2.2], .bool true]) := HV.out.v d9 rfl
           refine wpOp_step rfl (fun K hK => ?_)
           go_simp
           refine hK _ _ ?_
           exact ⟨upd (upd s 9 (.tuple #[.agg #[.int .i64 U.1, .int .i64 U.2.1, .int .i64 U.2.2], .bool true])) 10 (.agg #[.int .i64 U.1, .int .i64 U.2.1, .int .i64 U.2.2]), b, rfl, RI.putV (RI.re (j := 9) (v := (.tuple #[.agg #[.int .i64 U.1, .int .i64 U.2.1, .int .i64 U.2.2], .bool true])) HV.out e9) hno rfl rfl rfl⟩
          ·have hno := isOn_no (n := 15) (by decide) (mem_ready.1 hr).1
           have d9 := ready_dep hr (k := 9) (by kernel_rfl)
           clear hr
           have e9 : s 9 = (.tuple #[.agg #[.int .i64 U.1, .int .i64 U.2.1, .int .i64 U.2.2], .bool true]) := HV.out.v d9 rfl
           refine wpOp_step rfl (fun K hK => ?_)
           go_simp
           refine hK _ _ ?_
           exact ⟨upd (upd s 9 (.tuple #[.agg #[.int .i64 U.1, .int .i64 U.2.1, .int .i64 U.2.2], .bool true])) 11 (.bool true), b, rfl, RI.putV (RI.re (j := 9) (v := (.tuple #[.agg #[.int .i64 U.1, .int .i64 U.2.1, .int .i64 U.2.2], .bool true])) HV.out e9) hno rfl rfl rfl⟩
          ·have hno := isOn_no (n := 15) (by decide) (mem_ready.1 hr).1
           clear hr
           refine wpOp_step rfl (fun K hK => ?_)
           go_simp
           refine hK _ _ ?_
           exact ⟨upd s 12 _, updN b 12 _, rfl, RI.new HV.out hno rfl (by simp only [List.mem_cons, List.not_mem_nil, or_false]; rintro q rfl h <;> first | rfl | (simp at h)) rfl rfl⟩
          ·have hno := isOn_no (n := 15) (by decide) (mem_ready.1 hr).1
           have d12 := ready_dep hr (k := 12) (by kernel_rfl)
           have d10 := ready_dep hr (k := 10) (by kernel_rfl)
           clear hr
           have e12 : s 12 = .pointer (some ⟨b 12, 0, none⟩) := (HV.out.bx (.head _) (isOn_of d12)).1
           have e10 : s 10 = (.agg #[.int .i64 U.1, .int .i64 U.2.1, .int .i64 U.2.2]) := HV.out.v d10 rfl
           have kz : w0.heap[b 12]? = some (.cells #[.int .i64 0, .int .i64 0, .int .i64 0] 44 (0, 0)) := HV.out.fresh (.head _) (isOn_of d12) hno
           have z0 := cell_of_blk kz 0
           have z1 := cell_of_blk kz 1
           have z2 := cell_of_blk kz 2
           simp only [List.getElem?_toArray, List.getElem?_cons_zero, List.getElem?_cons_succ] at z0 z1 z2
           have zf := frozen_of_blk kz
           have zl := blk_lt kz
           have zB := (HV.out.bx (.head _) (isOn_of d12)).2
           refine wpOp_step rfl (fun K hK => ?_)
           go_simp
           refine hK _ _ ?_
           have hset := RI.set (w' := setsW w0 (b 12) 0 [.int .i64 (U.1), .int .i64 (U.2.1), .int .i64 (U.2.2)]) (i := 13) (v := undef) (RI.re (j := 10) (v := (.agg #[.int .i64 U.1, .int .i64 U.2.1, .int .i64 U.2.2])) (RI.re (j := 12) (v := (.pointer (some ⟨b 12, 0, none⟩))) HV.out e12) e10) (.head _) hno rfl (isOn_of d12) (isOn_of d10) rfl (by simp only [List.mem_cons, List.not_mem_nil, or_false]; rintro q rfl h <;> first | rfl | (simp at h)) rfl rfl (HV.out.bel.trans (setsW_below zB _ _)) (setsW_size _ _ _ _) (fun k hk => setsW_far hk _ _) (setsW_blk kz rfl)
           exact ⟨_, b, rfl, hset⟩
          ·have hno := isOn_no (n := 15) (by decide) (mem_ready.1 hr).1
           have d11 := ready_dep hr (k := 11) (by kernel_rfl)
           clear hr
           have e11 : s 11 = (.bool true) := HV.out.v d11 rfl
           refine wpOp_step rfl (fun K hK => ?_)
           go_simp
           refine hK _ _ ?_
           exact ⟨upd (upd s 11 (.bool true)) 14 (.bool true), b, rfl, RI.putV (RI.re (j := 11) (v := (.bool true)) HV.out e11) hno rfl rfl rfl⟩
         ·intro Lq aq w0 hI hrd
          obtain ⟨s, b, ha, hv⟩ := hI
          have hall := all_listedM hrd hv.sz (by kernel_rfl)
          clear hrd
          have e0 : s 0 = (.slice (some ⟨gv, 0, none⟩) L.length cv) := hv.v (hall 0 (by decide)) rfl
          have e1 : s 1 = (.int .i64 (j : Int)) := hv.v (hall 1 (by decide)) rfl
          have e2 : s 2 = (.pointer (some ⟨gv, j * 3, none⟩)) := hv.v (hall 2 (by decide)) rfl
          have e3 : s 3 = (.agg #[.int .i64 t.1, .int .i64 t.2.1, .int .i64 t.2.2]) := hv.v (hall 3 (by decide)) rfl
          have e4 : s 4 = (.slice (some ⟨ge, 0, none⟩) 3 3) := hv.v (hall 4 (by decide)) rfl
          have e5 : s 5 = (.int .i64 (k : Int)) := hv.v (hall 5 (by decide)) rfl
          have e6 : s 6 = (.pointer (some ⟨ge, k * 4, none⟩)) := hv.v (hall 6 (by decide)) rfl
          have e7 : s 7 = (.agg #[.int .i64 E.1, .int .i64 E.2.1, .int .i64 E.2.2.1, .int .i64 E.2.2.2]) := hv.v (hall 7 (by decide)) rfl
          have e8 : s 8 = (.tuple #[.agg #[.int .i64 U.1, .int .i64 U.2.1, .int .i64 U.2.2], .bool true]) := hv.v (hall 8 (by decide)) rfl
          have e9 : s 9 = (.tuple #[.agg #[.int .i64 U.1, .int .i64 U.2.1, .int .i64 U.2.2], .bool true]) := hv.v (hall 9 (by decide)) rfl
          have e10 : s 10 = (.agg #[.int .i64 U.1, .int .i64 U.2.1, .int .i64 U.2.2]) := hv.v (hall 10 (by decide)) rfl
          have e11 : s 11 = (.bool true) := hv.v (hall 11 (by decide)) rfl
          have e12 : s 12 = .pointer (some ⟨b 12, 0, none⟩) := (hv.bx (.head _) (isOn_of (hall 12 (by decide)))).1
          have e14 : s 14 = (.bool true) := hv.v (hall 14 (by decide)) rfl
          simp only [e0, e1, e2, e3, e4, e5, e6, e7, e8, e9, e10, e11, e12, e14] at ha
          subst ha
          have kb0 : w0.heap[b 12]? = some (.cells #[.int .i64 (U.1), .int .i64 (U.2.1), .int .i64 (U.2.2)] 44 (0, 0)) := hv.full (.head _) (isOn_of (hall 12 (by decide))) (isOn_of (hall 13 (by decide)))
          have hbl := hv.bel
          have zb0 : wr.heap.size ≤ b 12 := (hv.bx (.head _) (isOn_of (hall 12 (by decide)))).2
          clear hall hv e0 e1 e2 e3 e4 e5 e6 e7 e8 e9 e10 e11 e12 e14
          generalize b 12 = gU at kb0 zb0  ⊢
          have hG5 := hG.out.below hbl
          have hED5 := hED.out.below hbl
          have HG5 := Lib.hid hG5
          have HED5 := Lib.hid hED5
          have hS5 := HS2.out.below hG5.bel
          have b0 := keep_c a0 hG5.bel hz1
          have b1 := keep_c a1 hG5.bel hz1
          have b2 := keep_c a2 hG5.bel hz1
          have b3 := keep_c a3 hG5.bel hz1
          have y0 := sd y0 hbl
          have y1 := sd y1 hbl
          have y2 := sd y2 hbl
          have y3 := sd y3 hbl
          have gu0 := cell_of_blk kb0 0
          have gu1 := cell_of_blk kb0 1
          have gu2 := cell_of_blk kb0 2
          simp only [List.getElem?_toArray, List.getElem?_cons_zero, List.getElem?_cons_succ] at gu0 gu1 gu2
          have cK := fun (w3 : World) (hb : Below w0.heap.size w0 w3) => kindOf_any W H Am Ac nm cm nc cc mask cs E w3 (hS5.below hb)
          obtain ⟨KD, hKD⟩ : ∃ z, z = kindD cs E := ⟨_, rfl⟩
          rw [← hKD] at cK
          have CK := Lib.hid cK
          have HKD := Lib.hid hKD
          clear cK hKD hS5 hG5 hED5 hG hED t0 t1 t2 hbl kb0 zb0 CA
          cases cr with
          | true =>
           go_wp2_with fail
           refine rg_plain (fin := ?z1) [.bool true, .bool false, .bool false, undef, undef, undef, undef, undef, undef, undef, .bool false] (fun WN => WN.cell? ⟨w.heap.size, 0, none⟩ = some (.int .i64 W) ∧ WN.cell? ⟨w.heap.size, 1, none⟩ = some (.int .i64 H) ∧ WN.cell? ⟨w.heap.size, 2, none⟩ = some (.slice Am nm cm) ∧ WN.cell? ⟨w.heap.size, 3, none⟩ = some (.slice Ac nc cc) ∧ WN.cell? ⟨ge, k * 4, none⟩ = some (.int .i64 E.1) ∧ WN.cell? ⟨ge, k * 4 + 1, none⟩ = some (.int .i64 E.2.1) ∧ WN.cell? ⟨ge, k * 4 + 2, none⟩ = some (.int .i64 E.2.2.1) ∧ WN.cell? ⟨ge, k * 4 + 3, none⟩ = some (.int .i64 E.2.2.2) ∧ Below w0.heap.size w0 WN) ?hf (by kernel_rfl) (by kernel_rfl) rfl ⟨b0, b1, b2, b3, y0, y1, y2, y3, (Below.refl _ _).drew⟩ (fun WN hst => ?hs) (fun WN hst => ?he)
           case hf => simp only [putOps, Act.put, List.setIfInBounds_toArray, List.set_cons_succ, List.set_cons_zero]; exact rfl
           case hs =>
            have HST := Lib.hid hst
            obtain ⟨q0, q1, q2, q3, q4, q5, q6, q7, hbl⟩ := hst
            iterate 11 refine ⟨?_, fun K hK => ?_⟩
            ·trivial
            all_goals try (go_simp; exact hK _ HST.out; done)
           case he =>
            obtain ⟨q0, q1, q2, q3, q4, q5, q6, q7, hbl⟩ := hst
            have HCE : Hid (crsF true cs E = true) := Lib.hid rfl
            have hG6 := HG5.out.below hbl
            have hO6 := od HO1.out hG6.bel
            have v0 := sd gu0 hbl
            have v1 := sd gu1 hbl
            have v2 := sd gu2 hbl
            have cP := placeOf_any _ (some ⟨gv, 0, none⟩) cv L U WN (hO6) hlen
            obtain ⟨PL, hPL⟩ : ∃ z, z = placeI L U := ⟨_, rfl⟩
            rw [← hPL] at cP
            have CP := Lib.hid cP
            have HPL := Lib.hid hPL
            have HBL := Lib.hid hbl
            clear cP hPL hO6 hG6 hbl
            go_wp2_with (go_at_call 20; refine CP.out.mono ?_; rintro r w6 ⟨rfl, hb6⟩)
            have hb06 : Below w0.heap.size w0 w6 := stay_b HBL.out hb6
            have HB06 := Lib.hid hb06
            clear hb06 hb6 HBL v0 v1 v2
            by_cases hUL : U ∈ L
            ·obtain ⟨m, hm, hme⟩ : ∃ m, L[m]? = some U ∧ PL = ((m : Nat) : Int) := ⟨L.idxOf U, by rw [List.getElem?_eq_getElem (List.idxOf_lt_length_of_mem hUL)]; simp, by rw [HPL.out]; unfold placeI; rw [if_pos hUL]⟩
             subst hme
             have hml : m < L.length := (List.getElem?_eq_some_iff.1 hm).1
             have hmi : (m : Int) < (L.length : Int) := by omega
             have hm0 : (0 : Int) ≤ (m : Int) := by omega
             have hj0 : (0 : Int) ≤ (j : Int) := by omega
             have hG7 := HG5.out.below HB06.out
             have hwl := hP.out.inv.len
             have cwm := hG7.at_ (i := m) (by omega)
             have cwj := hG7.at_ (i := j) (by omega)
             have hset2 := HSET.out m
             have hsk2 := HSK2.out m hm
             obtain ⟨vm, hvm⟩ : ∃ z, z = who.getD m 0 := ⟨_, rfl⟩
             obtain ⟨vj, hvj⟩ : ∃ z, z = who.getD j 0 := ⟨_, rfl⟩
             rw [← hvm, ← hvj] at hset2 hsk2
             rw [← hvm] at cwm
             rw [← hvj] at cwj
             have HG7 := Lib.hid hG7
             have HSET2 := Lib.hid (fun h => hset2 HCE.out hm h)
             have HSK3 := Lib.hid hsk2
             clear hG7 hwl hset2 hsk2 hvm hvj hm hUL
             by_cases hlt : vm < vj
             ·have hl1 : decide (vm < vj) = true := decide_eq_true hlt
              have hl2 : decide ((vm : Int) < (vj : Int)) = true := by rw [← hl1]; simp
              refine rg_plain (fin := ?z2) [.int .i64 (m : Int), .bool true, .bool true, .slice (some ⟨w1.heap.size, 0, none⟩) L.length L.length, .int .i64 (m : Int), .pointer (some ⟨w1.heap.size, m, none⟩), .int .i64 (vm : Int), .slice (some ⟨w1.heap.size, 0, none⟩) L.length L.length, .int .i64 (j : Int), .pointer (some ⟨w1.heap.size, j, none⟩), .int .i64 (vj : Int), .bool true, .bool true] (fun WN => WN.cell? ⟨w1.heap.size, m, none⟩ = some (.int .i64 (vm : Int)) ∧ WN.cell? ⟨w1.heap.size, j, none⟩ = some (.int .i64 (vj : Int)) ∧ Below w6.heap.size w6 WN) ?hf (by kernel_rfl) (by kernel_rfl) rfl ⟨cwm, cwj, (Below.refl _ _).drew⟩ (fun WN hst => ?hs) (fun WN hst => ?he)
              case hf => simp only [putOps, Act.put, List.setIfInBounds_toArray, List.set_cons_succ, List.set_cons_zero]; exact rfl
              case hs =>
               have HST := Lib.hid hst
               obtain ⟨q0, q1, hbl⟩ := hst
               iterate 13 refine ⟨?_, fun K hK => ?_⟩
               ·trivial
               all_goals try (go_simp; exact hK _ HST.out; done)
              case he =>
               obtain ⟨q0, q1, hbl⟩ := hst
               have hG8 := HG7.out.below hbl
               have zf := hG8.fz j
               have hG9 := hG8.set j vm
               have hE9 := (HED5.out.below (stay_b HB06.out hbl)).set hG8 j (.int .i64 (vm : Int))
               have HG9 := Lib.hid hG9
               have HE9 := Lib.hid hE9
               clear hG8 hG9 hE9
               go_wp2
               go_roundw
               case rel => exact ⟨true, k + 1, who.set j vm, by omega, rfl, by go_num, HG9, HE9, Lib.hid (HSET2.out hlt)⟩
               case measure => simp [intOf]; omega
             ·have hl1 : decide (vm < vj) = false := decide_eq_false hlt
              have hl2 : decide ((vm : Int) < (vj : Int)) = false := by rw [← hl1]; simp
              refine rg_plain (fin := ?z3) [.int .i64 (m : Int), .bool true, .bool true, .slice (some ⟨w1.heap.size, 0, none⟩) L.length L.length, .int .i64 (m : Int), .pointer (some ⟨w1.heap.size, m, none⟩), .int .i64 (vm : Int), .slice (some ⟨w1.heap.size, 0, none⟩) L.length L.length, .int .i64 (j : Int), .pointer (some ⟨w1.heap.size, j, none⟩), .int .i64 (vj : Int), .bool false, .bool false] (fun WN => WN.cell? ⟨w1.heap.size, m, none⟩ = some (.int .i64 (vm : Int)) ∧ WN.cell? ⟨w1.heap.size, j, none⟩ = some (.int .i64 (vj : Int)) ∧ Below w6.heap.size w6 WN) ?hf (by kernel_rfl) (by kernel_rfl) rfl ⟨cwm, cwj, (Below.refl _ _).drew⟩ (fun WN hst => ?hs) (fun WN hst => ?he)
              case hf => simp only [putOps, Act.put, List.setIfInBounds_toArray, List.set_cons_succ, List.set_cons_zero]; exact rfl
              case hs =>
               have HST := Lib.hid hst
               obtain ⟨q0, q1, hbl⟩ := hst
               iterate 13 refine ⟨?_, fun K hK => ?_⟩
               ·trivial
               all_goals try (go_simp; exact hK _ HST.out; done)
              case he =>
               obtain ⟨q0, q1, hbl⟩ := hst
               have hPN := HSK3.out hlt
               have HPN := Lib.hid hPN
               have HGN := Lib.hid (HG5.out.below (stay_b HB06.out hbl))
               have HEN := Lib.hid (HED5.out.below (stay_b HB06.out hbl))
               clear hPN
               go_wp2
               go_roundw
               case rel => exact ⟨cb, k + 1, who, by omega, rfl, by go_num, HGN, HEN, HPN⟩
               case measure => simp [intOf]; omega
            ·have hme : PL = -1 := by rw [HPL.out]; unfold placeI; rw [if_neg hUL]
             subst hme
             refine rg_plain (fin := ?z4) [.int .i64 (-1), .bool false, .bool false, undef, undef, undef, undef, undef, undef, undef, undef, undef, .bool false] (fun WN => Below w6.heap.size w6 WN) ?hf (by kernel_rfl) (by kernel_rfl) rfl (Below.refl _ _).drew (fun WN hst => ?hs) (fun WN hst => ?he)
             case hf => simp only [putOps, Act.put, List.setIfInBounds_toArray, List.set_cons_succ, List.set_cons_zero]; exact rfl
             case hs =>
              have HST := Lib.hid hst
              have hbl := hst
              iterate 13 refine ⟨?_, fun K hK => ?_⟩
              ·trivial
              all_goals try (go_simp; exact hK _ HST.out; done)
             case he =>
              have hbl := hst
              have hPN := HSK.out (.inr hUL)
              have HPN := Lib.hid hPN
              have HGN := Lib.hid (HG5.out.below (stay_b HB06.out hbl))
              have HEN := Lib.hid (HED5.out.below (stay_b HB06.out hbl))
              clear hPN
              go_wp2
              go_roundw
              case rel => exact ⟨cb, k + 1, who, by omega, rfl, by go_num, HGN, HEN, HPN⟩
              case measure => simp [intOf]; omega
          | false =>
           go_wp2_with fail
           by_cases hkz : KD = 0
           ·have hkn : (KD != 0) = false := by simpa using hkz
            have HKZ := Lib.hid hkz
            clear hkz
            refine rg_plain (fin := ?z5) [.bool false, .bool true, .bool true, .agg #[.int .i64 W, .int .i64 H, .slice Am nm cm, .slice Ac nc cc], .slice (some ⟨ge, 0, none⟩) 3 3, .int .i64 (k : Int), .pointer (some ⟨ge, k * 4, none⟩), .agg #[.int .i64 E.1, .int .i64 E.2.1, .int .i64 E.2.2.1, .int .i64 E.2.2.2], .int .i64 KD, .bool false, .bool false] (fun WN => WN.cell? ⟨w.heap.size, 0, none⟩ = some (.int .i64 W) ∧ WN.cell? ⟨w.heap.size, 1, none⟩ = some (.int .i64 H) ∧ WN.cell? ⟨w.heap.size, 2, none⟩ = some (.slice Am nm cm) ∧ WN.cell? ⟨w.heap.size, 3, none⟩ = some (.slice Ac nc cc) ∧ WN.cell? ⟨ge, k * 4, none⟩ = some (.int .i64 E.1) ∧ WN.cell? ⟨ge, k * 4 + 1, none⟩ = some (.int .i64 E.2.1) ∧ WN.cell? ⟨ge, k * 4 + 2, none⟩ = some (.int .i64 E.2.2.1) ∧ WN.cell? ⟨ge, k * 4 + 3, none⟩ = some (.int .i64 E.2.2.2) ∧ Below w0.heap.size w0 WN) ?hf (by kernel_rfl) (by kernel_rfl) rfl ⟨b0, b1, b2, b3, y0, y1, y2, y3, (Below.refl _ _).drew⟩ (fun WN hst => ?hs) (fun WN hst => ?he)
            case hf => simp only [putOps, Act.put, List.setIfInBounds_toArray, List.set_cons_succ, List.set_cons_zero]; exact rfl
            case hs =>
             have HST := Lib.hid hst
             obtain ⟨q0, q1, q2, q3, q4, q5, q6, q7, hbl⟩ := hst
             iterate 11 refine ⟨?_, fun K hK => ?_⟩
             ·trivial
             all_goals try (go_simp; exact hK _ HST.out; done)
             ·go_simp
              refine (CK.out _ hbl).mono ?_
              rintro e' wc ⟨he, hbc⟩
              subst he
              exact hK _ ⟨sd q0 hbc, sd q1 hbc, sd q2 hbc, sd q3 hbc, sd q4 hbc, sd q5 hbc, sd q6 hbc, sd q7 hbc, stay_b hbl hbc⟩
            case he =>
             obtain ⟨q0, q1, q2, q3, q4, q5, q6, q7, hbl⟩ := hst
             have HCE : Hid (crsF false cs E = true) := Lib.hid (show (decide (kindD cs E = 0)) = true by rw [← HKD.out]; exact decide_eq_true HKZ.out)
             have hG6 := HG5.out.below hbl
             have hO6 := od HO1.out hG6.bel
             have v0 := sd gu0 hbl
             have v1 := sd gu1 hbl
             have v2 := sd gu2 hbl
             have cP := placeOf_any _ (some ⟨gv, 0, none⟩) cv L U WN (hO6) hlen
             obtain ⟨PL, hPL⟩ : ∃ z, z = placeI L U := ⟨_, rfl⟩
             rw [← hPL] at cP
             have CP := Lib.hid cP
             have HPL := Lib.hid hPL
             have HBL := Lib.hid hbl
             clear cP hPL hO6 hG6 hbl
             go_wp2_with (go_at_call 20; refine CP.out.mono ?_; rintro r w6 ⟨rfl, hb6⟩)
             have hb06 : Below w0.heap.size w0 w6 := stay_b HBL.out hb6
             have HB06 := Lib.hid hb06
             clear hb06 hb6 HBL v0 v1 v2
             by_cases hUL : U ∈ L
             ·obtain ⟨m, hm, hme⟩ : ∃ m, L[m]? = some U ∧ PL = ((m : Nat) : Int) := ⟨L.idxOf U, by rw [List.getElem?_eq_getElem (List.idxOf_lt_length_of_mem hUL)]; simp, by rw [HPL.out]; unfold placeI; rw [if_pos hUL]⟩
              subst hme
              have hml : m < L.length := (List.getElem?_eq_some_iff.1 hm).1
              have hmi : (m : Int) < (L.length : Int) := by omega
              have hm0 : (0 : Int) ≤ (m : Int) := by omega
              have hj0 : (0 : Int) ≤ (j : Int) := by omega
              have hG7 := HG5.out.below HB06.out
              have hwl := hP.out.inv.len
              have cwm := hG7.at_ (i := m) (by omega)
              have cwj := hG7.at_ (i := j) (by omega)
              have hset2 := HSET.out m
              have hsk2 := HSK2.out m hm
              obtain ⟨vm, hvm⟩ : ∃ z, z = who.getD m 0 := ⟨_, rfl⟩
              obtain ⟨vj, hvj⟩ : ∃ z, z = who.getD j 0 := ⟨_, rfl⟩
              rw [← hvm, ← hvj] at hset2 hsk2
              rw [← hvm] at cwm
              rw [← hvj] at cwj
              have HG7 := Lib.hid hG7
              have HSET2 := Lib.hid (fun h => hset2 HCE.out hm h)
              have HSK3 := Lib.hid hsk2
              clear hG7 hwl hset2 hsk2 hvm hvj hm hUL
              by_cases hlt : vm < vj
              ·have hl1 : decide (vm < vj) = true := decide_eq_true hlt
               have hl2 : decide ((vm : Int) < (vj : Int)) = true := by rw [← hl1]; simp
               refine rg_plain (fin := ?z6) [.int .i64 (m : Int), .bool true, .bool true, .slice (some ⟨w1.heap.size, 0, none⟩) L.length L.length, .int .i64 (m : Int), .pointer (some ⟨w1.heap.size, m, none⟩), .int .i64 (vm : Int), .slice (some ⟨w1.heap.size, 0, none⟩) L.length L.length, .int .i64 (j : Int), .pointer (some ⟨w1.heap.size, j, none⟩), .int .i64 (vj : Int), .bool true, .bool true] (fun WN => WN.cell? ⟨w1.heap.size, m, none⟩ = some (.int .i64 (vm : Int)) ∧ WN.cell? ⟨w1.heap.size, j, none⟩ = some (.int .i64 (vj : Int)) ∧ Below w6.heap.size w6 WN) ?hf (by kernel_rfl) (by kernel_rfl) rfl ⟨cwm, cwj, (Below.refl _ _).drew⟩ (fun WN hst => ?hs) (fun WN hst => ?he)
               case hf => simp only [putOps, Act.put, List.setIfInBounds_toArray, List.set_cons_succ, List.set_cons_zero]; exact rfl
               case hs =>
                have HST := Lib.hid hst
                obtain ⟨q0, q1, hbl⟩ := hst
                iterate 13 refine ⟨?_, fun K hK => ?_⟩
                ·trivial
                all_goals try (go_simp; exact hK _ HST.out; done)
               case he =>
                obtain ⟨q0, q1, hbl⟩ := hst
                have hG8 := HG7.out.below hbl
                have zf := hG8.fz j
                have hG9 := hG8.set j vm
                have hE9 := (HED5.out.below (stay_b HB06.out hbl)).set hG8 j (.int .i64 (vm : Int))
                have HG9 := Lib.hid hG9
                have HE9 := Lib.hid hE9
                clear hG8 hG9 hE9
                go_wp2
                go_roundw
                case rel => exact ⟨true, k + 1, who.set j vm, by omega, rfl, by go_num, HG9, HE9, Lib.hid (HSET2.out hlt)⟩
                case measure => simp [intOf]; omega
              ·have hl1 : decide (vm < vj) = false := decide_eq_false hlt
               have hl2 : decide ((vm : Int) < (vj : Int)) = false := by rw [← hl1]; simp
               refine rg_plain (fin := ?z7) [.int .i64 (m : Int), .bool true, .bool true, .slice (some ⟨w1.heap.size, 0, none⟩) L.length L.length, .int .i64 (m : Int), .pointer (some ⟨w1.heap.size, m, none⟩), .int .i64 (vm : Int), .slice (some ⟨w1.heap.size, 0, none⟩) L.length L.length, .int .i64 (j : Int), .pointer (some ⟨w1.heap.size, j, none⟩), .int .i64 (vj : Int), .bool false, .bool false] (fun WN => WN.cell? ⟨w1.heap.size, m, none⟩ = some (.int .i64 (vm : Int)) ∧ WN.cell? ⟨w1.heap.size, j, none⟩ = some (.int .i64 (vj : Int)) ∧ Below w6.heap.size w6 WN) ?hf (by kernel_rfl) (by kernel_rfl) rfl ⟨cwm, cwj, (Below.refl _ _).drew⟩ (fun WN hst => ?hs) (fun WN hst => ?he)
               case hf => simp only [putOps, Act.put, List.setIfInBounds_toArray, List.set_cons_succ, List.set_cons_zero]; exact rfl
               case hs =>
                have HST := Lib.hid hst
                obtain ⟨q0, q1, hbl⟩ := hst
                iterate 13 refine ⟨?_, fun K hK => ?_⟩
                ·trivial
                all_goals try (go_simp; exact hK _ HST.out; done)
               case he =>
                obtain ⟨q0, q1, hbl⟩ := hst
                have hPN := HSK3.out hlt
                have HPN := Lib.hid hPN
                have HGN := Lib.hid (HG5.out.below (stay_b HB06.out hbl))
                have HEN := Lib.hid (HED5.out.below (stay_b HB06.out hbl))
                clear hPN
                go_wp2
                go_roundw
                case rel => exact ⟨cb, k + 1, who, by omega, rfl, by go_num, HGN, HEN, HPN⟩
                case measure => simp [intOf]; omega
             ·have hme : PL = -1 := by rw [HPL.out]; unfold placeI; rw [if_neg hUL]
              subst hme
              refine rg_plain (fin := ?z8) [.int .i64 (-1), .bool false, .bool false, undef, undef, undef, undef, undef, undef, undef, undef, undef, .bool false] (fun WN => Below w6.heap.size w6 WN) ?hf (by kernel_rfl) (by kernel_rfl) rfl (Below.refl _ _).drew (fun WN hst => ?hs) (fun WN hst => ?he)
              case hf => simp only [putOps, Act.put, List.setIfInBounds_toArray, List.set_cons_succ, List.set_cons_zero]; exact rfl
              case hs =>
               have HST := Lib.hid hst
               have hbl := hst
               iterate 13 refine ⟨?_, fun K hK => ?_⟩
               ·trivial
               all_goals try (go_simp; exact hK _ HST.out; done)
              case he =>
               have hbl := hst
               have hPN := HSK.out (.inr hUL)
               have HPN := Lib.hid hPN
               have HGN := Lib.hid (HG5.out.below (stay_b HB06.out hbl))
               have HEN := Lib.hid (HED5.out.below (stay_b HB06.out hbl))
               clear hPN
               go_wp2
               go_roundw
               case rel => exact ⟨cb, k + 1, who, by omega, rfl, by go_num, HGN, HEN, HPN⟩
               case measure => simp [intOf]; omega
           ·have hkn : (KD != 0) = true := by simpa using hkz
            have HKZ := Lib.hid hkz
            clear hkz
            refine rg_plain (fin := ?z9) [.bool false, .bool true, .bool true, .agg #[.int .i64 W, .int .i64 H, .slice Am nm cm, .slice Ac nc cc], .slice (some ⟨ge, 0, none⟩) 3 3, .int .i64 (k : Int), .pointer (some ⟨ge, k * 4, none⟩), .agg #[.int .i64 E.1, .int .i64 E.2.1, .int .i64 E.2.2.1, .int .i64 E.2.2.2], .int .i64 KD, .bool true, .bool true] (fun WN => WN.cell? ⟨w.heap.size, 0, none⟩ = some (.int .i64 W) ∧ WN.cell? ⟨w.heap.size, 1, none⟩ = some (.int .i64 H) ∧ WN.cell? ⟨w.heap.size, 2, none⟩ = some (.slice Am nm cm) ∧ WN.cell? ⟨w.heap.size, 3, none⟩ = some (.slice Ac nc cc) ∧ WN.cell? ⟨ge, k * 4, none⟩ = some (.int .i64 E.1) ∧ WN.cell? ⟨ge, k * 4 + 1, none⟩ = some (.int .i64 E.2.1) ∧ WN.cell? ⟨ge, k * 4 + 2, none⟩ = some (.int .i64 E.2.2.1) ∧ WN.cell? ⟨ge, k * 4 + 3, none⟩ = some (.int .i64 E.2.2.2) ∧ Below w0.heap.size w0 WN) ?hf (by kernel_rfl) (by kernel_rfl) rfl ⟨b0, b1, b2, b3, y0, y1, y2, y3, (Below.refl _ _).drew⟩ (fun WN hst => ?hs) (fun WN hst => ?he)
            case hf => simp only [putOps, Act.put, List.setIfInBounds_toArray, List.set_cons_succ, List.set_cons_zero]; exact rfl
            case hs =>
             have HST := Lib.hid hst
             obtain ⟨q0, q1, q2, q3, q4, q5, q6, q7, hbl⟩ := hst
             iterate 11 refine ⟨?_, fun K hK => ?_⟩
             ·trivial
             all_goals try (go_simp; exact hK _ HST.out; done)
             ·go_simp
              refine (CK.out _ hbl).mono ?_
              rintro e' wc ⟨he, hbc⟩
              subst he
              exact hK _ ⟨sd q0 hbc, sd q1 hbc, sd q2 hbc, sd q3 hbc, sd q4 hbc, sd q5 hbc, sd q6 hbc, sd q7 hbc, stay_b hbl hbc⟩
            case he =>
             obtain ⟨q0, q1, q2, q3, q4, q5, q6, q7, hbl⟩ := hst
             have hPN := HSK.out (.inl (show (decide (kindD cs E = 0)) = false by rw [← HKD.out]; exact decide_eq_false HKZ.out))
             have HPN := Lib.hid hPN
             have HGN := Lib.hid (HG5.out.below hbl)
             have HEN := Lib.hid (HED5.out.below hbl)
             clear hPN
             go_wp2
             go_roundw
             case rel => exact ⟨cb, k + 1, who, by omega, rfl, by go_num, HGN, HEN, HPN⟩
             case measure => simp [intOf]; omega
        ·obtain rfl : k = 3 := by omega
         have HPR := Lib.hid hP.out.row
         go_wp2
         go_roundw
         case rel => exact ⟨cb, j + 1, who, by omega, rfl, by go_num, hG, HPR⟩
         case measure => simp [intOf]; omega
      ·obtain rfl : j = L.length := by omega
       have hK4 : ∀ t ∈ L, K4 t := fun t ht => (HSM.out t ht).2.2
       have HSW := Lib.hid (sumW_eq hG.out)
       cases cb with
       | true =>
        have hmo := hP.out.more
        have HMO := Lib.hid hmo
        clear hmo hK4
        go_wp2
        go_roundw
        case rel => exact ⟨true, who, rfl, hG, Lib.hid HMO.out.1, Lib.hid (fun h => by cases h)⟩
        case measure => have h1 := HMO.out.2; have h2 := HSW.out; have h3 := HMS.out; simp only [h2, h3]; omega
       | false =>
        have hdn := hP.out.done (Nat.le_refl _) hK4
        have HDN := Lib.hid hdn
        have HIN := Lib.hid hP.out.inv
        clear hdn hK4
        go_wp2
        go_roundw
        case rel => exact ⟨false, who, rfl, hG, HIN, Lib.hid (fun _ => HDN.out.2)⟩
        case measure => have h1 := HDN.out.1; have h2 := HSW.out; have h3 := HMS.out; simp only [h2, h3, h1]; omega
end
end Go.Proofs.YtpkjekedgodccaaGreatDoor
