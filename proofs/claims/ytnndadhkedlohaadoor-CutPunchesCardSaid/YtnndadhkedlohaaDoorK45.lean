/- The document's PiecesOf. -/
import Derived.Test.YtnndadhkedlohaaDoorK35
namespace Go.Proofs.YtnndadhkedlohaaDoor
set_option linter.unusedSimpArgs false
set_option linter.unusedVariables false
section
open Go.RowKit Go.Maps
set_option maxRecDepth 100000 in
set_option maxHeartbeats 12800000 in
theorem piecesOf_any (W H : Nat) (Am Ac : Option Addr) (nm cm nc cc : Nat) (mask : List Int) (cs : List C5) (gt gs : Nat) (f : List Bool) (z : List Int) (C : E4 → Bool) (gn : T3 → Bool) (w : World) (hS : ShM w W H Am nm mask Ac nc cs)
  (hf : BB w gt f) (hzz : IB w gs z) (hfl : f.length = (trisL W mask).length) (hzl : z.length = (trisL W mask).length) (hC : CutI (trisL W mask) C f z) (hgn : ∀ i t, (trisL W mask)[i]? = some t → gn t = !f.getD i false) :
  Calls Tryd.prog 27 #[shV W H Am nm cm Ac nc cc, .slice (some ⟨gt, 0, none⟩) (trisL W mask).length (trisL W mask).length, .slice (some ⟨gs, 0, none⟩) (trisL W mask).length (trisL W mask).length] w fun r w' => ∃ v vs, r = .returned v ∧ RowsT w' w.heap.size v (pcsL (trisL W mask) C gn (trisL W mask).length) vs ∧ Below w.heap.size w w' := by
 have hsm : ∀ t ∈ trisL W mask, SmT t := fun t ht => hS.tris_sm ht
 have hnd := sorted_nodup hS.tris_sorted
 have hlen := hS.tris_len
 have kb0 := heap_alloc_new w (.cells #[.int .i64 W, .int .i64 H, .slice Am nm cm, .slice Ac nc cc] 25)
 have hbw : Below w.heap.size w (w.alloc (.cells #[.int .i64 W, .int .i64 H, .slice Am nm cm, .slice Ac nc cc] 25)) := below_new _ _
 have a0 := cell_of_blk kb0 0
 have a1 := cell_of_blk kb0 1
 have a2 := cell_of_blk kb0 2
 have a3 := cell_of_blk kb0 3
 simp only [List.getElem?_toArray, List.getElem?_cons_zero, List.getElem?_cons_succ] at a0 a1 a2 a3
 have cT := trisOf_any W H Am Ac nm cm nc cc mask cs _ (hS.below hbw)
 have hz : w.heap.size < (w.alloc (.cells #[.int .i64 W, .int .i64 H, .slice Am nm cm, .slice Ac nc cc] 25)).heap.size := by simp
 obtain ⟨L, hL⟩ : ∃ L, L = trisL W mask := ⟨_, rfl⟩
 rw [← hL] at cT hsm hnd hlen hfl hzl hC hgn ⊢
 have CT := Lib.hid cT
 have HSM := Lib.hid hsm
 have HND := Lib.hid hnd
 have HF := Lib.hid hf
 have HZ := Lib.hid hzz
 have HFL := Lib.hid hfl
 have HZL := Lib.hid hzl
 have HC := Lib.hid hC
 have HGN := Lib.hid hgn
 have hmk := make_ints L.length hlen
 clear cT hsm hnd hL hS kb0 hf hzz hfl hzl hC hgn
 go_enter Tryd.func27, Tryd.ntmps27
 go_wp2_with (go_at_call 22; refine CT.out.mono ?_; rintro r w1 ⟨v, rfl, ho1, hb1⟩; obtain ⟨Av, cv, hv, _, _⟩ := own_slice ho1; subst hv; have HB1 := Lib.hid hb1; have HO1 := Lib.hid ho1; clear hb1 ho1)
 generalize w.alloc (.cells #[.int .i64 W, .int .i64 H, .slice Am nm cm, .slice Ac nc cc] 25) = w0 at a0 a1 a2 a3 hbw hz HB1 HO1
 have hbw1 : Below w.heap.size w w1 := stay_b hbw HB1.out
 have hz1 : w.heap.size < w1.heap.size := Nat.lt_of_lt_of_le hz HB1.out.size
 have hf1 := HF.out.below hbw1
 have hz2 := HZ.out.below hbw1
 have HF1 := Lib.hid hf1
 have HZ1 := Lib.hid hz2
 have HBW := Lib.hid hbw1
 have hg0 : GW w1 w1.heap.size (fillW L.length 0) (w1.alloc (.cells (Array.replicate L.length (.int .i64 0)) 3)) := ⟨below_new _ _, by rw [← vis_zero, vis_arr]; exact heap_alloc_new _ _, Nat.le_refl _⟩
 have HG0 := Lib.hid hg0
 clear hbw1 hg0 CT hmk hz hbw HB1 HF HZ hf1 hz2 a0 a1 a2 a3
 generalize w1.alloc (.cells (Array.replicate L.length (.int .i64 0)) 3) = wm at HG0 ⊢
 go_loopw [9] (fun i wr => ∃ j : Nat, j ≤ L.length ∧ i = .int .i64 j ∧ Hid (GW w1 w1.heap.size (fillW L.length j) wr)) (fun i _ => L.length - (intOf i).toNat)
 case atStart => exact ⟨0, by omega, rfl, HG0⟩
 case round =>
  obtain ⟨j, hj, rfl, hG⟩ := hrel
  by_cases hjn : j < L.length
  ·have hji : (j : Int) < (L.length : Int) := by omega
   have zc := hG.out.at_ (i := j) (by rw [fillW_len]; exact hjn)
   have zf := hG.out.fz j
   have hG2 := hG.out.set j j
   rw [fillW_set] at hG2
   have HG2 := Lib.hid hG2
   clear hG2
   go_wp2
   go_roundw
   case rel => exact ⟨j + 1, by omega, by go_num, HG2⟩
   case measure => simp [intOf]; omega
  ·obtain rfl : j = L.length := by omega
   have hG2 := hG.out
   rw [fillW_all] at hG2
   have HGR := Lib.hid hG2
   clear hG2 hG HG0
   go_wp2_with fail
   go_loopw [10] (fun ch wr => ∃ (b : Bool) (who : List Nat), ch = .bool b ∧ Hid (GW w1 w1.heap.size who wr) ∧ Hid (GI L C who) ∧ Hid (b = false → Grp L C who)) (fun ch wr => sumW wr w1.heap.size + (match ch with | .bool true => 1 | _ => 0))
   case atStart => exact ⟨true, List.range L.length, rfl, HGR, Lib.hid (GI.start _ _), Lib.hid (fun h => by cases h)⟩
   case round =>
    clear HGR
    obtain ⟨b, who0, rfl, hG, hI, hD⟩ := hrel
    cases b with
    | true =>
     have hms := sumW_eq hG.out
     have HMS := Lib.hid hms
     have hst := GP.start hI.out
     have HST0 := Lib.hid hst
     clear hms hst hD
     go_wp2_with fail
     go_loopw [10, 11] (fun ch i wr => ∃ (cb : Bool) (j : Nat) (who : List Nat), j ≤ L.length ∧ ch = .bool cb ∧ i = .int .i64 j ∧ Hid (GW w1 w1.heap.size who wr) ∧ Hid (GP L C who0 who cb j 0)) (fun _ i _ => L.length - (intOf i).toNat)
     case atStart => exact ⟨false, 0, who0, by omega, rfl, rfl, hG, HST0⟩
     case round =>
      clear hG hI HST0
      obtain ⟨cb, j, who, hj, rfl, rfl, hG, hP⟩ := hrel
      by_cases hjn : j < L.length
      ·have hji : (j : Int) < (L.length : Int) := by omega
       obtain ⟨t, ht⟩ : ∃ t, L[j]? = some t := ⟨_, List.getElem?_eq_getElem hjn⟩
       obtain ⟨gv, cv2, curv, hv2, _, _, _, _⟩ := own_addr HO1.out (by omega)
       cases hv2
       have hts := HSM.out t (List.mem_of_getElem? ht)
       obtain ⟨t0, t1, t2⟩ := own_tri (od HO1.out hG.out.bel) ht
       have cE := edgesOf_any t.1 t.2.1 t.2.2 wr (by have := hts.1; omega) (by have := hts.1; omega) (by have := hts.2.1; omega) (by have := hts.2.1; omega) hts.2.2.1 hts.2.2.2
       have CE := Lib.hid cE
       have HT := Lib.hid ht
       have HTS := Lib.hid hts
       clear cE ht hts
       go_wp2_with (go_at_call 49; refine CE.out.mono ?_; rintro r w2 ⟨⟨ge, rfl, hke⟩, hb2⟩)
       have hED : EdB w2 ge t := hke
       have hG2 := hG.out.below hb2
       have HG2 := Lib.hid hG2
       have HED := Lib.hid hED
       clear hG2 hED hke hb2 hG t0 t1 t2 CE
       go_loopw [10, 13] (fun ch k wr => ∃ (cb : Bool) (q : Nat) (who : List Nat), q ≤ 3 ∧ ch = .bool cb ∧ k = .int .i64 q ∧ Hid (GW w1 w1.heap.size who wr) ∧ Hid (EdB wr ge t) ∧ Hid (GP L C who0 who cb j q)) (fun _ k _ => 3 - (intOf k).toNat)
       case atStart => exact ⟨cb, 0, who, by omega, rfl, rfl, HG2, HED, hP⟩
       case round =>
        clear HG2 HED hP
        obtain ⟨cb, k, who, hk, rfl, rfl, hG, hED, hP⟩ := hrel
        by_cases hk3 : k < 3
        ·have hki : (k : Int) < 3 := by omega
         have hlw := hG.out.bel
         obtain ⟨t0, t1, t2⟩ := own_tri (od HO1.out hlw) HT.out
         obtain ⟨y0, y1, y2, y3⟩ := hED.out.at_ hk3
         have cA := fun (w3 : World) => acrossOf_edge t.1 t.2.1 t.2.2 k w3 hk3 (by have := HTS.out.1; omega) (by have := HTS.out.1; omega) (by have := HTS.out.2.1; omega) (by have := HTS.out.2.1; omega) HTS.out.2.2.1 HTS.out.2.2.2
         have hskip := fun (h : nT t k ∉ L) => hP.out.skip (clAt_no HT.out (.inr h))
         have hskip2 := fun (m : Nat) (hm : L[m]? = some (nT t k)) (h : ((((!f.getD j false) || (!f.getD m false)) || !decide (z.getD j 0 = z.getD m 0)) || decide (who.getD j 0 ≤ who.getD m 0)) = true) => HC.out.skip HND.out HT.out hk3 hm hP.out h
         have hset := fun (m : Nat) (hm : L[m]? = some (nT t k)) (h : ((((!f.getD j false) || (!f.getD m false)) || !decide (z.getD j 0 = z.getD m 0)) || decide (who.getD j 0 ≤ who.getD m 0)) = false) => HC.out.set HT.out hk3 hm hP.out h
         obtain ⟨E, hE⟩ : ∃ E, E = eT t k := ⟨_, rfl⟩
         obtain ⟨U, hU⟩ : ∃ U, U = nT t k := ⟨_, rfl⟩
         rw [show nextT t.1 t.2.1 t.2.2 k = U from hU.symm, show edgeT t.1 t.2.1 t.2.2 k = E from hE.symm] at cA
         rw [← hU] at hskip hskip2 hset
         rw [← hE] at y0 y1 y2 y3
         have CA := Lib.hid cA
         have HSK := Lib.hid hskip
         have HSK2 := Lib.hid hskip2
         have HSET := Lib.hid hset
         clear cA hskip hskip2 hset hE hU hlw
         go_wp2_with fail
         refine rg_flo (fin := ?z1) [13] 12 [[true, true, true, true, true, true, true, true, true, true, true, true, false, false, true], [false, false, false, false, false, false, false, false, false, false, false, true, false, false, true]] [[true, true, true, true, true, true, true, true, true, true, true, true, false, false, true], [false, false, false, false, false, false, false, false, false, false, false, true, false, false, true]] [[12, 10, 9, 8, 3, 7, 2, 6, 0, 1, 4, 5]] [] (fun x => [.slice (some ⟨gv, 0, none⟩) L.length cv, .int .i64 (j : Int), .pointer (some ⟨gv, j * 3, none⟩), .agg #[.int .i64 t.1, .int .i64 t.2.1, .int .i64 t.2.2], .slice (some ⟨ge, 0, none⟩) 3 3, .int .i64 (k : Int), .pointer (some ⟨ge, k * 4, none⟩), .agg #[.int .i64 E.1, .int .i64 E.2.1, .int .i64 E.2.2.1, .int .i64 E.2.2.2], .tuple #[.agg #[.int .i64 U.1, .int .i64 U.2.1, .int .i64 U.2.2], .bool true], .tuple #[.agg #[.int .i64 U.1, .int .i64 U.2.1, .int .i64 U.2.2], .bool true], .agg #[.int .i64 U.1, .int .i64 U.2.1, .int .i64 U.2.2], .bool true, (x 1), (x 0), .bool true]) (fun jS bS x WN => match jS, bS with | 0, false => WN.cell? ⟨gv, j * 3, none⟩ = some (.int .i64 t.1) ∧ WN.cell? ⟨gv, j * 3 + 1, none⟩ = some (.int .i64 t.2.1) ∧ WN.cell? ⟨gv, j * 3 + 2, none⟩ = some (.int .i64 t.2.2) ∧ WN.cell? ⟨ge, k * 4, none⟩ = some (.int .i64 E.1) ∧ WN.cell? ⟨ge, k * 4 + 1, none⟩ = some (.int .i64 E.2.1) ∧ WN.cell? ⟨ge, k * 4 + 2, none⟩ = some (.int .i64 E.2.2.1) ∧ WN.cell? ⟨ge, k * 4 + 3, none⟩ = some (.int .i64 E.2.2.2) ∧ Below wr.heap.size wr WN | 0, true => WN.cell? ⟨gv, j * 3, none⟩ = some (.int .i64 t.1) ∧ WN.cell? ⟨gv, j * 3 + 1, none⟩ = some (.int .i64 t.2.1) ∧ WN.cell? ⟨gv, j * 3 + 2, none⟩ = some (.int .i64 t.2.2) ∧ WN.cell? ⟨ge, k * 4, none⟩ = some (.int .i64 E.1) ∧ WN.cell? ⟨ge, k * 4 + 1, none⟩ = some (.int .i64 E.2.1) ∧ WN.cell? ⟨ge, k * 4 + 2, none⟩ = some (.int .i64 E.2.2.1) ∧ WN.cell? ⟨ge, k * 4 + 3, none⟩ = some (.int .i64 E.2.2.2) ∧ Below wr.heap.size wr WN ∧ (∃ g, Hid (x 1 = .pointer (some ⟨g, 0, none⟩)) ∧ WN.heap[g]? = some (.cells #[.int .i64 0, .int .i64 0, .int .i64 0] 31 (0, 0)) ∧ Hid (wr.heap.size ≤ g)) | _, false => False | _, true => Below wr.heap.size wr WN ∧ ∃ g, Hid (x 1 = .pointer (some ⟨g, 0, none⟩)) ∧ WN.heap[g]? = some (.cells #[.int .i64 U.1, .int .i64 U.2.1, .int .i64 U.2.2] 31 (0, 0)) ∧ Hid (wr.heap.size ≤ g)) ?hf (by kernel_rfl) (by kernel_rfl) (fun _ => rfl) (by kernel_rfl) ?hv ?hvf ⟨t0, t1, t2, y0, y1, y2, y3, (Below.refl _ _).drew⟩ ?hA ?hT ?hF (fun x WN hst => ?he)
         case hf => intro x; simp only [putOps, Act.put, List.setIfInBounds_toArray, List.set_cons_succ, List.set_cons_zero]; exact rfl
         case hv =>
          intro x jS t v h
          cases jS with
          | zero => cases h; rfl
          | succ jS =>
           simp at h
         case hvf => intro x v; rfl
         case hA =>
          intro jS b x WN hj hst
          have hj : jS ≤ 1 := hj
          rcases (show jS = 0 ∨ jS = 1 by omega) with rfl | rfl <;> cases b
          ·have HST := Lib.hid hst
           obtain ⟨t0, t1, t2, y0, y1, y2, y3, hbl⟩ := hst
           iterate 13 refine ⟨?_, fun K hK => ?_⟩
           ·trivial
           all_goals try (go_simp; exact hK _ HST.out; done)
           ·go_simp
            refine (CA.out _).mono ?_
            rintro e' wc ⟨he, hbc⟩
            subst he
            exact hK _ ⟨sd t0 hbc, sd t1 hbc, sd t2 hbc, sd y0 hbc, sd y1 hbc, sd y2 hbc, sd y3 hbc, stay_b hbl hbc⟩
          ·have HST := Lib.hid hst
           obtain ⟨t0, t1, t2, y0, y1, y2, y3, hbl, ⟨gU, hx1, hkg, hgw⟩⟩ := hst
           iterate 13 refine ⟨?_, fun K hK => ?_⟩
           ·trivial
           all_goals try (go_simp; exact hK _ HST.out; done)
           ·go_simp
            refine (CA.out _).mono ?_
            rintro e' wc ⟨he, hbc⟩
            subst he
            exact hK _ ⟨sd t0 hbc, sd t1 hbc, sd t2 hbc, sd y0 hbc, sd y1 hbc, sd y2 hbc, sd y3 hbc, stay_b hbl hbc, ⟨gU, hx1, blk_below hkg hbc (blk_lt hkg), hgw⟩⟩
          ·exact hst.elim
          ·have HST := Lib.hid hst
           obtain ⟨hbl, gU, hx1, hkg, hgw⟩ := hst
           iterate 2 refine ⟨?_, fun K hK => ?_⟩
           ·trivial
           all_goals try (go_simp; exact hK _ HST.out; done)
         case hT =>
          intro jS b t x WN ht hw hst o ho K hK
          cases jS with
          | zero =>
           cases ht; cases ho
           cases b
           ·exact absurd (hw (by kernel_rfl)) (by decide)
           ·obtain ⟨t0, t1, t2, y0, y1, y2, y3, hbl, ⟨gU, hx1, hkg, hgw⟩⟩ := hst
            have hx := hx1.out
            have q0 := cell_of_blk hkg 0
            have q1 := cell_of_blk hkg 1
            have q2 := cell_of_blk hkg 2
            simp only [List.getElem?_toArray, List.getElem?_cons_zero, List.getElem?_cons_succ] at q0 q1 q2
            have zf := frozen_of_blk hkg
            have zl := blk_lt hkg
            have hkk := Lib.hid (blk_set (blk_set (blk_set hkg 0 (.int .i64 U.1)) 1 (.int .i64 U.2.1)) 2 (.int .i64 U.2.2))
            have hbb := Lib.hid (((hbl.setCell (p := ⟨gU, 0, none⟩) hgw.out (.int .i64 U.1)).setCell (p := ⟨gU, 1, none⟩) hgw.out (.int .i64 U.2.1)).setCell (p := ⟨gU, 2, none⟩) hgw.out (.int .i64 U.2.2))
            rw [hx] at hK ⊢
            go_simp
            exact hK undef _ ⟨hbb.out, gU, hx1, by simpa using hkk.out, hgw⟩
          | succ jS =>
           simp at ht
         case hF =>
          intro jS x WN hj hst o ho K hK
          have hj : jS ≤ 1 := hj
          cases ho
          rcases (show jS = 0 ∨ jS = 1 by omega) with rfl | rfl
          ·obtain ⟨t0, t1, t2, y0, y1, y2, y3, hbl⟩ := hst
           go_simp
           exact hK (.pointer (some ⟨WN.heap.size, 0, none⟩)) _ ⟨al_c t0 (.cells #[.int .i64 0, .int .i64 0, .int .i64 0] 31), al_c t1 (.cells #[.int .i64 0, .int .i64 0, .int .i64 0] 31), al_c t2 (.cells #[.int .i64 0, .int .i64 0, .int .i64 0] 31), al_c y0 (.cells #[.int .i64 0, .int .i64 0, .int .i64 0] 31), al_c y1 (.cells #[.int .i64 0, .int .i64 0, .int .i64 0] 31), al_c y2 (.cells #[.int .i64 0, .int .i64 0, .int .i64 0] 31), al_c y3 (.cells #[.int .i64 0, .int .i64 0, .int .i64 0] 31), hbl.alloc hbl.size (.cells #[.int .i64 0, .int .i64 0, .int .i64 0] 31), ⟨WN.heap.size, Lib.hid rfl, heap_alloc_new WN (.cells #[.int .i64 0, .int .i64 0, .int .i64 0] 31), Lib.hid hbl.size⟩⟩
          ·exact hst.elim
         case he =>
          obtain ⟨hbl, gU, hx1, hkg, hgw⟩ := hst
          have e1 := hx1.out
          rw [e1]
          obtain ⟨w5, hw5⟩ : ∃ x, x = WN := ⟨_, rfl⟩
          subst hw5
          have HB5 := Lib.hid hbl
          have HG5 := Lib.hid (hG.out.below hbl)
          have HE5 := Lib.hid (hED.out.below hbl)
          have gu0 := cell_of_blk hkg 0
          have gu1 := cell_of_blk hkg 1
          have gu2 := cell_of_blk hkg 2
          simp only [List.getElem?_toArray, List.getElem?_cons_zero, List.getElem?_cons_succ] at gu0 gu1 gu2
          clear hx1 e1 hkg hgw hbl CA t0 t1 t2 y0 y1 y2 y3 hG hED
          have cP := placeOf_any _ (some ⟨gv, 0, none⟩) cv L U w5 (od HO1.out HG5.out.bel) hlen
          obtain ⟨PL, hPL⟩ : ∃ z, z = placeI L U := ⟨_, rfl⟩
          rw [← hPL] at cP
          have CP := Lib.hid cP
          have HPL := Lib.hid hPL
          clear cP hPL
          go_wp2_with (go_at_call 24; refine CP.out.mono ?_; rintro r w6 ⟨rfl, hb6⟩)
          have HB6 := Lib.hid hb6
          have HG6 := Lib.hid (HG5.out.below hb6)
          have HE6 := Lib.hid (HE5.out.below hb6)
          clear hb6 gu0 gu1 gu2 HG5 HE5 CP
          by_cases hUL : U ∈ L
          ·obtain ⟨m, hm, hme⟩ : ∃ m, L[m]? = some U ∧ PL = ((m : Nat) : Int) := ⟨L.idxOf U, by rw [List.getElem?_eq_getElem (List.idxOf_lt_length_of_mem hUL)]; simp, by rw [HPL.out]; unfold placeI; rw [if_pos hUL]⟩
           subst hme
           have hml : m < L.length := (List.getElem?_eq_some_iff.1 hm).1
           have hmi : (m : Int) < (L.length : Int) := by omega
           have hm0 : (0 : Int) ≤ (m : Int) := by omega
           have hj0 : (0 : Int) ≤ (j : Int) := by omega
           have hwl := hP.out.inv.len
           have cwm := HG6.out.at_ (i := m) (by omega)
           have cwj := HG6.out.at_ (i := j) (by omega)
           have hF6 := HF1.out.below HG6.out.bel
           have hZ6 := HZ1.out.below HG6.out.bel
           have cfj := hF6.getD (i := j) (by rw [HFL.out]; exact hjn)
           have cfm := hF6.getD (i := m) (by rw [HFL.out]; exact hml)
           have czj := hZ6.getD (i := j) (by rw [HZL.out]; exact hjn)
           have czm := hZ6.getD (i := m) (by rw [HZL.out]; exact hml)
           have hset2 := HSET.out m hm
           have hsk2 := HSK2.out m hm
           obtain ⟨vm, hvm⟩ : ∃ z, z = who.getD m 0 := ⟨_, rfl⟩
           obtain ⟨vj, hvj⟩ : ∃ z, z = who.getD j 0 := ⟨_, rfl⟩
           obtain ⟨fj, hfj⟩ : ∃ z, z = f.getD j false := ⟨_, rfl⟩
           obtain ⟨fm, hfm⟩ : ∃ z, z = f.getD m false := ⟨_, rfl⟩
           obtain ⟨zj, hzj⟩ : ∃ y, y = z.getD j 0 := ⟨_, rfl⟩
           obtain ⟨zm, hzm⟩ : ∃ y, y = z.getD m 0 := ⟨_, rfl⟩
           rw [← hvm, ← hvj, ← hfj, ← hfm, ← hzj, ← hzm] at hset2 hsk2
           rw [← hvm] at cwm
           rw [← hvj] at cwj
           rw [← hfm] at cfm
           rw [← hfj] at cfj
           rw [← hzm] at czm
           rw [← hzj] at czj
           obtain ⟨b4, hb4⟩ : ∃ b, b = !decide (zj = zm) := ⟨_, rfl⟩
           obtain ⟨b5, hb5⟩ : ∃ b, b = decide (vj ≤ vm) := ⟨_, rfl⟩
           rw [← hb4, ← hb5] at hset2 hsk2
           have n41 : (zj != zm) = b4 := by rw [hb4, bne]; by_cases h : zj = zm <;> simp [h]
           have n42 : decide (zj = zm) = !b4 := by rw [hb4]; simp
           have n43 : (zj == zm) = !b4 := by rw [hb4]; by_cases h : zj = zm <;> simp [h]
           have n51 : decide ((vj : Int) ≤ (vm : Int)) = b5 := by rw [hb5]; simp
           have n52 : decide (vj ≤ vm) = b5 := hb5.symm
           have HSET2 := Lib.hid hset2
           have HSK3 := Lib.hid hsk2
           clear hwl hset2 hsk2 hvm hvj hfj hfm hzj hzm hb4 hb5 hm hUL hF6 hZ6
           obtain ⟨V2_7, H2_7⟩ : ∃ V : Value, Hid (V = .bool (!fj)) := ⟨_, Lib.hid rfl⟩
           obtain ⟨V2_8, H2_8⟩ : ∃ V : Value, Hid (V = .bool (!fj)) := ⟨_, Lib.hid rfl⟩
           obtain ⟨V2_9, H2_9⟩ : ∃ V : Value, Hid (V = .bool (!fj)) := ⟨_, Lib.hid rfl⟩
           obtain ⟨V2_10, H2_10⟩ : ∃ V : Value, Hid (V = (bif fj then .slice (some ⟨gt, 0, none⟩) L.length L.length else undef)) := ⟨_, Lib.hid rfl⟩
           obtain ⟨V2_11, H2_11⟩ : ∃ V : Value, Hid (V = (bif fj then .int .i64 (m : Int) else undef)) := ⟨_, Lib.hid rfl⟩
           obtain ⟨V2_12, H2_12⟩ : ∃ V : Value, Hid (V = (bif fj then .pointer (some ⟨gt, m, none⟩) else undef)) := ⟨_, Lib.hid rfl⟩
           obtain ⟨V2_13, H2_13⟩ : ∃ V : Value, Hid (V = (bif fj then .bool fm else undef)) := ⟨_, Lib.hid rfl⟩
           obtain ⟨V2_14, H2_14⟩ : ∃ V : Value, Hid (V = (bif fj then .bool (!fm) else undef)) := ⟨_, Lib.hid rfl⟩
           obtain ⟨V2_15, H2_15⟩ : ∃ V : Value, Hid (V = .bool ((!fj) || (!fm))) := ⟨_, Lib.hid rfl⟩
           obtain ⟨V2_16, H2_16⟩ : ∃ V : Value, Hid (V = .bool ((!fj) || (!fm))) := ⟨_, Lib.hid rfl⟩
           obtain ⟨V2_17, H2_17⟩ : ∃ V : Value, Hid (V = (bif (!((!fj) || (!fm))) then .slice (some ⟨gs, 0, none⟩) L.length L.length else undef)) := ⟨_, Lib.hid rfl⟩
           obtain ⟨V2_18, H2_18⟩ : ∃ V : Value, Hid (V = (bif (!((!fj) || (!fm))) then .int .i64 (j : Int) else undef)) := ⟨_, Lib.hid rfl⟩
           obtain ⟨V2_19, H2_19⟩ : ∃ V : Value, Hid (V = (bif (!((!fj) || (!fm))) then .pointer (some ⟨gs, j, none⟩) else undef)) := ⟨_, Lib.hid rfl⟩
           obtain ⟨V2_20, H2_20⟩ : ∃ V : Value, Hid (V = (bif (!((!fj) || (!fm))) then .int .i64 zj else undef)) := ⟨_, Lib.hid rfl⟩
           obtain ⟨V2_21, H2_21⟩ : ∃ V : Value, Hid (V = (bif (!((!fj) || (!fm))) then .slice (some ⟨gs, 0, none⟩) L.length L.length else undef)) := ⟨_, Lib.hid rfl⟩
           obtain ⟨V2_22, H2_22⟩ : ∃ V : Value, Hid (V = (bif (!((!fj) || (!fm))) then .int .i64 (m : Int) else undef)) := ⟨_, Lib.hid rfl⟩
           obtain ⟨V2_23, H2_23⟩ : ∃ V : Value, Hid (V = (bif (!((!fj) || (!fm))) then .pointer (some ⟨gs, m, none⟩) else undef)) := ⟨_, Lib.hid rfl⟩
           obtain ⟨V2_24, H2_24⟩ : ∃ V : Value, Hid (V = (bif (!((!fj) || (!fm))) then .int .i64 zm else undef)) := ⟨_, Lib.hid rfl⟩
           obtain ⟨V2_25, H2_25⟩ : ∃ V : Value, Hid (V = (bif (!((!fj) || (!fm))) then .bool b4 else undef)) := ⟨_, Lib.hid rfl⟩
           obtain ⟨V2_26, H2_26⟩ : ∃ V : Value, Hid (V = .bool (((!fj) || (!fm)) || b4)) := ⟨_, Lib.hid rfl⟩
           obtain ⟨V2_27, H2_27⟩ : ∃ V : Value, Hid (V = .bool (((!fj) || (!fm)) || b4)) := ⟨_, Lib.hid rfl⟩
           obtain ⟨V2_28, H2_28⟩ : ∃ V : Value, Hid (V = (bif (!(((!fj) || (!fm)) || b4)) then .slice (some ⟨w1.heap.size, 0, none⟩) L.length L.length else undef)) := ⟨_, Lib.hid rfl⟩
           obtain ⟨V2_29, H2_29⟩ : ∃ V : Value, Hid (V = (bif (!(((!fj) || (!fm)) || b4)) then .int .i64 (m : Int) else undef)) := ⟨_, Lib.hid rfl⟩
           obtain ⟨V2_30, H2_30⟩ : ∃ V : Value, Hid (V = (bif (!(((!fj) || (!fm)) || b4)) then .pointer (some ⟨w1.heap.size, m, none⟩) else undef)) := ⟨_, Lib.hid rfl⟩
           obtain ⟨V2_31, H2_31⟩ : ∃ V : Value, Hid (V = (bif (!(((!fj) || (!fm)) || b4)) then .int .i64 (vm : Int) else undef)) := ⟨_, Lib.hid rfl⟩
           obtain ⟨V2_32, H2_32⟩ : ∃ V : Value, Hid (V = (bif (!(((!fj) || (!fm)) || b4)) then .slice (some ⟨w1.heap.size, 0, none⟩) L.length L.length else undef)) := ⟨_, Lib.hid rfl⟩
           obtain ⟨V2_33, H2_33⟩ : ∃ V : Value, Hid (V = (bif (!(((!fj) || (!fm)) || b4)) then .int .i64 (j : Int) else undef)) := ⟨_, Lib.hid rfl⟩
           obtain ⟨V2_34, H2_34⟩ : ∃ V : Value, Hid (V = (bif (!(((!fj) || (!fm)) || b4)) then .pointer (some ⟨w1.heap.size, j, none⟩) else undef)) := ⟨_, Lib.hid rfl⟩
           obtain ⟨V2_35, H2_35⟩ : ∃ V : Value, Hid (V = (bif (!(((!fj) || (!fm)) || b4)) then .int .i64 (vj : Int) else undef)) := ⟨_, Lib.hid rfl⟩
           obtain ⟨V2_36, H2_36⟩ : ∃ V : Value, Hid (V = (bif (!(((!fj) || (!fm)) || b4)) then .bool b5 else undef)) := ⟨_, Lib.hid rfl⟩
           obtain ⟨V2_37, H2_37⟩ : ∃ V : Value, Hid (V = .bool ((((!fj) || (!fm)) || b4) || b5)) := ⟨_, Lib.hid rfl⟩
           refine rg_plain (fin := ?z3) [.int .i64 (m : Int), .bool false, .bool false, .slice (some ⟨gt, 0, none⟩) L.length L.length, .int .i64 (j : Int), .pointer (some ⟨gt, j, none⟩), .bool fj, V2_7, V2_8, V2_9, V2_10, V2_11, V2_12, V2_13, V2_14, V2_15, V2_16, V2_17, V2_18, V2_19, V2_20, V2_21, V2_22, V2_23, V2_24, V2_25, V2_26, V2_27, V2_28, V2_29, V2_30, V2_31, V2_32, V2_33, V2_34, V2_35, V2_36, V2_37] (fun WN => WN.cell? ⟨gt, j, none⟩ = some (.bool fj) ∧ WN.cell? ⟨gt, m, none⟩ = some (.bool fm) ∧ WN.cell? ⟨gs, j, none⟩ = some (.int .i64 zj) ∧ WN.cell? ⟨gs, m, none⟩ = some (.int .i64 zm) ∧ WN.cell? ⟨w1.heap.size, m, none⟩ = some (.int .i64 (vm : Int)) ∧ WN.cell? ⟨w1.heap.size, j, none⟩ = some (.int .i64 (vj : Int)) ∧ Below w6.heap.size w6 WN) ?hf (by kernel_rfl) (by kernel_rfl) rfl ⟨cfj, cfm, czj, czm, cwm, cwj, (Below.refl _ _).drew⟩ (fun WN hst => ?hs) (fun WN hst => ?he)
           case hf => simp only [putOps, Act.put, List.setIfInBounds_toArray, List.set_cons_succ, List.set_cons_zero]; exact rfl
           case hs =>
            have HST := Lib.hid hst
            obtain ⟨cfj, cfm, czj, czm, cwm, cwj, hbl⟩ := hst
            iterate 38 refine ⟨?_, fun K hK => ?_⟩
            ·trivial
            ·obtain rfl := H2_37.out
             obtain rfl := H2_27.out
             obtain rfl := H2_36.out
             cases b5 <;> cases b4 <;> cases fj <;> cases fm <;> (go_simp; exact hK _ HST.out)
            ·obtain rfl := H2_36.out
             obtain rfl := H2_27.out
             obtain rfl := H2_31.out
             obtain rfl := H2_35.out
             generalize (((!fj) || (!fm)) || b4) = y0 at hK ⊢
             cases y0 <;> (go_simp; exact hK _ HST.out)
            ·obtain rfl := H2_35.out
             obtain rfl := H2_27.out
             obtain rfl := H2_34.out
             generalize (((!fj) || (!fm)) || b4) = y0 at hK ⊢
             cases y0 <;> (go_simp; exact hK _ HST.out)
            ·obtain rfl := H2_34.out
             obtain rfl := H2_27.out
             obtain rfl := H2_32.out
             obtain rfl := H2_33.out
             generalize (((!fj) || (!fm)) || b4) = y0 at hK ⊢
             cases y0 <;> (go_simp; exact hK _ HST.out)
            ·obtain rfl := H2_33.out
             obtain rfl := H2_27.out
             generalize (((!fj) || (!fm)) || b4) = y0 at hK ⊢
             cases y0 <;> (go_simp; exact hK _ HST.out)
            ·obtain rfl := H2_32.out
             obtain rfl := H2_27.out
             generalize (((!fj) || (!fm)) || b4) = y0 at hK ⊢
             cases y0 <;> (go_simp; exact hK _ HST.out)
            ·obtain rfl := H2_31.out
             obtain rfl := H2_27.out
             obtain rfl := H2_30.out
             generalize (((!fj) || (!fm)) || b4) = y0 at hK ⊢
             cases y0 <;> (go_simp; exact hK _ HST.out)
            ·obtain rfl := H2_30.out
             obtain rfl := H2_27.out
             obtain rfl := H2_28.out
             obtain rfl := H2_29.out
             generalize (((!fj) || (!fm)) || b4) = y0 at hK ⊢
             cases y0 <;> (go_simp; exact hK _ HST.out)
            ·obtain rfl := H2_29.out
             obtain rfl := H2_27.out
             generalize (((!fj) || (!fm)) || b4) = y0 at hK ⊢
             cases y0 <;> (go_simp; exact hK _ HST.out)
            ·obtain rfl := H2_28.out
             obtain rfl := H2_27.out
             generalize (((!fj) || (!fm)) || b4) = y0 at hK ⊢
             cases y0 <;> (go_simp; exact hK _ HST.out)
            ·obtain rfl := H2_27.out
             obtain rfl := H2_26.out
             generalize (((!fj) || (!fm)) || b4) = y0 at hK ⊢
             cases y0 <;> (go_simp; exact hK _ HST.out)
            ·obtain rfl := H2_26.out
             obtain rfl := H2_16.out
             obtain rfl := H2_25.out
             cases b4 <;> cases fj <;> cases fm <;> (go_simp; exact hK _ HST.out)
            ·obtain rfl := H2_25.out
             obtain rfl := H2_16.out
             obtain rfl := H2_20.out
             obtain rfl := H2_24.out
             generalize ((!fj) || (!fm)) = y0 at hK ⊢
             cases y0 <;> (go_simp; exact hK _ HST.out)
            ·obtain rfl := H2_24.out
             obtain rfl := H2_16.out
             obtain rfl := H2_23.out
             generalize ((!fj) || (!fm)) = y0 at hK ⊢
             cases y0 <;> (go_simp; exact hK _ HST.out)
            ·obtain rfl := H2_23.out
             obtain rfl := H2_16.out
             obtain rfl := H2_21.out
             obtain rfl := H2_22.out
             generalize ((!fj) || (!fm)) = y0 at hK ⊢
             cases y0 <;> (go_simp; exact hK _ HST.out)
            ·obtain rfl := H2_22.out
             obtain rfl := H2_16.out
             generalize ((!fj) || (!fm)) = y0 at hK ⊢
             cases y0 <;> (go_simp; exact hK _ HST.out)
            ·obtain rfl := H2_21.out
             obtain rfl := H2_16.out
             generalize ((!fj) || (!fm)) = y0 at hK ⊢
             cases y0 <;> (go_simp; exact hK _ HST.out)
            ·obtain rfl := H2_20.out
             obtain rfl := H2_16.out
             obtain rfl := H2_19.out
             generalize ((!fj) || (!fm)) = y0 at hK ⊢
             cases y0 <;> (go_simp; exact hK _ HST.out)
            ·obtain rfl := H2_19.out
             obtain rfl := H2_16.out
             obtain rfl := H2_17.out
             obtain rfl := H2_18.out
             generalize ((!fj) || (!fm)) = y0 at hK ⊢
             cases y0 <;> (go_simp; exact hK _ HST.out)
            ·obtain rfl := H2_18.out
             obtain rfl := H2_16.out
             generalize ((!fj) || (!fm)) = y0 at hK ⊢
             cases y0 <;> (go_simp; exact hK _ HST.out)
            ·obtain rfl := H2_17.out
             obtain rfl := H2_16.out
             generalize ((!fj) || (!fm)) = y0 at hK ⊢
             cases y0 <;> (go_simp; exact hK _ HST.out)
            ·obtain rfl := H2_16.out
             obtain rfl := H2_15.out
             generalize ((!fj) || (!fm)) = y0 at hK ⊢
             cases y0 <;> (go_simp; exact hK _ HST.out)
            ·obtain rfl := H2_15.out
             obtain rfl := H2_9.out
             obtain rfl := H2_14.out
             generalize (!fm) = y1 at hK ⊢
             cases fj <;> cases y1 <;> (go_simp; exact hK _ HST.out)
            ·obtain rfl := H2_14.out
             obtain rfl := H2_9.out
             obtain rfl := H2_13.out
             cases fj <;> cases fm <;> (go_simp; exact hK _ HST.out)
            ·obtain rfl := H2_13.out
             obtain rfl := H2_9.out
             obtain rfl := H2_12.out
             cases fj <;> (go_simp; exact hK _ HST.out)
            ·obtain rfl := H2_12.out
             obtain rfl := H2_9.out
             obtain rfl := H2_10.out
             obtain rfl := H2_11.out
             cases fj <;> (go_simp; exact hK _ HST.out)
            ·obtain rfl := H2_11.out
             obtain rfl := H2_9.out
             cases fj <;> (go_simp; exact hK _ HST.out)
            ·obtain rfl := H2_10.out
             obtain rfl := H2_9.out
             cases fj <;> (go_simp; exact hK _ HST.out)
            ·obtain rfl := H2_9.out
             obtain rfl := H2_8.out
             generalize (!fj) = y0 at hK ⊢
             cases y0 <;> (go_simp; exact hK _ HST.out)
            ·obtain rfl := H2_8.out
             obtain rfl := H2_7.out
             generalize (!fj) = y0 at hK ⊢
             cases y0 <;> (go_simp; exact hK _ HST.out)
            ·obtain rfl := H2_7.out
             cases fj <;> (go_simp; exact hK _ HST.out)
            ·(go_simp; exact hK _ HST.out)
            ·(go_simp; exact hK _ HST.out)
            ·(go_simp; exact hK _ HST.out)
            ·(go_simp; exact hK _ HST.out)
            ·(go_simp; exact hK _ HST.out)
            ·(go_simp; exact hK _ HST.out)
            ·(go_simp; exact hK _ HST.out)
           case he =>
            obtain ⟨cfj, cfm, czj, czm, cwm, cwj, hbl⟩ := hst
            obtain rfl := H2_37.out
            clear H2_7 H2_8 H2_9 H2_10 H2_11 H2_12 H2_13 H2_14 H2_15 H2_16 H2_17 H2_18 H2_19 H2_20 H2_21 H2_22 H2_23 H2_24 H2_25 H2_26 H2_27 H2_28 H2_29 H2_30 H2_31 H2_32 H2_33 H2_34 H2_35 H2_36 H2_37
            obtain ⟨G, hGG⟩ : ∃ y, y = ((((!fj) || (!fm)) || b4) || b5) := ⟨_, rfl⟩
            rw [← hGG]
            have hno4 := HSK3.out
            have hyes4 := HSET2.out
            rw [← hGG] at hno4 hyes4
            have HNO4 := Lib.hid hno4
            have HYES4 := Lib.hid hyes4
            clear hno4 hyes4 hGG n41 n42 n43 n51 n52
            cases G with
            | true =>
             have hPN := HNO4.out (by first | rfl | trivial)
             have HPN := Lib.hid hPN
             have HGN2 := Lib.hid (HG6.out.below hbl)
             have HEN := Lib.hid (HE6.out.below hbl)
             clear hPN
             go_wp2
             go_roundw
             case rel => exact ⟨cb, k + 1, who, by omega, rfl, by go_num, HGN2, HEN, HPN⟩
             case measure => simp [intOf]; omega
            | false =>
             have hG8 := HG6.out.below hbl
             have zf := hG8.fz j
             have hG9 := hG8.set j vm
             have hE9 := (HE6.out.below hbl).set hG8 j (.int .i64 (vm : Int))
             have HG9 := Lib.hid hG9
             have HE9 := Lib.hid hE9
             clear hG8 hG9 hE9
             go_wp2
             go_roundw
             case rel => exact ⟨true, k + 1, who.set j vm, by omega, rfl, by go_num, HG9, HE9, Lib.hid (HYES4.out (by first | rfl | trivial))⟩
             case measure => simp [intOf]; omega
          ·have hme : PL = -1 := by rw [HPL.out]; unfold placeI; rw [if_neg hUL]
           subst hme
           refine rg_plain (fin := ?z5) [.int .i64 (-1), .bool true, .bool true, undef, undef, undef, undef, undef, .bool true, .bool true, undef, undef, undef, undef, undef, .bool true, .bool true, undef, undef, undef, undef, undef, undef, undef, undef, undef, .bool true, .bool true, undef, undef, undef, undef, undef, undef, undef, undef, undef, .bool true] (fun WN => Below w6.heap.size w6 WN) ?hf (by kernel_rfl) (by kernel_rfl) rfl (Below.refl _ _).drew (fun WN hst => ?hs) (fun WN hst => ?he)
           case hf => simp only [putOps, Act.put, List.setIfInBounds_toArray, List.set_cons_succ, List.set_cons_zero]; exact rfl
           case hs =>
            have HST := Lib.hid hst
            have hbl := hst
            iterate 38 refine ⟨?_, fun K hK => ?_⟩
            ·trivial
            ·(go_simp; exact hK _ HST.out)
            ·(go_simp; exact hK _ HST.out)
            ·(go_simp; exact hK _ HST.out)
            ·(go_simp; exact hK _ HST.out)
            ·(go_simp; exact hK _ HST.out)
            ·(go_simp; exact hK _ HST.out)
            ·(go_simp; exact hK _ HST.out)
            ·(go_simp; exact hK _ HST.out)
            ·(go_simp; exact hK _ HST.out)
            ·(go_simp; exact hK _ HST.out)
            ·(go_simp; exact hK _ HST.out)
            ·(go_simp; exact hK _ HST.out)
            ·(go_simp; exact hK _ HST.out)
            ·(go_simp; exact hK _ HST.out)
            ·(go_simp; exact hK _ HST.out)
            ·(go_simp; exact hK _ HST.out)
            ·(go_simp; exact hK _ HST.out)
            ·(go_simp; exact hK _ HST.out)
            ·(go_simp; exact hK _ HST.out)
            ·(go_simp; exact hK _ HST.out)
            ·(go_simp; exact hK _ HST.out)
            ·(go_simp; exact hK _ HST.out)
            ·(go_simp; exact hK _ HST.out)
            ·(go_simp; exact hK _ HST.out)
            ·(go_simp; exact hK _ HST.out)
            ·(go_simp; exact hK _ HST.out)
            ·(go_simp; exact hK _ HST.out)
            ·(go_simp; exact hK _ HST.out)
            ·(go_simp; exact hK _ HST.out)
            ·(go_simp; exact hK _ HST.out)
            ·(go_simp; exact hK _ HST.out)
            ·(go_simp; exact hK _ HST.out)
            ·(go_simp; exact hK _ HST.out)
            ·(go_simp; exact hK _ HST.out)
            ·(go_simp; exact hK _ HST.out)
            ·(go_simp; exact hK _ HST.out)
            ·(go_simp; exact hK _ HST.out)
            ·(go_simp; exact hK _ HST.out)
           case he =>
            have hbl := hst
            have hPN := HSK.out hUL
            have HPN := Lib.hid hPN
            have HGN2 := Lib.hid (HG6.out.below hbl)
            have HEN := Lib.hid (HE6.out.below hbl)
            clear hPN
            go_wp2
            go_roundw
            case rel => exact ⟨cb, k + 1, who, by omega, rfl, by go_num, HGN2, HEN, HPN⟩
            case measure => simp [intOf]; omega
        ·obtain rfl : k = 3 := by omega
         have HPR := Lib.hid hP.out.row
         go_wp2
         go_roundw
         case rel => exact ⟨cb, j + 1, who, by omega, rfl, by go_num, hG, HPR⟩
         case measure => simp [intOf]; omega
      ·obtain rfl : j = L.length := by omega
       have hK4 : ∀ t ∈ L, K4 t := fun t ht => (HSM.out t ht).2.2
       have HSW := Lib.hid (sumW_eq hG.out)
       cases cb with
       | true =>
        have hmo := hP.out.more
        have HMO := Lib.hid hmo
        clear hmo hK4
        go_wp2
        go_roundw
        case rel => exact ⟨true, who, rfl, hG, Lib.hid HMO.out.1, Lib.hid (fun h => by cases h)⟩
        case measure => have h1 := HMO.out.2; have h2 := HSW.out; have h3 := HMS.out; simp only [h2, h3]; omega
       | false =>
        have hdn := hP.out.done (Nat.le_refl _) hK4
        have HDN := Lib.hid hdn
        have HIN := Lib.hid hP.out.inv
        clear hdn hK4
        go_wp2
        go_roundw
        case rel => exact ⟨false, who, rfl, hG, HIN, Lib.hid (fun _ => HDN.out.2)⟩
        case measure => have h1 := HDN.out.1; have h2 := HSW.out; have h3 := HMS.out; simp only [h2, h3, h1]; omega
    | false =>
     have HGP := Lib.hid (hD.out (by first | rfl | trivial))
     have HGW := hG
     clear hD hI hG
     have hst0 : RowsT wr wr.heap.size (.slice none 0 0) (pcsL L C gn 0) [] := by
      have : pcsL L C gn 0 = [] := by simp [pcsL]
      rw [this]
      exact RowsT.nil _ _
     have HST0 := Lib.hid hst0
     clear hst0
     obtain ⟨w2, hw2⟩ : ∃ x, x = wr := ⟨_, rfl⟩
     subst hw2
     go_wp2_with fail
     go_loopw [17, 18] (fun v x wr => ∃ (i : Nat) (vs : List Value), i ≤ L.length ∧ x = .int .i64 i ∧ Hid (RowsT wr w2.heap.size v (pcsL L C gn i) vs) ∧ Hid (Below w2.heap.size w2 wr)) (fun _ x _ => L.length - (intOf x).toNat)
     case atStart => exact ⟨0, [], by omega, rfl, HST0, Lib.hid (Below.refl _ _)⟩
     case round =>
      clear HST0
      obtain ⟨i, vs, hi, rfl, hR, hbw2⟩ := hrel
      obtain ⟨Ar, cr, hvv, hcr, _⟩ := own_slice hR.out.own
      subst hvv
      by_cases hil : i < L.length
      ·have hii : (i : Int) < (L.length : Int) := by omega
       have hi0 : (0 : Int) ≤ (i : Int) := by omega
       obtain ⟨t, ht⟩ : ∃ t, L[i]? = some t := ⟨_, List.getElem?_eq_getElem hil⟩
       obtain ⟨gv, cpt, curt, hat, _, _, _, _⟩ := own_addr HO1.out (by omega)
       cases hat
       have hwl := HGP.out.len
       have hgw := HGW.out.below hbw2.out
       have cw := hgw.at_ (i := i) (by omega)
       have hfF := HF1.out.below hgw.bel
       have cf := hfF.getD (i := i) (by rw [HFL.out]; exact hil)
       have hK4 : ∀ t ∈ L, K4 t := fun t ht => (HSM.out t ht).2.2
       have hfi := HGP.out.first HND.out hK4 ht
       have hco := fun (hf : who0.getD i 0 = i) (j : Nat) (u : T3) (hj : L[j]? = some u) => HGP.out.comp HND.out hK4 ht hf hj
       have hgt := HGN.out i t ht
       obtain ⟨x, hx⟩ : ∃ x, x = who0.getD i 0 := ⟨_, rfl⟩
       obtain ⟨fi, hfx⟩ : ∃ x, x = f.getD i false := ⟨_, rfl⟩
       rw [← hx] at cw hfi hco
       rw [← hfx] at cf hgt
       have hyes := fun h1 h2 => pcsL_yes (c := C) (gn := gn) ht h1 h2
       have hnoo := fun h => pcsL_no (c := C) (gn := gn) ht h
       have HFI := Lib.hid hfi
       have HCO := Lib.hid hco
       have HYES := Lib.hid hyes
       have HNOO := Lib.hid hnoo
       have HGT := Lib.hid hgt
       clear hfi hco hyes hnoo hgt hwl hgw hfF hx hfx ht hK4
       by_cases hxi : x = i
       ·subst hxi
        have hne : ((x : Int) != (x : Int)) = false := by simp
        cases fi with
        | true =>
         have hfb : firstB L C x = true := HFI.out.1 (by first | rfl | trivial)
         have hy := HYES.out hfb HGT.out
         have HY := Lib.hid hy
         clear hfb hy
         go_wp2_with fail
         obtain ⟨wo, hwo⟩ : ∃ x, x = wr := ⟨_, rfl⟩
         subst hwo
         go_loopw [19, 20] (fun v y wz => ∃ k : Nat, k ≤ L.length ∧ y = .int .i64 k ∧ Hid (wz.ownsRow wo.heap.size 31 3 v (partF L C t k).length (tcT (partF L C t k))) ∧ Hid (Below wo.heap.size wo wz)) (fun _ y _ => L.length - (intOf y).toNat)
         case atStart => exact ⟨0, by omega, rfl, Lib.hid (by rw [partF_zero]; exact World.ownsRow_nil _ _ _ _), Lib.hid (Below.refl _ _)⟩
         case round =>
          obtain ⟨k, hk, rfl, hF, hbz⟩ := hrel
          obtain ⟨Af, cf2, hvf, _, _⟩ := own_slice hF.out
          subst hvf
          by_cases hkl : k < L.length
          ·have hki : (k : Int) < (L.length : Int) := by omega
           have hk0 : (0 : Int) ≤ (k : Int) := by omega
           obtain ⟨u, hu⟩ : ∃ u, L[k]? = some u := ⟨_, List.getElem?_eq_getElem hkl⟩
           have hwl := HGP.out.len
           have hbz2 := stay_b hbw2.out hbz.out
           have hgw := HGW.out.below hbz2
           have ck := hgw.at_ (i := k) (by omega)
           obtain ⟨t0, t1, t2⟩ := own_tri (od HO1.out hgw.bel) hu
           have hcu := HCO.out (by first | rfl | trivial) k u hu
           obtain ⟨y, hy⟩ : ∃ y, y = who0.getD k 0 := ⟨_, rfl⟩
           rw [← hy] at ck hcu
           have hpy := fun h => partF_yes (c := C) (t := t) hu h
           have hpn := fun h => partF_no (c := C) (t := t) hu h
           have hpl := partF_len L C t k
           have HCU := Lib.hid hcu
           have HPY := Lib.hid hpy
           have HPN := Lib.hid hpn
           clear hcu hpy hpn hgw hwl hy hu hbz2
           by_cases hyx : y = x
           ·subst hyx
            have hne2 : ((y : Int) == (y : Int)) = true := by simp
            have hp := HPY.out (HCU.out.1 rfl)
            have HP := Lib.hid hp
            clear hp
            have hszz := hbz.out.size
            go_wp2_with (at_builtin; go_loud (refine app_gen Tryd.underlying32 tri_info rfl (by decide) (by decide) rfl (.tmp 143) (.tmp 148) rfl wo.heap.size _ (partF L C t k).length (tcT (partF L C t k)) [.int .i64 u.1, .int .i64 u.2.1, .int .i64 u.2.2] rfl hF.out hszz 1 _ rfl rfl rfl (tri_one _ _ _) (by omega) ?_); intro v' w' hown' hb' hgr')
            have hr' : w'.ownsRow wo.heap.size 31 3 v' (partF L C t (k + 1)).length (tcT (partF L C t (k + 1))) := by
             rw [HP.out, List.length_append, tcT_app]
             exact hown'
            have HR' := Lib.hid hr'
            have HB' := Lib.hid (hbz.out.trans hb')
            clear hr' hown' hb' hgr'
            go_roundw
            case rel => exact ⟨k + 1, by omega, by go_num, HR', HB'⟩
            case measure => simp [intOf]; omega
           ·have hne2 : ((y : Int) == (x : Int)) = false := by simp; omega
            have hp := HPN.out (fun h => hyx (HCU.out.2 h))
            have hF2 := hF.out
            rw [← hp] at hF2
            have HF2 := Lib.hid hF2
            have hle : (partF L C t k).length = (partF L C t (k + 1)).length := by rw [hp]
            have HLE := Lib.hid hle
            clear hp hF2 hle
            go_wp2
            go_roundw
            case rel => exact ⟨k + 1, by omega, by go_num, by rw [HLE.out]; exact HF2, hbz⟩
            case measure => simp [intOf]; omega
          ·obtain rfl : k = L.length := by omega
           have hpf : partF L C t L.length = compL L C t := partF_all (Nat.le_refl _)
           have hF2 := hF.out
           rw [hpf] at hF2
           have hR2 := hR.out.below hbz.out
           have hfl := pcsL_len L C gn x
           have hlf : (partF L C t L.length).length = (compL L C t).length := by rw [hpf]
           have hszz := stay_b hbw2.out hbz.out
           have hsz3 := hszz.size
           have hF3 := own_mono hF2 hbw2.out.size
           have HF2 := Lib.hid hF3
           have HR2 := Lib.hid hR2
           have HSZ := Lib.hid hszz
           rw [hlf]
           obtain ⟨nF, hnF⟩ : ∃ n, n = (compL L C t).length := ⟨_, rfl⟩
           rw [← hnF]
           have HNF := Lib.hid hnF
           clear hpf hF2 hR2 hF3 hlf hszz hF hnF
           go_wp2_with (at_builtin; go_loud (refine app_gen Tryd.underlying33 tslP_info rfl (by decide) (by decide) rfl (.tmp 150) (.tmp 152) rfl w2.heap.size _ (pcsL L C gn x).length vs [.slice Af nF cf2] rfl HR2.out.own hsz3 1 _ rfl rfl rfl (fun u hu => by simp only [List.mem_cons, List.not_mem_nil, or_false] at hu; subst hu; rfl) (by omega) ?_); intro v' w' hown' hb' hgr')
           have hR3 : RowsT w' w2.heap.size v' (pcsL L C gn (x + 1)) (vs ++ [.slice Af nF cf2]) := by
            rw [HY.out]
            refine HR2.out.app ?_ hown' hgr'
            rw [HNF.out]
            exact HF2.out
           have HR3 := Lib.hid hR3
           have HB3 := Lib.hid (HSZ.out.trans hb')
           clear hR3 hown' hb' hgr'
           go_roundw
           case rel => exact ⟨x + 1, _, by omega, by go_num, HR3, HB3⟩
           case measure => simp [intOf]; omega
        | false =>
         have hR2 := hR.out
         have hp1 : pcsL L C gn (x + 1) = pcsL L C gn x := HNOO.out fun h => by have h1 := HGT.out; rw [h.2] at h1; exact absurd h1 (by decide)
         rw [← hp1] at hR2
         have HR2 := Lib.hid hR2
         have hle : (pcsL L C gn x).length = (pcsL L C gn (x + 1)).length := by rw [hp1]
         have HLE := Lib.hid hle
         clear hR2 hp1 hle
         go_wp2
         go_roundw
         case rel => exact ⟨x + 1, vs, by omega, by go_num, by rw [HLE.out]; exact HR2, hbw2⟩
         case measure => simp [intOf]; omega
       ·have hne : ((x : Int) != (i : Int)) = true := by simp; omega
        have hfb : ¬ (firstB L C i = true ∧ gn t = false) := fun h => hxi (HFI.out.2 h.1)
        have hp1 := HNOO.out hfb
        have hR2 := hR.out
        rw [← hp1] at hR2
        have HR2 := Lib.hid hR2
        have hle : (pcsL L C gn i).length = (pcsL L C gn (i + 1)).length := by rw [hp1]
        have HLE := Lib.hid hle
        clear hR2 hfb hp1 hle
        go_wp2
        go_roundw
        case rel => exact ⟨i + 1, vs, by omega, by go_num, by rw [HLE.out]; exact HR2, hbw2⟩
        case measure => simp [intOf]; omega
      ·obtain rfl : i = L.length := by omega
       have hbF := stay_b (stay_b HBW.out HGW.out.bel) hbw2.out
       have hRF := hR.out.mono2 (stay_b HBW.out HGW.out.bel).size
       go_wp2
       go_ret
       exact ⟨_, vs, rfl, hRF, hbF⟩
end
end Go.Proofs.YtnndadhkedlohaaDoor
