/- The document's FlatOf.. -/
import Derived.Test.YtbnkabmnenginaaGreatDoorK43
namespace Go.Proofs.YtbnkabmnenginaaGreatDoor
set_option linter.unusedSimpArgs false
set_option linter.unusedVariables false
section
open Go.RowKit Go.Maps
def flM (n i : Nat) : List V6 := List.replicate i stillV ++ List.replicate (n - i) zeroV
theorem flM_zero (n : Nat) : flM n 0 = List.replicate n zeroV := by simp [flM]
theorem flM_end (n : Nat) : flM n n = List.replicate n stillV := by simp [flM]
theorem flM_at {n i : Nat} (h : i < n) : (flM n i)[i]? = some zeroV := by
 unfold flM
 rw [List.getElem?_append_right (by simp), List.length_replicate, Nat.sub_self, List.getElem?_replicate, if_pos (by omega)]
theorem flM_step {n i : Nat} (h : i < n) : (flM n i).set i stillV = flM n (i + 1) := by
 unfold flM
 rw [List.set_append_right _ _ (by simp), List.length_replicate, Nat.sub_self, show n - i = (n - (i + 1)) + 1 by omega, List.replicate_succ, List.set_cons_zero, List.replicate_succ', List.append_assoc]
 rfl
set_option maxRecDepth 100000 in
set_option maxHeartbeats 6400000 in
theorem flatOf_any (W H : Nat) (Am Ac : Option Addr) (nm cm nc cc : Nat) (mask : List Int) (cs : List C5) (L : List T3) (w : World) (hS : ShM w W H Am nm mask Ac nc cs) (hL : trisL W mask = L) (hso : L.Pairwise triLt) (h8 : ∀ t ∈ L, In8 t) (hLl : L.length ≤ 1000)
  (hnm : nm * 8 ≤ 140737488351232) (hnc : nc * 40 ≤ 140737488351232) (hAm : Am = none → cm = 0) (hAc : Ac = none → cc = 0) :
  Calls Tryz.prog 9 #[shV W H Am nm cm Ac nc cc] w fun e w' => ∃ Bm cm2 Bc cc2 Bp cp2 Bs cS, e = .returned (.agg #[.int .i64 W, .int .i64 H, .slice Bm nm cm2, .slice Bc nc cc2, .slice Bp L.length cp2, .slice Bs L.length cS]) ∧ Rd w' 1 Bm nm (vis mask) ∧ Rd w' 5 Bc nc (ccs cs) ∧ Rd w' 6 Bp L.length (mcs (List.replicate L.length stillV)) ∧ StkW w' w.heap.size (.slice Bs L.length cS) (ones L) ∧ Below w.heap.size w w' := by
 have kb0 := blk_alloc (heap_alloc_new w (.cells #[.int .i64 W, .int .i64 H, .slice Am nm cm, .slice Ac nc cc] 25)) (.cells #[.int .i64 0, .int .i64 0, .slice none 0 0, .slice none 0 0, .slice none 0 0, .slice none 0 0] 29)
 have kr := heap_alloc_new (w.alloc (.cells #[.int .i64 W, .int .i64 H, .slice Am nm cm, .slice Ac nc cc] 25)) (.cells #[.int .i64 0, .int .i64 0, .slice none 0 0, .slice none 0 0, .slice none 0 0, .slice none 0 0] 29)
 rw [World.size_alloc] at kr
 have hb0 := ba (below_new w (.cells #[.int .i64 W, .int .i64 H, .slice Am nm cm, .slice Ac nc cc] 25)) (.cells #[.int .i64 0, .int .i64 0, .slice none 0 0, .slice none 0 0, .slice none 0 0, .slice none 0 0] 29)
 have a0 := cell_of_blk kb0 0
 have a1 := cell_of_blk kb0 1
 have a2 := cell_of_blk kb0 2
 have a3 := cell_of_blk kb0 3
 simp only [List.getElem?_toArray, List.getElem?_cons_zero, List.getElem?_cons_succ] at a0 a1 a2 a3
 have cT := trisOf_any W H Am Ac nm cm nc cc mask cs ((w.alloc (.cells #[.int .i64 W, .int .i64 H, .slice Am nm cm, .slice Ac nc cc] 25)).alloc (.cells #[.int .i64 0, .int .i64 0, .slice none 0 0, .slice none 0 0, .slice none 0 0, .slice none 0 0] 29)) (hS.below hb0)
 rw [hL] at cT
 unfold shV at cT
 have hmk := make_maps L.length hLl
 have hmi := make_ints L.length hLl
 have CT := Lib.hid cT
 have HS := Lib.hid hS
 have HL := Lib.hid hL
 have HSO := Lib.hid hso
 have H8 := Lib.hid h8
 have HB0 := Lib.hid hb0
 have KR := Lib.hid kr
 clear cT hS hL hso h8 hb0 kb0 kr
 unfold shV
 go_enter Tryz.func9, Tryz.ntmps9
 go_wp2_with fail
 refine CT.out.mono ?_
 rintro e w1 ⟨vt, rfl, ho1, hb1⟩
 obtain ⟨At, ct, hvt, _, _⟩ := own_slice ho1
 subst hvt
 have HB1 := Lib.hid (HB0.out.trans (hb1.mono HB0.out.size))
 have KR1 := Lib.hid (blk_below KR.out hb1 (blk_lt KR.out))
 replace a0 := sd a0 hb1
 replace a1 := sd a1 hb1
 replace a2 := sd a2 hb1
 replace a3 := sd a3 hb1
 have hw1 := blk_lt KR1.out
 have kl0 := blk_alloc (heap_alloc_new w1 (.cells (mcs (List.replicate L.length zeroV)).toArray 57)) (.cells (Array.replicate L.length (.int .i64 0)) 3)
 have kk0 := heap_alloc_new (w1.alloc (.cells (mcs (List.replicate L.length zeroV)).toArray 57)) (.cells (Array.replicate L.length (.int .i64 0)) 3)
 rw [World.size_alloc] at kk0
 have hbk : Below w1.heap.size w1 ((w1.alloc (.cells (mcs (List.replicate L.length zeroV)).toArray 57)).alloc (.cells (Array.replicate L.length (.int .i64 0)) 3)) := ba (below_new _ _) _
 have hm1 := hmk w1
 have hm2 := hmi (w1.alloc (.cells (mcs (List.replicate L.length zeroV)).toArray 57))
 rw [World.size_alloc] at hm2
 obtain ⟨wa, hwa⟩ : ∃ x, x = w1.alloc (.cells (mcs (List.replicate L.length zeroV)).toArray 57) := ⟨_, rfl⟩
 rw [← hwa] at hm1 hm2 kl0 kk0 hbk
 obtain ⟨wb, hwb⟩ : ∃ x, x = wa.alloc (.cells (Array.replicate L.length (.int .i64 0)) 3) := ⟨_, rfl⟩
 rw [← hwb] at hm2 kl0 kk0 hbk
 have hl1 : LB wb w1.heap.size (flM L.length 0) := by rw [flM_zero]; exact kl0
 have HL1 := Lib.hid hl1
 have HK1 := Lib.hid kk0
 have HBK := Lib.hid hbk
 clear kl0 kk0 hl1 hbk CT hb1 ho1 hwa hwb hmk hmi
 go_wp2_with fail
 clear hm1 hm2
 generalize hg : w1.heap.size = g at HL1 HK1 HBK hw1 ⊢
 have hb00 : Below wb.heap.size wb wb := Below.refl _ _
 go_loopw [6] (fun v wr => ∃ i : Nat, i ≤ L.length ∧ v = .int .i64 i ∧ Hid (LB wr g (flM L.length i)) ∧ Hid (Below g w1 wr) ∧ Hid (wr.heap[g + 1]? = some (.cells (Array.replicate L.length (.int .i64 0)) 3 (0, 0)))) (fun v _ => L.length - (intOf v).toNat)
 case atStart => exact ⟨0, by omega, rfl, HL1, HBK, HK1⟩
 case round =>
  clear HL1 HK1 HBK hb00
  obtain ⟨i, hi, rfl, hl, hb, hk⟩ := hrel
  by_cases hin : i < L.length
  ·obtain ⟨y0, y1, y2, y3, y4, y5⟩ := hl.out.at_ (flM_at hin)
   have yf := hl.out.fz
   have yl := blk_lt (show wr.heap[g]? = _ from hl.out)
   have hii : (i : Int) < (L.length : Int) := by omega
   have hi0 : (0 : Int) ≤ (i : Int) := by omega
   have hn1 := hl.out.set i stillV
   rw [flM_step hin] at hn1
   have HN1 := Lib.hid hn1
   have HB9 := Lib.hid (set6_below2 hb.out (Nat.le_refl g) i stillV)
   have HK9 : Hid ((set6 wr g i stillV).heap[g + 1]? = some (.cells (Array.replicate L.length (.int .i64 0)) 3 (0, 0))) := Lib.hid ((set6_far (by omega)).trans hk.out)
   have hwk : IntKind.i64.wrap ((i : Int) + 1) = ((i + 1 : Nat) : Int) := by rw [IntWalk.i64_in _ (by omega)]; omega
   clear hn1 hl hb hk
   go_wp2_with fail
   go_roundw
   case rel => exact ⟨i + 1, by omega, by first | rfl | go_num, HN1, HB9, HK9⟩
   case measure => simp [intOf]; omega
  ·obtain rfl : i = L.length := by omega
   have hlb : LB wr g (List.replicate L.length stillV) := by rw [← flM_end]; exact hl.out
   have hlb' : wr.heap[g]? = _ := hlb
   have hgw1 : w1.heap.size ≤ g := by omega
   have hbw : Below w1.heap.size w1 wr := by rw [hg]; exact hb.out
   have hww : Below w.heap.size w wr := HB1.out.trans (hbw.mono (by have := HB1.out.size; omega))
   replace a0 := sd a0 hbw
   replace a1 := sd a1 hbw
   replace a2 := sd a2 hbw
   replace a3 := sd a3 hbw
   have hR : Rd wr 6 (some ⟨g, 0, none⟩) L.length (mcs (List.replicate L.length stillV)) := ⟨by rw [mcs_len, List.length_replicate], fun _ => ⟨g, 0, rfl, blk_lt hlb', fun j u hu => by rw [Nat.zero_add]; exact (cell_of_blk hlb' j).trans (by simpa using hu)⟩⟩
   have hRh : Rd wr 1 (some ⟨g + 1, 0, none⟩) L.length (vis (List.replicate L.length 0)) := ⟨by simp [vis], fun _ => ⟨g + 1, 0, rfl, blk_lt hk.out, fun j u hu => by rw [Nat.zero_add]; refine (cell_of_blk hk.out j).trans ?_; rw [← hu, ← vis_arr, List.getElem?_toArray]⟩⟩
   have hmvs : ∀ (i : Nat) (m : V6) (t : T3), (List.replicate L.length stillV)[i]? = some m → L[i]? = some t → ∀ W' : World, Calls Tryz.prog 41 #[aggM m, aggT3 t] W' fun e w' => e = .returned (aggT3 (L.getD i (0, 0, 0))) ∧ Below W'.heap.size W' w' := by
    intro i m t hm ht W'
    have hil := (List.getElem?_eq_some_iff.1 ht).1
    rw [List.getElem?_replicate, if_pos hil] at hm
    have hm := (Option.some.inj hm).symm
    have hit := H8.out t (List.mem_of_getElem? ht)
    have cM := moveOf_any m.1 m.2.1 m.2.2.1 m.2.2.2.1 m.2.2.2.2.1 m.2.2.2.2.2 t.1 t.2.1 t.2.2 W' (by rw [hm]; simp only [stillV]; constructor <;> omega) (by rw [hm]; rfl) (by rw [hm]; rfl) (by rw [hm]; rfl) (by have := hit.1; omega) (by have := hit.1; omega) (by have := hit.2.1; omega) (by have := hit.2.1; omega) hit.2.2.1 hit.2.2.2
    have hmv : moveT m.1 m.2.1 m.2.2.1 m.2.2.2.1 m.2.2.2.2.1 m.2.2.2.2.2 t.1 t.2.1 t.2.2 = t := by have := moveV_still hit.2.2; rw [hm]; exact this
    rw [hmv] at cM
    rw [show L.getD i (0, 0, 0) = t by rw [List.getD_eq_getElem?_getD, ht]; rfl]
    exact cM
   have cH := heaped_any W H Am Ac (some ⟨g, 0, none⟩) (some ⟨g + 1, 0, none⟩) nm cm nc cc L.length L.length mask cs L (List.replicate L.length stillV) (List.replicate L.length 0) (fun i => L.getD i (0, 0, 0)) wr (HS.out.below hww) HL.out (sorted_nodup HSO.out) hLl List.length_replicate List.length_replicate hR hRh hmvs hnm hnc hAm hAc (fun h => by cases h)
   have hone : heapN L (fun i => L.getD i (0, 0, 0)) (List.replicate L.length 0) L.length = ones L := by
    rw [heapN_ones HSO.out (fun i t ht => by rw [List.getD_eq_getElem?_getD, ht]; rfl) (Nat.le_refl _), List.take_length]
   rw [hone] at cH
   unfold shV at cH
   have CH := Lib.hid cH
   have HWW := Lib.hid hww
   have KRR := Lib.hid (blk_below KR1.out hbw (blk_lt KR1.out))
   have hrs := blk_lt KRR.out
   clear cH hone hR hRh hmvs hlb hlb' hl hb hk hww KR1 hbw HB1
   go_wp2_with fail
   refine CH.out.mono ?_
   rintro e w5 ⟨Bm, cm2, Bc, cc2, Bp, cp2, Bs, n, cS, hn, rfl, o1, o2, o3, o4, hb5⟩
   obtain rfl : n = L.length := by rw [hn, ones_len]
   clear hn
   have kr := blk_below KRR.out hb5 (blk_lt KRR.out)
   have y0 := cell_of_blk kr 0
   have y1 := cell_of_blk kr 1
   have y2 := cell_of_blk kr 2
   have y3 := cell_of_blk kr 3
   have y4 := cell_of_blk kr 4
   have y5 := cell_of_blk kr 5
   simp only [List.getElem?_toArray, List.getElem?_cons_zero, List.getElem?_cons_succ] at y0 y1 y2 y3 y4 y5
   have yf := frozen_of_blk kr
   have yl := blk_lt kr
   have KQ := Lib.hid kr
   have O1 := Lib.hid o1
   have O2 := Lib.hid o2
   have O3 := Lib.hid o3
   have O4 := Lib.hid o4
   have HB5 := Lib.hid (HWW.out.trans (hb5.mono HWW.out.size))
   clear kr o1 o2 o3 o4 hb5 CH a0 a1 a2 a3
   go_wp2_with fail
   have hkF := blk_set6 KQ.out (.int .i64 W) (.int .i64 H) (.slice Bm nm cm2) (.slice Bc nc cc2) (.slice Bp L.length cp2) (.slice Bs L.length cS)
   have q1 := own_set6 O1.out KQ.out (by decide) (.int .i64 W) (.int .i64 H) (.slice Bm nm cm2) (.slice Bc nc cc2) (.slice Bp L.length cp2) (.slice Bs L.length cS)
   have q2 := own_set6 O2.out KQ.out (by decide) (.int .i64 W) (.int .i64 H) (.slice Bm nm cm2) (.slice Bc nc cc2) (.slice Bp L.length cp2) (.slice Bs L.length cS)
   have q3 := own_set6 O3.out KQ.out (by decide) (.int .i64 W) (.int .i64 H) (.slice Bm nm cm2) (.slice Bc nc cc2) (.slice Bp L.length cp2) (.slice Bs L.length cS)
   have q4 := O4.out.set6 KQ.out (by decide) (by decide) (.int .i64 W) (.int .i64 H) (.slice Bm nm cm2) (.slice Bc nc cc2) (.slice Bp L.length cp2) (.slice Bs L.length cS)
   have hbF := below_set6 HB5.out (Nat.le_succ w.heap.size) (.int .i64 W) (.int .i64 H) (.slice Bm nm cm2) (.slice Bc nc cc2) (.slice Bp L.length cp2) (.slice Bs L.length cS)
   generalize ((((((w5.setCell ⟨w.heap.size + 1, 0, none⟩ (.int .i64 W)).setCell ⟨w.heap.size + 1, 1, none⟩ (.int .i64 H)).setCell ⟨w.heap.size + 1, 2, none⟩ (.slice Bm nm cm2)).setCell ⟨w.heap.size + 1, 3, none⟩ (.slice Bc nc cc2)).setCell ⟨w.heap.size + 1, 4, none⟩ (.slice Bp L.length cp2)).setCell ⟨w.heap.size + 1, 5, none⟩ (.slice Bs L.length cS)) = wF at hkF q1 q2 q3 q4 hbF ⊢
   have j0 := cell_of_blk hkF 0
   have j1 := cell_of_blk hkF 1
   have j2 := cell_of_blk hkF 2
   have j3 := cell_of_blk hkF 3
   have j4 := cell_of_blk hkF 4
   have j5 := cell_of_blk hkF 5
   simp only [List.getElem?_toArray, List.getElem?_cons_zero, List.getElem?_cons_succ] at j0 j1 j2 j3 j4 j5
   exact bodyPost_ret (v := .agg #[.int .i64 W, .int .i64 H, .slice Bm nm cm2, .slice Bc nc cc2, .slice Bp L.length cp2, .slice Bs L.length cS]) (by simp [results, Tryz.results9, go_sem, j0, j1, j2, j3, j4, j5]) rfl ⟨Bm, cm2, Bc, cc2, Bp, cp2, Bs, cS, rfl, Rd.of_own q1, Rd.of_own q2, Rd.of_own q3, q4.mono HWW.out.size, hbF⟩
end
end Go.Proofs.YtbnkabmnenginaaGreatDoor
