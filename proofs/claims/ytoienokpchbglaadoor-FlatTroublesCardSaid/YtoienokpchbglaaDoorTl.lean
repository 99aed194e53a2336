/- flat.Troubles. The document's TroublesOf. pleatlaw.FlatTroubles, walked. Printed by gen_tl.py. -/
import Derived.Test.YtoienokpchbglaaDoorUn
import Derived.Test.YtoienokpchbglaaDoorSd
import Derived.Test.YtoienokpchbglaaDoorSo
namespace Go.Proofs.YtoienokpchbglaaDoor
set_option linter.unusedSimpArgs false
set_option linter.unusedVariables false
section
open Go.RowKit Go.Maps

set_option maxRecDepth 100000 in
set_option maxHeartbeats 6400000 in
theorem troubles_any (W H : Int) (Am Ac : Option Addr) (nm cm nc cc : Nat) (mask : List Int) (cs : List C5) (w : World) (hs : Steps w) (hm : Rd w 1 Am nm (vis mask)) (hc : Rd w 5 Ac nc (ccs cs)) (hnm : nm ≤ 140737488351232) (hnc : nc ≤ 140737488351232) :
  Calls Tryd.prog 25 #[.agg #[.int .i64 W, .int .i64 H, .slice Am nm cm, .slice Ac nc cc]] w fun e w' => Below w.heap.size w w' ∧
   ((newB W H mask cs = false ∧ e = .returned (.tuple #[.slice none 0 0, .int .i64 10])) ∨ (newB W H mask cs = true ∧ ∃ v ks, PtI (EndP cs) ks ∧ w'.ownsRow w.heap.size 65 3 v (trbL (starsC (trisL W.toNat mask) cs ks)).length (tcT (trbL (starsC (trisL W.toNat mask) cs ks))) ∧ e = .returned (.tuple #[v, .int .i64 0]))) := by
 have kb0 := heap_alloc_new w (.cells #[.int .i64 W, .int .i64 H, .slice Am nm cm, .slice Ac nc cc] 25)
 have hb0 := below_new w (.cells #[.int .i64 W, .int .i64 H, .slice Am nm cm, .slice Ac nc cc] 25)
 have a0 := cell_of_blk kb0 0
 have a1 := cell_of_blk kb0 1
 have a2 := cell_of_blk kb0 2
 have a3 := cell_of_blk kb0 3
 simp only [List.getElem?_toArray, List.getElem?_cons_zero, List.getElem?_cons_succ] at a0 a1 a2 a3
 have cN := new_any W H Am Ac nm cm nc cc mask cs (w.alloc (.cells #[.int .i64 W, .int .i64 H, .slice Am nm cm, .slice Ac nc cc] 25)) (hs.below hb0) (hm.below hb0) (hc.below hb0) hnm hnc
 have hfc := fun (h : newB W H mask cs = true) => crI_of (newB_creases h)
 obtain ⟨NB, hNB⟩ : ∃ NB, NB = newB W H mask cs := ⟨_, rfl⟩
 rw [← hNB] at cN hfc ⊢
 obtain ⟨L, hLe⟩ : ∃ L, L = trisL W.toNat mask := ⟨_, rfl⟩
 rw [← hLe] at hfc ⊢
 have HLE := Lib.hid hLe
 have CN := Lib.hid cN
 have HS := Lib.hid hs
 have HFC := Lib.hid hfc
 have HB0 := Lib.hid hb0
 have HCB := Lib.hid (hc.below hb0)
 have hcn := hc.creases_len
 clear cN hs hm hc hNB kb0 hLe hfc hb0
 go_enter Tryd.func25, Tryd.ntmps25
 go_wp2_with fail
 refine CN.out.mono ?_
 rintro e w1 ⟨hb1, ⟨hF, v, rfl⟩ | ⟨hT, Wn, Hn, pb, b0, nb, kb, mn, vt, rfl, rfl, hW, hH, hml, rfl, hN⟩⟩
 ·have hbf := stay_b HB0.out hb1
  have HBF := Lib.hid hbf
  have HF := Lib.hid hF
  clear hbf hb1 hF CN a0 a1 a2 a3
  go_wp2
  exact bodyPost_ret (v := .tuple #[.slice none 0 0, .int .i64 10]) (by simp [results, Tryd.results25, go_sem]) rfl ⟨HBF.out, .inl ⟨HF.out, rfl⟩⟩
 ·have hLe : L = trisL Wn mask := HLE.out
  have hb1w := stay_b HB0.out hb1
  have hL : ∀ t ∈ trisL Wn mask, SmT t := fun t ht => by
   have := trisL_in (by omega) hml ht
   exact ⟨by omega, by omega, this.2.2.2.2⟩
  have hlen : (trisL Wn mask).length ≤ 1000 := by
   have h1 := trisL_len Wn mask
   have h2 : Wn * Hn ≤ 8 * 8 := Nat.mul_le_mul hW.2 hH.2
   omega
  rw [← hLe] at hN hL hlen
  obtain ⟨hci, hcd⟩ := HFC.out hT
  have cO := starsOf_any pb nb kb Wn Hn _ _ _ Ac nc cc L mn _ _ cs w1 (HS.out.below hb1w) hN.pap hN.own (HCB.out.below hb1) hL hlen hci hcd (crI_few hci hcd hlen)
  have hgd := fun ks => goodC (L := L) hci.kind ks
  have hfw := crI_few hci hcd hlen
  have CO := Lib.hid cO
  have HB1 := Lib.hid hb1w
  have HT := Lib.hid hT
  have HGD := Lib.hid hgd
  clear hb1 hb1w hT hL hN CN hLe HLE HS a0 a1 a2 a3 hml hW hH cO hlen hci hcd HCB hgd
  go_wp2_with (go_at_call 45; refine CO.out.mono ?_; rintro r w3 ⟨v, zs, ks, rfl, hpk, hr3, hb3⟩; have HPK := Lib.hid hpk; have HB3 := Lib.hid (stay_b HB1.out hb3); have HG := Lib.hid (HGD.out ks); obtain ⟨S, hS⟩ : ∃ S, S = starsC L cs ks := ⟨_, rfl⟩; rw [← hS] at hr3 HG; have HSE := Lib.hid hS; obtain ⟨As, cs', hvs, _, hcm⟩ := own_slice hr3.own; subst hvs; have HR3 := Lib.hid hr3; clear hpk hr3 hb3 hS HGD CO)
  have hSb : S.length ≤ 1000000 := by
   have h1 := starsC_len L cs ks
   have h2 := endP_len HPK.out
   rw [HSE.out]
   omega
  have hge : w.heap.size ≤ w3.heap.size := HB3.out.size
  go_loopw [6, 20] (fun v x wr => ∃ i : Nat, i ≤ S.length ∧ x = .int .i64 i ∧ Hid (TrW w3 (trbL (S.take i)) v wr)) (fun _ x _ => S.length - (intOf x).toNat)
  case atStart => exact ⟨0, by omega, rfl, Lib.hid ⟨World.ownsRow_nil _ _ _ _, Below.refl _ _⟩⟩
  case round =>
   obtain ⟨i, hi, rfl, hT⟩ := hrel
   obtain ⟨Av, cv, hvv, _, _⟩ := own_slice hT.out.own
   subst hvv
   by_cases hil : i < S.length
   ·have hii : (i : Int) < (S.length : Int) := by omega
    obtain ⟨s, hs⟩ : ∃ s, S[i]? = some s := ⟨_, List.getElem?_eq_getElem hil⟩
    obtain ⟨gl, Ad, cd, Ak, ck, hAl, y0, y1, y2, y3, hrd, hrk⟩ := HR3.out.at_ hs
    subst hAl
    have y0 := stay_c y0 hT.out.bel (Nat.le_refl _)
    have y1 := stay_c y1 hT.out.bel (Nat.le_refl _)
    have y2 := stay_c y2 hT.out.bel (Nat.le_refl _)
    have y3 := stay_c y3 hT.out.bel (Nat.le_refl _)
    have hg := HG.out s (List.mem_of_getElem? hs)
    have htk : S.take (i + 1) = S.take i ++ [s] := by rw [List.take_add_one, hs]; rfl
    have hsn := trbL_snoc (S.take i) s
    rw [← htk] at hsn
    have hll := trbL_len (S.take i)
    have hlt : (S.take i).length ≤ i := by simp; omega
    have hll : (trbL (S.take i)).length ≤ 2000000 := by omega
    have hk8 : s.2.2.length ≤ 8 := by rw [← hg.same]; exact hg.few
    have cU := fun (W' : World) (hb : Below w3.heap.size w3 W') => uneven_any s.1.1 s.1.2 Ad Ak s.2.1.length s.2.2.length cd ck s.2.1 W' (hrd.below hb) hg.few hg.dir hg.asc
    have cM := fun (W' : World) (hb : Below w3.heap.size w3 W') => more_any s.1.1 s.1.2 Ad Ak s.2.1.length s.2.2.length cd ck s.2.2 W' (hrk.below hb) hk8 hg.kind
    have htr : trb s = (if unevB s.2.1 = true then [(s.1.1, s.1.2, (1 : Int))] else []) ++ if moreI s.2.2 ≠ 2 ∧ moreI s.2.2 ≠ -2 then [(s.1.1, s.1.2, (2 : Int))] else [] := rfl
    rw [htr] at hsn
    obtain ⟨U, hU⟩ : ∃ U, U = unevB s.2.1 := ⟨_, rfl⟩
    obtain ⟨M, hM⟩ : ∃ U, U = moreI s.2.2 := ⟨_, rfl⟩
    obtain ⟨x, hx⟩ : ∃ U, U = s.1.1 := ⟨_, rfl⟩
    obtain ⟨y, hy⟩ : ∃ U, U = s.1.2 := ⟨_, rfl⟩
    obtain ⟨nD, hnD⟩ : ∃ U, U = s.2.1.length := ⟨_, rfl⟩
    obtain ⟨nK, hnK⟩ : ∃ U, U = s.2.2.length := ⟨_, rfl⟩
    rw [← hU, ← hM, ← hx, ← hy, ← List.append_assoc] at hsn
    rw [← hU, ← hx, ← hy, ← hnD, ← hnK] at cU
    rw [← hM, ← hx, ← hy, ← hnD, ← hnK] at cM
    rw [← hx] at y0
    rw [← hy] at y1
    rw [← hnD] at y2
    rw [← hnK] at y3
    have kb := heap_alloc_new wr (.cells #[.int .i64 x, .int .i64 y, .slice Ad nD cd, .slice Ak nK ck] 51)
    have b0 := cell_of_blk kb 0
    have b1 := cell_of_blk kb 1
    have b2 := cell_of_blk kb 2
    have b3 := cell_of_blk kb 3
    simp only [List.getElem?_toArray, List.getElem?_cons_zero, List.getElem?_cons_succ] at b0 b1 b2 b3
    have hTA := hT.out.below (below_new wr (.cells #[.int .i64 x, .int .i64 y, .slice Ad nD cd, .slice Ak nK ck] 51))
    have HTA := Lib.hid hTA
    have HKB := Lib.hid kb
    have HSN := Lib.hid hsn
    have CU := Lib.hid cU
    have CM := Lib.hid cM
    obtain ⟨l0, hl0⟩ : ∃ l, l = trbL (S.take i) := ⟨_, rfl⟩
    rw [← hl0] at hll HTA HSN ⊢
    clear hg htk hsn hlt hk8 cU cM htr hU hM hx hy hnD hnK kb hTA hT hrd hrk hs hl0
    obtain ⟨wo, hwo⟩ : ∃ x, x = wr := ⟨_, rfl⟩
    subst hwo
    have hpt : ∀ k : Int, ∀ u ∈ [Value.int .i64 x, .int .i64 y, .int .i64 k], u.oneCell' = true := fun k => tri_one x y k
    have HPT := Lib.hid hpt
    clear hpt
    go_upto_if 25 with (go_at_call 56; refine (CU.out _ HTA.out.bel).mono ?_; rintro r w4 ⟨rfl, hb4⟩)
    have HT4 := Lib.hid (HTA.out.below hb4)
    have HK4 := Lib.hid (blk_below HKB.out hb4 (blk_lt HKB.out))
    have hsz4 : w3.heap.size ≤ w4.heap.size := HT4.out.bel.size
    clear hb4 HTA HKB CU y0 y1 y2 y3 b0 b1 b2 b3
    have b0 := cell_of_blk HK4.out 0
    have b1 := cell_of_blk HK4.out 1
    simp only [List.getElem?_toArray, List.getElem?_cons_zero, List.getElem?_cons_succ] at b0 b1
    go_cut [6] from 21 to 46 (fun v wx => Hid (TrW w3 (l0 ++ if U = true then [(x, y, (1 : Int))] else []) v wx) ∧ Hid (wx.heap[wo.heap.size]? = some (.cells #[.int .i64 x, .int .i64 y, .slice Ad nD cd, .slice Ak nK ck] 51 (0, 0))))
    case first =>
     cases U with
     | true =>
      go_wp2_with (at_builtin; go_loud (refine app_gen Tryd.underlying60 trouble_info rfl (by decide) (by decide) rfl (.tmp 26) (.tmp 30) rfl w3.heap.size _ l0.length (tcT l0) [.int .i64 x, .int .i64 y, .int .i64 1] rfl HT4.out.own hsz4 1 _ rfl rfl rfl (HPT.out 1) (by omega) ?_); intro v' w' hown' hb' hgr')
      have h1 := HT4.out.put hown' hb'
      have h2 := grow_blk HK4.out hgr' (own_not HT4.out.own HK4.out (by decide))
      have H1 := Lib.hid h1
      have H2 := Lib.hid h2
      clear h1 h2 hown' hb' hgr'
      go_meet
      case rel => exact ⟨H1, H2⟩
     | false =>
      have h1 : Hid (TrW w3 (l0 ++ []) (.slice Av l0.length cv) w4) := by rw [List.append_nil]; exact HT4
      go_wp2_with fail
      go_meet
      case rel => exact ⟨h1, HK4⟩
    case rest =>
     obtain ⟨H1, H2⟩ := hcut
     obtain ⟨l1, hl1⟩ : ∃ l, l = l0 ++ (if U = true then [(x, y, (1 : Int))] else []) := ⟨_, rfl⟩
     have hl1l : l1.length ≤ l0.length + 1 := by rw [hl1, List.length_append]; split <;> simp
     rw [← hl1] at H1 HSN
     clear hl1 HT4 HK4 b0 b1
     have b0 := cell_of_blk H2.out 0
     have b1 := cell_of_blk H2.out 1
     have b2 := cell_of_blk H2.out 2
     have b3 := cell_of_blk H2.out 3
     simp only [List.getElem?_toArray, List.getElem?_cons_zero, List.getElem?_cons_succ] at b0 b1 b2 b3
     by_cases hM2 : M = 2
     ·have hsn := HSN.out
      rw [if_neg (by omega)] at hsn
      have q1 : (M != 2) = false := by simp [hM2]
      rw [List.append_nil] at hsn
      rw [← hsn] at H1
      clear hsn HSN
      go_wp2_with (go_at_call 57; refine (CM.out _ H1.out.bel).mono ?_; rintro r w5 ⟨rfl, hb5⟩; have c0 := stay_c b0 hb5 (Nat.le_refl _); have c1 := stay_c b1 hb5 (Nat.le_refl _); have H5 := Lib.hid (H1.out.below hb5); have hsz5 : w3.heap.size ≤ w5.heap.size := H5.out.bel.size; clear hb5)
      go_roundw
      case rel => exact ⟨i + 1, by omega, by go_num, H5⟩
      case measure => simp [intOf]; omega
     ·have q1 : (M != 2) = true := by simp [hM2]
      by_cases hM3 : M = -2
      ·have hsn := HSN.out
       rw [if_neg (by omega)] at hsn
       have q2 : (M != -2) = false := by simp [hM3]
       rw [List.append_nil] at hsn
       rw [← hsn] at H1
       clear hsn HSN
       go_wp2_with (go_at_call 57; refine (CM.out _ H1.out.bel).mono ?_; rintro r w5 ⟨rfl, hb5⟩; have c0 := stay_c b0 hb5 (Nat.le_refl _); have c1 := stay_c b1 hb5 (Nat.le_refl _); have H5 := Lib.hid (H1.out.below hb5); have hsz5 : w3.heap.size ≤ w5.heap.size := H5.out.bel.size; clear hb5)
       go_roundw
       case rel => exact ⟨i + 1, by omega, by go_num, H5⟩
       case measure => simp [intOf]; omega
      ·have hsn := HSN.out
       rw [if_pos ⟨hM2, hM3⟩] at hsn
       have q2 : (M != -2) = true := by simp [hM3]
       have HSN2 := Lib.hid hsn
       clear hsn HSN hM2 hM3
       go_wp2_with (first
        | (go_at_call 57; refine (CM.out _ H1.out.bel).mono ?_; rintro r w5 ⟨rfl, hb5⟩; have c0 := stay_c b0 hb5 (Nat.le_refl _); have c1 := stay_c b1 hb5 (Nat.le_refl _); have H5 := Lib.hid (H1.out.below hb5); have hsz5 : w3.heap.size ≤ w5.heap.size := H5.out.bel.size; clear hb5)
        | (at_builtin; go_loud (refine app_gen Tryd.underlying60 trouble_info rfl (by decide) (by decide) rfl (.tmp 40) (.tmp 44) rfl w3.heap.size _ l1.length (tcT l1) [.int .i64 x, .int .i64 y, .int .i64 2] rfl H5.out.own hsz5 1 _ rfl rfl rfl (HPT.out 2) (by omega) ?_); intro v' w' hown' hb' hgr'))
       have h1 := H5.out.put hown' hb'
       rw [← HSN2.out] at h1
       have H6 := Lib.hid h1
       clear h1 hown' hb' hgr'
       go_roundw
       case rel => exact ⟨i + 1, by omega, by go_num, H6⟩
       case measure => simp [intOf]; omega
   ·obtain rfl : i = S.length := by omega
    have hii : ¬ (S.length : Int) < (S.length : Int) := by omega
    have hto := hT.out
    rw [List.take_length] at hto
    have hto2 := own_mono hto.own hge
    rw [HSE.out] at hto2
    have HO := Lib.hid hto2
    have HBF := Lib.hid (HB3.out.trans (hto.bel.mono hge))
    clear hto hto2 hT
    go_wp2
    exact bodyPost_ret (v := .tuple #[.slice Av (trbL (S.take S.length)).length cv, .int .i64 0]) (by simp [results, Tryd.results25, go_sem]) rfl ⟨HBF.out, .inr ⟨HT.out, _, ks, HPK.out, HO.out, by rw [List.take_length, HSE.out]⟩⟩
end
section
open Go.RowKit Go.Maps

set_option maxRecDepth 100000 in
set_option maxHeartbeats 6400000 in
theorem troublesOf_any (W H : Nat) (Am Ac : Option Addr) (nm cm nc cc : Nat) (mask : List Int) (cs : List C5) (w : World) (hS : ShM w W H Am nm mask Ac nc cs) (hci : CrI (trisL W mask) cs) :
  Calls Tryd.prog 26 #[shV W H Am nm cm Ac nc cc] w fun r w' => ∃ v ps, r = .returned v ∧ PtI (fun p => p ∈ cornersA (trisL W mask)) ps ∧ w'.ownsRow w.heap.size 65 3 v (trbL (starsD (trisL W mask) cs ps)).length (tcT (trbL (starsD (trisL W mask) cs ps))) ∧ Below w.heap.size w w' := by
 have hlen := hS.tris_len
 have hb0 := below_new w (.cells #[.int .i64 W, .int .i64 H, .slice Am nm cm, .slice Ac nc cc] 25)
 have kb0 := heap_alloc_new w (.cells #[.int .i64 W, .int .i64 H, .slice Am nm cm, .slice Ac nc cc] 25)
 have a0 := cell_of_blk kb0 0
 have a1 := cell_of_blk kb0 1
 have a2 := cell_of_blk kb0 2
 have a3 := cell_of_blk kb0 3
 simp only [List.getElem?_toArray, List.getElem?_cons_zero, List.getElem?_cons_succ] at a0 a1 a2 a3
 have cO := starsD_any W H Am Ac nm cm nc cc mask cs _ (hS.below hb0) hci
 obtain ⟨L, hL⟩ : ∃ L, L = trisL W mask := ⟨_, rfl⟩
 rw [← hL] at cO hlen hci ⊢
 have hgd := fun ps => goodD (L := L) hci.kind ps
 have CO := Lib.hid cO
 have HB0 := Lib.hid hb0
 have HGD := Lib.hid hgd
 clear cO hb0 hgd hci hL hS kb0
 go_enter Tryd.func26, Tryd.ntmps26
 go_wp2_with (go_at_call 21; refine CO.out.mono ?_; rintro r w3 ⟨v, zs, ps, rfl, hpk, hr3, hb3⟩; have HPK := Lib.hid hpk; have HB3 := Lib.hid (stay_b HB0.out hb3); have HG := Lib.hid (HGD.out ps); obtain ⟨S, hS⟩ : ∃ S, S = starsD L cs ps := ⟨_, rfl⟩; rw [← hS] at hr3 HG; have HSE := Lib.hid hS; obtain ⟨As, cs', hvs, _, hcm⟩ := own_slice hr3.own; subst hvs; have HR3 := Lib.hid hr3; clear hpk hr3 hb3 hS HGD CO a0 a1 a2 a3)
 have hSb : S.length ≤ 1000000 := by
  have h1 := starsD_len L cs ps
  have h2 := corP_len HPK.out
  rw [HSE.out]
  omega
 have hge : w.heap.size ≤ w3.heap.size := HB3.out.size
 go_loopw [4, 5] (fun v x wr => ∃ i : Nat, i ≤ S.length ∧ x = .int .i64 i ∧ Hid (TrW w3 (trbL (S.take i)) v wr)) (fun _ x _ => S.length - (intOf x).toNat)
 case atStart => exact ⟨0, by omega, rfl, Lib.hid ⟨World.ownsRow_nil _ _ _ _, Below.refl _ _⟩⟩
 case round =>
  obtain ⟨i, hi, rfl, hT⟩ := hrel
  obtain ⟨Av, cv, hvv, _, _⟩ := own_slice hT.out.own
  subst hvv
  by_cases hil : i < S.length
  ·have hii : (i : Int) < (S.length : Int) := by omega
   obtain ⟨s, hs⟩ : ∃ s, S[i]? = some s := ⟨_, List.getElem?_eq_getElem hil⟩
   obtain ⟨gl, Ad, cd, Ak, ck, hAl, y0, y1, y2, y3, hrd, hrk⟩ := HR3.out.at_ hs
   subst hAl
   have hg := HG.out s (List.mem_of_getElem? hs)
   have htk : S.take (i + 1) = S.take i ++ [s] := by rw [List.take_add_one, hs]; rfl
   have hsn := trbL_snoc (S.take i) s
   rw [← htk] at hsn
   have hll := trbL_len (S.take i)
   have hlt : (S.take i).length ≤ i := by simp; omega
   have hll : (trbL (S.take i)).length ≤ 2000000 := by omega
   have hk8 : s.2.2.length ≤ 8 := by rw [← hg.same]; exact hg.few
   have cU := fun (W' : World) (hb : Below w3.heap.size w3 W') => unevenIs_any s.1.1 s.1.2 Ad Ak s.2.1.length s.2.2.length cd ck s.2.1 W' (hrd.below hb) hg.few hg.dir
   have htr : trb s = (if unevB s.2.1 = true then [(s.1.1, s.1.2, (1 : Int))] else []) ++ if moreI s.2.2 ≠ 2 ∧ moreI s.2.2 ≠ -2 then [(s.1.1, s.1.2, (2 : Int))] else [] := rfl
   rw [htr] at hsn
   obtain ⟨ks, hks⟩ : ∃ U, U = s.2.2 := ⟨_, rfl⟩
   obtain ⟨U, hU⟩ : ∃ U, U = unevB s.2.1 := ⟨_, rfl⟩
   obtain ⟨x, hx⟩ : ∃ U, U = s.1.1 := ⟨_, rfl⟩
   obtain ⟨y, hy⟩ : ∃ U, U = s.1.2 := ⟨_, rfl⟩
   obtain ⟨nD, hnD⟩ : ∃ U, U = s.2.1.length := ⟨_, rfl⟩
   obtain ⟨nK, hnK⟩ : ∃ U, U = ks.length := ⟨_, rfl⟩
   have hkd := hg.kind
   rw [← hks] at hkd hk8 hrk y3
   rw [← hnK] at hk8 hrk y3
   rw [← hU, ← hks, ← hx, ← hy, ← List.append_assoc] at hsn
   rw [← hU, ← hx, ← hy, ← hnD, ← hks, ← hnK] at cU
   rw [← hx] at y0
   rw [← hy] at y1
   rw [← hnD] at y2
   have HTA := hT
   have HSN := Lib.hid hsn
   have CU := Lib.hid cU
   have HKD := Lib.hid hkd
   have HRK := Lib.hid hrk
   have HNK := Lib.hid hnK
   obtain ⟨l0, hl0⟩ : ∃ l, l = trbL (S.take i) := ⟨_, rfl⟩
   rw [← hl0] at hll HTA HSN ⊢
   clear hg htk hsn hlt cU htr hU hx hy hnD hnK hks hkd hT hrd hrk hs hl0
   have HY := Lib.hid (And.intro y0 (And.intro y1 (And.intro y2 y3)))
   have y0 := stay_c y0 HTA.out.bel (Nat.le_refl _)
   have y1 := stay_c y1 HTA.out.bel (Nat.le_refl _)
   have y2 := stay_c y2 HTA.out.bel (Nat.le_refl _)
   have y3 := stay_c y3 HTA.out.bel (Nat.le_refl _)
   have hpt : ∀ k : Int, ∀ u ∈ [Value.int .i64 x, .int .i64 y, .int .i64 k], u.oneCell' = true := fun k => tri_one x y k
   have HPT := Lib.hid hpt
   clear hpt
   go_upto_if 20 with (go_at_call 58; refine (CU.out _ HTA.out.bel).mono ?_; rintro r w4 ⟨rfl, hb4⟩)
   have HT4 := Lib.hid (HTA.out.below hb4)
   have hsz4 : w3.heap.size ≤ w4.heap.size := HT4.out.bel.size
   clear hb4 HTA CU y0 y1 y2 y3
   obtain ⟨y0, y1, y2, y3⟩ := HY.out
   have y0 := stay_c y0 HT4.out.bel (Nat.le_refl _)
   have y1 := stay_c y1 HT4.out.bel (Nat.le_refl _)
   clear y2 y3
   go_cut [4] from 10 to 67 (fun v wx => Hid (TrW w3 (l0 ++ if U = true then [(x, y, (1 : Int))] else []) v wx))
   case first =>
    cases U with
    | true =>
     go_wp2_with (at_builtin; go_loud (refine app_gen Tryd.underlying60 trouble_info rfl (by decide) (by decide) rfl (.tmp 21) (.tmp 28) rfl w3.heap.size _ l0.length (tcT l0) [.int .i64 x, .int .i64 y, .int .i64 1] rfl HT4.out.own hsz4 1 _ rfl rfl rfl (HPT.out 1) (by omega) ?_); intro v' w' hown' hb' hgr')
     have h1 := HT4.out.put hown' hb'
     have H1 := Lib.hid h1
     clear h1 hown' hb' hgr'
     go_meet
     case rel => exact H1
    | false =>
     have h1 : Hid (TrW w3 (l0 ++ []) (.slice Av l0.length cv) w4) := by rw [List.append_nil]; exact HT4
     go_wp2_with fail
     go_meet
     case rel => exact h1
   case rest =>
    have H1 := hcut
    clear hcut
    obtain ⟨l1, hl1⟩ : ∃ l, l = l0 ++ (if U = true then [(x, y, (1 : Int))] else []) := ⟨_, rfl⟩
    have hl1l : l1.length ≤ l0.length + 1 := by rw [hl1, List.length_append]; split <;> simp
    rw [← hl1] at H1 HSN
    clear hl1 HT4 y0 y1 hsz4
    obtain ⟨A4, c4, hv4, _, _⟩ := own_slice H1.out.own
    subst hv4
    go_wp2_with fail
    go_loopw [6, 7] (fun s x wr => ∃ j : Nat, j ≤ nK ∧ x = .int .i64 j ∧ s = .int .i64 (moreI (ks.take j)) ∧ Hid (TrW w3 l1 (.slice A4 l1.length c4) wr)) (fun _ x _ => nK - (intOf x).toNat)
    case atStart => exact ⟨0, by omega, rfl, rfl, H1⟩
    case round =>
     obtain ⟨j, hj, rfl, rfl, hT⟩ := hrel
     obtain ⟨y0, y1, y2, y3⟩ := HY.out
     have y0 := stay_c y0 hT.out.bel (Nat.le_refl _)
     have y1 := stay_c y1 hT.out.bel (Nat.le_refl _)
     have y2 := stay_c y2 hT.out.bel (Nat.le_refl _)
     have y3 := stay_c y3 hT.out.bel (Nat.le_refl _)
     by_cases hjm : j < nK
     ·have hji : (j : Int) < (nK : Int) := by omega
      obtain ⟨bk, ok, k, hAk, _, hkk, ck'⟩ := (HRK.out.below hT.out.bel).int hjm
      subst hAk
      have g := HKD.out k (List.mem_of_getElem? hkk)
      have htk : ks.take (j + 1) = ks.take j ++ [k] := by rw [List.take_add_one, hkk]; rfl
      have hms := moreI_snoc (ks.take j) k
      rw [← htk] at hms
      have hbd := moreI_bd (ks := ks.take j) (fun k hk => HKD.out k (List.mem_of_mem_take hk))
      have htl : (ks.take j).length ≤ 8 := by have := HNK.out; simp; omega
      obtain ⟨M, hM⟩ : ∃ M, M = moreI (ks.take j) := ⟨_, rfl⟩
      rw [← hM] at hms hbd ⊢
      have m1 : IntKind.i64.wrap (M + 1) = M + 1 := IntWalk.i64_in _ (by omega)
      have m2 : IntKind.i64.wrap (M - 1) = M - 1 := IntWalk.i64_in _ (by omega)
      have HMS := Lib.hid hms
      clear hms htk hkk hM
      rcases g with rfl | rfl
      ·go_wp2_with fail
       go_roundw
       case rel => exact ⟨j + 1, by omega, by go_num, by rw [HMS.out]; go_num, hT⟩
       case measure => simp [intOf]; omega
      ·go_wp2_with fail
       go_roundw
       case rel => exact ⟨j + 1, by omega, by go_num, by rw [HMS.out]; first | rfl | (congr 1; omega), hT⟩
       case measure => simp [intOf]; omega
     ·obtain rfl : j = nK := by omega
      have hji : ¬ (j : Int) < (j : Int) := by omega
      have hte : ks.take j = ks := by rw [HNK.out, List.take_length]
      rw [hte]
      have hbd := moreI_bd HKD.out
      have hsn := HSN.out
      obtain ⟨M, hM⟩ : ∃ M, M = moreI ks := ⟨_, rfl⟩
      rw [← hM] at hsn ⊢
      have hsz5 := hT.out.bel.size
      clear hM hbd hte H1 HSN HKD HNK HRK
      by_cases hM2 : M = 2
      ·subst hM2
       rw [if_neg (by omega), List.append_nil] at hsn
       have HT9 : Hid (TrW w3 (trbL (S.take (i + 1))) (.slice A4 l1.length c4) wr) := by rw [hsn]; exact hT
       clear hsn hT
       go_wp2_with fail
       go_roundw
       case rel => exact ⟨i + 1, by omega, by go_num, HT9⟩
       case measure => simp [intOf]; omega
      ·have q1 : (M != 2) = true := by simp [hM2]
       by_cases hM3 : M = -2
       ·subst hM3
        rw [if_neg (by omega), List.append_nil] at hsn
        have HT9 : Hid (TrW w3 (trbL (S.take (i + 1))) (.slice A4 l1.length c4) wr) := by rw [hsn]; exact hT
        clear hsn hT
        go_wp2_with fail
        go_roundw
        case rel => exact ⟨i + 1, by omega, by go_num, HT9⟩
        case measure => simp [intOf]; omega
       ·rw [if_pos ⟨hM2, hM3⟩] at hsn
        have q2 : (M != -2) = true := by simp [hM3]
        have HSN2 := Lib.hid hsn
        clear hsn hM2 hM3
        go_wp2_with (at_builtin; go_loud (refine app_gen Tryd.underlying60 trouble_info rfl (by decide) (by decide) rfl (.tmp 59) (.tmp 66) rfl w3.heap.size _ l1.length (tcT l1) [.int .i64 x, .int .i64 y, .int .i64 2] rfl hT.out.own hsz5 1 _ rfl rfl rfl (HPT.out 2) (by omega) ?_); intro v' w' hown' hb' hgr')
        have h1 := hT.out.put hown' hb'
        rw [← HSN2.out] at h1
        have H6 := Lib.hid h1
        clear h1 hown' hb' hgr'
        go_roundw
        case rel => exact ⟨i + 1, by omega, by go_num, H6⟩
        case measure => simp [intOf]; omega
  ·obtain rfl : i = S.length := by omega
   have hii : ¬ (S.length : Int) < (S.length : Int) := by omega
   have hto := hT.out
   rw [List.take_length] at hto
   have hto2 := own_mono hto.own hge
   rw [HSE.out] at hto2
   have HO := Lib.hid hto2
   have HBF := Lib.hid (HB3.out.trans (hto.bel.mono hge))
   clear hto hto2 hT
   go_wp2
   exact bodyPost_ret (v := .slice Av (trbL (S.take S.length)).length cv) (by simp [results, Tryd.results26, go_sem]) rfl ⟨_, rfl, ps, HPK.out, by rw [List.take_length, HSE.out]; exact HO.out, HBF.out⟩
end
section
open Go.RowKit Go.Maps

theorem newB_dimT {W H : Int} {mask : List Int} {cs : List C5} (h : newB W H mask cs = true) : ∃ Wn Hn : Nat, W = Wn ∧ H = Hn ∧ (1 ≤ Wn ∧ Wn ≤ 8) ∧ (1 ≤ Hn ∧ Hn ≤ 8) ∧ mask.length = Wn * Hn := by
 unfold newB at h
 simp only [Bool.and_eq_true, cellsB, decide_eq_true_eq] at h
 obtain ⟨⟨⟨⟨h1, h2⟩, h3⟩, _⟩, _⟩ := h
 obtain ⟨Wn, rfl⟩ := Int.eq_ofNat_of_zero_le (show 0 ≤ W by omega)
 obtain ⟨Hn, rfl⟩ := Int.eq_ofNat_of_zero_le (show 0 ≤ H by omega)
 refine ⟨Wn, Hn, rfl, rfl, by omega, by omega, ?_⟩
 have : (mask.length : Int) = ((Wn * Hn : Nat) : Int) := by rw [h3]; simp
 omega
theorem neTr (p : T3) (w : World) : (binOp .neq 65 (.agg #[.int .i64 p.1, .int .i64 p.2.1, .int .i64 p.2.2]) (.agg #[.int .i64 p.1, .int .i64 p.2.1, .int .i64 p.2.2])).run Tryd.prog w = .ok (.bool false) w := by
 obtain ⟨a, b, c⟩ := p
 simp [go_sem]
theorem rdT_at {w : World} {A : Option Addr} {n k : Nat} {l : List T3} (hr : Rd w 3 A n (tcT l)) (hk' : k < l.length) : ∃ b off t, A = some ⟨b, off, none⟩ ∧ l[k]? = some t ∧ w.cell? ⟨b, off + k * 3, none⟩ = some (.int .i64 t.1) ∧ w.cell? ⟨b, off + k * 3 + 1, none⟩ = some (.int .i64 t.2.1) ∧ w.cell? ⟨b, off + k * 3 + 2, none⟩ = some (.int .i64 t.2.2) := by
 have hl := hr.1
 rw [tcT_len] at hl
 obtain ⟨b, off, e, _, hc⟩ := hr.2 (by omega)
 refine ⟨b, off, l[k], e, List.getElem?_eq_getElem hk', ?_, ?_, ?_⟩
 ·exact hc (k * 3) _ (by rw [Nat.mul_comm]; exact (tcT_at l k 0 _ (List.getElem?_eq_getElem hk') (by decide)).trans rfl)
 ·exact hc (k * 3 + 1) _ (by rw [Nat.mul_comm]; exact (tcT_at l k 1 _ (List.getElem?_eq_getElem hk') (by decide)).trans rfl)
 ·exact hc (k * 3 + 2) _ (by rw [Nat.mul_comm]; exact (tcT_at l k 2 _ (List.getElem?_eq_getElem hk') (by decide)).trans rfl)
set_option maxRecDepth 100000 in
set_option maxHeartbeats 12800000 in
theorem troubles_walk (W H : Int) (Am Ac : Option Addr) (nm cm nc cc : Nat) (mask : List Int) (cs : List C5) (w : World) (hs : Steps w) (hm : Rd w 1 Am nm (vis mask)) (hc : Rd w 5 Ac nc (ccs cs)) (hAm : Am = none → cm = 0) (hAc : Ac = none → cc = 0) (hnm : nm * 8 ≤ 140737488351232) (hnc : nc * 40 ≤ 140737488351232) :
  Calls Tryd.prog 7 #[.agg #[.int .i64 W, .int .i64 H, .slice Am nm cm, .slice Ac nc cc]] w fun e w' => e = .returned (.bool true) ∧ Below w.heap.size w w' := by
 have kb0 := heap_alloc_new w (.cells #[.int .i64 W, .int .i64 H, .slice Am nm cm, .slice Ac nc cc] 25)
 have hb0 := below_new w (.cells #[.int .i64 W, .int .i64 H, .slice Am nm cm, .slice Ac nc cc] 25)
 have a0 := cell_of_blk kb0 0
 have a1 := cell_of_blk kb0 1
 have a2 := cell_of_blk kb0 2
 have a3 := cell_of_blk kb0 3
 simp only [List.getElem?_toArray, List.getElem?_cons_zero, List.getElem?_cons_succ] at a0 a1 a2 a3
 have hnm2 : nm ≤ 140737488351232 := by omega
 have hnc2 : nc ≤ 140737488351232 := by omega
 have hs0 := hs.below hb0
 have hm0 := hm.below hb0
 have hc0 := hc.below hb0
 have cS := fun (w' : World) (hb : Below (w.alloc (.cells #[.int .i64 W, .int .i64 H, .slice Am nm cm, .slice Ac nc cc] 25)).heap.size (w.alloc (.cells #[.int .i64 W, .int .i64 H, .slice Am nm cm, .slice Ac nc cc] 25)) w') => sheetOf_any W H Am Ac nm cm nc cc mask cs w' (hm0.below hb) (hc0.below hb) hnm hnc hAm hAc
 have cM := fun (w' : World) (hb : Below (w.alloc (.cells #[.int .i64 W, .int .i64 H, .slice Am nm cm, .slice Ac nc cc] 25)).heap.size (w.alloc (.cells #[.int .i64 W, .int .i64 H, .slice Am nm cm, .slice Ac nc cc] 25)) w') => sheetMay_any W H Am Ac nm cm nc cc mask cs w' (hm0.below hb) (hc0.below hb) hnm2 hnc2
 have cF := fun (w' : World) (hb : Below (w.alloc (.cells #[.int .i64 W, .int .i64 H, .slice Am nm cm, .slice Ac nc cc] 25)).heap.size (w.alloc (.cells #[.int .i64 W, .int .i64 H, .slice Am nm cm, .slice Ac nc cc] 25)) w') (Bm Bc : Option Addr) (c1 c2 : Nat) (hm1 : Rd w' 1 Bm nm (vis mask)) (hc1 : Rd w' 5 Bc nc (ccs cs)) => troubles_any W H Bm Bc nm c1 nc c2 mask cs w' (hs0.below hb) hm1 hc1 hnm2 hnc2
 have hdim := newB_dimT (W := W) (H := H) (mask := mask) (cs := cs)
 have hcr := fun (h : newB W H mask cs = true) => crI_of (newB_creases h)
 have hsh := fun (Wn Hn : Nat) (hW : 1 ≤ Wn ∧ Wn ≤ 8) (hH : 1 ≤ Hn ∧ Hn ≤ 8) (hl : mask.length = Wn * Hn) => (⟨hW, hH, hl, hm0, hc0, hnc2⟩ : ShM (w.alloc (.cells #[.int .i64 W, .int .i64 H, .slice Am nm cm, .slice Ac nc cc] 25)) Wn Hn Am nm mask Ac nc cs)
 cases hNB : newB W H mask cs with
 | false =>
  rw [hNB] at cM cF
  have CS := Lib.hid cS
  have CM := Lib.hid cM
  have CF := Lib.hid cF
  have HB0 := Lib.hid hb0
  clear cS cM cF hdim hsh hs hm hc hs0 hm0 hc0 hb0 kb0 hNB hcr
  go_enter Tryd.func7, Tryd.ntmps7
  go_wp2_with fail
  generalize w.alloc (.cells #[.int .i64 W, .int .i64 H, .slice Am nm cm, .slice Ac nc cc] 25) = w0 at a0 a1 a2 a3 CS CM CF HB0 ⊢
  refine (CS.out w0 (Below.refl _ _)).mono ?_
  rintro e w1 ⟨Bm, c1, Bc, c2, rfl, hm1, hc1, hb1⟩
  have a0 := stay_c a0 hb1 (Nat.le_refl _)
  have a1 := stay_c a1 hb1 (Nat.le_refl _)
  have a2 := stay_c a2 hb1 (Nat.le_refl _)
  have a3 := stay_c a3 hb1 (Nat.le_refl _)
  have HM1 := Lib.hid hm1
  have HC1 := Lib.hid hc1
  have HB1 := Lib.hid hb1
  clear hm1 hc1 hb1 CS
  go_wp2_with fail
  refine (CF.out w1 HB1.out Bm Bc c1 c2 HM1.out HC1.out).mono ?_
  rintro e w2 ⟨hb2, ⟨hF, rfl⟩ | ⟨hT, _⟩⟩
  rotate_left
  ·cases hT
  have a0 := stay_c a0 hb2 (Nat.le_refl _)
  have a1 := stay_c a1 hb2 (Nat.le_refl _)
  have a2 := stay_c a2 hb2 (Nat.le_refl _)
  have a3 := stay_c a3 hb2 (Nat.le_refl _)
  have HB2 := Lib.hid (stay_b HB1.out hb2)
  clear hb2 HM1 HC1 HB1 CF
  go_wp2_with fail
  refine (CM.out w2 HB2.out).mono ?_
  rintro e w5 ⟨rfl, hb5⟩
  have a0 := stay_c a0 hb5 (Nat.le_refl _)
  have a1 := stay_c a1 hb5 (Nat.le_refl _)
  have a2 := stay_c a2 hb5 (Nat.le_refl _)
  have a3 := stay_c a3 hb5 (Nat.le_refl _)
  have HB5 := Lib.hid (stay_b HB2.out hb5)

  clear hb5 HB2 CM
  clear a0 a1 a2 a3 hF
  go_wp2
  go_ret
  exact ⟨rfl, stay_b HB0.out HB5.out⟩
 | true =>
  obtain ⟨Wn, Hn, rfl, rfl, hW, hH, hml⟩ := hdim hNB
  obtain ⟨hci, _⟩ := hcr hNB
  rw [hNB] at cM cF
  simp only [Int.toNat_natCast] at cF hci
  have hK4 : ∀ t ∈ trisL Wn mask, K4 t := fun t ht => (trisL_in (by omega) hml ht).2.2.2.2
  have hnd := sorted_nodup (hsh Wn Hn hW hH hml).tris_sorted
  have cO := fun (w' : World) (hb : Below (w.alloc (.cells #[.int .i64 (Wn : Int), .int .i64 (Hn : Int), .slice Am nm cm, .slice Ac nc cc] 25)).heap.size (w.alloc (.cells #[.int .i64 (Wn : Int), .int .i64 (Hn : Int), .slice Am nm cm, .slice Ac nc cc] 25)) w') => troublesOf_any Wn Hn Am Ac nm cm nc cc mask cs w' ((hsh Wn Hn hW hH hml).below hb) hci
  obtain ⟨L, hLe⟩ : ∃ L, L = trisL Wn mask := ⟨_, rfl⟩
  rw [← hLe] at cF cO hci hK4 hnd
  have hlaw := fun (ps ks : List P2) (hp : PtI (fun p => p ∈ cornersA L) ps) (hk : PtI (EndP cs) ks) => stars_law hci hK4 hnd hp hk
  have CS := Lib.hid cS
  have CM := Lib.hid cM
  have CF := Lib.hid cF
  have HSH := Lib.hid cO
  have HLAW := Lib.hid hlaw
  have HB0 := Lib.hid hb0
  clear cS cM cF hdim hsh hs hm hc hs0 hm0 hc0 hb0 kb0 hNB cO hLe hml hcr hci hK4 hnd hlaw
  go_enter Tryd.func7, Tryd.ntmps7
  go_wp2_with fail
  generalize w.alloc (.cells #[.int .i64 (Wn : Int), .int .i64 (Hn : Int), .slice Am nm cm, .slice Ac nc cc] 25) = w0 at a0 a1 a2 a3 CS CM CF HB0 HSH ⊢
  refine (CS.out w0 (Below.refl _ _)).mono ?_
  rintro e w1 ⟨Bm, c1, Bc, c2, rfl, hm1, hc1, hb1⟩
  have a0 := stay_c a0 hb1 (Nat.le_refl _)
  have a1 := stay_c a1 hb1 (Nat.le_refl _)
  have a2 := stay_c a2 hb1 (Nat.le_refl _)
  have a3 := stay_c a3 hb1 (Nat.le_refl _)
  have HM1 := Lib.hid hm1
  have HC1 := Lib.hid hc1
  have HB1 := Lib.hid hb1
  clear hm1 hc1 hb1 CS
  go_wp2_with fail
  refine (CF.out w1 HB1.out Bm Bc c1 c2 HM1.out HC1.out).mono ?_
  rintro e w2 ⟨hb2, ⟨hF, _⟩ | ⟨hT, vl, kl, hkl, hlb, rfl⟩⟩
  ·cases hF
  obtain ⟨S, hS⟩ : ∃ S, S = trbL (starsC L cs kl) := ⟨_, rfl⟩
  rw [← hS] at hlb
  obtain ⟨Al, cl, hvl, hcl, hcm⟩ := own_slice hlb
  have hSb : S.length ≤ 9223372036854775807 := by unfold maxLen at hcm; omega
  subst hvl
  have HRL := Lib.hid (Rd.of_own hlb)
  have HKL := Lib.hid hkl
  have HSE := Lib.hid hS
  clear hlb hkl hT hS
  have a0 := stay_c a0 hb2 (Nat.le_refl _)
  have a1 := stay_c a1 hb2 (Nat.le_refl _)
  have a2 := stay_c a2 hb2 (Nat.le_refl _)
  have a3 := stay_c a3 hb2 (Nat.le_refl _)
  have HB2 := Lib.hid (stay_b HB1.out hb2)
  clear hb2 HM1 HC1 HB1 CF
  go_wp2_with fail
  refine (CM.out w2 HB2.out).mono ?_
  rintro e w5 ⟨rfl, hb5⟩
  have a0 := stay_c a0 hb5 (Nat.le_refl _)
  have a1 := stay_c a1 hb5 (Nat.le_refl _)
  have a2 := stay_c a2 hb5 (Nat.le_refl _)
  have a3 := stay_c a3 hb5 (Nat.le_refl _)
  have HB5 := Lib.hid (stay_b HB2.out hb5)
  have HRL := Lib.hid (HRL.out.below hb5)
  clear hb5 HB2 CM
  go_wp2_with fail
  refine (HSH.out w5 HB5.out).mono ?_
  rintro e w6 ⟨vm, ps, rfl, hpp, hmb, hb6⟩
  have hle : trbL (starsD L cs ps) = S := by rw [← HLAW.out ps kl hpp HKL.out]; exact HSE.out.symm
  rw [hle] at hmb
  obtain ⟨Aq, cq, hvq, hcq, _⟩ := own_slice hmb
  subst hvq
  have HRM := Lib.hid (Rd.of_own hmb)
  have HB6 := Lib.hid (stay_b HB5.out hb6)
  have HRL := Lib.hid (HRL.out.below hb6)
  clear hb6 hpp hmb hle HB5 HSH a0 a1 a2 a3 HLAW HKL HSE
  go_wp2_with fail
  go_loopw [6] (fun x wr => ∃ k : Nat, k ≤ S.length ∧ x = .int .i64 k ∧ Hid (Below w6.heap.size w6 wr)) (fun x _ => S.length - (intOf x).toNat)
  case atStart => exact ⟨0, by omega, rfl, Lib.hid (Below.refl _ _)⟩
  case round =>
   obtain ⟨k, hk, rfl, hB⟩ := hrel
   by_cases hkF : k < S.length
   ·have hki : (k : Int) < (S.length : Int) := by omega
    obtain ⟨gl, ol, s, hAl, hs, y0, y1, y2⟩ := rdT_at (HRL.out.below hB.out) hkF
    obtain ⟨gm, om, s', hAm, hs', z0, z1, z2⟩ := rdT_at (HRM.out.below hB.out) hkF
    obtain rfl : s = s' := by rw [hs] at hs'; exact Option.some.inj hs'
    subst hAl
    subst hAm
    have r10 := neTr s
    clear hs hs'
    go_wp2_with fail
    have hS : wr.drew.cell? ⟨gl, ol + k * 3, none⟩ = some (.int .i64 s.1) ∧ wr.drew.cell? ⟨gl, ol + k * 3 + 1, none⟩ = some (.int .i64 s.2.1) ∧ wr.drew.cell? ⟨gl, ol + k * 3 + 2, none⟩ = some (.int .i64 s.2.2) ∧ wr.drew.cell? ⟨gm, om + k * 3, none⟩ = some (.int .i64 s.1) ∧ wr.drew.cell? ⟨gm, om + k * 3 + 1, none⟩ = some (.int .i64 s.2.1) ∧ wr.drew.cell? ⟨gm, om + k * 3 + 2, none⟩ = some (.int .i64 s.2.2) ∧ wr.drew = wr.drew := ⟨y0, y1, y2, z0, z1, z2, rfl⟩
    clear y0 y1 y2 z0 z1 z2
    go_region_held3 (fun w' => w'.cell? ⟨gl, ol + k * 3, none⟩ = some (.int .i64 s.1) ∧ w'.cell? ⟨gl, ol + k * 3 + 1, none⟩ = some (.int .i64 s.2.1) ∧ w'.cell? ⟨gl, ol + k * 3 + 2, none⟩ = some (.int .i64 s.2.2) ∧ w'.cell? ⟨gm, om + k * 3, none⟩ = some (.int .i64 s.1) ∧ w'.cell? ⟨gm, om + k * 3 + 1, none⟩ = some (.int .i64 s.2.1) ∧ w'.cell? ⟨gm, om + k * 3 + 2, none⟩ = some (.int .i64 s.2.2) ∧ w' = wr.drew)
     (first
      | with_reducible exact hS
      | with_reducible assumption)
     (first
      | fail)
    rename_i hSS
    clear hSS
    have HB9 := Lib.hid (stay_b hB.out (Below.refl _ _).drew)
    go_wp2
    go_roundw
    case rel => exact ⟨k + 1, by omega, by go_num, HB9⟩
    case measure => simp [intOf]; omega
   ·have hk2 : k = S.length := by omega
    subst hk2
    have hki : ¬ (S.length : Int) < (S.length : Int) := by omega
    go_wp2
    go_ret
    exact ⟨rfl, stay_b HB0.out (stay_b HB6.out hB.out)⟩
end
end Go.Proofs.YtoienokpchbglaaDoor
