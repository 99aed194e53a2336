/- Flat paper: plain words; pile.Placed.. fold.Flat. -/
import Derived.Test.YtbnkabmnenginaaGreatDoorK35
import Derived.Test.YtbnkabmnenginaaGreatDoorK36
import Derived.Test.YtbnkabmnenginaaGreatDoorK37
import Derived.Test.YtbnkabmnenginaaGreatDoorK28
import Derived.Test.YtbnkabmnenginaaGreatDoorK22
namespace Go.Proofs.YtbnkabmnenginaaGreatDoor
set_option linter.unusedSimpArgs false
set_option linter.unusedVariables false
section
open Go.RowKit Go.Maps
theorem newB_join {W H : Int} {mask : List Int} {cs : List C5} (h : newB W H mask cs = true) : joinB (trisL W.toNat mask) = true := by
 unfold newB at h
 simp only [Bool.and_eq_true] at h
 exact h.2.2
theorem moveV_still {t : T3} (h : K4 t) : moveV stillV t = t := by
 obtain ⟨x, y, e⟩ := k4_cases h
 have h1 : (2 * x + 1) / 2 = x := by omega
 have h2 : (2 * y + 1) / 2 = y := by omega
 rcases e with rfl | rfl | rfl | rfl <;> simp [moveV, moveT, stillV, ptB, cornX, cornY, ofK, h1, h2, stepX, stepY] <;> omega
theorem atsL_still {L : List T3} (h : ∀ t ∈ L, K4 t) : atsL L (List.replicate L.length stillV) = L := by
 apply List.ext_getElem?
 intro i
 unfold atsL
 rw [List.getElem?_map]
 by_cases hi : i < L.length
 ·rw [List.getElem?_range hi, List.getElem?_eq_getElem hi]
  simp only [Option.map_some, atI, List.getD_eq_getElem?_getD, List.getElem?_replicate, if_pos hi, List.getElem?_eq_getElem hi, Option.getD_some]
  rw [moveV_still (h _ (List.getElem_mem hi))]
 ·rw [List.getElem?_eq_none (by simp; omega), List.getElem?_eq_none (by omega)]
  rfl
theorem srt_uniq : ∀ {l m : List T3}, l.Pairwise triLt → m.Pairwise triLt → (∀ x, x ∈ l ↔ x ∈ m) → l = m
 | [], [], _, _, _ => rfl
 | [], b :: m, _, _, h => by have := (h b).2 (by simp); simp at this
 | a :: l, [], _, _, h => by have := (h a).1 (by simp); simp at this
 | a :: l, b :: m, h1, h2, h => by
  obtain ⟨p1, q1⟩ := List.pairwise_cons.1 h1
  obtain ⟨p2, q2⟩ := List.pairwise_cons.1 h2
  have hab : a = b := by
   rcases List.mem_cons.1 ((h a).1 (by simp)) with e | e
   ·exact e
   ·rcases List.mem_cons.1 ((h b).2 (by simp)) with e2 | e2
    ·exact e2.symm
    ·exact absurd (triLt_trans (p2 a e) (p1 b e2)) (triLt_irrefl _)
  subst hab
  rw [srt_uniq q1 q2 fun x => ⟨fun hx => ?_, fun hx => ?_⟩]
  ·rcases List.mem_cons.1 ((h x).1 (List.mem_cons_of_mem _ hx)) with e | e
   ·subst e; exact absurd (p1 x hx) (triLt_irrefl _)
   ·exact e
  ·rcases List.mem_cons.1 ((h x).2 (List.mem_cons_of_mem _ hx)) with e | e
   ·subst e; exact absurd (p2 x hx) (triLt_irrefl _)
   ·exact e
theorem grpA_one {L : List T3} (hs : L.Pairwise triLt) {i : Nat} {x : T3} (hx : L[i]? = some x) : grpA L L.length x = [i] := by
 have hn := grpA_nodup L L.length x
 have hm : ∀ j, j ∈ grpA L L.length x ↔ j = i := fun j => by
  rw [grpA_mem]
  constructor
  ·rintro ⟨h1, h2⟩
   have h3 := (List.getElem?_eq_some_iff.1 hx)
   have h4 := (List.getElem?_eq_some_iff.1 h2)
   rcases Nat.lt_trichotomy i j with h5 | h5 | h5
   ·exact absurd (h3.2.trans h4.2.symm) ((List.pairwise_iff_getElem.1 (sorted_nodup hs)) i j h3.1 h4.1 h5)
   ·exact h5.symm
   ·exact absurd (h4.2.trans h3.2.symm) ((List.pairwise_iff_getElem.1 (sorted_nodup hs)) j i h4.1 h3.1 h5)
  ·rintro rfl
   exact ⟨(List.getElem?_eq_some_iff.1 hx).1, hx⟩
 generalize grpA L L.length x = l at hn hm
 match l, hn, hm with
 | [], _, hm => exact absurd ((hm i).2 rfl) (by simp)
 | [a], _, hm => rw [(hm a).1 (by simp)]
 | a :: b :: l, hn, hm =>
  have h1 := (hm a).1 (by simp)
  have h2 := (hm b).1 (by simp)
  have h3 := (List.pairwise_cons.1 hn).1 b (by simp)
  exact absurd (h1.trans h2.symm) h3
def ones (L : List T3) : List Stk := L.map fun t => (t, [t])
theorem flat_stks {L : List T3} (hs : L.Pairwise triLt) {ss : List T3} (hn : ss.Nodup) (hm : ∀ x, x ∈ ss ↔ x ∈ L) {G : T3 → List Nat} (hG : ∀ x, (G x).Perm (grpA L L.length x)) : stkOf L G (srtT ss) = ones L := by
 have h1 : srtT ss = L := srt_uniq (srtT_sorted hn) hs fun x => by rw [(srtT_perm ss).mem_iff, hm]
 rw [h1]
 unfold stkOf ones
 refine List.map_congr_left fun x hx => ?_
 obtain ⟨i, hi⟩ := List.getElem?_of_mem hx
 have h2 := hG x
 rw [grpA_one hs hi] at h2
 rw [List.perm_singleton.1 h2]
 simp [trsOf, List.getD_eq_getElem?_getD, hi]
set_option maxRecDepth 100000 in
set_option maxHeartbeats 3200000 in
theorem placedP_any (pb nb kb W H B : Nat) (vm vc vt : Value) (L : List T3) (mn mk : Nat) (fk : E4 → Option Int) (w : World) (hs : Steps w) (hp : PapI w pb nb kb W H vm vc vt L mn mk fk) (ho : w.ownsRow B 59 3 vt L.length (tcT L))
    (hI : ∀ t ∈ L, In8 t) (hLl : L.length ≤ 1000) (hso : L.Pairwise triLt) (hj : joinB L = true)
    (hsm : ∀ l : List V6, l.length = L.length → Cns L.length (nbL L) (stpL L (facF fk)) stillV (fun i => l.getD i zeroV) → ∀ m ∈ l, Sm m.1 m.2.1 m.2.2.1 m.2.2.2.1 m.2.2.2.2.1 m.2.2.2.2.2) :
    Calls Tryz.prog 11 #[.pointer (some ⟨pb, 0, none⟩)] w fun r w' => Below w.heap.size w w' ∧
      (((¬ ∃ M, Cns L.length (nbL L) (stpL L (facF fk)) stillV M) ∧ r = .returned (.tuple #[.pointer none, .bool false])) ∨
       ∃ (l : List V6) (w1 : World) (gm xb gl mb : Nat) (va : Value), l.length = L.length ∧ Cns L.length (nbL L) (stpL L (facF fk)) stillV (fun i => l.getD i zeroV) ∧ Below w.heap.size w w1 ∧ LB w1 gm l ∧ w.heap.size ≤ gm ∧
        r = .returned (.tuple #[.pointer (some ⟨xb, 0, none⟩), .bool true]) ∧ PlcS w1 pb (.slice (some ⟨gm, 0, none⟩) L.length L.length) L l gl mb xb L.length va w') := by
  have cO := placeP_any pb nb kb W H B vm vc vt L mn mk fk w hs hp ho hI hLl hso hj
  have hL0 : 0 < L.length := by
    cases L with
    | nil => simp [joinB] at hj
    | cons a L0 => simp
  have CO := Lib.hid cO
  have HS := Lib.hid hs
  have HP := Lib.hid hp
  have HO := Lib.hid ho
  have HI := Lib.hid hI
  have HSM := Lib.hid hsm
  clear cO hs hp ho hI hso hj hsm
  go_enter Tryz.func11, Tryz.ntmps11
  go_wp2_with fail
  refine CO.out.mono ?_
  rintro r w3 ⟨hb3, ⟨hno, rfl⟩ | ⟨l, gm, hll, hcn, hlb, hgl, rfl⟩⟩
  · have HNO := Lib.hid hno
    have HB3 := Lib.hid hb3
    clear hno hb3 CO
    go_wp2
    exact bodyPost_ret (v := .tuple #[.pointer none, .bool false]) (by simp [results, Tryz.results11, go_sem]) rfl ⟨HB3.out, .inl ⟨(by first | exact HNO.out | exact not_exists.1 HNO.out), rfl⟩⟩
  · have hRd : Rd w3 6 (some ⟨gm, 0, none⟩) L.length (mcs l) := by
      have h0 : w3.heap[gm]? = _ := hlb
      refine ⟨by rw [mcs_len, hll], fun _ => ⟨gm, 0, rfl, blk_lt h0, fun j u hu => ?_⟩⟩
      rw [Nat.zero_add]
      exact (cell_of_blk h0 j).trans (by simpa using hu)
    have cP := placed_any pb nb kb W H _ _ _ _ L mn _ _ (some ⟨gm, 0, none⟩) L.length l w3 (HS.out.below hb3) (HP.out.below hb3) (od HO.out hb3) HI.out hLl hll hRd (HSM.out l hll hcn)
    have CP := Lib.hid cP
    have HLL := Lib.hid hll
    have HCNS := Lib.hid hcn
    have HLB := Lib.hid hlb
    have HB3 := Lib.hid hb3
    clear cP hll hcn hlb hb3 hRd CO
    go_wp2_with (go_at_call 28; refine CP.out.mono ?_; rintro r w5 ⟨xb, gl, mb, va, rfl, hP5⟩; have HP5 := Lib.hid hP5; clear CP hP5)
    exact bodyPost_ret (v := .tuple #[.pointer (some ⟨xb, 0, none⟩), .bool true]) (by simp [results, Tryz.results11, go_sem]) rfl ⟨HB3.out.trans (HP5.out.bel.mono HB3.out.size), .inr ⟨l, w3, gm, xb, gl, mb, va, HLL.out, HCNS.out, HB3.out, HLB.out, hgl, rfl, HP5.out⟩⟩
end
section
open Go.RowKit Go.Maps
set_option maxRecDepth 100000 in
set_option maxHeartbeats 6400000 in
theorem flat_any (W H : Int) (Am Ac : Option Addr) (nm cm nc cc : Nat) (mask : List Int) (cs : List C5) (w : World) (hs : Steps w) (hm : Rd w 1 Am nm (vis mask)) (hc : Rd w 5 Ac nc (ccs cs)) (hnm : nm * 8 ≤ 140737488351232) (hnc : nc * 40 ≤ 140737488351232) (hAm : Am = none → cm = 0) (hAc : Ac = none → cc = 0) :
    Calls Tryz.prog 4 #[.agg #[.int .i64 W, .int .i64 H, .slice Am nm cm, .slice Ac nc cc]] w fun e w' => Below w.heap.size w w' ∧
      ((newB W H mask cs = false ∧ e = .returned (.tuple #[.agg #[.int .i64 0, .int .i64 0, .slice none 0 0, .slice none 0 0, .slice none 0 0, .slice none 0 0], .int .i64 10])) ∨ (newB W H mask cs = true ∧ cs ≠ [] ∧ e = .returned (.tuple #[.agg #[.int .i64 0, .int .i64 0, .slice none 0 0, .slice none 0 0, .slice none 0 0, .slice none 0 0], .int .i64 4])) ∨
       (newB W H mask cs = true ∧ cs = [] ∧ ∃ Bm cm2 Bc cc2 Bp cp2 As2 cS2 n, n = (trisL W.toNat mask).length ∧ e = .returned (.tuple #[.agg #[.int .i64 W, .int .i64 H, .slice Bm nm cm2, .slice Bc nc cc2, .slice Bp n cp2, .slice As2 n cS2], .int .i64 0]) ∧ Rd w' 1 Bm nm (vis mask) ∧ Rd w' 5 Bc nc (ccs cs) ∧ Rd w' 6 Bp n (mcs (List.replicate n stillV)) ∧ StkW w' w.heap.size (.slice As2 n cS2) (ones (trisL W.toNat mask)))) := by
  have kb0 := blk_alloc (heap_alloc_new w (.cells #[.int .i64 W, .int .i64 H, .slice Am nm cm, .slice Ac nc cc] 25)) (.cells #[.int .i64 0, .int .i64 0, .slice none 0 0, .slice none 0 0, .slice none 0 0, .slice none 0 0] 29)
  have kr := heap_alloc_new (w.alloc (.cells #[.int .i64 W, .int .i64 H, .slice Am nm cm, .slice Ac nc cc] 25)) (.cells #[.int .i64 0, .int .i64 0, .slice none 0 0, .slice none 0 0, .slice none 0 0, .slice none 0 0] 29)
  rw [World.size_alloc] at kr
  have hb0 := ba (below_new w (.cells #[.int .i64 W, .int .i64 H, .slice Am nm cm, .slice Ac nc cc] 25)) (.cells #[.int .i64 0, .int .i64 0, .slice none 0 0, .slice none 0 0, .slice none 0 0, .slice none 0 0] 29)
  have a0 := cell_of_blk kb0 0
  have a1 := cell_of_blk kb0 1
  have a2 := cell_of_blk kb0 2
  have a3 := cell_of_blk kb0 3
  simp only [List.getElem?_toArray, List.getElem?_cons_zero, List.getElem?_cons_succ] at a0 a1 a2 a3
  have hncl : nc = cs.length := by
    have := hc.1
    rw [ccs_len] at this
    omega
  have cN := new_any W H Am Ac nm cm nc cc mask cs ((w.alloc (.cells #[.int .i64 W, .int .i64 H, .slice Am nm cm, .slice Ac nc cc] 25)).alloc (.cells #[.int .i64 0, .int .i64 0, .slice none 0 0, .slice none 0 0, .slice none 0 0, .slice none 0 0] 29)) (hs.below hb0) (hm.below hb0) (hc.below hb0) (by omega) (by omega)
  obtain ⟨NB, hNB⟩ : ∃ NB, NB = newB W H mask cs := ⟨_, rfl⟩
  have hjo := fun (h : newB W H mask cs = true) => newB_join h
  rw [← hNB] at cN hjo ⊢
  have CN := Lib.hid cN
  have HJO := Lib.hid hjo
  have HS := Lib.hid (hs.below hb0)
  have HM := Lib.hid (hm.below hb0)
  have HC := Lib.hid (hc.below hb0)
  have HB0 := Lib.hid hb0
  have KR := Lib.hid kr
  have HNC := Lib.hid hncl
  clear cN hs hm hc hNB hb0 kb0 kr hjo hncl
  go_enter Tryz.func4, Tryz.ntmps4
  go_wp2_with fail
  refine CN.out.mono ?_
  rintro e w1 ⟨hb1, ⟨hF, v, rfl⟩ | ⟨hT, Wn, Hn, pb, b0, nb, kb, mn, vt, rfl, rfl, hW, hH, hml, rfl, hN⟩⟩
  · have HBF := Lib.hid (stay_b HB0.out hb1)
    have KR1 := Lib.hid (blk_below KR.out hb1 (blk_lt KR.out))
    have HF := Lib.hid hF
    clear hF CN hb1 a0 a1 a2 a3
    have y0 := cell_of_blk KR1.out 0
    have y1 := cell_of_blk KR1.out 1
    have y2 := cell_of_blk KR1.out 2
    have y3 := cell_of_blk KR1.out 3
    have y4 := cell_of_blk KR1.out 4
    have y5 := cell_of_blk KR1.out 5
    simp only [List.getElem?_toArray, List.getElem?_cons_zero, List.getElem?_cons_succ] at y0 y1 y2 y3 y4 y5
    have yf := frozen_of_blk KR1.out
    have yl := blk_lt KR1.out
    go_wp2_with fail
    have hkF := blk_set6 KR1.out (.int .i64 0) (.int .i64 0) (.slice none 0 0) (.slice none 0 0) (.slice none 0 0) (.slice none 0 0)
    have hbF := below_set6 HBF.out (Nat.le_succ w.heap.size) (.int .i64 0) (.int .i64 0) (.slice none 0 0) (.slice none 0 0) (.slice none 0 0) (.slice none 0 0)
    generalize ((((((w1.setCell ⟨w.heap.size + 1, 0, none⟩ (.int .i64 0)).setCell ⟨w.heap.size + 1, 1, none⟩ (.int .i64 0)).setCell ⟨w.heap.size + 1, 2, none⟩ (.slice none 0 0)).setCell ⟨w.heap.size + 1, 3, none⟩ (.slice none 0 0)).setCell ⟨w.heap.size + 1, 4, none⟩ (.slice none 0 0)).setCell ⟨w.heap.size + 1, 5, none⟩ (.slice none 0 0)) = wF at hkF hbF ⊢
    have j0 := cell_of_blk hkF 0
    have j1 := cell_of_blk hkF 1
    have j2 := cell_of_blk hkF 2
    have j3 := cell_of_blk hkF 3
    have j4 := cell_of_blk hkF 4
    have j5 := cell_of_blk hkF 5
    simp only [List.getElem?_toArray, List.getElem?_cons_zero, List.getElem?_cons_succ] at j0 j1 j2 j3 j4 j5
    exact bodyPost_ret (v := .tuple #[.agg #[.int .i64 0, .int .i64 0, .slice none 0 0, .slice none 0 0, .slice none 0 0, .slice none 0 0], .int .i64 10]) (by simp [results, Tryz.results4, go_sem, j0, j1, j2, j3, j4, j5]) rfl ⟨hbF, .inl ⟨HF.out, rfl⟩⟩
  · have HB1 := Lib.hid (stay_b HB0.out hb1)
    have KR1 := Lib.hid (blk_below KR.out hb1 (blk_lt KR.out))
    replace a3 := sd a3 hb1
    have HT := Lib.hid hT
    by_cases hnil : cs = []
    · have hn0 : nc = 0 := by rw [HNC.out, hnil]; rfl
      subst hn0
      obtain ⟨L, hLe⟩ : ∃ L, L = trisL Wn mask := ⟨_, rfl⟩
      have hLe2 : trisL (Wn : Int).toNat mask = L := by rw [hLe]; rfl
      have hL : ∀ t ∈ trisL Wn mask, In8 t := fun t ht => by
        have := trisL_in (by omega) hml ht
        exact ⟨by omega, by omega, this.2.2.2.2⟩
      have hlen : (trisL Wn mask).length ≤ 1000 := by
        have h1 := trisL_len Wn mask
        have h2 : Wn * Hn ≤ 8 * 8 := Nat.mul_le_mul hW.2 hH.2
        omega
      have hso : (trisL Wn mask).Pairwise triLt := partT_sorted (by omega) mask _
      have hj := HJO.out hT
      rw [hLe2] at hj
      rw [← hLe] at hN hL hlen hso
      have hL0 : 0 < L.length := by
        cases L with
        | nil => simp [joinB] at hj
        | cons a L0 => simp
      have hfc : ∀ e, facF (kindF (cs.take cs.length)) e = true := fun e => by rw [hnil]; exact facF_nil e
      have hall : ∀ l : List V6, l.length = L.length → Cns L.length (nbL L) (stpL L (facF (kindF (cs.take cs.length)))) stillV (fun i => l.getD i zeroV) → l = List.replicate L.length stillV := fun l h1 h2 => still_all (sorted_nodup hso) (fun t ht => (hL t ht).2.2) hj hfc h1 h2
      have cP := placedP_any pb nb kb Wn Hn _ _ _ vt L mn _ _ w1 (HS.out.below hb1) hN.pap hN.own hL hlen hso hj (fun l h1 h2 m hm => by
        rw [hall l h1 h2] at hm
        rw [List.eq_of_mem_replicate hm]
        simp only [stillV]
        constructor <;> omega)
      have hcn0 : ∃ M, Cns L.length (nbL L) (stpL L (facF (kindF (cs.take cs.length)))) stillV M := ⟨_, still_cns hfc⟩
      have CP := Lib.hid cP
      have HALL := Lib.hid hall
      have HCN := Lib.hid hcn0
      have HL := Lib.hid hL
      have HSO := Lib.hid hso
      have HN := Lib.hid hN
      have HLE := Lib.hid hLe2
      have HNIL := Lib.hid hnil
      have hb1s := hb1.size
      have HM1 := Lib.hid (HM.out.below hb1)
      have HC1 := Lib.hid (HC.out.below hb1)
      clear hb1 hT hL hN CN hLe hLe2 hj hfc hall cP hcn0 hso hml hW hH a0 a1 a2 HJO HS hnil
      go_wp2_with fail
      refine CP.out.mono ?_
      rintro r w2 ⟨hb2, ⟨hno, rfl⟩ | ⟨l, w15, gm, xb, gl, mb, va, hll, hcn, hb15, hlb, hgm, rfl, hP⟩⟩
      · exact absurd HCN.out hno
      · have hle := HALL.out l hll hcn
        subst hle
        have hN := HN.out
        have hpap15 := hN.pap.below hb15
        have hpap2 := hpap15.below hP.bel
        have hown15 := od hN.own hb15
        have hown2 := od hown15 hP.bel
        have hats : atsL L (List.replicate L.length stillV) = L := atsL_still (fun t ht => (HL.out t ht).2.2)
        have hva := hP.own
        rw [List.take_of_length_le (by simp [atsL]), hats] at hva
        have hlev := hP.lev
        rw [show (Array.replicate L.length (Value.int .i64 0)) = (visN (List.replicate L.length 0)).toArray by simp [visN]] at hlev
        have cH := heap_any xb pb gl mb _ 13 #[] (fun a b => cmpI a b) _ va L (List.replicate L.length 0) w2 swoI (enters_of Tryz.func13 (by kernel_rfl) rfl) (fun W g size _ _ => cmpReadsI g size W) hL0 hlen (fun t ht => by have := HL.out t ht; unfold In8 K4 at this; unfold inR; omega) hP.pil hva (by simp) hlev
        have hgm15 := blk_lt (show w15.heap[gm]? = _ from hlb)
        have hrdm : Rd w2 6 (some ⟨gm, 0, none⟩) L.length (mcs (List.replicate L.length stillV)) := by
          have h0 : w15.heap[gm]? = _ := hlb
          have h1 := blk_below h0 hP.bel hgm15
          refine ⟨by rw [mcs_len, List.length_replicate], fun _ => ⟨gm, 0, rfl, blk_lt h1, fun j u hu => ?_⟩⟩
          rw [Nat.zero_add]
          exact (cell_of_blk h1 j).trans (by simpa using hu)
        have hge := hP.ge
        have hpb := blk_lt hN.pap.blk
        have hnb := hN.pap.num.lt
        have hkb := hN.pap.kin.lt
        have hs15 := hb15.size
        have hs2 := hP.bel.size
        have CH := Lib.hid cH
        have HPAP := Lib.hid hpap2
        have HOWN := Lib.hid hown2
        have HRDM := Lib.hid hrdm
        have HRM := Lib.hid (HM1.out.below hb2)
        have HRC := Lib.hid (HC1.out.below hb2)
        have HBW := Lib.hid (stay_b HB1.out hb2)
        have HB2 := Lib.hid hb2
        have HGM := Lib.hid (blk_below (show w15.heap[gm]? = _ from hlb) hP.bel hgm15)
        have KR2 := Lib.hid (blk_below KR1.out hb2 (blk_lt KR1.out))
        have hkr1 := blk_lt KR1.out
        have hb2s := hb2.size
        have hgmlt : gm < w2.heap.size := by omega
        have hgtB : ∀ k, vt.ownBlock = some k → k < w1.heap.size := fun k hk => (hN.own.lt k hk).2
        have HGT := Lib.hid hgtB
        have HML := Lib.hid (And.intro HM.out HC.out)
        clear hb2 hll hcn hb15 hlb hP hN hpap15 hpap2 hown15 hown2 hats hva hlev cH hrdm HN hgtB
        go_wp2_with (go_at_call 12; refine CH.out.mono ?_; rintro e w3 ⟨rfl, nP, f, G, ls, hnP, hpil, hPM, hfs, hGp, _, _, _, _, hkp⟩; have HPIL := Lib.hid hpil; have HPM := Lib.hid hPM; have HFS := Lib.hid hfs; have HGP := Lib.hid hGp; have HKP := Lib.hid hkp; clear hpil hPM hfs hGp hkp CH hnP)
        have hkp := HKP.out
        have hpap := HPAP.out
        have hpap3 : PapI w3 pb nb kb Wn Hn _ _ _ L mn _ _ := ⟨hkp.ob hpap.blk (by omega) (by omega), hpap.num.heap (hkp.blk nb hpap.num.lt (by omega) (by omega)), hpap.kin.heap (hkp.blk kb hpap.kin.lt (by omega) (by omega))⟩
        obtain ⟨gt, ct, curt, hvt, _, _, _, _⟩ := own_addr HOWN.out hL0
        subst hvt
        have hgt := HGT.out gt rfl
        have hown3 := own_kp2 HOWN.out hkp (fun e => by have := Option.some.inj (show some gt = some gl from e); omega) (fun e => by have := Option.some.inj (show some gt = some xb from e); omega)
        have hb13 : Below w1.heap.size w1 w3 := HB2.out.trans (hkp.out (by omega) (by omega) (by omega))
        have hgm3 := hkp.ob HGM.out (by omega) (by omega)
        have hrdm3 : Rd w3 6 (some ⟨gm, 0, none⟩) L.length (mcs (List.replicate L.length stillV)) := by
          refine ⟨by rw [mcs_len, List.length_replicate], fun _ => ⟨gm, 0, rfl, blk_lt hgm3, fun j u hu => ?_⟩⟩
          rw [Nat.zero_add]
          exact (cell_of_blk hgm3 j).trans (by simpa using hu)
        have hGi : ∀ x, ∀ i ∈ G x, i < L.length := fun x i hi => (grpA_mem.1 ((HGP.out x).mem_iff.1 hi)).1
        have hGn : ∀ x, (G x).length ≤ 1000 := fun x => by rw [(HGP.out x).length_eq]; have := grpA_len L L.length x; omega
        have hKs : ∀ ss : List T3, ss.Nodup → (∀ x ∈ ss, (f x).isSome = true) → ss.length ≤ 1000 := fun ss hn hx => Nat.le_trans (nodup_sub_len hn (fun x h => (HFS.out x).1 (hx x h))) hlen
        have hrc3 := HC1.out.below hb13
        have cS := state_any xb pb nb kb Wn Hn w2.heap.size _ w2.heap.size nP Am Ac (some ⟨gm, 0, none⟩) nm cm 0 cc L.length L.length ct gt mask cs (List.replicate L.length stillV) va _ L mn _ _ f G w3 hpap3 hown3 HPIL.out HPM.out (HM1.out.below hb13) hrc3 hrdm3 hnm (by omega) (by omega) hAm hAc (fun e => by cases e) hlen hGi hGn hKs
        have KR3 := Lib.hid (hkp.ob KR2.out (by omega) (by omega))
        have HBW3 := Lib.hid (HB1.out.trans (hb13.mono HB1.out.size))
        have hw3 := hb13.size
        clear hkp hpap hpap3 hown3 hb13 hgm3 hrdm3 hGi hGn hKs hrc3
        refine cS.mono ?_
        rintro e w4 ⟨Bm, cm2, Bc, cc2, Bp, cp2, As2, cS2, ss, rfl, r1, r2, r3, r4, hnd, hsm, hb4⟩
        have hss : srtT ss = L := srt_uniq (srtT_sorted hnd) HSO.out fun x => by rw [(srtT_perm ss).mem_iff, hsm, HFS.out]
        have hsl : ss.length = L.length := by rw [← (srtT_perm ss).length_eq, hss]
        rw [flat_stks HSO.out hnd (fun x => by rw [hsm, HFS.out]) HGP.out] at r4
        rw [hsl] at r4 ⊢
        have HR := Lib.hid (And.intro r1 (And.intro r2 (And.intro r3 r4)))
        have KR1 := Lib.hid (blk_below KR3.out hb4 (blk_lt KR3.out))
        have HB4 := Lib.hid (HBW3.out.trans (hb4.mono HBW3.out.size))
        clear cS r1 r2 r3 r4 hnd hsm hb4 hss hsl KR3
        have y0 := cell_of_blk KR1.out 0
        have y1 := cell_of_blk KR1.out 1
        have y2 := cell_of_blk KR1.out 2
        have y3 := cell_of_blk KR1.out 3
        have y4 := cell_of_blk KR1.out 4
        have y5 := cell_of_blk KR1.out 5
        simp only [List.getElem?_toArray, List.getElem?_cons_zero, List.getElem?_cons_succ] at y0 y1 y2 y3 y4 y5
        have yf := frozen_of_blk KR1.out
        have yl := blk_lt KR1.out
        go_wp2_with fail
        have kr1 := KR1.out
        have o1 := own_set6 HR.out.1 kr1 (by decide) (.int .i64 (Wn : Int)) (.int .i64 (Hn : Int)) (.slice Bm nm cm2) (.slice Bc 0 cc2) (.slice Bp L.length cp2) (.slice As2 L.length cS2)
        have o2 := own_set6 HR.out.2.1 kr1 (by decide) (.int .i64 (Wn : Int)) (.int .i64 (Hn : Int)) (.slice Bm nm cm2) (.slice Bc 0 cc2) (.slice Bp L.length cp2) (.slice As2 L.length cS2)
        have o3 := own_set6 HR.out.2.2.1 kr1 (by decide) (.int .i64 (Wn : Int)) (.int .i64 (Hn : Int)) (.slice Bm nm cm2) (.slice Bc 0 cc2) (.slice Bp L.length cp2) (.slice As2 L.length cS2)
        have o4 := HR.out.2.2.2.set6 kr1 (by decide) (by decide) (.int .i64 (Wn : Int)) (.int .i64 (Hn : Int)) (.slice Bm nm cm2) (.slice Bc 0 cc2) (.slice Bp L.length cp2) (.slice As2 L.length cS2)
        have hkF := blk_set6 kr1 (.int .i64 (Wn : Int)) (.int .i64 (Hn : Int)) (.slice Bm nm cm2) (.slice Bc 0 cc2) (.slice Bp L.length cp2) (.slice As2 L.length cS2)
        have hbF := below_set6 HB4.out (Nat.le_succ w.heap.size) (.int .i64 (Wn : Int)) (.int .i64 (Hn : Int)) (.slice Bm nm cm2) (.slice Bc 0 cc2) (.slice Bp L.length cp2) (.slice As2 L.length cS2)
        generalize ((((((w4.setCell ⟨w.heap.size + 1, 0, none⟩ (.int .i64 (Wn : Int))).setCell ⟨w.heap.size + 1, 1, none⟩ (.int .i64 (Hn : Int))).setCell ⟨w.heap.size + 1, 2, none⟩ (.slice Bm nm cm2)).setCell ⟨w.heap.size + 1, 3, none⟩ (.slice Bc 0 cc2)).setCell ⟨w.heap.size + 1, 4, none⟩ (.slice Bp L.length cp2)).setCell ⟨w.heap.size + 1, 5, none⟩ (.slice As2 L.length cS2)) = wF at hkF hbF o1 o2 o3 o4 ⊢
        have j0 := cell_of_blk hkF 0
        have j1 := cell_of_blk hkF 1
        have j2 := cell_of_blk hkF 2
        have j3 := cell_of_blk hkF 3
        have j4 := cell_of_blk hkF 4
        have j5 := cell_of_blk hkF 5
        simp only [List.getElem?_toArray, List.getElem?_cons_zero, List.getElem?_cons_succ] at j0 j1 j2 j3 j4 j5
        exact bodyPost_ret (v := .tuple #[.agg #[.int .i64 (Wn : Int), .int .i64 (Hn : Int), .slice Bm nm cm2, .slice Bc 0 cc2, .slice Bp L.length cp2, .slice As2 L.length cS2], .int .i64 0]) (by simp [results, Tryz.results4, go_sem, j0, j1, j2, j3, j4, j5]) rfl ⟨hbF, .inr (.inr ⟨HT.out, HNIL.out, Bm, cm2, Bc, cc2, Bp, cp2, As2, cS2, L.length, by rw [HLE.out], rfl, Rd.of_own o1, Rd.of_own o2, Rd.of_own o3, by rw [HLE.out]; exact o4.mono (by omega)⟩)⟩
    · have hnc0 : (0 : Int) < (nc : Int) := by
        have h1 := HNC.out
        have h2 := List.length_pos_iff.2 hnil
        omega
      have HNIL := Lib.hid hnil
      clear hnil hb1 hT hN CN hml hW hH a0 a1 a2 HJO HS HM HC KR HB0
      have y0 := cell_of_blk KR1.out 0
      have y1 := cell_of_blk KR1.out 1
      have y2 := cell_of_blk KR1.out 2
      have y3 := cell_of_blk KR1.out 3
      have y4 := cell_of_blk KR1.out 4
      have y5 := cell_of_blk KR1.out 5
      simp only [List.getElem?_toArray, List.getElem?_cons_zero, List.getElem?_cons_succ] at y0 y1 y2 y3 y4 y5
      have yf := frozen_of_blk KR1.out
      have yl := blk_lt KR1.out
      go_wp2_with fail
      have hkF := blk_set6 KR1.out (.int .i64 0) (.int .i64 0) (.slice none 0 0) (.slice none 0 0) (.slice none 0 0) (.slice none 0 0)
      have hbF := below_set6 HB1.out (Nat.le_succ w.heap.size) (.int .i64 0) (.int .i64 0) (.slice none 0 0) (.slice none 0 0) (.slice none 0 0) (.slice none 0 0)
      generalize ((((((w1.setCell ⟨w.heap.size + 1, 0, none⟩ (.int .i64 0)).setCell ⟨w.heap.size + 1, 1, none⟩ (.int .i64 0)).setCell ⟨w.heap.size + 1, 2, none⟩ (.slice none 0 0)).setCell ⟨w.heap.size + 1, 3, none⟩ (.slice none 0 0)).setCell ⟨w.heap.size + 1, 4, none⟩ (.slice none 0 0)).setCell ⟨w.heap.size + 1, 5, none⟩ (.slice none 0 0)) = wF at hkF hbF ⊢
      have j0 := cell_of_blk hkF 0
      have j1 := cell_of_blk hkF 1
      have j2 := cell_of_blk hkF 2
      have j3 := cell_of_blk hkF 3
      have j4 := cell_of_blk hkF 4
      have j5 := cell_of_blk hkF 5
      simp only [List.getElem?_toArray, List.getElem?_cons_zero, List.getElem?_cons_succ] at j0 j1 j2 j3 j4 j5
      exact bodyPost_ret (v := .tuple #[.agg #[.int .i64 0, .int .i64 0, .slice none 0 0, .slice none 0 0, .slice none 0 0, .slice none 0 0], .int .i64 4]) (by simp [results, Tryz.results4, go_sem, j0, j1, j2, j3, j4, j5]) rfl ⟨hbF, .inr (.inl ⟨HT.out, HNIL.out, rfl⟩)⟩
end
end Go.Proofs.YtbnkabmnenginaaGreatDoor
