/- pleatlaw.sameInts. pleatlaw.FacesStars, walked. Printed by gen_ss.py. -/
import Derived.Test.YtoienokpchbglaaDoorGr10
import Derived.Test.YtoienokpchbglaaDoorSr
import Derived.Test.YtoienokpchbglaaDoorSd
import Derived.Test.YtoienokpchbglaaDoorSo
namespace Go.Proofs.YtoienokpchbglaaDoor
set_option linter.unusedSimpArgs false
set_option linter.unusedVariables false
section
open Go.RowKit

set_option maxRecDepth 100000 in
/-- Are two lists the same? -/
theorem sameInts_any (A B : Option Addr) (n m c d : Nat) (xs ys : List Int) (w : World) (hx : Rd w 1 A n (vis xs)) (hy : Rd w 1 B m (vis ys)) (hn : n ≤ 9223372036854775807) (hm : m ≤ 9223372036854775807) :
  Calls Tryd.prog 22 #[.slice A n c, .slice B m d] w fun e w' => e = .returned (.bool (decide (xs = ys))) ∧ Below w.heap.size w w' := by
 have hxl := hx.ints_len
 have hyl := hy.ints_len
 by_cases hnm : n = m
 ·subst hnm
  have HX := Lib.hid hxl
  have HY := Lib.hid hyl
  clear hxl hyl
  go_enter Tryd.func22, Tryd.ntmps22
  go_wp2
  go_loopw [5] (fun i wr => ∃ k : Nat, k ≤ n ∧ i = .int .i64 k ∧ Hid (xs.take k = ys.take k) ∧ Below w.heap.size w wr) (fun i _ => n - (intOf i).toNat)
  case atStart => exact ⟨0, Nat.zero_le _, rfl, Lib.hid rfl, Below.refl _ _⟩
  case round =>
   obtain ⟨k, hk, rfl, heq, hb⟩ := hrel
   by_cases hlt : k < n
   ·obtain ⟨b1, o1, x, hA, hb1, hx1, hc1⟩ := (hx.below hb).int hlt
    obtain ⟨b2, o2, y, hB, hb2, hy1, hc2⟩ := (hy.below hb).int hlt
    have HX1 := Lib.hid hx1
    have HY1 := Lib.hid hy1
    have hki : (k : Int) < (n : Int) := by omega
    clear hx1 hy1
    subst hA
    subst hB
    by_cases hxy : x = y
    ·subst hxy
     go_wp2
     go_quiet (fail)
     go_wp2
     go_roundw
     case rel => exact ⟨k + 1, by omega, by go_num, Lib.hid (by rw [List.take_add_one, List.take_add_one, HX1.out, HY1.out, heq.out]), below_drewN hb _⟩
     case measure => simp [intOf]; omega
    ·have hne : (x != y) = true := by simpa using hxy
     go_wp2
     go_quiet (fail)
     go_wp2
     go_ret
     refine ⟨ret_bool ?_, below_drewN hb _⟩
     have : ¬ xs = ys := by
      rintro rfl
      have h1 := HX1.out.symm.trans HY1.out
      injection h1 with h1
      exact hxy h1
     simp [this]
   ·have hfin : xs = ys := by
     have h1 := heq.out
     rw [List.take_of_length_le (by rw [HX.out]; omega), List.take_of_length_le (by rw [HY.out]; omega)] at h1
     exact h1
    have HF := Lib.hid hfin
    clear hfin
    go_wp2
    go_ret
    exact ⟨ret_bool (by simp [HF.out]), hb⟩
 ·have hne : ((n : Int) != (m : Int)) = true := by simp; omega
  have hxy : ¬ xs = ys := by rintro rfl; omega
  have HXY := Lib.hid hxy
  clear hxl hyl hnm hxy
  go_enter Tryd.func22, Tryd.ntmps22
  go_wp2
  go_ret
  exact ⟨ret_bool (by simp [HXY.out]), Below.refl _ _⟩
end
section
open Go.RowKit Go.Maps

theorem newB_dim8 {W H : Int} {mask : List Int} {cs : List C5} (h : newB W H mask cs = true) : ∃ Wn Hn : Nat, W = Wn ∧ H = Hn ∧ (1 ≤ Wn ∧ Wn ≤ 8) ∧ (1 ≤ Hn ∧ Hn ≤ 8) ∧ mask.length = Wn * Hn := by
 unfold newB at h
 simp only [Bool.and_eq_true, cellsB, decide_eq_true_eq] at h
 obtain ⟨⟨⟨⟨h1, h2⟩, h3⟩, _⟩, _⟩ := h
 obtain ⟨Wn, rfl⟩ := Int.eq_ofNat_of_zero_le (show 0 ≤ W by omega)
 obtain ⟨Hn, rfl⟩ := Int.eq_ofNat_of_zero_le (show 0 ≤ H by omega)
 refine ⟨Wn, Hn, rfl, rfl, by omega, by omega, ?_⟩
 have : (mask.length : Int) = ((Wn * Hn : Nat) : Int) := by rw [h3]; simp
 omega
theorem nePd (p : P2) (w : World) : (binOp .neq 49 (.agg #[.int .i64 p.1, .int .i64 p.2]) (.agg #[.int .i64 p.1, .int .i64 p.2])).run Tryd.prog w = .ok (.bool false) w := by
 obtain ⟨a, b⟩ := p
 simp [go_sem]
theorem own_len_le {w : World} {base : Nat} {v : Value} {ss : List St3} {zs : List Z3} (h : StarsW w base v ss zs) {j : Nat} {s : St3} (hj : ss[j]? = some s) : s.2.1.length ≤ 9223372036854775807 ∧ s.2.2.length ≤ 9223372036854775807 := by
 obtain ⟨dv, kv, h1, h2, h3⟩ := h.row j s hj
 obtain ⟨Ad, cd, _, h4, h5⟩ := own_slice h2
 obtain ⟨Ak, ck, _, h6, h7⟩ := own_slice h3
 unfold maxLen at h5 h7
 omega
theorem StarsW.at_ {w : World} {base c : Nat} {A : Option Addr} {ss : List St3} {zs : List Z3} (h : StarsW w base (.slice A ss.length c) ss zs) {j : Nat} {s : St3} (hj : ss[j]? = some s) :
  ∃ g Ad cd Ak ck, A = some ⟨g, 0, none⟩ ∧ w.cell? ⟨g, j * 4, none⟩ = some (.int .i64 s.1.1) ∧ w.cell? ⟨g, j * 4 + 1, none⟩ = some (.int .i64 s.1.2) ∧ w.cell? ⟨g, j * 4 + 2, none⟩ = some (.slice Ad s.2.1.length cd) ∧ w.cell? ⟨g, j * 4 + 3, none⟩ = some (.slice Ak s.2.2.length ck) ∧ Rd w 1 Ad s.2.1.length (vis s.2.1) ∧ Rd w 1 Ak s.2.2.length (vis s.2.2) := by
 obtain ⟨dv, kv, h1, h2, h3⟩ := h.row j s hj
 have hl := (List.getElem?_eq_some_iff.1 hj).1
 obtain ⟨g, cp, cur, hA, _, _, _, _⟩ := own_addr h.own (by omega)
 cases hA
 obtain ⟨Ad, cd, rfl, _, _⟩ := own_slice h2
 obtain ⟨Ak, ck, rfl, _, _⟩ := own_slice h3
 obtain ⟨e0, e1, e2, e3⟩ := zcs_at h1
 exact ⟨g, Ad, cd, Ak, ck, rfl, (h.own.cellAt (j * 4) (by omega)).trans e0, (h.own.cellAt (j * 4 + 1) (by omega)).trans e1, (h.own.cellAt (j * 4 + 2) (by omega)).trans e2, (h.own.cellAt (j * 4 + 3) (by omega)).trans e3, Rd.of_own h2, Rd.of_own h3⟩
set_option maxRecDepth 100000 in
set_option maxHeartbeats 12800000 in
theorem stars_walk (W H : Int) (Am Ac : Option Addr) (nm cm nc cc : Nat) (mask : List Int) (cs : List C5) (w : World) (hs : Steps w) (hm : Rd w 1 Am nm (vis mask)) (hc : Rd w 5 Ac nc (ccs cs)) (hAm : Am = none → cm = 0) (hAc : Ac = none → cc = 0) (hnm : nm * 8 ≤ 140737488351232) (hnc : nc * 40 ≤ 140737488351232) :
  Calls Tryd.prog 5 #[.agg #[.int .i64 W, .int .i64 H, .slice Am nm cm, .slice Ac nc cc]] w fun e w' => e = .returned (.bool true) ∧ Below w.heap.size w w' := by
 have kb0 := heap_alloc_new w (.cells #[.int .i64 W, .int .i64 H, .slice Am nm cm, .slice Ac nc cc] 25)
 have hb0 := below_new w (.cells #[.int .i64 W, .int .i64 H, .slice Am nm cm, .slice Ac nc cc] 25)
 have a0 := cell_of_blk kb0 0
 have a1 := cell_of_blk kb0 1
 have a2 := cell_of_blk kb0 2
 have a3 := cell_of_blk kb0 3
 simp only [List.getElem?_toArray, List.getElem?_cons_zero, List.getElem?_cons_succ] at a0 a1 a2 a3
 have hnm2 : nm ≤ 140737488351232 := by omega
 have hnc2 : nc ≤ 140737488351232 := by omega
 have hs0 := hs.below hb0
 have hm0 := hm.below hb0
 have hc0 := hc.below hb0
 have cS := fun (w' : World) (hb : Below (w.alloc (.cells #[.int .i64 W, .int .i64 H, .slice Am nm cm, .slice Ac nc cc] 25)).heap.size (w.alloc (.cells #[.int .i64 W, .int .i64 H, .slice Am nm cm, .slice Ac nc cc] 25)) w') => sheetOf_any W H Am Ac nm cm nc cc mask cs w' (hm0.below hb) (hc0.below hb) hnm hnc hAm hAc
 have cM := fun (w' : World) (hb : Below (w.alloc (.cells #[.int .i64 W, .int .i64 H, .slice Am nm cm, .slice Ac nc cc] 25)).heap.size (w.alloc (.cells #[.int .i64 W, .int .i64 H, .slice Am nm cm, .slice Ac nc cc] 25)) w') => sheetMay_any W H Am Ac nm cm nc cc mask cs w' (hm0.below hb) (hc0.below hb) hnm2 hnc2
 have cF := fun (w' : World) (hb : Below (w.alloc (.cells #[.int .i64 W, .int .i64 H, .slice Am nm cm, .slice Ac nc cc] 25)).heap.size (w.alloc (.cells #[.int .i64 W, .int .i64 H, .slice Am nm cm, .slice Ac nc cc] 25)) w') (Bm Bc : Option Addr) (c1 c2 : Nat) (hm1 : Rd w' 1 Bm nm (vis mask)) (hc1 : Rd w' 5 Bc nc (ccs cs)) => stars_any W H Bm Bc nm c1 nc c2 mask cs w' (hs0.below hb) hm1 hc1 hnm2 hnc2
 have hdim := newB_dim8 (W := W) (H := H) (mask := mask) (cs := cs)
 have hcr := fun (h : newB W H mask cs = true) => crI_of (newB_creases h)
 have hsh := fun (Wn Hn : Nat) (hW : 1 ≤ Wn ∧ Wn ≤ 8) (hH : 1 ≤ Hn ∧ Hn ≤ 8) (hl : mask.length = Wn * Hn) => (⟨hW, hH, hl, hm0, hc0, hnc2⟩ : ShM (w.alloc (.cells #[.int .i64 W, .int .i64 H, .slice Am nm cm, .slice Ac nc cc] 25)) Wn Hn Am nm mask Ac nc cs)
 cases hNB : newB W H mask cs with
 | false =>
  rw [hNB] at cM cF
  have CS := Lib.hid cS
  have CM := Lib.hid cM
  have CF := Lib.hid cF
  have HB0 := Lib.hid hb0
  clear cS cM cF hdim hsh hs hm hc hs0 hm0 hc0 hb0 kb0 hNB hcr
  go_enter Tryd.func5, Tryd.ntmps5
  go_wp2_with fail
  generalize w.alloc (.cells #[.int .i64 W, .int .i64 H, .slice Am nm cm, .slice Ac nc cc] 25) = w0 at a0 a1 a2 a3 CS CM CF HB0 ⊢
  refine (CS.out w0 (Below.refl _ _)).mono ?_
  rintro e w1 ⟨Bm, c1, Bc, c2, rfl, hm1, hc1, hb1⟩
  have a0 := stay_c a0 hb1 (Nat.le_refl _)
  have a1 := stay_c a1 hb1 (Nat.le_refl _)
  have a2 := stay_c a2 hb1 (Nat.le_refl _)
  have a3 := stay_c a3 hb1 (Nat.le_refl _)
  have HM1 := Lib.hid hm1
  have HC1 := Lib.hid hc1
  have HB1 := Lib.hid hb1
  clear hm1 hc1 hb1 CS
  go_wp2_with fail
  refine (CF.out w1 HB1.out Bm Bc c1 c2 HM1.out HC1.out).mono ?_
  rintro e w2 ⟨hb2, ⟨hF, rfl⟩ | ⟨hT, _⟩⟩
  rotate_left
  ·cases hT
  have a0 := stay_c a0 hb2 (Nat.le_refl _)
  have a1 := stay_c a1 hb2 (Nat.le_refl _)
  have a2 := stay_c a2 hb2 (Nat.le_refl _)
  have a3 := stay_c a3 hb2 (Nat.le_refl _)
  have HB2 := Lib.hid (stay_b HB1.out hb2)
  clear hb2 HM1 HC1 HB1 CF
  go_wp2_with fail
  refine (CM.out w2 HB2.out).mono ?_
  rintro e w5 ⟨rfl, hb5⟩
  have a0 := stay_c a0 hb5 (Nat.le_refl _)
  have a1 := stay_c a1 hb5 (Nat.le_refl _)
  have a2 := stay_c a2 hb5 (Nat.le_refl _)
  have a3 := stay_c a3 hb5 (Nat.le_refl _)
  have HB5 := Lib.hid (stay_b HB2.out hb5)

  clear hb5 HB2 CM
  clear a0 a1 a2 a3 hF
  go_wp2
  go_ret
  exact ⟨rfl, stay_b HB0.out HB5.out⟩
 | true =>
  obtain ⟨Wn, Hn, rfl, rfl, hW, hH, hml⟩ := hdim hNB
  obtain ⟨hci, _⟩ := hcr hNB
  rw [hNB] at cM cF
  simp only [Int.toNat_natCast] at cF hci
  have hK4 : ∀ t ∈ trisL Wn mask, K4 t := fun t ht => (trisL_in (by omega) hml ht).2.2.2.2
  have hnd := sorted_nodup (hsh Wn Hn hW hH hml).tris_sorted
  have cO := fun (w' : World) (hb : Below (w.alloc (.cells #[.int .i64 (Wn : Int), .int .i64 (Hn : Int), .slice Am nm cm, .slice Ac nc cc] 25)).heap.size (w.alloc (.cells #[.int .i64 (Wn : Int), .int .i64 (Hn : Int), .slice Am nm cm, .slice Ac nc cc] 25)) w') => starsD_any Wn Hn Am Ac nm cm nc cc mask cs w' ((hsh Wn Hn hW hH hml).below hb) hci
  obtain ⟨L, hLe⟩ : ∃ L, L = trisL Wn mask := ⟨_, rfl⟩
  rw [← hLe] at cF cO hci hK4 hnd
  have hlaw := fun (ps ks : List P2) (hp : PtI (fun p => p ∈ cornersA L) ps) (hk : PtI (EndP cs) ks) => stars_law hci hK4 hnd hp hk
  have CS := Lib.hid cS
  have CM := Lib.hid cM
  have CF := Lib.hid cF
  have HSH := Lib.hid cO
  have HLAW := Lib.hid hlaw
  have HB0 := Lib.hid hb0
  clear cS cM cF hdim hsh hs hm hc hs0 hm0 hc0 hb0 kb0 hNB cO hLe hml hcr hci hK4 hnd hlaw
  go_enter Tryd.func5, Tryd.ntmps5
  go_wp2_with fail
  generalize w.alloc (.cells #[.int .i64 (Wn : Int), .int .i64 (Hn : Int), .slice Am nm cm, .slice Ac nc cc] 25) = w0 at a0 a1 a2 a3 CS CM CF HB0 HSH ⊢
  refine (CS.out w0 (Below.refl _ _)).mono ?_
  rintro e w1 ⟨Bm, c1, Bc, c2, rfl, hm1, hc1, hb1⟩
  have a0 := stay_c a0 hb1 (Nat.le_refl _)
  have a1 := stay_c a1 hb1 (Nat.le_refl _)
  have a2 := stay_c a2 hb1 (Nat.le_refl _)
  have a3 := stay_c a3 hb1 (Nat.le_refl _)
  have HM1 := Lib.hid hm1
  have HC1 := Lib.hid hc1
  have HB1 := Lib.hid hb1
  clear hm1 hc1 hb1 CS
  go_wp2_with fail
  refine (CF.out w1 HB1.out Bm Bc c1 c2 HM1.out HC1.out).mono ?_
  rintro e w2 ⟨hb2, ⟨hF, _⟩ | ⟨hT, vl, zl, kl, hkl, hlb, rfl⟩⟩
  ·cases hF
  obtain ⟨S, hS⟩ : ∃ S, S = starsC L cs kl := ⟨_, rfl⟩
  rw [← hS] at hlb
  obtain ⟨Al, cl, hvl, hcl, hcm⟩ := own_slice hlb.own
  have hSb : S.length ≤ 9223372036854775807 := by unfold maxLen at hcm; omega
  subst hvl
  have HLB := Lib.hid hlb
  have HKL := Lib.hid hkl
  have HSE := Lib.hid hS
  clear hlb hkl hT hS
  have a0 := stay_c a0 hb2 (Nat.le_refl _)
  have a1 := stay_c a1 hb2 (Nat.le_refl _)
  have a2 := stay_c a2 hb2 (Nat.le_refl _)
  have a3 := stay_c a3 hb2 (Nat.le_refl _)
  have HB2 := Lib.hid (stay_b HB1.out hb2)
  clear hb2 HM1 HC1 HB1 CF
  go_wp2_with fail
  refine (CM.out w2 HB2.out).mono ?_
  rintro e w5 ⟨rfl, hb5⟩
  have a0 := stay_c a0 hb5 (Nat.le_refl _)
  have a1 := stay_c a1 hb5 (Nat.le_refl _)
  have a2 := stay_c a2 hb5 (Nat.le_refl _)
  have a3 := stay_c a3 hb5 (Nat.le_refl _)
  have HB5 := Lib.hid (stay_b HB2.out hb5)
  have HLB := Lib.hid (HLB.out.below hb5 (Nat.le_refl _))
  clear hb5 HB2 CM
  go_wp2_with fail
  refine (HSH.out w5 HB5.out).mono ?_
  rintro e w6 ⟨vm, zm, ps, rfl, hpp, hmb, hb6⟩
  have hle : starsD L cs ps = S := by rw [← HLAW.out ps kl hpp HKL.out]; exact HSE.out.symm
  rw [hle] at hmb
  obtain ⟨Aq, cq, hvq, hcq, _⟩ := own_slice hmb.own
  subst hvq
  have HB6 := Lib.hid (stay_b HB5.out hb6)
  have HLB := Lib.hid (HLB.out.below hb6 (Nat.le_refl _))
  have HMB := Lib.hid hmb
  clear hb6 hpp hmb hle HB5 HSH a0 a1 a2 a3 HLAW HKL HSE
  go_wp2_with fail
  go_loopw [6] (fun x wr => ∃ k : Nat, k ≤ S.length ∧ x = .int .i64 k ∧ Hid (Below w6.heap.size w6 wr)) (fun x _ => S.length - (intOf x).toNat)
  case atStart => exact ⟨0, by omega, rfl, Lib.hid (Below.refl _ _)⟩
  case round =>
   obtain ⟨k, hk, rfl, hB⟩ := hrel
   by_cases hkF : k < S.length
   ·have hki : (k : Int) < (S.length : Int) := by omega
    obtain ⟨s, hs⟩ : ∃ s, S[k]? = some s := ⟨_, List.getElem?_eq_getElem hkF⟩
    obtain ⟨gl, A1, d1, A2, d2, hAl, y0, y1, y2, y3, hr1, hr2⟩ := (HLB.out.below hB.out (Nat.le_refl _)).at_ hs
    obtain ⟨gm, A3, d3, A4, d4, hAm, z0, z1, z2, z3, hr3, hr4⟩ := (HMB.out.below hB.out (Nat.le_refl _)).at_ hs
    subst hAl
    subst hAm
    have hn1 : s.2.1.length ≤ 9223372036854775807 := own_len_le HLB.out hs |>.1
    have hn2 : s.2.2.length ≤ 9223372036854775807 := own_len_le HLB.out hs |>.2
    have cA := fun (W : World) (hb : Below wr.heap.size wr W) => sameInts_any A1 A3 s.2.1.length s.2.1.length d1 d3 s.2.1 s.2.1 W (hr1.below hb) (hr3.below hb) hn1 hn1
    have cB := fun (W : World) (hb : Below wr.heap.size wr W) => sameInts_any A2 A4 s.2.2.length s.2.2.length d2 d4 s.2.2 s.2.2 W (hr2.below hb) (hr4.below hb) hn2 hn2
    simp only [decide_true] at cA cB
    have r10 := nePd s.1
    obtain ⟨p, hp⟩ : ∃ p, p = s.1 := ⟨_, rfl⟩
    obtain ⟨n1, hn1'⟩ : ∃ n, n = s.2.1.length := ⟨_, rfl⟩
    obtain ⟨n2, hn2'⟩ : ∃ n, n = s.2.2.length := ⟨_, rfl⟩
    rw [← hp] at r10 y0 y1 z0 z1
    rw [← hn1'] at y2 z2 cA
    rw [← hn2'] at y3 z3 cB
    have CA := Lib.hid cA
    have CB := Lib.hid cB
    clear cA cB hr1 hr2 hr3 hr4 hs hp hn1' hn2' hn1 hn2
    obtain ⟨wi, hwi⟩ : ∃ x, x = wr := ⟨_, rfl⟩
    subst hwi
    go_upto_region 10 with fail
    refine wp_region_inv (fun Lq aq WN => ∃ s : Nat → Value, aq = { tmps := #[.agg #[.int .i64 ((Wn : Nat) : Int), .int .i64 ((Hn : Nat) : Int), .slice Am nm cm, .slice Ac nc cc], .pointer (some ⟨w.heap.size, 0, none⟩), u2, .slice (some ⟨gl, 0, none⟩) S.length cl, .int .i64 0, .slice (some ⟨gm, 0, none⟩) S.length cq, .int .i64 ((k : Nat) : Int), .tuple #[.slice (some ⟨gl, 0, none⟩) S.length cl, .int .i64 0], .agg #[.int .i64 ((Wn : Nat) : Int), .int .i64 ((Hn : Nat) : Int), .slice Am nm cm, .slice Ac nc cc], .agg #[.int .i64 ((Wn : Nat) : Int), .int .i64 ((Hn : Nat) : Int), .slice Bm nm c1, .slice Bc nc c2], .tuple #[.slice (some ⟨gl, 0, none⟩) S.length cl, .int .i64 0], .slice (some ⟨gl, 0, none⟩) S.length cl, .int .i64 0, .agg #[.int .i64 ((Wn : Nat) : Int), .int .i64 ((Hn : Nat) : Int), .slice Am nm cm, .slice Ac nc cc], .bool true, .bool false, undef, undef, undef, undef, undef, undef, undef, .agg #[.int .i64 ((Wn : Nat) : Int), .int .i64 ((Hn : Nat) : Int), .slice Am nm cm, .slice Ac nc cc], .slice (some ⟨gm, 0, none⟩) S.length cq, .int .i64 0, .bool false, .bool false, .slice (some ⟨gl, 0, none⟩) S.length cl, .int .i64 ((S.length : Nat) : Int), .slice (some ⟨gm, 0, none⟩) S.length cq, .int .i64 ((S.length : Nat) : Int), .bool false, .bool false, .int .i64 ((k : Nat) : Int), .slice (some ⟨gl, 0, none⟩) S.length cl, .int .i64 ((S.length : Nat) : Int), .bool true, u38, u39, (s 0), (s 1), (s 2), (s 3), (s 4), (s 5), (s 6), (s 7), (s 8), (s 9), (s 10), (s 11), (s 12), (s 13), (s 14), (s 15), (s 16), (s 17), (s 18), (s 19), (s 20), (s 21), (s 22), (s 23), (s 24), (s 25), (s 26), (s 27), (s 28), (s 29), (s 30), (s 31), (s 32), (s 33), (s 34), (s 35), (s 36), (s 37), (s 38)], defers := [] } ∧ Sv 39 [some (.slice (some ⟨gl, 0, none⟩) S.length cl), some (.int .i64 ((k : Nat) : Int)), some (.pointer (some ⟨gl, k * 4, none⟩)), some (.pointer (some ⟨gl, k * 4, none⟩)), some (.agg #[.int .i64 p.1, .int .i64 p.2]), some (.slice (some ⟨gm, 0, none⟩) S.length cq), some (.int .i64 ((k : Nat) : Int)), some (.pointer (some ⟨gm, k * 4, none⟩)), some (.pointer (some ⟨gm, k * 4, none⟩)), some (.agg #[.int .i64 p.1, .int .i64 p.2]), some (.bool false), some (.bool false), some (.slice (some ⟨gl, 0, none⟩) S.length cl), some (.int .i64 ((k : Nat) : Int)), some (.pointer (some ⟨gl, k * 4, none⟩)), some (.pointer (some ⟨gl, k * 4 + 2, none⟩)), some (.slice A1 n1 d1), some (.slice (some ⟨gm, 0, none⟩) S.length cq), some (.int .i64 ((k : Nat) : Int)), some (.pointer (some ⟨gm, k * 4, none⟩)), some (.pointer (some ⟨gm, k * 4 + 2, none⟩)), some (.slice A3 n1 d3), some (.bool true), some (.bool false), some (.bool false), some (.bool false), some (.slice (some ⟨gl, 0, none⟩) S.length cl), some (.int .i64 ((k : Nat) : Int)), some (.pointer (some ⟨gl, k * 4, none⟩)), some (.pointer (some ⟨gl, k * 4 + 3, none⟩)), some (.slice A2 n2 d2), some (.slice (some ⟨gm, 0, none⟩) S.length cq), some (.int .i64 ((k : Nat) : Int)), some (.pointer (some ⟨gm, k * 4, none⟩)), some (.pointer (some ⟨gm, k * 4 + 3, none⟩)), some (.slice A4 n2 d4), some (.bool true), some (.bool false), some (.bool false)] Lq s ∧ (WN.cell? ⟨gl, k * 4, none⟩ = some (.int .i64 p.1) ∧ WN.cell? ⟨gl, k * 4 + 1, none⟩ = some (.int .i64 p.2) ∧ WN.cell? ⟨gl, k * 4 + 2, none⟩ = some (.slice A1 n1 d1) ∧ WN.cell? ⟨gl, k * 4 + 3, none⟩ = some (.slice A2 n2 d2) ∧ WN.cell? ⟨gm, k * 4, none⟩ = some (.int .i64 p.1) ∧ WN.cell? ⟨gm, k * 4 + 1, none⟩ = some (.int .i64 p.2) ∧ WN.cell? ⟨gm, k * 4 + 2, none⟩ = some (.slice A3 n1 d3) ∧ WN.cell? ⟨gm, k * 4 + 3, none⟩ = some (.slice A4 n2 d4) ∧ Below wi.heap.size wi WN)) (by kernel_rfl) ?_ ?_ ?_
    ·exact ⟨listF [u40, u41, u42, u43, u44, u45, u46, u47, u48, u49, u50, u51, u52, u53, u54, u55, u56, u57, u58, u59, u60, u61, u62, u63, u64, u65, u66, u67, u68, u69, u70, u71, u72, u73, u74, u75, u76, u77, u78], rfl, Sv.start 39 _ _, ⟨y0, y1, y2, y3, z0, z1, z2, z3, (Below.refl _ _).drew⟩⟩
    ·intro Lq aq WN i0 hI hr
     obtain ⟨s, rfl, hv, hst⟩ := hI
     have hi0 : i0 < 39 := ready_lt hr
     have HV := Lib.hid hv
     have HST := Lib.hid hst
     clear hv hst
     have hii : i0 = 0 ∨ i0 = 1 ∨ i0 = 2 ∨ i0 = 3 ∨ i0 = 4 ∨ i0 = 5 ∨ i0 = 6 ∨ i0 = 7 ∨ i0 = 8 ∨ i0 = 9 ∨ i0 = 10 ∨ i0 = 11 ∨ i0 = 12 ∨ i0 = 13 ∨ i0 = 14 ∨ i0 = 15 ∨ i0 = 16 ∨ i0 = 17 ∨ i0 = 18 ∨ i0 = 19 ∨ i0 = 20 ∨ i0 = 21 ∨ i0 = 22 ∨ i0 = 23 ∨ i0 = 24 ∨ i0 = 25 ∨ i0 = 26 ∨ i0 = 27 ∨ i0 = 28 ∨ i0 = 29 ∨ i0 = 30 ∨ i0 = 31 ∨ i0 = 32 ∨ i0 = 33 ∨ i0 = 34 ∨ i0 = 35 ∨ i0 = 36 ∨ i0 = 37 ∨ i0 = 38 := by omega
     clear hi0
     rcases hii with rfl | rfl | rfl | rfl | rfl | rfl | rfl | rfl | rfl | rfl | rfl | rfl | rfl | rfl | rfl | rfl | rfl | rfl | rfl | rfl | rfl | rfl | rfl | rfl | rfl | rfl | rfl | rfl | rfl | rfl | rfl | rfl | rfl | rfl | rfl | rfl | rfl | rfl | rfl
     ·clear hr
      refine wpOp_step rfl (fun K hK => ?_)
      go_simp
      refine hK _ _ ?_
      exact ⟨upd s 0 (.slice (some ⟨gl, 0, none⟩) S.length cl), rfl, Sv.put HV.out (fun u hu => by cases hu; rfl), HST.out⟩
     ·clear hr
      refine wpOp_step rfl (fun K hK => ?_)
      go_simp
      refine hK _ _ ?_
      exact ⟨upd s 1 (.int .i64 ((k : Nat) : Int)), rfl, Sv.put HV.out (fun u hu => by cases hu; rfl), HST.out⟩
     ·have d0 := ready_dep hr (k := 0) (by kernel_rfl)
      have d1 := ready_dep hr (k := 1) (by kernel_rfl)
      clear hr
      have e0 : s 0 = .slice (some ⟨gl, 0, none⟩) S.length cl := HV.out.v d0 rfl
      have e1 : s 1 = .int .i64 ((k : Nat) : Int) := HV.out.v d1 rfl
      refine wpOp_step rfl (fun K hK => ?_)
      go_simp
      refine hK _ _ ?_
      exact ⟨upd (upd (upd s 0 (.slice (some ⟨gl, 0, none⟩) S.length cl)) 1 (.int .i64 ((k : Nat) : Int))) 2 (.pointer (some ⟨gl, k * 4, none⟩)), rfl, Sv.put (Sv.re (j := 1) (v := .int .i64 ((k : Nat) : Int)) (Sv.re (j := 0) (v := .slice (some ⟨gl, 0, none⟩) S.length cl) HV.out e0) e1) (fun u hu => by cases hu; rfl), HST.out⟩
     ·have d2 := ready_dep hr (k := 2) (by kernel_rfl)
      clear hr
      have e2 : s 2 = .pointer (some ⟨gl, k * 4, none⟩) := HV.out.v d2 rfl
      refine wpOp_step rfl (fun K hK => ?_)
      go_simp
      refine hK _ _ ?_
      exact ⟨upd (upd s 2 (.pointer (some ⟨gl, k * 4, none⟩))) 3 (.pointer (some ⟨gl, k * 4, none⟩)), rfl, Sv.put (Sv.re (j := 2) (v := .pointer (some ⟨gl, k * 4, none⟩)) HV.out e2) (fun u hu => by cases hu; rfl), HST.out⟩
     ·have d3 := ready_dep hr (k := 3) (by kernel_rfl)
      clear hr
      have e3 : s 3 = .pointer (some ⟨gl, k * 4, none⟩) := HV.out.v d3 rfl
      obtain ⟨q0, q1, q2, q3, q4, q5, q6, q7, hbl⟩ := HST.out
      refine wpOp_step rfl (fun K hK => ?_)
      go_simp
      refine hK _ _ ?_
      exact ⟨upd (upd s 3 (.pointer (some ⟨gl, k * 4, none⟩))) 4 (.agg #[.int .i64 p.1, .int .i64 p.2]), rfl, Sv.put (Sv.re (j := 3) (v := .pointer (some ⟨gl, k * 4, none⟩)) HV.out e3) (fun u hu => by cases hu; rfl), HST.out⟩
     ·clear hr
      refine wpOp_step rfl (fun K hK => ?_)
      go_simp
      refine hK _ _ ?_
      exact ⟨upd s 5 (.slice (some ⟨gm, 0, none⟩) S.length cq), rfl, Sv.put HV.out (fun u hu => by cases hu; rfl), HST.out⟩
     ·clear hr
      refine wpOp_step rfl (fun K hK => ?_)
      go_simp
      refine hK _ _ ?_
      exact ⟨upd s 6 (.int .i64 ((k : Nat) : Int)), rfl, Sv.put HV.out (fun u hu => by cases hu; rfl), HST.out⟩
     ·have d5 := ready_dep hr (k := 5) (by kernel_rfl)
      have d6 := ready_dep hr (k := 6) (by kernel_rfl)
      clear hr
      have e5 : s 5 = .slice (some ⟨gm, 0, none⟩) S.length cq := HV.out.v d5 rfl
      have e6 : s 6 = .int .i64 ((k : Nat) : Int) := HV.out.v d6 rfl
      refine wpOp_step rfl (fun K hK => ?_)
      go_simp
      refine hK _ _ ?_
      exact ⟨upd (upd (upd s 5 (.slice (some ⟨gm, 0, none⟩) S.length cq)) 6 (.int .i64 ((k : Nat) : Int))) 7 (.pointer (some ⟨gm, k * 4, none⟩)), rfl, Sv.put (Sv.re (j := 6) (v := .int .i64 ((k : Nat) : Int)) (Sv.re (j := 5) (v := .slice (some ⟨gm, 0, none⟩) S.length cq) HV.out e5) e6) (fun u hu => by cases hu; rfl), HST.out⟩
     ·have d7 := ready_dep hr (k := 7) (by kernel_rfl)
      clear hr
      have e7 : s 7 = .pointer (some ⟨gm, k * 4, none⟩) := HV.out.v d7 rfl
      refine wpOp_step rfl (fun K hK => ?_)
      go_simp
      refine hK _ _ ?_
      exact ⟨upd (upd s 7 (.pointer (some ⟨gm, k * 4, none⟩))) 8 (.pointer (some ⟨gm, k * 4, none⟩)), rfl, Sv.put (Sv.re (j := 7) (v := .pointer (some ⟨gm, k * 4, none⟩)) HV.out e7) (fun u hu => by cases hu; rfl), HST.out⟩
     ·have d8 := ready_dep hr (k := 8) (by kernel_rfl)
      clear hr
      have e8 : s 8 = .pointer (some ⟨gm, k * 4, none⟩) := HV.out.v d8 rfl
      obtain ⟨q0, q1, q2, q3, q4, q5, q6, q7, hbl⟩ := HST.out
      refine wpOp_step rfl (fun K hK => ?_)
      go_simp
      refine hK _ _ ?_
      exact ⟨upd (upd s 8 (.pointer (some ⟨gm, k * 4, none⟩))) 9 (.agg #[.int .i64 p.1, .int .i64 p.2]), rfl, Sv.put (Sv.re (j := 8) (v := .pointer (some ⟨gm, k * 4, none⟩)) HV.out e8) (fun u hu => by cases hu; rfl), HST.out⟩
     ·have d4 := ready_dep hr (k := 4) (by kernel_rfl)
      have d9 := ready_dep hr (k := 9) (by kernel_rfl)
      clear hr
      have e4 : s 4 = .agg #[.int .i64 p.1, .int .i64 p.2] := HV.out.v d4 rfl
      have e9 : s 9 = .agg #[.int .i64 p.1, .int .i64 p.2] := HV.out.v d9 rfl
      refine wpOp_step rfl (fun K hK => ?_)
      go_simp
      refine hK _ _ ?_
      exact ⟨upd (upd (upd s 4 (.agg #[.int .i64 p.1, .int .i64 p.2])) 9 (.agg #[.int .i64 p.1, .int .i64 p.2])) 10 (.bool false), rfl, Sv.put (Sv.re (j := 9) (v := .agg #[.int .i64 p.1, .int .i64 p.2]) (Sv.re (j := 4) (v := .agg #[.int .i64 p.1, .int .i64 p.2]) HV.out e4) e9) (fun u hu => by cases hu; rfl), HST.out⟩
     ·have d10 := ready_dep hr (k := 10) (by kernel_rfl)
      clear hr
      have e10 : s 10 = .bool false := HV.out.v d10 rfl
      refine wpOp_step rfl (fun K hK => ?_)
      go_simp
      refine hK _ _ ?_
      exact ⟨upd (upd s 10 (.bool false)) 11 (.bool false), rfl, Sv.put (Sv.re (j := 10) (v := .bool false) HV.out e10) (fun u hu => by cases hu; rfl), HST.out⟩
     ·have d11 := ready_dep hr (k := 11) (by kernel_rfl)
      clear hr
      have e11 : s 11 = .bool false := HV.out.v d11 rfl
      refine wpOp_step rfl (fun K hK => ?_)
      go_simp
      refine hK _ _ ?_
      exact ⟨upd (upd s 11 (.bool false)) 12 (.slice (some ⟨gl, 0, none⟩) S.length cl), rfl, Sv.put (Sv.re (j := 11) (v := .bool false) HV.out e11) (fun u hu => by cases hu; rfl), HST.out⟩
     ·have d11 := ready_dep hr (k := 11) (by kernel_rfl)
      clear hr
      have e11 : s 11 = .bool false := HV.out.v d11 rfl
      refine wpOp_step rfl (fun K hK => ?_)
      go_simp
      refine hK _ _ ?_
      exact ⟨upd (upd s 11 (.bool false)) 13 (.int .i64 ((k : Nat) : Int)), rfl, Sv.put (Sv.re (j := 11) (v := .bool false) HV.out e11) (fun u hu => by cases hu; rfl), HST.out⟩
     ·have d11 := ready_dep hr (k := 11) (by kernel_rfl)
      have d12 := ready_dep hr (k := 12) (by kernel_rfl)
      have d13 := ready_dep hr (k := 13) (by kernel_rfl)
      clear hr
      have e11 : s 11 = .bool false := HV.out.v d11 rfl
      have e12 : s 12 = .slice (some ⟨gl, 0, none⟩) S.length cl := HV.out.v d12 rfl
      have e13 : s 13 = .int .i64 ((k : Nat) : Int) := HV.out.v d13 rfl
      refine wpOp_step rfl (fun K hK => ?_)
      go_simp
      refine hK _ _ ?_
      exact ⟨upd (upd (upd (upd s 11 (.bool false)) 12 (.slice (some ⟨gl, 0, none⟩) S.length cl)) 13 (.int .i64 ((k : Nat) : Int))) 14 (.pointer (some ⟨gl, k * 4, none⟩)), rfl, Sv.put (Sv.re (j := 13) (v := .int .i64 ((k : Nat) : Int)) (Sv.re (j := 12) (v := .slice (some ⟨gl, 0, none⟩) S.length cl) (Sv.re (j := 11) (v := .bool false) HV.out e11) e12) e13) (fun u hu => by cases hu; rfl), HST.out⟩
     ·have d11 := ready_dep hr (k := 11) (by kernel_rfl)
      have d14 := ready_dep hr (k := 14) (by kernel_rfl)
      clear hr
      have e11 : s 11 = .bool false := HV.out.v d11 rfl
      have e14 : s 14 = .pointer (some ⟨gl, k * 4, none⟩) := HV.out.v d14 rfl
      refine wpOp_step rfl (fun K hK => ?_)
      go_simp
      refine hK _ _ ?_
      exact ⟨upd (upd (upd s 11 (.bool false)) 14 (.pointer (some ⟨gl, k * 4, none⟩))) 15 (.pointer (some ⟨gl, k * 4 + 2, none⟩)), rfl, Sv.put (Sv.re (j := 14) (v := .pointer (some ⟨gl, k * 4, none⟩)) (Sv.re (j := 11) (v := .bool false) HV.out e11) e14) (fun u hu => by cases hu; rfl), HST.out⟩
     ·have d11 := ready_dep hr (k := 11) (by kernel_rfl)
      have d15 := ready_dep hr (k := 15) (by kernel_rfl)
      clear hr
      have e11 : s 11 = .bool false := HV.out.v d11 rfl
      have e15 : s 15 = .pointer (some ⟨gl, k * 4 + 2, none⟩) := HV.out.v d15 rfl
      obtain ⟨q0, q1, q2, q3, q4, q5, q6, q7, hbl⟩ := HST.out
      refine wpOp_step rfl (fun K hK => ?_)
      go_simp
      refine hK _ _ ?_
      exact ⟨upd (upd (upd s 11 (.bool false)) 15 (.pointer (some ⟨gl, k * 4 + 2, none⟩))) 16 (.slice A1 n1 d1), rfl, Sv.put (Sv.re (j := 15) (v := .pointer (some ⟨gl, k * 4 + 2, none⟩)) (Sv.re (j := 11) (v := .bool false) HV.out e11) e15) (fun u hu => by cases hu; rfl), HST.out⟩
     ·have d11 := ready_dep hr (k := 11) (by kernel_rfl)
      clear hr
      have e11 : s 11 = .bool false := HV.out.v d11 rfl
      refine wpOp_step rfl (fun K hK => ?_)
      go_simp
      refine hK _ _ ?_
      exact ⟨upd (upd s 11 (.bool false)) 17 (.slice (some ⟨gm, 0, none⟩) S.length cq), rfl, Sv.put (Sv.re (j := 11) (v := .bool false) HV.out e11) (fun u hu => by cases hu; rfl), HST.out⟩
     ·have d11 := ready_dep hr (k := 11) (by kernel_rfl)
      clear hr
      have e11 : s 11 = .bool false := HV.out.v d11 rfl
      refine wpOp_step rfl (fun K hK => ?_)
      go_simp
      refine hK _ _ ?_
      exact ⟨upd (upd s 11 (.bool false)) 18 (.int .i64 ((k : Nat) : Int)), rfl, Sv.put (Sv.re (j := 11) (v := .bool false) HV.out e11) (fun u hu => by cases hu; rfl), HST.out⟩
     ·have d11 := ready_dep hr (k := 11) (by kernel_rfl)
      have d17 := ready_dep hr (k := 17) (by kernel_rfl)
      have d18 := ready_dep hr (k := 18) (by kernel_rfl)
      clear hr
      have e11 : s 11 = .bool false := HV.out.v d11 rfl
      have e17 : s 17 = .slice (some ⟨gm, 0, none⟩) S.length cq := HV.out.v d17 rfl
      have e18 : s 18 = .int .i64 ((k : Nat) : Int) := HV.out.v d18 rfl
      refine wpOp_step rfl (fun K hK => ?_)
      go_simp
      refine hK _ _ ?_
      exact ⟨upd (upd (upd (upd s 11 (.bool false)) 17 (.slice (some ⟨gm, 0, none⟩) S.length cq)) 18 (.int .i64 ((k : Nat) : Int))) 19 (.pointer (some ⟨gm, k * 4, none⟩)), rfl, Sv.put (Sv.re (j := 18) (v := .int .i64 ((k : Nat) : Int)) (Sv.re (j := 17) (v := .slice (some ⟨gm, 0, none⟩) S.length cq) (Sv.re (j := 11) (v := .bool false) HV.out e11) e17) e18) (fun u hu => by cases hu; rfl), HST.out⟩
     ·have d11 := ready_dep hr (k := 11) (by kernel_rfl)
      have d19 := ready_dep hr (k := 19) (by kernel_rfl)
      clear hr
      have e11 : s 11 = .bool false := HV.out.v d11 rfl
      have e19 : s 19 = .pointer (some ⟨gm, k * 4, none⟩) := HV.out.v d19 rfl
      refine wpOp_step rfl (fun K hK => ?_)
      go_simp
      refine hK _ _ ?_
      exact ⟨upd (upd (upd s 11 (.bool false)) 19 (.pointer (some ⟨gm, k * 4, none⟩))) 20 (.pointer (some ⟨gm, k * 4 + 2, none⟩)), rfl, Sv.put (Sv.re (j := 19) (v := .pointer (some ⟨gm, k * 4, none⟩)) (Sv.re (j := 11) (v := .bool false) HV.out e11) e19) (fun u hu => by cases hu; rfl), HST.out⟩
     ·have d11 := ready_dep hr (k := 11) (by kernel_rfl)
      have d20 := ready_dep hr (k := 20) (by kernel_rfl)
      clear hr
      have e11 : s 11 = .bool false := HV.out.v d11 rfl
      have e20 : s 20 = .pointer (some ⟨gm, k * 4 + 2, none⟩) := HV.out.v d20 rfl
      obtain ⟨q0, q1, q2, q3, q4, q5, q6, q7, hbl⟩ := HST.out
      refine wpOp_step rfl (fun K hK => ?_)
      go_simp
      refine hK _ _ ?_
      exact ⟨upd (upd (upd s 11 (.bool false)) 20 (.pointer (some ⟨gm, k * 4 + 2, none⟩))) 21 (.slice A3 n1 d3), rfl, Sv.put (Sv.re (j := 20) (v := .pointer (some ⟨gm, k * 4 + 2, none⟩)) (Sv.re (j := 11) (v := .bool false) HV.out e11) e20) (fun u hu => by cases hu; rfl), HST.out⟩
     ·have d11 := ready_dep hr (k := 11) (by kernel_rfl)
      have d16 := ready_dep hr (k := 16) (by kernel_rfl)
      have d21 := ready_dep hr (k := 21) (by kernel_rfl)
      clear hr
      have e11 : s 11 = .bool false := HV.out.v d11 rfl
      have e16 : s 16 = .slice A1 n1 d1 := HV.out.v d16 rfl
      have e21 : s 21 = .slice A3 n1 d3 := HV.out.v d21 rfl
      obtain ⟨q0, q1, q2, q3, q4, q5, q6, q7, hbl⟩ := HST.out
      refine wpOp_step rfl (fun K hK => ?_)
      go_simp
      refine (CA.out _ hbl).mono ?_
      rintro e' wc ⟨he, hbc⟩
      subst he
      refine hK _ _ ?_
      exact ⟨upd (upd (upd (upd s 11 (.bool false)) 16 (.slice A1 n1 d1)) 21 (.slice A3 n1 d3)) 22 (.bool true), rfl, Sv.put (Sv.re (j := 21) (v := .slice A3 n1 d3) (Sv.re (j := 16) (v := .slice A1 n1 d1) (Sv.re (j := 11) (v := .bool false) HV.out e11) e16) e21) (fun u hu => by cases hu; rfl), ⟨stay_c q0 hbc (Nat.le_refl _), stay_c q1 hbc (Nat.le_refl _), stay_c q2 hbc (Nat.le_refl _), stay_c q3 hbc (Nat.le_refl _), stay_c q4 hbc (Nat.le_refl _), stay_c q5 hbc (Nat.le_refl _), stay_c q6 hbc (Nat.le_refl _), stay_c q7 hbc (Nat.le_refl _), stay_b hbl hbc⟩⟩
     ·have d11 := ready_dep hr (k := 11) (by kernel_rfl)
      have d22 := ready_dep hr (k := 22) (by kernel_rfl)
      clear hr
      have e11 : s 11 = .bool false := HV.out.v d11 rfl
      have e22 : s 22 = .bool true := HV.out.v d22 rfl
      refine wpOp_step rfl (fun K hK => ?_)
      go_simp
      refine hK _ _ ?_
      exact ⟨upd (upd (upd s 11 (.bool false)) 22 (.bool true)) 23 (.bool false), rfl, Sv.put (Sv.re (j := 22) (v := .bool true) (Sv.re (j := 11) (v := .bool false) HV.out e11) e22) (fun u hu => by cases hu; rfl), HST.out⟩
     ·have d11 := ready_dep hr (k := 11) (by kernel_rfl)
      have d23 := ready_dep hr (k := 23) (by kernel_rfl)
      clear hr
      have e11 : s 11 = .bool false := HV.out.v d11 rfl
      have e23 : s 23 = .bool false := HV.out.v d23 rfl
      refine wpOp_step rfl (fun K hK => ?_)
      go_simp
      refine hK _ _ ?_
      exact ⟨upd (upd (upd s 11 (.bool false)) 23 (.bool false)) 24 (.bool false), rfl, Sv.put (Sv.re (j := 23) (v := .bool false) (Sv.re (j := 11) (v := .bool false) HV.out e11) e23) (fun u hu => by cases hu; rfl), HST.out⟩
     ·have d24 := ready_dep hr (k := 24) (by kernel_rfl)
      clear hr
      have e24 : s 24 = .bool false := HV.out.v d24 rfl
      refine wpOp_step rfl (fun K hK => ?_)
      go_simp
      refine hK _ _ ?_
      exact ⟨upd (upd s 24 (.bool false)) 25 (.bool false), rfl, Sv.put (Sv.re (j := 24) (v := .bool false) HV.out e24) (fun u hu => by cases hu; rfl), HST.out⟩
     ·have d25 := ready_dep hr (k := 25) (by kernel_rfl)
      clear hr
      have e25 : s 25 = .bool false := HV.out.v d25 rfl
      refine wpOp_step rfl (fun K hK => ?_)
      go_simp
      refine hK _ _ ?_
      exact ⟨upd (upd s 25 (.bool false)) 26 (.slice (some ⟨gl, 0, none⟩) S.length cl), rfl, Sv.put (Sv.re (j := 25) (v := .bool false) HV.out e25) (fun u hu => by cases hu; rfl), HST.out⟩
     ·have d25 := ready_dep hr (k := 25) (by kernel_rfl)
      clear hr
      have e25 : s 25 = .bool false := HV.out.v d25 rfl
      refine wpOp_step rfl (fun K hK => ?_)
      go_simp
      refine hK _ _ ?_
      exact ⟨upd (upd s 25 (.bool false)) 27 (.int .i64 ((k : Nat) : Int)), rfl, Sv.put (Sv.re (j := 25) (v := .bool false) HV.out e25) (fun u hu => by cases hu; rfl), HST.out⟩
     ·have d25 := ready_dep hr (k := 25) (by kernel_rfl)
      have d26 := ready_dep hr (k := 26) (by kernel_rfl)
      have d27 := ready_dep hr (k := 27) (by kernel_rfl)
      clear hr
      have e25 : s 25 = .bool false := HV.out.v d25 rfl
      have e26 : s 26 = .slice (some ⟨gl, 0, none⟩) S.length cl := HV.out.v d26 rfl
      have e27 : s 27 = .int .i64 ((k : Nat) : Int) := HV.out.v d27 rfl
      refine wpOp_step rfl (fun K hK => ?_)
      go_simp
      refine hK _ _ ?_
      exact ⟨upd (upd (upd (upd s 25 (.bool false)) 26 (.slice (some ⟨gl, 0, none⟩) S.length cl)) 27 (.int .i64 ((k : Nat) : Int))) 28 (.pointer (some ⟨gl, k * 4, none⟩)), rfl, Sv.put (Sv.re (j := 27) (v := .int .i64 ((k : Nat) : Int)) (Sv.re (j := 26) (v := .slice (some ⟨gl, 0, none⟩) S.length cl) (Sv.re (j := 25) (v := .bool false) HV.out e25) e26) e27) (fun u hu => by cases hu; rfl), HST.out⟩
     ·have d25 := ready_dep hr (k := 25) (by kernel_rfl)
      have d28 := ready_dep hr (k := 28) (by kernel_rfl)
      clear hr
      have e25 : s 25 = .bool false := HV.out.v d25 rfl
      have e28 : s 28 = .pointer (some ⟨gl, k * 4, none⟩) := HV.out.v d28 rfl
      refine wpOp_step rfl (fun K hK => ?_)
      go_simp
      refine hK _ _ ?_
      exact ⟨upd (upd (upd s 25 (.bool false)) 28 (.pointer (some ⟨gl, k * 4, none⟩))) 29 (.pointer (some ⟨gl, k * 4 + 3, none⟩)), rfl, Sv.put (Sv.re (j := 28) (v := .pointer (some ⟨gl, k * 4, none⟩)) (Sv.re (j := 25) (v := .bool false) HV.out e25) e28) (fun u hu => by cases hu; rfl), HST.out⟩
     ·have d25 := ready_dep hr (k := 25) (by kernel_rfl)
      have d29 := ready_dep hr (k := 29) (by kernel_rfl)
      clear hr
      have e25 : s 25 = .bool false := HV.out.v d25 rfl
      have e29 : s 29 = .pointer (some ⟨gl, k * 4 + 3, none⟩) := HV.out.v d29 rfl
      obtain ⟨q0, q1, q2, q3, q4, q5, q6, q7, hbl⟩ := HST.out
      refine wpOp_step rfl (fun K hK => ?_)
      go_simp
      refine hK _ _ ?_
      exact ⟨upd (upd (upd s 25 (.bool false)) 29 (.pointer (some ⟨gl, k * 4 + 3, none⟩))) 30 (.slice A2 n2 d2), rfl, Sv.put (Sv.re (j := 29) (v := .pointer (some ⟨gl, k * 4 + 3, none⟩)) (Sv.re (j := 25) (v := .bool false) HV.out e25) e29) (fun u hu => by cases hu; rfl), HST.out⟩
     ·have d25 := ready_dep hr (k := 25) (by kernel_rfl)
      clear hr
      have e25 : s 25 = .bool false := HV.out.v d25 rfl
      refine wpOp_step rfl (fun K hK => ?_)
      go_simp
      refine hK _ _ ?_
      exact ⟨upd (upd s 25 (.bool false)) 31 (.slice (some ⟨gm, 0, none⟩) S.length cq), rfl, Sv.put (Sv.re (j := 25) (v := .bool false) HV.out e25) (fun u hu => by cases hu; rfl), HST.out⟩
     ·have d25 := ready_dep hr (k := 25) (by kernel_rfl)
      clear hr
      have e25 : s 25 = .bool false := HV.out.v d25 rfl
      refine wpOp_step rfl (fun K hK => ?_)
      go_simp
      refine hK _ _ ?_
      exact ⟨upd (upd s 25 (.bool false)) 32 (.int .i64 ((k : Nat) : Int)), rfl, Sv.put (Sv.re (j := 25) (v := .bool false) HV.out e25) (fun u hu => by cases hu; rfl), HST.out⟩
     ·have d25 := ready_dep hr (k := 25) (by kernel_rfl)
      have d31 := ready_dep hr (k := 31) (by kernel_rfl)
      have d32 := ready_dep hr (k := 32) (by kernel_rfl)
      clear hr
      have e25 : s 25 = .bool false := HV.out.v d25 rfl
      have e31 : s 31 = .slice (some ⟨gm, 0, none⟩) S.length cq := HV.out.v d31 rfl
      have e32 : s 32 = .int .i64 ((k : Nat) : Int) := HV.out.v d32 rfl
      refine wpOp_step rfl (fun K hK => ?_)
      go_simp
      refine hK _ _ ?_
      exact ⟨upd (upd (upd (upd s 25 (.bool false)) 31 (.slice (some ⟨gm, 0, none⟩) S.length cq)) 32 (.int .i64 ((k : Nat) : Int))) 33 (.pointer (some ⟨gm, k * 4, none⟩)), rfl, Sv.put (Sv.re (j := 32) (v := .int .i64 ((k : Nat) : Int)) (Sv.re (j := 31) (v := .slice (some ⟨gm, 0, none⟩) S.length cq) (Sv.re (j := 25) (v := .bool false) HV.out e25) e31) e32) (fun u hu => by cases hu; rfl), HST.out⟩
     ·have d25 := ready_dep hr (k := 25) (by kernel_rfl)
      have d33 := ready_dep hr (k := 33) (by kernel_rfl)
      clear hr
      have e25 : s 25 = .bool false := HV.out.v d25 rfl
      have e33 : s 33 = .pointer (some ⟨gm, k * 4, none⟩) := HV.out.v d33 rfl
      refine wpOp_step rfl (fun K hK => ?_)
      go_simp
      refine hK _ _ ?_
      exact ⟨upd (upd (upd s 25 (.bool false)) 33 (.pointer (some ⟨gm, k * 4, none⟩))) 34 (.pointer (some ⟨gm, k * 4 + 3, none⟩)), rfl, Sv.put (Sv.re (j := 33) (v := .pointer (some ⟨gm, k * 4, none⟩)) (Sv.re (j := 25) (v := .bool false) HV.out e25) e33) (fun u hu => by cases hu; rfl), HST.out⟩
     ·have d25 := ready_dep hr (k := 25) (by kernel_rfl)
      have d34 := ready_dep hr (k := 34) (by kernel_rfl)
      clear hr
      have e25 : s 25 = .bool false := HV.out.v d25 rfl
      have e34 : s 34 = .pointer (some ⟨gm, k * 4 + 3, none⟩) := HV.out.v d34 rfl
      obtain ⟨q0, q1, q2, q3, q4, q5, q6, q7, hbl⟩ := HST.out
      refine wpOp_step rfl (fun K hK => ?_)
      go_simp
      refine hK _ _ ?_
      exact ⟨upd (upd (upd s 25 (.bool false)) 34 (.pointer (some ⟨gm, k * 4 + 3, none⟩))) 35 (.slice A4 n2 d4), rfl, Sv.put (Sv.re (j := 34) (v := .pointer (some ⟨gm, k * 4 + 3, none⟩)) (Sv.re (j := 25) (v := .bool false) HV.out e25) e34) (fun u hu => by cases hu; rfl), HST.out⟩
     ·have d25 := ready_dep hr (k := 25) (by kernel_rfl)
      have d30 := ready_dep hr (k := 30) (by kernel_rfl)
      have d35 := ready_dep hr (k := 35) (by kernel_rfl)
      clear hr
      have e25 : s 25 = .bool false := HV.out.v d25 rfl
      have e30 : s 30 = .slice A2 n2 d2 := HV.out.v d30 rfl
      have e35 : s 35 = .slice A4 n2 d4 := HV.out.v d35 rfl
      obtain ⟨q0, q1, q2, q3, q4, q5, q6, q7, hbl⟩ := HST.out
      refine wpOp_step rfl (fun K hK => ?_)
      go_simp
      refine (CB.out _ hbl).mono ?_
      rintro e' wc ⟨he, hbc⟩
      subst he
      refine hK _ _ ?_
      exact ⟨upd (upd (upd (upd s 25 (.bool false)) 30 (.slice A2 n2 d2)) 35 (.slice A4 n2 d4)) 36 (.bool true), rfl, Sv.put (Sv.re (j := 35) (v := .slice A4 n2 d4) (Sv.re (j := 30) (v := .slice A2 n2 d2) (Sv.re (j := 25) (v := .bool false) HV.out e25) e30) e35) (fun u hu => by cases hu; rfl), ⟨stay_c q0 hbc (Nat.le_refl _), stay_c q1 hbc (Nat.le_refl _), stay_c q2 hbc (Nat.le_refl _), stay_c q3 hbc (Nat.le_refl _), stay_c q4 hbc (Nat.le_refl _), stay_c q5 hbc (Nat.le_refl _), stay_c q6 hbc (Nat.le_refl _), stay_c q7 hbc (Nat.le_refl _), stay_b hbl hbc⟩⟩
     ·have d25 := ready_dep hr (k := 25) (by kernel_rfl)
      have d36 := ready_dep hr (k := 36) (by kernel_rfl)
      clear hr
      have e25 : s 25 = .bool false := HV.out.v d25 rfl
      have e36 : s 36 = .bool true := HV.out.v d36 rfl
      refine wpOp_step rfl (fun K hK => ?_)
      go_simp
      refine hK _ _ ?_
      exact ⟨upd (upd (upd s 25 (.bool false)) 36 (.bool true)) 37 (.bool false), rfl, Sv.put (Sv.re (j := 36) (v := .bool true) (Sv.re (j := 25) (v := .bool false) HV.out e25) e36) (fun u hu => by cases hu; rfl), HST.out⟩
     ·have d25 := ready_dep hr (k := 25) (by kernel_rfl)
      have d37 := ready_dep hr (k := 37) (by kernel_rfl)
      clear hr
      have e25 : s 25 = .bool false := HV.out.v d25 rfl
      have e37 : s 37 = .bool false := HV.out.v d37 rfl
      refine wpOp_step rfl (fun K hK => ?_)
      go_simp
      refine hK _ _ ?_
      exact ⟨upd (upd (upd s 25 (.bool false)) 37 (.bool false)) 38 (.bool false), rfl, Sv.put (Sv.re (j := 37) (v := .bool false) (Sv.re (j := 25) (v := .bool false) HV.out e25) e37) (fun u hu => by cases hu; rfl), HST.out⟩
    ·intro Lq aq WN hI hrd
     obtain ⟨s, ha, hv, hst⟩ := hI
     have hall := all_listedM hrd hv.sz (by kernel_rfl)
     clear hrd
     have e0 : s 0 = (.slice (some ⟨gl, 0, none⟩) S.length cl) := hv.v (hall 0 (by decide)) rfl
     have e1 : s 1 = (.int .i64 ((k : Nat) : Int)) := hv.v (hall 1 (by decide)) rfl
     have e2 : s 2 = (.pointer (some ⟨gl, k * 4, none⟩)) := hv.v (hall 2 (by decide)) rfl
     have e3 : s 3 = (.pointer (some ⟨gl, k * 4, none⟩)) := hv.v (hall 3 (by decide)) rfl
     have e4 : s 4 = (.agg #[.int .i64 p.1, .int .i64 p.2]) := hv.v (hall 4 (by decide)) rfl
     have e5 : s 5 = (.slice (some ⟨gm, 0, none⟩) S.length cq) := hv.v (hall 5 (by decide)) rfl
     have e6 : s 6 = (.int .i64 ((k : Nat) : Int)) := hv.v (hall 6 (by decide)) rfl
     have e7 : s 7 = (.pointer (some ⟨gm, k * 4, none⟩)) := hv.v (hall 7 (by decide)) rfl
     have e8 : s 8 = (.pointer (some ⟨gm, k * 4, none⟩)) := hv.v (hall 8 (by decide)) rfl
     have e9 : s 9 = (.agg #[.int .i64 p.1, .int .i64 p.2]) := hv.v (hall 9 (by decide)) rfl
     have e10 : s 10 = (.bool false) := hv.v (hall 10 (by decide)) rfl
     have e11 : s 11 = (.bool false) := hv.v (hall 11 (by decide)) rfl
     have e12 : s 12 = (.slice (some ⟨gl, 0, none⟩) S.length cl) := hv.v (hall 12 (by decide)) rfl
     have e13 : s 13 = (.int .i64 ((k : Nat) : Int)) := hv.v (hall 13 (by decide)) rfl
     have e14 : s 14 = (.pointer (some ⟨gl, k * 4, none⟩)) := hv.v (hall 14 (by decide)) rfl
     have e15 : s 15 = (.pointer (some ⟨gl, k * 4 + 2, none⟩)) := hv.v (hall 15 (by decide)) rfl
     have e16 : s 16 = (.slice A1 n1 d1) := hv.v (hall 16 (by decide)) rfl
     have e17 : s 17 = (.slice (some ⟨gm, 0, none⟩) S.length cq) := hv.v (hall 17 (by decide)) rfl
     have e18 : s 18 = (.int .i64 ((k : Nat) : Int)) := hv.v (hall 18 (by decide)) rfl
     have e19 : s 19 = (.pointer (some ⟨gm, k * 4, none⟩)) := hv.v (hall 19 (by decide)) rfl
     have e20 : s 20 = (.pointer (some ⟨gm, k * 4 + 2, none⟩)) := hv.v (hall 20 (by decide)) rfl
     have e21 : s 21 = (.slice A3 n1 d3) := hv.v (hall 21 (by decide)) rfl
     have e22 : s 22 = (.bool true) := hv.v (hall 22 (by decide)) rfl
     have e23 : s 23 = (.bool false) := hv.v (hall 23 (by decide)) rfl
     have e24 : s 24 = (.bool false) := hv.v (hall 24 (by decide)) rfl
     have e25 : s 25 = (.bool false) := hv.v (hall 25 (by decide)) rfl
     have e26 : s 26 = (.slice (some ⟨gl, 0, none⟩) S.length cl) := hv.v (hall 26 (by decide)) rfl
     have e27 : s 27 = (.int .i64 ((k : Nat) : Int)) := hv.v (hall 27 (by decide)) rfl
     have e28 : s 28 = (.pointer (some ⟨gl, k * 4, none⟩)) := hv.v (hall 28 (by decide)) rfl
     have e29 : s 29 = (.pointer (some ⟨gl, k * 4 + 3, none⟩)) := hv.v (hall 29 (by decide)) rfl
     have e30 : s 30 = (.slice A2 n2 d2) := hv.v (hall 30 (by decide)) rfl
     have e31 : s 31 = (.slice (some ⟨gm, 0, none⟩) S.length cq) := hv.v (hall 31 (by decide)) rfl
     have e32 : s 32 = (.int .i64 ((k : Nat) : Int)) := hv.v (hall 32 (by decide)) rfl
     have e33 : s 33 = (.pointer (some ⟨gm, k * 4, none⟩)) := hv.v (hall 33 (by decide)) rfl
     have e34 : s 34 = (.pointer (some ⟨gm, k * 4 + 3, none⟩)) := hv.v (hall 34 (by decide)) rfl
     have e35 : s 35 = (.slice A4 n2 d4) := hv.v (hall 35 (by decide)) rfl
     have e36 : s 36 = (.bool true) := hv.v (hall 36 (by decide)) rfl
     have e37 : s 37 = (.bool false) := hv.v (hall 37 (by decide)) rfl
     have e38 : s 38 = (.bool false) := hv.v (hall 38 (by decide)) rfl
     simp only [e0, e1, e2, e3, e4, e5, e6, e7, e8, e9, e10, e11, e12, e13, e14, e15, e16, e17, e18, e19, e20, e21, e22, e23, e24, e25, e26, e27, e28, e29, e30, e31, e32, e33, e34, e35, e36, e37, e38] at ha
     subst ha
     clear hall hv e0 e1 e2 e3 e4 e5 e6 e7 e8 e9 e10 e11 e12 e13 e14 e15 e16 e17 e18 e19 e20 e21 e22 e23 e24 e25 e26 e27 e28 e29 e30 e31 e32 e33 e34 e35 e36 e37 e38
     obtain ⟨q0, q1, q2, q3, q4, q5, q6, q7, hbl⟩ := hst
     have HB9 := Lib.hid (stay_b hB.out hbl)
     clear q0 q1 q2 q3 q4 q5 q6 q7 hbl y0 y1 y2 y3 z0 z1 z2 z3 CA CB r10
     go_wp2
     go_roundw
     case rel => exact ⟨k + 1, by omega, by go_num, HB9⟩
     case measure => simp [intOf]; omega
   ·have hk2 : k = S.length := by omega
    subst hk2
    have hki : ¬ (S.length : Int) < (S.length : Int) := by omega
    go_wp2
    go_ret
    exact ⟨rfl, stay_b HB0.out (stay_b HB6.out hB.out)⟩
end
end Go.Proofs.YtoienokpchbglaaDoor
