/- The document's PlaceAll. Printed by gen_pd.py. -/
import Derived.Test.YtoienokpchbglaaDoorPd0
namespace Go.Proofs.YtoienokpchbglaaDoor
set_option linter.unusedSimpArgs false
set_option linter.unusedVariables false
open Go.RowKit Go.Maps

theorem true_all {n : Nat} {f : List Bool} (hl : f.length = n) (h : ∀ i, i < n → f[i]? = some true) : trueN f = n := by
 unfold trueN
 rw [← hl, List.countP_eq_length]
 intro b hb
 obtain ⟨i, hi, e⟩ := List.getElem_of_mem hb
 have h1 := h i (by omega)
 rw [List.getElem?_eq_getElem hi, e] at h1
 cases h1
 rfl
theorem trueN_le {f : List Bool} : trueN f ≤ f.length := List.countP_le_length
theorem keep_at {l : List V6} {f : List Bool} {i : Nat} {m : V6} (h : l[i]? = some m ∧ f[i]? = some true) (j : Nat) (x : V6) : ∃ m', (l.set j x)[i]? = some m' ∧ (f.set j true)[i]? = some true := by
 have h1 := (List.getElem?_eq_some_iff.1 h.1).1
 have h2 := (List.getElem?_eq_some_iff.1 h.2).1
 by_cases e : j = i
 ·subst e
  exact ⟨x, List.getElem?_set_self h1, List.getElem?_set_self h2⟩
 ·exact ⟨m, by rw [List.getElem?_set_ne e]; exact h.1, by rw [List.getElem?_set_ne e]; exact h.2⟩
theorem PdS.start {w2 wb : World} {L : List T3} {C : E4 → Bool} {go gk : Nat} (hr : LB wb go (List.replicate L.length zeroV)) (hk : BB wb gk (List.replicate L.length false)) (hb : Below w2.heap.size w2 wb) (hgo : w2.heap.size ≤ go) (hgk : w2.heap.size ≤ gk) (hn : 0 < L.length) :
  ∃ l f, l = (List.replicate L.length zeroV).set 0 stillV ∧ f = (List.replicate L.length false).set 0 true ∧ PdS w2 L C go gk (fun j => f[j]? = some true) l f 0 0 ((set6 wb go 0 stillV).setCell ⟨gk, 0, none⟩ (.bool true)) ∧ 1 ≤ trueN f := by
 have hgg : go ≠ gk := far_type hr hk (by decide)
 have h1 := hr.set 0 stillV
 have h2 : BB (set6 wb go 0 stillV) gk (List.replicate L.length false) := (set6_far (Ne.symm hgg)).trans hk
 have hi : RdI L.length (nbL L) (stpL L C) stillV GV _ _ _ 0 0 := RdI.start hn (gb_still.mono (by decide)) zeroV
 have h0 : ∀ j, ((List.replicate L.length false).set 0 true)[j]? = some true → j = 0 := by
  intro j h
  by_cases hj : j = 0
  ·exact hj
  ·rw [List.getElem?_set_ne (by omega), List.getElem?_replicate] at h
   split at h
   ·cases h
   ·cases h
 have hc : trueN ((List.replicate L.length false).set 0 true) = 1 := by
  unfold trueN
  rw [List.countP_set (by simpa using hn)]
  simp [List.countP_replicate]
 refine ⟨_, _, rfl, rfl, ⟨⟨hi.len, hi.lenf, hi.rootv, hi.rootk, hi.good, hi.cns, fun _ h => h, fun j v _ _ m u _ hc => by omega⟩, ?_, h2.set 0 true, (set6_below2 hb hgo 0 stillV).setCell (p := ⟨gk, 0, none⟩) hgk _, hgo, hgk⟩, Nat.le_of_eq hc.symm⟩
 exact (Below.heap_setCell _ _ _ _ (by simpa using hgg)).trans h1
def AllK (L : List T3) (C : E4 → Bool) (l : List V6) (f : List Bool) : Prop := (∀ i, i < L.length → f[i]? = some true) ∧ ∀ z, Cns L.length (nbL L) (stpL L C) stillV (fun i => l.getD i z)
set_option maxRecDepth 100000 in
set_option maxHeartbeats 12800000 in
theorem placeD_any (W H : Nat) (Am Ac : Option Addr) (nm cm nc cc : Nat) (mask : List Int) (cs : List C5) (w : World) (hS : ShM w W H Am nm mask Ac nc cs) (hj : joinB (trisL W mask) = true) :
  Calls Tryd.prog 24 #[shV W H Am nm cm Ac nc cc] w fun r w' => Below w.heap.size w w' ∧
   (((¬ ∃ M, Cns (trisL W mask).length (nbL (trisL W mask)) (stpL (trisL W mask) (crsF false cs)) stillV M) ∧ r = .returned (.tuple #[.slice none 0 0, .bool false])) ∨
    ∃ (l : List V6) (go : Nat), l.length = (trisL W mask).length ∧ Cns (trisL W mask).length (nbL (trisL W mask)) (stpL (trisL W mask) (crsF false cs)) stillV (fun i => l.getD i zeroV) ∧ LB w' go l ∧ r = .returned (.tuple #[.slice (some ⟨go, 0, none⟩) (trisL W mask).length (trisL W mask).length, .bool true])) := by
 have hin : ∀ t ∈ trisL W mask, In8 t := fun t ht => by
  have h1 := hS.tris_in ht
  have h2 := hS.dW
  have h3 := hS.dH
  exact ⟨by omega, by omega, h1.2.2.2.2⟩
 have hnd := sorted_nodup hS.tris_sorted
 have hlen := hS.tris_len
 have hcn := conn_of hnd (fun t ht => (hin t ht).2.2) hj
 have hL0 : 0 < (trisL W mask).length := by
  cases hL : trisL W mask with
  | nil => rw [hL] at hj; simp [joinB] at hj
  | cons a L0 => simp
 have kb0 := heap_alloc_new w (.cells #[.int .i64 W, .int .i64 H, .slice Am nm cm, .slice Ac nc cc] 25)
 have hbw : Below w.heap.size w (w.alloc (.cells #[.int .i64 W, .int .i64 H, .slice Am nm cm, .slice Ac nc cc] 25)) := below_new _ _
 have a0 := cell_of_blk kb0 0
 have a1 := cell_of_blk kb0 1
 have a2 := cell_of_blk kb0 2
 have a3 := cell_of_blk kb0 3
 simp only [List.getElem?_toArray, List.getElem?_cons_zero, List.getElem?_cons_succ] at a0 a1 a2 a3
 have hS1 := hS.below hbw
 have cT := trisOf_any W H Am Ac nm cm nc cc mask cs _ hS1
 have cK := fun (w3 : World) (hb : Below (w.alloc (.cells #[.int .i64 W, .int .i64 H, .slice Am nm cm, .slice Ac nc cc] 25)).heap.size (w.alloc (.cells #[.int .i64 W, .int .i64 H, .slice Am nm cm, .slice Ac nc cc] 25)) w3) (E : E4) => kindOf_any W H Am Ac nm cm nc cc mask cs E w3 (hS1.below hb)
 obtain ⟨L, hL⟩ : ∃ L, L = trisL W mask := ⟨_, rfl⟩
 obtain ⟨C, hC⟩ : ∃ C, C = crsF false cs := ⟨_, rfl⟩
 rw [← hL] at cT hin hnd hlen hcn hL0 ⊢
 rw [← hC]
 have hmk := make_maps L.length hlen
 have hmb := make_bools L.length hlen
 have hL0i : (0 : Int) < (L.length : Int) := by omega
 have CT := Lib.hid cT
 have CK := Lib.hid cK
 have HIN := Lib.hid hin
 have HND := Lib.hid hnd
 have HCN := Lib.hid hcn
 have HC := Lib.hid hC
 clear cT cK hin hnd hL hS kb0 hS1 hcn hj hC
 go_enter Tryd.func24, Tryd.ntmps24
 go_wp2_with fail
 refine CT.out.mono ?_
 rintro r w1 ⟨v, rfl, ho1, hb1⟩
 obtain ⟨Av, cv, hv, _, _⟩ := own_slice ho1
 subst hv
 have HB1 := Lib.hid hb1
 have HO1 := Lib.hid ho1
 generalize w.alloc (.cells #[.int .i64 W, .int .i64 H, .slice Am nm cm, .slice Ac nc cc] 25) = w0 at a0 a1 a2 a3 hbw CK HB1 HO1
 have a0 := stay_c a0 HB1.out (Nat.le_refl _)
 have a1 := stay_c a1 HB1.out (Nat.le_refl _)
 have a2 := stay_c a2 HB1.out (Nat.le_refl _)
 have a3 := stay_c a3 HB1.out (Nat.le_refl _)
 have HBW := Lib.hid (stay_b hbw HB1.out)
 have kl0 := blk_alloc (heap_alloc_new w1 (.cells (mcs (List.replicate L.length zeroV)).toArray 59)) (.cells (bcs (List.replicate L.length false)).toArray 4)
 have kk0 := heap_alloc_new (w1.alloc (.cells (mcs (List.replicate L.length zeroV)).toArray 59)) (.cells (bcs (List.replicate L.length false)).toArray 4)
 rw [World.size_alloc] at kk0
 have hbk : Below w1.heap.size w1 ((w1.alloc (.cells (mcs (List.replicate L.length zeroV)).toArray 59)).alloc (.cells (bcs (List.replicate L.length false)).toArray 4)) := ba (below_new _ _) _
 have hm1 := hmk w1
 have hm2 := hmb (w1.alloc (.cells (mcs (List.replicate L.length zeroV)).toArray 59))
 rw [World.size_alloc] at hm2
 obtain ⟨wa, hwa⟩ : ∃ x, x = w1.alloc (.cells (mcs (List.replicate L.length zeroV)).toArray 59) := ⟨_, rfl⟩
 rw [← hwa] at hm1 hm2 kl0 kk0 hbk
 obtain ⟨wb, hwb⟩ : ∃ x, x = wa.alloc (.cells (bcs (List.replicate L.length false)).toArray 4) := ⟨_, rfl⟩
 rw [← hwb] at hm2 kl0 kk0 hbk
 have hl1 : LB wb w1.heap.size (List.replicate L.length zeroV) := kl0
 have hk1 : BB wb (w1.heap.size + 1) (List.replicate L.length false) := kk0
 obtain ⟨y0, y1, y2, y3, y4, y5⟩ := hl1.at_ (j := 0) (m := zeroV) (by simp [hL0])
 simp only [Nat.zero_mul, Nat.zero_add] at y0 y1 y2 y3 y4 y5
 have z0 := hk1.at_ (i := 0) (b := false) (by simp [hL0])
 have fz := hl1.fz
 have fk := hk1.fz
 have hne01 : w1.heap.size ≠ w1.heap.size + 1 := by omega
 have hne10 : w1.heap.size + 1 ≠ w1.heap.size := by omega
 have HL1 := Lib.hid hl1
 have HK1 := Lib.hid hk1
 have HBK := Lib.hid hbk
 clear kl0 kk0 hl1 hk1 hbk CT hb1 ho1 hbw hwa hwb hmk hmb
 go_wp2_with fail
 change Code.wp _ _ _ _ ((set6 wb w1.heap.size 0 stillV).setCell ⟨w1.heap.size + 1, 0, none⟩ (.bool true))
 obtain ⟨l0, f0, _, _, hS0, hT0⟩ := PdS.start (C := C) HL1.out HK1.out HBK.out (Nat.le_refl _) (Nat.le_succ _) hL0
 have HS0 := Lib.hid hS0
 have HT0 := Lib.hid hT0
 clear hS0 hT0 HL1 HK1 HBK y0 y1 y2 y3 y4 y5 z0 fz fk
 generalize (set6 wb w1.heap.size 0 stillV).setCell ⟨w1.heap.size + 1, 0, none⟩ (.bool true) = wm at HS0 ⊢
 go_loopw [7] (fun x wr => ∃ (r : Nat) (l : List V6) (f : List Bool), r ≤ L.length + 1 ∧ x = .int .i64 r ∧ Hid (PdS w1 L C w1.heap.size (w1.heap.size + 1) (fun j => f[j]? = some true) l f 0 0 wr) ∧ Hid (r + 1 ≤ trueN f ∨ AllK L C l f)) (fun x _ => L.length + 1 - (intOf x).toNat)
 case atStart => exact ⟨0, l0, f0, by omega, rfl, HS0, Lib.hid (.inl HT0.out)⟩
 case round =>
  clear HS0 HT0
  obtain ⟨r, l, f, hr, rfl, hS, hR⟩ := hrel
  have hfn := trueN_le (f := f)
  have hff := hS.out.inv.lenf
  rw [hff] at hfn
  have HFN := Lib.hid hfn
  have HFF := Lib.hid hff
  clear hfn hff
  by_cases hrn : r ≤ L.length
  ·have hri : (r : Int) ≤ (L.length : Int) := by omega
   obtain ⟨wo, hwo⟩ : ∃ x, x = wr := ⟨_, rfl⟩
   subst hwo
   go_wp2_with fail
   go_loopw [8] (fun x wr => ∃ (i : Nat) (l : List V6) (f' : List Bool), i ≤ L.length ∧ x = .int .i64 i ∧ Hid (PdS w1 L C w1.heap.size (w1.heap.size + 1) (fun j => f[j]? = some true) l f' i 0 wr)) (fun x _ => L.length - (intOf x).toNat)
   case atStart => exact ⟨0, l, f, by omega, rfl, hS⟩
   case round =>
    have HRK := Lib.hid hS.out.inv.rootk
    clear hS
    obtain ⟨i, l, f', hi, rfl, hS⟩ := hrel
    by_cases hin : i < L.length
    ·have hii : (i : Int) < (L.length : Int) := by omega
     obtain ⟨b, hb⟩ : ∃ b, f'[i]? = some b := ⟨_, List.getElem?_eq_getElem (by rw [hS.out.inv.lenf]; exact hin)⟩
     have zk := hS.out.kno.at_ hb
     obtain ⟨wi, hwi⟩ : ∃ x, x = wr := ⟨_, rfl⟩
     subst hwi
     cases b with
     | false =>
      have hS2 := hS.out.re (hS.out.inv.skip hb)
      have HS2 := Lib.hid hS2
      clear hS2 hb
      go_wp2_with fail
      go_roundw
      case rel => exact ⟨i + 1, l, f', by omega, by go_num, HS2⟩
      case measure => simp [intOf]; omega
     | true =>
      obtain ⟨m0, hm0⟩ : ∃ m, l[i]? = some m := ⟨_, List.getElem?_eq_getElem (by rw [hS.out.inv.len]; exact hin)⟩
      obtain ⟨t, ht⟩ : ∃ t, L[i]? = some t := ⟨_, List.getElem?_eq_getElem hin⟩
      obtain ⟨gv, cv2, curv, hv2, _, _, _, _⟩ := own_addr HO1.out (by omega)
      cases hv2
      have hit := HIN.out t (List.mem_of_getElem? ht)
      have hts := hit.sm
      obtain ⟨t0, t1, t2⟩ := own_tri (own_below HO1.out hS.out.bel (Nat.le_refl _)) ht
      have cE := edgesOf_any t.1 t.2.1 t.2.2 wi (by have := hts.1; omega) (by have := hts.1; omega) (by have := hts.2.1; omega) (by have := hts.2.1; omega) hts.2.2.1 hts.2.2.2
      have CE := Lib.hid cE
      have HT := Lib.hid ht
      have HIT := Lib.hid hit
      have HM0 := Lib.hid (And.intro hm0 hb)
      clear cE ht hit hts hm0 hb
      go_wp2_with (go_at_call 43; refine CE.out.mono ?_; rintro r w2 ⟨⟨ge, rfl, hke⟩, hb2⟩)
      have hED : EdB w2 ge t := hke
      have HS2 := Lib.hid (hS.out.below hb2)
      have HED := Lib.hid hED
      clear hED hke hb2 hS t0 t1 t2 CE zk
      go_loopw [10] (fun x wr => ∃ (k : Nat) (l : List V6) (f' : List Bool) (m : V6), k ≤ 3 ∧ x = .int .i64 k ∧ Hid (PdS w1 L C w1.heap.size (w1.heap.size + 1) (fun j => f[j]? = some true) l f' i k wr) ∧ Hid (EdB wr ge t) ∧ Hid (l[i]? = some m ∧ f'[i]? = some true)) (fun x _ => 3 - (intOf x).toNat)
      case atStart => exact ⟨0, l, f', m0, by omega, rfl, HS2, HED, HM0⟩
      case round =>
       clear HS2 HED HM0
       obtain ⟨k, l, f', m, hk, rfl, hS, hED, hM⟩ := hrel
       by_cases hk3 : k < 3
       ·have hki : (k : Int) < 3 := by omega
        have hlw := hS.out.bel
        have hit := HIT.out
        have hts := hit.sm
        obtain ⟨t0, t1, t2⟩ := own_tri (own_below HO1.out hlw (Nat.le_refl _)) HT.out
        obtain ⟨y0, y1, y2, y3⟩ := hED.out.at_ hk3
        have cA := fun (w3 : World) => acrossOf_edge t.1 t.2.1 t.2.2 k w3 hk3 (by have := hts.1; omega) (by have := hts.1; omega) (by have := hts.2.1; omega) (by have := hts.2.1; omega) hts.2.2.1 hts.2.2.2
        have hnn := fun h => nbL_none (k := k) HT.out h
        have hns := fun h => nbL_some (k := k) HT.out h
        have hst := stpL_at (C := C) (k := k) HT.out m
        have hke := hit.edge hk3
        have hgood := fun (b : Nat) (h : GV b m) => stpV_good (C := C) hke h
        obtain ⟨E, hE⟩ : ∃ E, E = eT t k := ⟨_, rfl⟩
        obtain ⟨U, hU⟩ : ∃ U, U = nT t k := ⟨_, rfl⟩
        rw [show nextT t.1 t.2.1 t.2.2 k = U from hU.symm, show edgeT t.1 t.2.1 t.2.2 k = E from hE.symm] at cA
        rw [← hU] at hnn hns
        rw [← hE] at hst hke hgood y0 y1 y2 y3
        have CA := Lib.hid cA
        have HNN := Lib.hid hnn
        have HNS := Lib.hid hns
        have HST := Lib.hid hst
        have HKE := Lib.hid hke
        have HGO := Lib.hid hgood
        clear cA hnn hns hst hke hgood hE hU hlw hit hts
        obtain ⟨wk, hwk⟩ : ∃ x, x = wr := ⟨_, rfl⟩
        subst hwk
        go_wp2_with fail
        refine wp_region_inv (fun Lq aq wu => ∃ (s : Nat → Value) (b : Nat → Nat), aq = { tmps := #[shV W H Am nm cm Ac nc cc, .pointer (some ⟨w.heap.size, 0, none⟩), u2, u3, .slice (some ⟨gv, 0, none⟩) L.length cv, .slice (some ⟨w1.heap.size, 0, none⟩) L.length L.length, .slice (some ⟨w1.heap.size + 1, 0, none⟩) L.length L.length, .int .i64 (r : Int), .int .i64 (i : Int), .slice (some ⟨ge, 0, none⟩) 3 3, .int .i64 (k : Int), (s 12), (s 14), u13, u14, .agg #[.int .i64 W, .int .i64 H, .slice Am nm cm, .slice Ac nc cc], .slice (some ⟨gv, 0, none⟩) L.length cv, .slice (some ⟨gv, 0, none⟩) L.length cv, .int .i64 (L.length : Int), .slice (some ⟨w1.heap.size, 0, none⟩) L.length L.length, .slice (some ⟨gv, 0, none⟩) L.length cv, .int .i64 (L.length : Int), .slice (some ⟨w1.heap.size + 1, 0, none⟩) L.length L.length, .slice (some ⟨w1.heap.size, 0, none⟩) L.length L.length, .agg #[.int .i64 1, .int .i64 0, .int .i64 0, .int .i64 1, .int .i64 0, .int .i64 0], .pointer (some ⟨w1.heap.size, 0, none⟩), .slice (some ⟨w1.heap.size + 1, 0, none⟩) L.length L.length, .pointer (some ⟨w1.heap.size + 1, 0, none⟩), .int .i64 (r : Int), .slice (some ⟨gv, 0, none⟩) L.length cv, .int .i64 (L.length : Int), .bool true, u32, u33, .int .i64 (i : Int), .slice (some ⟨gv, 0, none⟩) L.length cv, .int .i64 (L.length : Int), .bool true, u38, u39, .slice (some ⟨w1.heap.size + 1, 0, none⟩) L.length L.length, .int .i64 (i : Int), .pointer (some ⟨w1.heap.size + 1, i, none⟩), .bool true, .bool false, .slice (some ⟨gv, 0, none⟩) L.length cv, .int .i64 (i : Int), .pointer (some ⟨gv, i * 3, none⟩), .agg #[.int .i64 t.1, .int .i64 t.2.1, .int .i64 t.2.2], .slice (some ⟨ge, 0, none⟩) 3 3, .int .i64 (k : Int), .bool true, u52, u53, (s 9), (s 0), (s 1), (s 2), (s 3), (s 4), (s 5), (s 6), (s 7), (s 8), (s 10), (s 11), u66, u67, u68, u69, u70, u71, u72, u73, u74, u75, u76, u77, u78, u79, u80, u81, u82, u83, u84, u85, u86, u87, u88, u89, u90, u91, u92, u93, u94, u95, u96, u97, u98, u99, u100, u101, u102, u103, u104, u105, u106, u107, u108, u109, u110, u111, undef], defers := [] } ∧ RI 15 wk.heap.size wk [some (.slice (some ⟨gv, 0, none⟩) L.length cv), some (.int .i64 (i : Int)), some (.pointer (some ⟨gv, i * 3, none⟩)), some (.agg #[.int .i64 t.1, .int .i64 t.2.1, .int .i64 t.2.2]), some (.slice (some ⟨ge, 0, none⟩) 3 3), some (.int .i64 (k : Int)), some (.pointer (some ⟨ge, k * 4, none⟩)), some (.agg #[.int .i64 E.1, .int .i64 E.2.1, .int .i64 E.2.2.1, .int .i64 E.2.2.2]), some (.tuple #[.agg #[.int .i64 U.1, .int .i64 U.2.1, .int .i64 U.2.2], .bool true]), some (.tuple #[.agg #[.int .i64 U.1, .int .i64 U.2.1, .int .i64 U.2.2], .bool true]), some (.agg #[.int .i64 U.1, .int .i64 U.2.1, .int .i64 U.2.2]), some (.bool true), none, none, some (.bool true)] [none, none, none, none, none, none, none, none, none, none, none, none, none, none, none] [{ al := 12, st := 13, d := 10, z := (.cells #[.int .i64 0, .int .i64 0, .int .i64 0] 93 (0, 0)), f := fun _ => (.cells #[.int .i64 (U.1), .int .i64 (U.2.1), .int .i64 (U.2.2)] 93 (0, 0)) }] Lq s b wu) (by kernel_rfl) ?_ ?_ ?_
        ·exact ⟨listF [u55, u56, u57, u58, u59, u60, u61, u62, u63, u54, u64, u65, u11, undef, u12], listN [], rfl, ri_start (Nat.le_refl _) (Nat.le_refl 15) (Nat.le_refl 15) rfl⟩
        ·intro Lq aq wu i hI hr
         obtain ⟨s, b, rfl, hv⟩ := hI
         have hi : i < 15 := ready_lt hr
         have HV := Lib.hid hv
         clear hv
         have hc : i = 0 ∨ i = 1 ∨ i = 2 ∨ i = 3 ∨ i = 4 ∨ i = 5 ∨ i = 6 ∨ i = 7 ∨ i = 8 ∨ i = 9 ∨ i = 10 ∨ i = 11 ∨ i = 12 ∨ i = 13 ∨ i = 14 := by omega
         clear hi
         rcases hc with rfl | rfl | rfl | rfl | rfl | rfl | rfl | rfl | rfl | rfl | rfl | rfl | rfl | rfl | rfl
         ·have hno := isOn_no (n := 15) (by decide) (mem_ready.1 hr).1
          clear hr
          refine wpOp_step rfl (fun K hK => ?_)
          go_simp
          refine hK _ _ ?_
          exact ⟨upd s 0 (.slice (some ⟨gv, 0, none⟩) L.length cv), b, rfl, RI.putV HV.out hno rfl rfl rfl⟩
         ·have hno := isOn_no (n := 15) (by decide) (mem_ready.1 hr).1
          clear hr
          refine wpOp_step rfl (fun K hK => ?_)
          go_simp
          refine hK _ _ ?_
          exact ⟨upd s 1 (.int .i64 (i : Int)), b, rfl, RI.putV HV.out hno rfl rfl rfl⟩
         ·have hno := isOn_no (n := 15) (by decide) (mem_ready.1 hr).1
          have d0 := ready_dep hr (k := 0) (by kernel_rfl)
          have d1 := ready_dep hr (k := 1) (by kernel_rfl)
          clear hr
          have e0 : s 0 = (.slice (some ⟨gv, 0, none⟩) L.length cv) := HV.out.v d0 rfl
          have e1 : s 1 = (.int .i64 (i : Int)) := HV.out.v d1 rfl
          refine wpOp_step rfl (fun K hK => ?_)
          go_simp
          refine hK _ _ ?_
          exact ⟨upd (upd (upd s 0 (.slice (some ⟨gv, 0, none⟩) L.length cv)) 1 (.int .i64 (i : Int))) 2 (.pointer (some ⟨gv, i * 3, none⟩)), b, rfl, RI.putV (RI.re (j := 1) (v := (.int .i64 (i : Int))) (RI.re (j := 0) (v := (.slice (some ⟨gv, 0, none⟩) L.length cv)) HV.out e0) e1) hno rfl rfl rfl⟩
         ·have hno := isOn_no (n := 15) (by decide) (mem_ready.1 hr).1
          have d2 := ready_dep hr (k := 2) (by kernel_rfl)
          clear hr
          have e2 : s 2 = (.pointer (some ⟨gv, i * 3, none⟩)) := HV.out.v d2 rfl
          have q0 := stay_c t0 HV.out.bel (Nat.le_refl _)
          have q1 := stay_c t1 HV.out.bel (Nat.le_refl _)
          have q2 := stay_c t2 HV.out.bel (Nat.le_refl _)
          refine wpOp_step rfl (fun K hK => ?_)
          go_simp
          refine hK _ _ ?_
          exact ⟨upd (upd s 2 (.pointer (some ⟨gv, i * 3, none⟩))) 3 (.agg #[.int .i64 t.1, .int .i64 t.2.1, .int .i64 t.2.2]), b, rfl, RI.putV (RI.re (j := 2) (v := (.pointer (some ⟨gv, i * 3, none⟩))) HV.out e2) hno rfl rfl rfl⟩
         ·have hno := isOn_no (n := 15) (by decide) (mem_ready.1 hr).1
          clear hr
          refine wpOp_step rfl (fun K hK => ?_)
          go_simp
          refine hK _ _ ?_
          exact ⟨upd s 4 (.slice (some ⟨ge, 0, none⟩) 3 3), b, rfl, RI.putV HV.out hno rfl rfl rfl⟩
         ·have hno := isOn_no (n := 15) (by decide) (mem_ready.1 hr).1
          clear hr
          refine wpOp_step rfl (fun K hK => ?_)
          go_simp
          refine hK _ _ ?_
          exact ⟨upd s 5 (.int .i64 (k : Int)), b, rfl, RI.putV HV.out hno rfl rfl rfl⟩
         ·have hno := isOn_no (n := 15) (by decide) (mem_ready.1 hr).1
          have d4 := ready_dep hr (k := 4) (by kernel_rfl)
          have d5 := ready_dep hr (k := 5) (by kernel_rfl)
          clear hr
          have e4 : s 4 = (.slice (some ⟨ge, 0, none⟩) 3 3) := HV.out.v d4 rfl
          have e5 : s 5 = (.int .i64 (k : Int)) := HV.out.v d5 rfl
          refine wpOp_step rfl (fun K hK => ?_)
          go_simp
          refine hK _ _ ?_
          exact ⟨upd (upd (upd s 4 (.slice (some ⟨ge, 0, none⟩) 3 3)) 5 (.int .i64 (k : Int))) 6 (.pointer (some ⟨ge, k * 4, none⟩)), b, rfl, RI.putV (RI.re (j := 5) (v := (.int .i64 (k : Int))) (RI.re (j := 4) (v := (.slice (some ⟨ge, 0, none⟩) 3 3)) HV.out e4) e5) hno rfl rfl rfl⟩
         ·have hno := isOn_no (n := 15) (by decide) (mem_ready.1 hr).1
          have d6 := ready_dep hr (k := 6) (by kernel_rfl)
          clear hr
          have e6 : s 6 = (.pointer (some ⟨ge, k * 4, none⟩)) := HV.out.v d6 rfl
          have q0 := stay_c y0 HV.out.bel (Nat.le_refl _)
          have q1 := stay_c y1 HV.out.bel (Nat.le_refl _)
          have q2 := stay_c y2 HV.out.bel (Nat.le_refl _)
          have q3 := stay_c y3 HV.out.bel (Nat.le_refl _)
          refine wpOp_step rfl (fun K hK => ?_)
          go_simp
          refine hK _ _ ?_
          exact ⟨upd (upd s 6 (.pointer (some ⟨ge, k * 4, none⟩))) 7 (.agg #[.int .i64 E.1, .int .i64 E.2.1, .int .i64 E.2.2.1, .int .i64 E.2.2.2]), b, rfl, RI.putV (RI.re (j := 6) (v := (.pointer (some ⟨ge, k * 4, none⟩))) HV.out e6) hno rfl rfl rfl⟩
         ·have hno := isOn_no (n := 15) (by decide) (mem_ready.1 hr).1
          have d3 := ready_dep hr (k := 3) (by kernel_rfl)
          have d7 := ready_dep hr (k := 7) (by kernel_rfl)
          clear hr
          have e3 : s 3 = (.agg #[.int .i64 t.1, .int .i64 t.2.1, .int .i64 t.2.2]) := HV.out.v d3 rfl
          have e7 : s 7 = (.agg #[.int .i64 E.1, .int .i64 E.2.1, .int .i64 E.2.2.1, .int .i64 E.2.2.2]) := HV.out.v d7 rfl
          refine wpOp_step rfl (fun K hK => ?_)
          go_wp2_with fail
          refine (CA.out _).mono ?_
          rintro e' wc ⟨he, hbc⟩
          subst he
          refine hK _ _ ?_
          exact ⟨upd (upd (upd s 3 (.agg #[.int .i64 t.1, .int .i64 t.2.1, .int .i64 t.2.2])) 7 (.agg #[.int .i64 E.1, .int .i64 E.2.1, .int .i64 E.2.2.1, .int .i64 E.2.2.2])) 8 (.tuple #[.agg #[.int .i64 U.1, .int .i64 U.2.1, .int .i64 U.2.2], .bool true]), b, rfl, RI.callV (RI.re (j := 7) (v := (.agg #[.int .i64 E.1, .int .i64 E.2.1, .int .i64 E.2.2.1, .int .i64 E.2.2.2])) (RI.re (j := 3) (v := (.agg #[.int .i64 t.1, .int .i64 t.2.1, .int .i64 t.2.2])) HV.out e3) e7) hbc hno rfl rfl rfl⟩
         ·have hno := isOn_no (n := 15) (by decide) (mem_ready.1 hr).1
          have d8 := ready_dep hr (k := 8) (by kernel_rfl)
          clear hr
          have e8 : s 8 = (.tuple #[.agg #[.int .i64 U.1, .int .i64 U.2.1, .int .i64 U.2.2], .bool true]) := HV.out.v d8 rfl
          refine wpOp_step rfl (fun K hK => ?_)
          go_simp
          refine hK _ _ ?_
          exact ⟨upd (upd s 8 (.tuple #[.agg #[.int .i64 U.1, .int .i64 U.2.1, .int .i64 U.2.2], .bool true])) 9 (.tuple #[.agg #[.int .i64 U.1, .int .i64 U.2.1, .int .i64 U.2.2], .bool true]), b, rfl, RI.putV (RI.re (j := 8) (v := (.tuple #[.agg #[.int .i64 U.1, .int .i64 U.2.1, .int .i64 U.2.2], .bool true])) HV.out e8) hno rfl rfl rfl⟩
         ·have hno := isOn_no (n := 15) (by decide) (mem_ready.1 hr).1
          have d9 := ready_dep hr (k := 9) (by kernel_rfl)
          clear hr
          have e9 : s 9 = (.tuple #[.agg #[.int .i64 U.1, .int .i64 U.2.1, .int .i64 U.2.2], .bool true]) := HV.out.v d9 rfl
          refine wpOp_step rfl (fun K hK => ?_)
          go_simp
          refine hK _ _ ?_
          exact ⟨upd (upd s 9 (.tuple #[.agg #[.int .i64 U.1, .int .i64 U.2.1, .int .i64 U.2.2], .bool true])) 10 (.agg #[.int .i64 U.1, .int .i64 U.2.1, .int .i64 U.2.2]), b, rfl, RI.putV (RI.re (j := 9) (v := (.tuple #[.agg #[.int .i64 U.1, .int .i64 U.2.1, .int .i64 U.2.2], .bool true])) HV.out e9) hno rfl rfl rfl⟩
         ·have hno := isOn_no (n := 15) (by decide) (mem_ready.1 hr).1
          have d9 := ready_dep hr (k := 9) (by kernel_rfl)
          clear hr
          have e9 : s 9 = (.tuple #[.agg #[.int .i64 U.1, .int .i64 U.2.1, .int .i64 U.2.2], .bool true]) := HV.out.v d9 rfl
          refine wpOp_step rfl (fun K hK => ?_)
          go_simp
          refine hK _ _ ?_
          exact ⟨upd (upd s 9 (.tuple #[.agg #[.int .i64 U.1, .int .i64 U.2.1, .int .i64 U.2.2], .bool true])) 11 (.bool true), b, rfl, RI.putV (RI.re (j := 9) (v := (.tuple #[.agg #[.int .i64 U.1, .int .i64 U.2.1, .int .i64 U.2.2], .bool true])) HV.out e9) hno rfl rfl rfl⟩
         ·have hno := isOn_no (n := 15) (by decide) (mem_ready.1 hr).1
          clear hr
          refine wpOp_step rfl (fun K hK => ?_)
          go_simp
          refine hK _ _ ?_
          exact ⟨upd s 12 _, updN b 12 _, rfl, RI.new HV.out hno rfl (by simp only [List.mem_cons, List.not_mem_nil, or_false]; rintro q rfl h <;> first | rfl | (simp at h)) rfl rfl⟩
         ·have hno := isOn_no (n := 15) (by decide) (mem_ready.1 hr).1
          have d12 := ready_dep hr (k := 12) (by kernel_rfl)
          have d10 := ready_dep hr (k := 10) (by kernel_rfl)
          clear hr
          have e12 : s 12 = .pointer (some ⟨b 12, 0, none⟩) := (HV.out.bx (.head _) (isOn_of d12)).1
          have e10 : s 10 = (.agg #[.int .i64 U.1, .int .i64 U.2.1, .int .i64 U.2.2]) := HV.out.v d10 rfl
          have kz : wu.heap[b 12]? = some (.cells #[.int .i64 0, .int .i64 0, .int .i64 0] 93 (0, 0)) := HV.out.fresh (.head _) (isOn_of d12) hno
          have z0 := cell_of_blk kz 0
          have z1 := cell_of_blk kz 1
          have z2 := cell_of_blk kz 2
          simp only [List.getElem?_toArray, List.getElem?_cons_zero, List.getElem?_cons_succ] at z0 z1 z2
          have zf := frozen_of_blk kz
          have zl := blk_lt kz
          have zB := (HV.out.bx (.head _) (isOn_of d12)).2
          refine wpOp_step rfl (fun K hK => ?_)
          go_simp
          refine hK _ _ ?_
          have hset := RI.set (w' := setsW wu (b 12) 0 [.int .i64 (U.1), .int .i64 (U.2.1), .int .i64 (U.2.2)]) (i := 13) (v := undef) (RI.re (j := 10) (v := (.agg #[.int .i64 U.1, .int .i64 U.2.1, .int .i64 U.2.2])) (RI.re (j := 12) (v := (.pointer (some ⟨b 12, 0, none⟩))) HV.out e12) e10) (.head _) hno rfl (isOn_of d12) (isOn_of d10) rfl (by simp only [List.mem_cons, List.not_mem_nil, or_false]; rintro q rfl h <;> first | rfl | (simp at h)) rfl rfl (HV.out.bel.trans (setsW_below zB _ _)) (setsW_size _ _ _ _) (fun k hk => setsW_far hk _ _) (setsW_blk kz rfl)
          exact ⟨_, b, rfl, hset⟩
         ·have hno := isOn_no (n := 15) (by decide) (mem_ready.1 hr).1
          have d11 := ready_dep hr (k := 11) (by kernel_rfl)
          clear hr
          have e11 : s 11 = (.bool true) := HV.out.v d11 rfl
          refine wpOp_step rfl (fun K hK => ?_)
          go_simp
          refine hK _ _ ?_
          exact ⟨upd (upd s 11 (.bool true)) 14 (.bool true), b, rfl, RI.putV (RI.re (j := 11) (v := (.bool true)) HV.out e11) hno rfl rfl rfl⟩
        ·intro Lq aq wu hI hrd
         obtain ⟨s, b, ha, hv⟩ := hI
         have hall := all_listedM hrd hv.sz (by kernel_rfl)
         clear hrd
         have e0 : s 0 = (.slice (some ⟨gv, 0, none⟩) L.length cv) := hv.v (hall 0 (by decide)) rfl
         have e1 : s 1 = (.int .i64 (i : Int)) := hv.v (hall 1 (by decide)) rfl
         have e2 : s 2 = (.pointer (some ⟨gv, i * 3, none⟩)) := hv.v (hall 2 (by decide)) rfl
         have e3 : s 3 = (.agg #[.int .i64 t.1, .int .i64 t.2.1, .int .i64 t.2.2]) := hv.v (hall 3 (by decide)) rfl
         have e4 : s 4 = (.slice (some ⟨ge, 0, none⟩) 3 3) := hv.v (hall 4 (by decide)) rfl
         have e5 : s 5 = (.int .i64 (k : Int)) := hv.v (hall 5 (by decide)) rfl
         have e6 : s 6 = (.pointer (some ⟨ge, k * 4, none⟩)) := hv.v (hall 6 (by decide)) rfl
         have e7 : s 7 = (.agg #[.int .i64 E.1, .int .i64 E.2.1, .int .i64 E.2.2.1, .int .i64 E.2.2.2]) := hv.v (hall 7 (by decide)) rfl
         have e8 : s 8 = (.tuple #[.agg #[.int .i64 U.1, .int .i64 U.2.1, .int .i64 U.2.2], .bool true]) := hv.v (hall 8 (by decide)) rfl
         have e9 : s 9 = (.tuple #[.agg #[.int .i64 U.1, .int .i64 U.2.1, .int .i64 U.2.2], .bool true]) := hv.v (hall 9 (by decide)) rfl
         have e10 : s 10 = (.agg #[.int .i64 U.1, .int .i64 U.2.1, .int .i64 U.2.2]) := hv.v (hall 10 (by decide)) rfl
         have e11 : s 11 = (.bool true) := hv.v (hall 11 (by decide)) rfl
         have e12 : s 12 = .pointer (some ⟨b 12, 0, none⟩) := (hv.bx (.head _) (isOn_of (hall 12 (by decide)))).1
         have e14 : s 14 = (.bool true) := hv.v (hall 14 (by decide)) rfl
         simp only [e0, e1, e2, e3, e4, e5, e6, e7, e8, e9, e10, e11, e12, e14] at ha
         subst ha
         have kb0 : wu.heap[b 12]? = some (.cells #[.int .i64 (U.1), .int .i64 (U.2.1), .int .i64 (U.2.2)] 93 (0, 0)) := hv.full (.head _) (isOn_of (hall 12 (by decide))) (isOn_of (hall 13 (by decide)))
         have hbl := hv.bel
         have zb0 : wk.heap.size ≤ b 12 := (hv.bx (.head _) (isOn_of (hall 12 (by decide)))).2
         clear hall hv e0 e1 e2 e3 e4 e5 e6 e7 e8 e9 e10 e11 e12 e14
         generalize b 12 = gU at kb0 zb0  ⊢
         have HS5 := Lib.hid (hS.out.below hbl)
         have HED5 := Lib.hid (hED.out.below hbl)
         have b0 := stay_c a0 HS5.out.bel (Nat.le_refl _)
         have b1 := stay_c a1 HS5.out.bel (Nat.le_refl _)
         have b2 := stay_c a2 HS5.out.bel (Nat.le_refl _)
         have b3 := stay_c a3 HS5.out.bel (Nat.le_refl _)
         have y0 := stay_c y0 hbl (Nat.le_refl _)
         have y1 := stay_c y1 hbl (Nat.le_refl _)
         have y2 := stay_c y2 hbl (Nat.le_refl _)
         have y3 := stay_c y3 hbl (Nat.le_refl _)
         have gu0 := cell_of_blk kb0 0
         have gu1 := cell_of_blk kb0 1
         have gu2 := cell_of_blk kb0 2
         simp only [List.getElem?_toArray, List.getElem?_cons_zero, List.getElem?_cons_succ] at gu0 gu1 gu2
         have cP := placeOf_any _ (some ⟨gv, 0, none⟩) cv L U wu (own_below HO1.out HS5.out.bel (Nat.le_refl _)) hlen
         have CP := Lib.hid cP
         clear cP hS hED t0 t1 t2 hbl kb0 zb0 CA
         by_cases hUL : U ∈ L
         ·obtain ⟨j, hj, hje⟩ : ∃ j, L[j]? = some U ∧ placeI L U = ((j : Nat) : Int) := ⟨L.idxOf U, by rw [List.getElem?_eq_getElem (List.idxOf_lt_length_of_mem hUL)]; simp, by unfold placeI; rw [if_pos hUL]⟩
          have hji : j = L.idxOf U := by
           have h1 : placeI L U = ((L.idxOf U : Nat) : Int) := by unfold placeI; rw [if_pos hUL]
           omega
          have hjn : j < L.length := (List.getElem?_eq_some_iff.1 hj).1
          have hjj : (j : Int) < (L.length : Int) := by omega
          have hj0 : (0 : Int) ≤ (j : Int) := by omega
          have hjz : decide ((j : Int) < 0) = false := by simp
          have cP := CP.out
          rw [hje] at cP
          have CP := Lib.hid cP
          have hnb := HNS.out hUL
          rw [← hji] at hnb
          have HNB := Lib.hid hnb
          clear cP hje hji hUL hj HNN HNS hnb
          go_wp2_with (go_at_call 52; refine CP.out.mono ?_; rintro r w6 ⟨rfl, hb6⟩; have HS6 := Lib.hid (HS5.out.below hb6); have HED6 := Lib.hid (HED5.out.below hb6); obtain ⟨z0, z1, z2, z3, z4, z5⟩ := HS6.out.row.at_ hM.out.1)
          have kM0 := heap_alloc_new w6 (.cells #[.int .i64 m.1, .int .i64 m.2.1, .int .i64 m.2.2.1, .int .i64 m.2.2.2.1, .int .i64 m.2.2.2.2.1, .int .i64 m.2.2.2.2.2] 59)
          have hbm := below_new w6 (.cells #[.int .i64 m.1, .int .i64 m.2.1, .int .i64 m.2.2.1, .int .i64 m.2.2.2.1, .int .i64 m.2.2.2.2.1, .int .i64 m.2.2.2.2.2] 59)
          have HSA := Lib.hid (HS6.out.below hbm)
          have HEA := Lib.hid (HED6.out.below hbm)
          have hbm2 : Below wu.heap.size wu (w6.alloc (.cells #[.int .i64 m.1, .int .i64 m.2.1, .int .i64 m.2.2.1, .int .i64 m.2.2.2.1, .int .i64 m.2.2.2.2.1, .int .i64 m.2.2.2.2.2] 59)) := stay_b hb6 hbm
          have b0 := stay_c b0 hbm2 (Nat.le_refl _)
          have b1 := stay_c b1 hbm2 (Nat.le_refl _)
          have b2 := stay_c b2 hbm2 (Nat.le_refl _)
          have b3 := stay_c b3 hbm2 (Nat.le_refl _)
          have y0 := stay_c y0 hbm2 (Nat.le_refl _)
          have y1 := stay_c y1 hbm2 (Nat.le_refl _)
          have y2 := stay_c y2 hbm2 (Nat.le_refl _)
          have y3 := stay_c y3 hbm2 (Nat.le_refl _)
          have HGO6 := Lib.hid (blk_lt (show w6.heap[w1.heap.size]? = _ from HS6.out.row))
          have hbA := HSA.out.bel
          have HBA := Lib.hid (stay_b HB1.out hbA)
          obtain ⟨KD, hKD⟩ : ∃ z, z = kindD cs E := ⟨_, rfl⟩
          have cK := fun (W' : World) (hb : Below (w6.alloc (.cells #[.int .i64 m.1, .int .i64 m.2.1, .int .i64 m.2.2.1, .int .i64 m.2.2.2.1, .int .i64 m.2.2.2.2.1, .int .i64 m.2.2.2.2.2] 59)).heap.size (w6.alloc (.cells #[.int .i64 m.1, .int .i64 m.2.1, .int .i64 m.2.2.1, .int .i64 m.2.2.2.1, .int .i64 m.2.2.2.2.1, .int .i64 m.2.2.2.2.2] 59)) W') => CK.out W' (stay_b HBA.out hb) E
          rw [← hKD] at cK
          have hcz : C E = decide (KD = 0) := by rw [HC.out, hKD]; rfl
          have CK2 := Lib.hid cK
          have HCZ := Lib.hid hcz
          have KM0 := Lib.hid kM0
          clear hKD hbm hbm2 hbA kM0 hcz HS5 HED5 hb6 z0 z1 z2 z3 z4 z5 gu0 gu1 gu2 cK
          generalize w6.alloc (.cells #[.int .i64 m.1, .int .i64 m.2.1, .int .i64 m.2.2.1, .int .i64 m.2.2.2.1, .int .i64 m.2.2.2.2.1, .int .i64 m.2.2.2.2.2] 59) = wA at b0 b1 b2 b3 y0 y1 y2 y3 HSA HEA HBA CK2 KM0 ⊢
          by_cases hkz : KD = 0
          ·have hkn : (KD != 0) = false := by simpa using hkz
           have HKZ := Lib.hid hkz
           clear hkz
           refine wp_region_inv (fun Lq aq WN => ∃ s : Nat → Value, aq = { tmps := #[shV W H Am nm cm Ac nc cc, .pointer (some ⟨w.heap.size, 0, none⟩), u2, u3, .slice (some ⟨gv, 0, none⟩) L.length cv, .slice (some ⟨w1.heap.size, 0, none⟩) L.length L.length, .slice (some ⟨w1.heap.size + 1, 0, none⟩) L.length L.length, .int .i64 (r : Int), .int .i64 (i : Int), .slice (some ⟨ge, 0, none⟩) 3 3, .int .i64 (k : Int), .pointer (some ⟨gU, 0, none⟩), .bool true, .int .i64 (j : Int), .pointer (some ⟨w6.heap.size, 0, none⟩), .agg #[.int .i64 W, .int .i64 H, .slice Am nm cm, .slice Ac nc cc], .slice (some ⟨gv, 0, none⟩) L.length cv, .slice (some ⟨gv, 0, none⟩) L.length cv, .int .i64 (L.length : Int), .slice (some ⟨w1.heap.size, 0, none⟩) L.length L.length, .slice (some ⟨gv, 0, none⟩) L.length cv, .int .i64 (L.length : Int), .slice (some ⟨w1.heap.size + 1, 0, none⟩) L.length L.length, .slice (some ⟨w1.heap.size, 0, none⟩) L.length L.length, .agg #[.int .i64 1, .int .i64 0, .int .i64 0, .int .i64 1, .int .i64 0, .int .i64 0], .pointer (some ⟨w1.heap.size, 0, none⟩), .slice (some ⟨w1.heap.size + 1, 0, none⟩) L.length L.length, .pointer (some ⟨w1.heap.size + 1, 0, none⟩), .int .i64 (r : Int), .slice (some ⟨gv, 0, none⟩) L.length cv, .int .i64 (L.length : Int), .bool true, u32, u33, .int .i64 (i : Int), .slice (some ⟨gv, 0, none⟩) L.length cv, .int .i64 (L.length : Int), .bool true, u38, u39, .slice (some ⟨w1.heap.size + 1, 0, none⟩) L.length L.length, .int .i64 (i : Int), .pointer (some ⟨w1.heap.size + 1, i, none⟩), .bool true, .bool false, .slice (some ⟨gv, 0, none⟩) L.length cv, .int .i64 (i : Int), .pointer (some ⟨gv, i * 3, none⟩), .agg #[.int .i64 t.1, .int .i64 t.2.1, .int .i64 t.2.2], .slice (some ⟨ge, 0, none⟩) 3 3, .int .i64 (k : Int), .bool true, u52, u53, .tuple #[.agg #[.int .i64 U.1, .int .i64 U.2.1, .int .i64 U.2.2], .bool true], .slice (some ⟨gv, 0, none⟩) L.length cv, .int .i64 (i : Int), .pointer (some ⟨gv, i * 3, none⟩), .agg #[.int .i64 t.1, .int .i64 t.2.1, .int .i64 t.2.2], .slice (some ⟨ge, 0, none⟩) 3 3, .int .i64 (k : Int), .pointer (some ⟨ge, k * 4, none⟩), .agg #[.int .i64 E.1, .int .i64 E.2.1, .int .i64 E.2.2.1, .int .i64 E.2.2.2], .tuple #[.agg #[.int .i64 U.1, .int .i64 U.2.1, .int .i64 U.2.2], .bool true], .agg #[.int .i64 U.1, .int .i64 U.2.1, .int .i64 U.2.2], .bool true, .slice (some ⟨gv, 0, none⟩) L.length cv, .agg #[.int .i64 U.1, .int .i64 U.2.1, .int .i64 U.2.2], .int .i64 (j : Int), .int .i64 (j : Int), .bool false, .slice (some ⟨w1.heap.size, 0, none⟩) L.length L.length, .int .i64 (i : Int), .pointer (some ⟨w1.heap.size, i * 6, none⟩), .agg #[.int .i64 m.1, .int .i64 m.2.1, .int .i64 m.2.2.1, .int .i64 m.2.2.2.1, .int .i64 m.2.2.2.2.1, .int .i64 m.2.2.2.2.2], (s 0), (s 1), (s 2), (s 3), (s 4), (s 5), (s 6), u82, u83, u84, u85, u86, u87, u88, u89, u90, u91, u92, u93, u94, u95, u96, u97, u98, u99, u100, u101, u102, u103, u104, u105, u106, u107, u108, u109, u110, u111, undef], defers := [] } ∧ Sv 7 [some (.agg #[.int .i64 W, .int .i64 H, .slice Am nm cm, .slice Ac nc cc]), some (.slice (some ⟨ge, 0, none⟩) 3 3), some (.int .i64 (k : Int)), some (.pointer (some ⟨ge, k * 4, none⟩)), some (.agg #[.int .i64 E.1, .int .i64 E.2.1, .int .i64 E.2.2.1, .int .i64 E.2.2.2]), some (.int .i64 KD), some (.bool false)] Lq s ∧ (WN.cell? ⟨w.heap.size, 0, none⟩ = some (.int .i64 W) ∧ WN.cell? ⟨w.heap.size, 1, none⟩ = some (.int .i64 H) ∧ WN.cell? ⟨w.heap.size, 2, none⟩ = some (.slice Am nm cm) ∧ WN.cell? ⟨w.heap.size, 3, none⟩ = some (.slice Ac nc cc) ∧ WN.cell? ⟨ge, k * 4, none⟩ = some (.int .i64 E.1) ∧ WN.cell? ⟨ge, k * 4 + 1, none⟩ = some (.int .i64 E.2.1) ∧ WN.cell? ⟨ge, k * 4 + 2, none⟩ = some (.int .i64 E.2.2.1) ∧ WN.cell? ⟨ge, k * 4 + 3, none⟩ = some (.int .i64 E.2.2.2) ∧ Below wA.heap.size wA WN)) (by kernel_rfl) ?_ ?_ ?_
           ·exact ⟨listF [u75, u76, u77, u78, u79, u80, u81], rfl, Sv.start 7 _ _, ⟨b0, b1, b2, b3, y0, y1, y2, y3, (Below.refl _ _).drew⟩⟩
           ·intro Lq aq WN i0 hI hr
            obtain ⟨s, rfl, hv, hst⟩ := hI
            have hi0 : i0 < 7 := ready_lt hr
            have HV := Lib.hid hv
            have HST := Lib.hid hst
            clear hv hst
            have hii : i0 = 0 ∨ i0 = 1 ∨ i0 = 2 ∨ i0 = 3 ∨ i0 = 4 ∨ i0 = 5 ∨ i0 = 6 := by omega
            clear hi0
            rcases hii with rfl | rfl | rfl | rfl | rfl | rfl | rfl
            ·clear hr
             obtain ⟨q0, q1, q2, q3, q4, q5, q6, q7, hbl⟩ := HST.out
             refine wpOp_step rfl (fun K hK => ?_)
             go_simp
             refine hK _ _ ?_
             exact ⟨upd s 0 (.agg #[.int .i64 W, .int .i64 H, .slice Am nm cm, .slice Ac nc cc]), rfl, Sv.put HV.out (fun u hu => by cases hu; rfl), HST.out⟩
            ·clear hr
             refine wpOp_step rfl (fun K hK => ?_)
             go_simp
             refine hK _ _ ?_
             exact ⟨upd s 1 (.slice (some ⟨ge, 0, none⟩) 3 3), rfl, Sv.put HV.out (fun u hu => by cases hu; rfl), HST.out⟩
            ·clear hr
             refine wpOp_step rfl (fun K hK => ?_)
             go_simp
             refine hK _ _ ?_
             exact ⟨upd s 2 (.int .i64 (k : Int)), rfl, Sv.put HV.out (fun u hu => by cases hu; rfl), HST.out⟩
            ·have d1 := ready_dep hr (k := 1) (by kernel_rfl)
             have d2 := ready_dep hr (k := 2) (by kernel_rfl)
             clear hr
             have e1 : s 1 = .slice (some ⟨ge, 0, none⟩) 3 3 := HV.out.v d1 rfl
             have e2 : s 2 = .int .i64 (k : Int) := HV.out.v d2 rfl
             refine wpOp_step rfl (fun K hK => ?_)
             go_simp
             refine hK _ _ ?_
             exact ⟨upd (upd (upd s 1 (.slice (some ⟨ge, 0, none⟩) 3 3)) 2 (.int .i64 (k : Int))) 3 (.pointer (some ⟨ge, k * 4, none⟩)), rfl, Sv.put (Sv.re (j := 2) (v := .int .i64 (k : Int)) (Sv.re (j := 1) (v := .slice (some ⟨ge, 0, none⟩) 3 3) HV.out e1) e2) (fun u hu => by cases hu; rfl), HST.out⟩
            ·have d3 := ready_dep hr (k := 3) (by kernel_rfl)
             clear hr
             have e3 : s 3 = .pointer (some ⟨ge, k * 4, none⟩) := HV.out.v d3 rfl
             obtain ⟨q0, q1, q2, q3, q4, q5, q6, q7, hbl⟩ := HST.out
             refine wpOp_step rfl (fun K hK => ?_)
             go_simp
             refine hK _ _ ?_
             exact ⟨upd (upd s 3 (.pointer (some ⟨ge, k * 4, none⟩))) 4 (.agg #[.int .i64 E.1, .int .i64 E.2.1, .int .i64 E.2.2.1, .int .i64 E.2.2.2]), rfl, Sv.put (Sv.re (j := 3) (v := .pointer (some ⟨ge, k * 4, none⟩)) HV.out e3) (fun u hu => by cases hu; rfl), HST.out⟩
            ·have d0 := ready_dep hr (k := 0) (by kernel_rfl)
             have d4 := ready_dep hr (k := 4) (by kernel_rfl)
             clear hr
             have e0 : s 0 = .agg #[.int .i64 W, .int .i64 H, .slice Am nm cm, .slice Ac nc cc] := HV.out.v d0 rfl
             have e4 : s 4 = .agg #[.int .i64 E.1, .int .i64 E.2.1, .int .i64 E.2.2.1, .int .i64 E.2.2.2] := HV.out.v d4 rfl
             obtain ⟨q0, q1, q2, q3, q4, q5, q6, q7, hbl⟩ := HST.out
             refine wpOp_step rfl (fun K hK => ?_)
             go_simp
             refine (CK2.out _ hbl).mono ?_
             rintro e' wc ⟨he, hbc⟩
             subst he
             refine hK _ _ ?_
             exact ⟨upd (upd (upd s 0 (.agg #[.int .i64 W, .int .i64 H, .slice Am nm cm, .slice Ac nc cc])) 4 (.agg #[.int .i64 E.1, .int .i64 E.2.1, .int .i64 E.2.2.1, .int .i64 E.2.2.2])) 5 (.int .i64 KD), rfl, Sv.put (Sv.re (j := 4) (v := .agg #[.int .i64 E.1, .int .i64 E.2.1, .int .i64 E.2.2.1, .int .i64 E.2.2.2]) (Sv.re (j := 0) (v := .agg #[.int .i64 W, .int .i64 H, .slice Am nm cm, .slice Ac nc cc]) HV.out e0) e4) (fun u hu => by cases hu; rfl), ⟨stay_c q0 hbc (Nat.le_refl _), stay_c q1 hbc (Nat.le_refl _), stay_c q2 hbc (Nat.le_refl _), stay_c q3 hbc (Nat.le_refl _), stay_c q4 hbc (Nat.le_refl _), stay_c q5 hbc (Nat.le_refl _), stay_c q6 hbc (Nat.le_refl _), stay_c q7 hbc (Nat.le_refl _), stay_b hbl hbc⟩⟩
            ·have d5 := ready_dep hr (k := 5) (by kernel_rfl)
             clear hr
             have e5 : s 5 = .int .i64 KD := HV.out.v d5 rfl
             refine wpOp_step rfl (fun K hK => ?_)
             go_simp
             refine hK _ _ ?_
             exact ⟨upd (upd s 5 (.int .i64 KD)) 6 (.bool false), rfl, Sv.put (Sv.re (j := 5) (v := .int .i64 KD) HV.out e5) (fun u hu => by cases hu; rfl), HST.out⟩
           ·intro Lq aq WN hI hrd
            obtain ⟨s, ha, hv, hst⟩ := hI
            have hall := all_listedM hrd hv.sz (by kernel_rfl)
            clear hrd
            have e0 : s 0 = (.agg #[.int .i64 W, .int .i64 H, .slice Am nm cm, .slice Ac nc cc]) := hv.v (hall 0 (by decide)) rfl
            have e1 : s 1 = (.slice (some ⟨ge, 0, none⟩) 3 3) := hv.v (hall 1 (by decide)) rfl
            have e2 : s 2 = (.int .i64 (k : Int)) := hv.v (hall 2 (by decide)) rfl
            have e3 : s 3 = (.pointer (some ⟨ge, k * 4, none⟩)) := hv.v (hall 3 (by decide)) rfl
            have e4 : s 4 = (.agg #[.int .i64 E.1, .int .i64 E.2.1, .int .i64 E.2.2.1, .int .i64 E.2.2.2]) := hv.v (hall 4 (by decide)) rfl
            have e5 : s 5 = (.int .i64 KD) := hv.v (hall 5 (by decide)) rfl
            have e6 : s 6 = (.bool false) := hv.v (hall 6 (by decide)) rfl
            simp only [e0, e1, e2, e3, e4, e5, e6] at ha
            subst ha
            clear hall hv e0 e1 e2 e3 e4 e5 e6
            obtain ⟨q0, q1, q2, q3, q4, q5, q6, q7, hbl⟩ := hst
            have HSB := Lib.hid (HSA.out.below hbl)
            have HEB := Lib.hid (HEA.out.below hbl)
            have KMB := Lib.hid ((LB.one KM0.out).below hbl)
            have y0 := stay_c y0 hbl (Nat.le_refl _)
            have y1 := stay_c y1 hbl (Nat.le_refl _)
            have y2 := stay_c y2 hbl (Nat.le_refl _)
            have y3 := stay_c y3 hbl (Nat.le_refl _)
            obtain ⟨wB, hwB⟩ : ∃ x, x = WN := ⟨_, rfl⟩
            subst hwB
            clear hbl q0 q1 q2 q3 q4 q5 q6 q7 HSA HEA KM0 CK2 b0 b1 b2 b3
            have hgv := HSB.out.inv.good i m hM.out.1 hM.out.2
            have hgo := HGO.out _ hgv
            have htr := trueN_le (f := f')
            rw [HSB.out.inv.lenf] at htr
            have hcE : C E = true := by rw [HCZ.out]; exact decide_eq_true HKZ.out
            have hm' : stpL L C i k m = m := by rw [HST.out]; unfold stpV; rw [if_pos hcE]
            obtain ⟨m', hmm⟩ : ∃ m', m' = m := ⟨_, rfl⟩
            have hm' : stpL L C i k m = m' := hm'.trans hmm.symm
            have KM : Hid (LB wB w6.heap.size [m']) := by rw [hmm]; exact KMB
            have hgm : GV (trueN f' + 1) m' := by rw [hmm]; exact hgv.more
            have HMM := Lib.hid hm'
            have HGM := Lib.hid hgm
            have HS12 := HSB
            have HE12 := HEB
            clear hcE hm' hgv hgo hgm hmm KMB HSB HEB y0 y1 y2 y3
            obtain ⟨wz, hwz⟩ : ∃ x, x = wB := ⟨_, rfl⟩
            subst hwz
            obtain ⟨mj, hmj⟩ : ∃ mj, l[j]? = some mj := ⟨_, List.getElem?_eq_getElem (by rw [HS12.out.inv.len]; exact hjn)⟩
            obtain ⟨b, hfj⟩ : ∃ b, f'[j]? = some b := ⟨_, List.getElem?_eq_getElem (by rw [HS12.out.inv.lenf]; exact hjn)⟩
            obtain ⟨y0, y1, y2, y3, y4, y5⟩ := HS12.out.row.at_ hmj
            obtain ⟨l0, l1, l2, l3, l4, l5⟩ := KM.out.cells1
            have zk := HS12.out.kno.at_ hfj
            have r18 := neM mj m'
            have HMJ := Lib.hid hmj
            clear hmj
            cases b with
            | false =>
             have hok : f'[j]? = some true → l[j]? = some (stpL L C i k m) := fun h => by rw [hfj] at h; cases h
             have HOK := Lib.hid hok
             clear hfj hok r18
             go_wp2_with fail
             refine wp_region_inv (fun Lq aq WN => ∃ s : Nat → Value, aq = { tmps := #[shV W H Am nm cm Ac nc cc, .pointer (some ⟨w.heap.size, 0, none⟩), u2, u3, .slice (some ⟨gv, 0, none⟩) L.length cv, .slice (some ⟨w1.heap.size, 0, none⟩) L.length L.length, .slice (some ⟨w1.heap.size + 1, 0, none⟩) L.length L.length, .int .i64 (r : Int), .int .i64 (i : Int), .slice (some ⟨ge, 0, none⟩) 3 3, .int .i64 (k : Int), .pointer (some ⟨gU, 0, none⟩), .bool true, .int .i64 (j : Int), .pointer (some ⟨w6.heap.size, 0, none⟩), .agg #[.int .i64 W, .int .i64 H, .slice Am nm cm, .slice Ac nc cc], .slice (some ⟨gv, 0, none⟩) L.length cv, .slice (some ⟨gv, 0, none⟩) L.length cv, .int .i64 (L.length : Int), .slice (some ⟨w1.heap.size, 0, none⟩) L.length L.length, .slice (some ⟨gv, 0, none⟩) L.length cv, .int .i64 (L.length : Int), .slice (some ⟨w1.heap.size + 1, 0, none⟩) L.length L.length, .slice (some ⟨w1.heap.size, 0, none⟩) L.length L.length, .agg #[.int .i64 1, .int .i64 0, .int .i64 0, .int .i64 1, .int .i64 0, .int .i64 0], .pointer (some ⟨w1.heap.size, 0, none⟩), .slice (some ⟨w1.heap.size + 1, 0, none⟩) L.length L.length, .pointer (some ⟨w1.heap.size + 1, 0, none⟩), .int .i64 (r : Int), .slice (some ⟨gv, 0, none⟩) L.length cv, .int .i64 (L.length : Int), .bool true, u32, u33, .int .i64 (i : Int), .slice (some ⟨gv, 0, none⟩) L.length cv, .int .i64 (L.length : Int), .bool true, u38, u39, .slice (some ⟨w1.heap.size + 1, 0, none⟩) L.length L.length, .int .i64 (i : Int), .pointer (some ⟨w1.heap.size + 1, i, none⟩), .bool true, .bool false, .slice (some ⟨gv, 0, none⟩) L.length cv, .int .i64 (i : Int), .pointer (some ⟨gv, i * 3, none⟩), .agg #[.int .i64 t.1, .int .i64 t.2.1, .int .i64 t.2.2], .slice (some ⟨ge, 0, none⟩) 3 3, .int .i64 (k : Int), .bool true, u52, u53, .tuple #[.agg #[.int .i64 U.1, .int .i64 U.2.1, .int .i64 U.2.2], .bool true], .slice (some ⟨gv, 0, none⟩) L.length cv, .int .i64 (i : Int), .pointer (some ⟨gv, i * 3, none⟩), .agg #[.int .i64 t.1, .int .i64 t.2.1, .int .i64 t.2.2], .slice (some ⟨ge, 0, none⟩) 3 3, .int .i64 (k : Int), .pointer (some ⟨ge, k * 4, none⟩), .agg #[.int .i64 E.1, .int .i64 E.2.1, .int .i64 E.2.2.1, .int .i64 E.2.2.2], .tuple #[.agg #[.int .i64 U.1, .int .i64 U.2.1, .int .i64 U.2.2], .bool true], .agg #[.int .i64 U.1, .int .i64 U.2.1, .int .i64 U.2.2], .bool true, .slice (some ⟨gv, 0, none⟩) L.length cv, .agg #[.int .i64 U.1, .int .i64 U.2.1, .int .i64 U.2.2], .int .i64 (j : Int), .int .i64 (j : Int), .bool false, .slice (some ⟨w1.heap.size, 0, none⟩) L.length L.length, .int .i64 (i : Int), .pointer (some ⟨w1.heap.size, i * 6, none⟩), .agg #[.int .i64 m.1, .int .i64 m.2.1, .int .i64 m.2.2.1, .int .i64 m.2.2.2.1, .int .i64 m.2.2.2.2.1, .int .i64 m.2.2.2.2.2], .agg #[.int .i64 W, .int .i64 H, .slice Am nm cm, .slice Ac nc cc], .slice (some ⟨ge, 0, none⟩) 3 3, .int .i64 (k : Int), .pointer (some ⟨ge, k * 4, none⟩), .agg #[.int .i64 E.1, .int .i64 E.2.1, .int .i64 E.2.2.1, .int .i64 E.2.2.2], .int .i64 KD, .bool false, u82, u83, u84, u85, u86, u87, u88, u89, u90, u91, u92, (s 0), (s 1), (s 2), (s 3), (s 4), (s 5), (s 6), (s 7), (s 8), (s 9), (s 10), (s 11), u105, u106, u107, u108, u109, u110, u111, undef], defers := [] } ∧ Sv 12 [some (.slice (some ⟨w1.heap.size + 1, 0, none⟩) L.length L.length), some (.int .i64 (j : Int)), some (.pointer (some ⟨w1.heap.size + 1, j, none⟩)), some (.bool false), some (.bool false), some (undef), some (undef), some (undef), some (undef), some (undef), some (undef), some (.bool false)] Lq s ∧ (WN.cell? ⟨w1.heap.size + 1, j, none⟩ = some (.bool false) ∧ WN.cell? ⟨w1.heap.size, j * 6, none⟩ = some (.int .i64 mj.1) ∧ WN.cell? ⟨w1.heap.size, j * 6 + 1, none⟩ = some (.int .i64 mj.2.1) ∧ WN.cell? ⟨w1.heap.size, j * 6 + 2, none⟩ = some (.int .i64 mj.2.2.1) ∧ WN.cell? ⟨w1.heap.size, j * 6 + 3, none⟩ = some (.int .i64 mj.2.2.2.1) ∧ WN.cell? ⟨w1.heap.size, j * 6 + 4, none⟩ = some (.int .i64 mj.2.2.2.2.1) ∧ WN.cell? ⟨w1.heap.size, j * 6 + 5, none⟩ = some (.int .i64 mj.2.2.2.2.2) ∧ WN.cell? ⟨w6.heap.size, 0, none⟩ = some (.int .i64 m'.1) ∧ WN.cell? ⟨w6.heap.size, 1, none⟩ = some (.int .i64 m'.2.1) ∧ WN.cell? ⟨w6.heap.size, 2, none⟩ = some (.int .i64 m'.2.2.1) ∧ WN.cell? ⟨w6.heap.size, 3, none⟩ = some (.int .i64 m'.2.2.2.1) ∧ WN.cell? ⟨w6.heap.size, 4, none⟩ = some (.int .i64 m'.2.2.2.2.1) ∧ WN.cell? ⟨w6.heap.size, 5, none⟩ = some (.int .i64 m'.2.2.2.2.2) ∧ Below wz.heap.size wz WN)) (by kernel_rfl) ?_ ?_ ?_
             ·exact ⟨listF [u93, u94, u95, u96, u97, u98, u99, u100, u101, u102, u103, u104], rfl, Sv.start 12 _ _, ⟨zk, y0, y1, y2, y3, y4, y5, l0, l1, l2, l3, l4, l5, (Below.refl _ _).drew⟩⟩
             ·intro Lq aq WN i0 hI hr
              obtain ⟨s, rfl, hv, hst⟩ := hI
              have hi0 : i0 < 12 := ready_lt hr
              have HV := Lib.hid hv
              have HST := Lib.hid hst
              clear hv hst
              have hii : i0 = 0 ∨ i0 = 1 ∨ i0 = 2 ∨ i0 = 3 ∨ i0 = 4 ∨ i0 = 5 ∨ i0 = 6 ∨ i0 = 7 ∨ i0 = 8 ∨ i0 = 9 ∨ i0 = 10 ∨ i0 = 11 := by omega
              clear hi0
              rcases hii with rfl | rfl | rfl | rfl | rfl | rfl | rfl | rfl | rfl | rfl | rfl | rfl
              ·clear hr
               refine wpOp_step rfl (fun K hK => ?_)
               go_simp
               refine hK _ _ ?_
               exact ⟨upd s 0 (.slice (some ⟨w1.heap.size + 1, 0, none⟩) L.length L.length), rfl, Sv.put HV.out (fun u hu => by cases hu; rfl), HST.out⟩
              ·clear hr
               refine wpOp_step rfl (fun K hK => ?_)
               go_simp
               refine hK _ _ ?_
               exact ⟨upd s 1 (.int .i64 (j : Int)), rfl, Sv.put HV.out (fun u hu => by cases hu; rfl), HST.out⟩
              ·have d0 := ready_dep hr (k := 0) (by kernel_rfl)
               have d1 := ready_dep hr (k := 1) (by kernel_rfl)
               clear hr
               have e0 : s 0 = .slice (some ⟨w1.heap.size + 1, 0, none⟩) L.length L.length := HV.out.v d0 rfl
               have e1 : s 1 = .int .i64 (j : Int) := HV.out.v d1 rfl
               refine wpOp_step rfl (fun K hK => ?_)
               go_simp
               refine hK _ _ ?_
               exact ⟨upd (upd (upd s 0 (.slice (some ⟨w1.heap.size + 1, 0, none⟩) L.length L.length)) 1 (.int .i64 (j : Int))) 2 (.pointer (some ⟨w1.heap.size + 1, j, none⟩)), rfl, Sv.put (Sv.re (j := 1) (v := .int .i64 (j : Int)) (Sv.re (j := 0) (v := .slice (some ⟨w1.heap.size + 1, 0, none⟩) L.length L.length) HV.out e0) e1) (fun u hu => by cases hu; rfl), HST.out⟩
              ·have d2 := ready_dep hr (k := 2) (by kernel_rfl)
               clear hr
               have e2 : s 2 = .pointer (some ⟨w1.heap.size + 1, j, none⟩) := HV.out.v d2 rfl
               obtain ⟨q0, q1, q2, q3, q4, q5, q6, q7, q8, q9, q10, q11, q12, hbl⟩ := HST.out
               refine wpOp_step rfl (fun K hK => ?_)
               go_simp
               refine hK _ _ ?_
               exact ⟨upd (upd s 2 (.pointer (some ⟨w1.heap.size + 1, j, none⟩))) 3 (.bool false), rfl, Sv.put (Sv.re (j := 2) (v := .pointer (some ⟨w1.heap.size + 1, j, none⟩)) HV.out e2) (fun u hu => by cases hu; rfl), HST.out⟩
              ·have d3 := ready_dep hr (k := 3) (by kernel_rfl)
               clear hr
               have e3 : s 3 = .bool false := HV.out.v d3 rfl
               refine wpOp_step rfl (fun K hK => ?_)
               go_simp
               refine hK _ _ ?_
               exact ⟨upd (upd s 3 (.bool false)) 4 (.bool false), rfl, Sv.put (Sv.re (j := 3) (v := .bool false) HV.out e3) (fun u hu => by cases hu; rfl), HST.out⟩
              ·have d4 := ready_dep hr (k := 4) (by kernel_rfl)
               clear hr
               have e4 : s 4 = .bool false := HV.out.v d4 rfl
               refine wpOp_step rfl (fun K hK => ?_)
               go_simp
               refine hK _ _ ?_
               exact ⟨upd (upd s 4 (.bool false)) 5 (undef), rfl, Sv.put (Sv.re (j := 4) (v := .bool false) HV.out e4) (fun u hu => by cases hu; rfl), HST.out⟩
              ·have d4 := ready_dep hr (k := 4) (by kernel_rfl)
               clear hr
               have e4 : s 4 = .bool false := HV.out.v d4 rfl
               refine wpOp_step rfl (fun K hK => ?_)
               go_simp
               refine hK _ _ ?_
               exact ⟨upd (upd s 4 (.bool false)) 6 (undef), rfl, Sv.put (Sv.re (j := 4) (v := .bool false) HV.out e4) (fun u hu => by cases hu; rfl), HST.out⟩
              ·have d4 := ready_dep hr (k := 4) (by kernel_rfl)
               clear hr
               have e4 : s 4 = .bool false := HV.out.v d4 rfl
               refine wpOp_step rfl (fun K hK => ?_)
               go_simp
               refine hK _ _ ?_
               exact ⟨upd (upd s 4 (.bool false)) 7 (undef), rfl, Sv.put (Sv.re (j := 4) (v := .bool false) HV.out e4) (fun u hu => by cases hu; rfl), HST.out⟩
              ·have d4 := ready_dep hr (k := 4) (by kernel_rfl)
               clear hr
               have e4 : s 4 = .bool false := HV.out.v d4 rfl
               refine wpOp_step rfl (fun K hK => ?_)
               go_simp
               refine hK _ _ ?_
               exact ⟨upd (upd s 4 (.bool false)) 8 (undef), rfl, Sv.put (Sv.re (j := 4) (v := .bool false) HV.out e4) (fun u hu => by cases hu; rfl), HST.out⟩
              ·have d4 := ready_dep hr (k := 4) (by kernel_rfl)
               clear hr
               have e4 : s 4 = .bool false := HV.out.v d4 rfl
               refine wpOp_step rfl (fun K hK => ?_)
               go_simp
               refine hK _ _ ?_
               exact ⟨upd (upd s 4 (.bool false)) 9 (undef), rfl, Sv.put (Sv.re (j := 4) (v := .bool false) HV.out e4) (fun u hu => by cases hu; rfl), HST.out⟩
              ·have d4 := ready_dep hr (k := 4) (by kernel_rfl)
               clear hr
               have e4 : s 4 = .bool false := HV.out.v d4 rfl
               refine wpOp_step rfl (fun K hK => ?_)
               go_simp
               refine hK _ _ ?_
               exact ⟨upd (upd s 4 (.bool false)) 10 (undef), rfl, Sv.put (Sv.re (j := 4) (v := .bool false) HV.out e4) (fun u hu => by cases hu; rfl), HST.out⟩
              ·have d4 := ready_dep hr (k := 4) (by kernel_rfl)
               have d10 := ready_dep hr (k := 10) (by kernel_rfl)
               clear hr
               have e4 : s 4 = .bool false := HV.out.v d4 rfl
               have e10 : s 10 = undef := HV.out.v d10 rfl
               refine wpOp_step rfl (fun K hK => ?_)
               go_simp
               refine hK _ _ ?_
               exact ⟨upd (upd (upd s 4 (.bool false)) 10 (undef)) 11 (.bool false), rfl, Sv.put (Sv.re (j := 10) (v := undef) (Sv.re (j := 4) (v := .bool false) HV.out e4) e10) (fun u hu => by cases hu; rfl), HST.out⟩
             ·intro Lq aq WN hI hrd
              obtain ⟨s, ha, hv, hst⟩ := hI
              have hall := all_listedM hrd hv.sz (by kernel_rfl)
              clear hrd
              have e0 : s 0 = (.slice (some ⟨w1.heap.size + 1, 0, none⟩) L.length L.length) := hv.v (hall 0 (by decide)) rfl
              have e1 : s 1 = (.int .i64 (j : Int)) := hv.v (hall 1 (by decide)) rfl
              have e2 : s 2 = (.pointer (some ⟨w1.heap.size + 1, j, none⟩)) := hv.v (hall 2 (by decide)) rfl
              have e3 : s 3 = (.bool false) := hv.v (hall 3 (by decide)) rfl
              have e4 : s 4 = (.bool false) := hv.v (hall 4 (by decide)) rfl
              have e5 : s 5 = (undef) := hv.v (hall 5 (by decide)) rfl
              have e6 : s 6 = (undef) := hv.v (hall 6 (by decide)) rfl
              have e7 : s 7 = (undef) := hv.v (hall 7 (by decide)) rfl
              have e8 : s 8 = (undef) := hv.v (hall 8 (by decide)) rfl
              have e9 : s 9 = (undef) := hv.v (hall 9 (by decide)) rfl
              have e10 : s 10 = (undef) := hv.v (hall 10 (by decide)) rfl
              have e11 : s 11 = (.bool false) := hv.v (hall 11 (by decide)) rfl
              simp only [e0, e1, e2, e3, e4, e5, e6, e7, e8, e9, e10, e11] at ha
              subst ha
              clear hall hv e0 e1 e2 e3 e4 e5 e6 e7 e8 e9 e10 e11
              obtain ⟨q0, q1, q2, q3, q4, q5, q6, q7, q8, q9, q10, q11, q12, hbl⟩ := hst
              have hsz := HS12.out.below hbl
              have hez := HE12.out.below hbl
              have hinv := hsz.inv.put hk3 hM.out.1 hM.out.2 HNB.out hjn HOK.out (fun _ _ h => h.more) (fun _ => by rw [HMM.out]; exact HGM.out)
              rw [HMM.out] at hinv
              have hN := hsz.put j m' hinv
              have hE := hez.put (j := j) (m := m') hsz.row hsz.kno
              obtain ⟨m2, hm2⟩ := keep_at hM.out j m'
              have fz := hsz.row.fz
              have fk := hsz.kno.fz
              have HN := Lib.hid hN
              have HEN := Lib.hid hE
              have HM2 := Lib.hid hm2
              clear hsz hez hinv hN hE hm2 hbl y0 y1 y2 y3 y4 y5 l0 l1 l2 l3 l4 l5 zk
              go_wp2
              go_roundw
              case rel => exact ⟨k + 1, l.set j m', f'.set j true, m2, by omega, by go_num, HN, HEN, HM2⟩
              case measure => simp [intOf]; omega
            | true =>
             by_cases heq : mj = m'
             ·have hd : (!decide (mj = m')) = false := by simp [heq]
              rw [hd] at r18
              have hok : f'[j]? = some true → l[j]? = some (stpL L C i k m) := fun _ => by rw [HMM.out, ← heq]; exact HMJ.out
              have HOK := Lib.hid hok
              clear heq hd hok hfj
              go_wp2_with fail
              refine wp_region_inv (fun Lq aq WN => ∃ s : Nat → Value, aq = { tmps := #[shV W H Am nm cm Ac nc cc, .pointer (some ⟨w.heap.size, 0, none⟩), u2, u3, .slice (some ⟨gv, 0, none⟩) L.length cv, .slice (some ⟨w1.heap.size, 0, none⟩) L.length L.length, .slice (some ⟨w1.heap.size + 1, 0, none⟩) L.length L.length, .int .i64 (r : Int), .int .i64 (i : Int), .slice (some ⟨ge, 0, none⟩) 3 3, .int .i64 (k : Int), .pointer (some ⟨gU, 0, none⟩), .bool true, .int .i64 (j : Int), .pointer (some ⟨w6.heap.size, 0, none⟩), .agg #[.int .i64 W, .int .i64 H, .slice Am nm cm, .slice Ac nc cc], .slice (some ⟨gv, 0, none⟩) L.length cv, .slice (some ⟨gv, 0, none⟩) L.length cv, .int .i64 (L.length : Int), .slice (some ⟨w1.heap.size, 0, none⟩) L.length L.length, .slice (some ⟨gv, 0, none⟩) L.length cv, .int .i64 (L.length : Int), .slice (some ⟨w1.heap.size + 1, 0, none⟩) L.length L.length, .slice (some ⟨w1.heap.size, 0, none⟩) L.length L.length, .agg #[.int .i64 1, .int .i64 0, .int .i64 0, .int .i64 1, .int .i64 0, .int .i64 0], .pointer (some ⟨w1.heap.size, 0, none⟩), .slice (some ⟨w1.heap.size + 1, 0, none⟩) L.length L.length, .pointer (some ⟨w1.heap.size + 1, 0, none⟩), .int .i64 (r : Int), .slice (some ⟨gv, 0, none⟩) L.length cv, .int .i64 (L.length : Int), .bool true, u32, u33, .int .i64 (i : Int), .slice (some ⟨gv, 0, none⟩) L.length cv, .int .i64 (L.length : Int), .bool true, u38, u39, .slice (some ⟨w1.heap.size + 1, 0, none⟩) L.length L.length, .int .i64 (i : Int), .pointer (some ⟨w1.heap.size + 1, i, none⟩), .bool true, .bool false, .slice (some ⟨gv, 0, none⟩) L.length cv, .int .i64 (i : Int), .pointer (some ⟨gv, i * 3, none⟩), .agg #[.int .i64 t.1, .int .i64 t.2.1, .int .i64 t.2.2], .slice (some ⟨ge, 0, none⟩) 3 3, .int .i64 (k : Int), .bool true, u52, u53, .tuple #[.agg #[.int .i64 U.1, .int .i64 U.2.1, .int .i64 U.2.2], .bool true], .slice (some ⟨gv, 0, none⟩) L.length cv, .int .i64 (i : Int), .pointer (some ⟨gv, i * 3, none⟩), .agg #[.int .i64 t.1, .int .i64 t.2.1, .int .i64 t.2.2], .slice (some ⟨ge, 0, none⟩) 3 3, .int .i64 (k : Int), .pointer (some ⟨ge, k * 4, none⟩), .agg #[.int .i64 E.1, .int .i64 E.2.1, .int .i64 E.2.2.1, .int .i64 E.2.2.2], .tuple #[.agg #[.int .i64 U.1, .int .i64 U.2.1, .int .i64 U.2.2], .bool true], .agg #[.int .i64 U.1, .int .i64 U.2.1, .int .i64 U.2.2], .bool true, .slice (some ⟨gv, 0, none⟩) L.length cv, .agg #[.int .i64 U.1, .int .i64 U.2.1, .int .i64 U.2.2], .int .i64 (j : Int), .int .i64 (j : Int), .bool false, .slice (some ⟨w1.heap.size, 0, none⟩) L.length L.length, .int .i64 (i : Int), .pointer (some ⟨w1.heap.size, i * 6, none⟩), .agg #[.int .i64 m.1, .int .i64 m.2.1, .int .i64 m.2.2.1, .int .i64 m.2.2.2.1, .int .i64 m.2.2.2.2.1, .int .i64 m.2.2.2.2.2], .agg #[.int .i64 W, .int .i64 H, .slice Am nm cm, .slice Ac nc cc], .slice (some ⟨ge, 0, none⟩) 3 3, .int .i64 (k : Int), .pointer (some ⟨ge, k * 4, none⟩), .agg #[.int .i64 E.1, .int .i64 E.2.1, .int .i64 E.2.2.1, .int .i64 E.2.2.2], .int .i64 KD, .bool false, u82, u83, u84, u85, u86, u87, u88, u89, u90, u91, u92, (s 0), (s 1), (s 2), (s 3), (s 4), (s 5), (s 6), (s 7), (s 8), (s 9), (s 10), (s 11), u105, u106, u107, u108, u109, u110, u111, undef], defers := [] } ∧ Sv 12 [some (.slice (some ⟨w1.heap.size + 1, 0, none⟩) L.length L.length), some (.int .i64 (j : Int)), some (.pointer (some ⟨w1.heap.size + 1, j, none⟩)), some (.bool true), some (.bool true), some (.slice (some ⟨w1.heap.size, 0, none⟩) L.length L.length), some (.int .i64 (j : Int)), some (.pointer (some ⟨w1.heap.size, j * 6, none⟩)), some (.agg #[.int .i64 mj.1, .int .i64 mj.2.1, .int .i64 mj.2.2.1, .int .i64 mj.2.2.2.1, .int .i64 mj.2.2.2.2.1, .int .i64 mj.2.2.2.2.2]), some (.agg #[.int .i64 m'.1, .int .i64 m'.2.1, .int .i64 m'.2.2.1, .int .i64 m'.2.2.2.1, .int .i64 m'.2.2.2.2.1, .int .i64 m'.2.2.2.2.2]), some (.bool false), some (.bool false)] Lq s ∧ (WN.cell? ⟨w1.heap.size + 1, j, none⟩ = some (.bool true) ∧ WN.cell? ⟨w1.heap.size, j * 6, none⟩ = some (.int .i64 mj.1) ∧ WN.cell? ⟨w1.heap.size, j * 6 + 1, none⟩ = some (.int .i64 mj.2.1) ∧ WN.cell? ⟨w1.heap.size, j * 6 + 2, none⟩ = some (.int .i64 mj.2.2.1) ∧ WN.cell? ⟨w1.heap.size, j * 6 + 3, none⟩ = some (.int .i64 mj.2.2.2.1) ∧ WN.cell? ⟨w1.heap.size, j * 6 + 4, none⟩ = some (.int .i64 mj.2.2.2.2.1) ∧ WN.cell? ⟨w1.heap.size, j * 6 + 5, none⟩ = some (.int .i64 mj.2.2.2.2.2) ∧ WN.cell? ⟨w6.heap.size, 0, none⟩ = some (.int .i64 m'.1) ∧ WN.cell? ⟨w6.heap.size, 1, none⟩ = some (.int .i64 m'.2.1) ∧ WN.cell? ⟨w6.heap.size, 2, none⟩ = some (.int .i64 m'.2.2.1) ∧ WN.cell? ⟨w6.heap.size, 3, none⟩ = some (.int .i64 m'.2.2.2.1) ∧ WN.cell? ⟨w6.heap.size, 4, none⟩ = some (.int .i64 m'.2.2.2.2.1) ∧ WN.cell? ⟨w6.heap.size, 5, none⟩ = some (.int .i64 m'.2.2.2.2.2) ∧ Below wz.heap.size wz WN)) (by kernel_rfl) ?_ ?_ ?_
              ·exact ⟨listF [u93, u94, u95, u96, u97, u98, u99, u100, u101, u102, u103, u104], rfl, Sv.start 12 _ _, ⟨zk, y0, y1, y2, y3, y4, y5, l0, l1, l2, l3, l4, l5, (Below.refl _ _).drew⟩⟩
              ·intro Lq aq WN i0 hI hr
               obtain ⟨s, rfl, hv, hst⟩ := hI
               have hi0 : i0 < 12 := ready_lt hr
               have HV := Lib.hid hv
               have HST := Lib.hid hst
               clear hv hst
               have hii : i0 = 0 ∨ i0 = 1 ∨ i0 = 2 ∨ i0 = 3 ∨ i0 = 4 ∨ i0 = 5 ∨ i0 = 6 ∨ i0 = 7 ∨ i0 = 8 ∨ i0 = 9 ∨ i0 = 10 ∨ i0 = 11 := by omega
               clear hi0
               rcases hii with rfl | rfl | rfl | rfl | rfl | rfl | rfl | rfl | rfl | rfl | rfl | rfl
               ·clear hr
                refine wpOp_step rfl (fun K hK => ?_)
                go_simp
                refine hK _ _ ?_
                exact ⟨upd s 0 (.slice (some ⟨w1.heap.size + 1, 0, none⟩) L.length L.length), rfl, Sv.put HV.out (fun u hu => by cases hu; rfl), HST.out⟩
               ·clear hr
                refine wpOp_step rfl (fun K hK => ?_)
                go_simp
                refine hK _ _ ?_
                exact ⟨upd s 1 (.int .i64 (j : Int)), rfl, Sv.put HV.out (fun u hu => by cases hu; rfl), HST.out⟩
               ·have d0 := ready_dep hr (k := 0) (by kernel_rfl)
                have d1 := ready_dep hr (k := 1) (by kernel_rfl)
                clear hr
                have e0 : s 0 = .slice (some ⟨w1.heap.size + 1, 0, none⟩) L.length L.length := HV.out.v d0 rfl
                have e1 : s 1 = .int .i64 (j : Int) := HV.out.v d1 rfl
                refine wpOp_step rfl (fun K hK => ?_)
                go_simp
                refine hK _ _ ?_
                exact ⟨upd (upd (upd s 0 (.slice (some ⟨w1.heap.size + 1, 0, none⟩) L.length L.length)) 1 (.int .i64 (j : Int))) 2 (.pointer (some ⟨w1.heap.size + 1, j, none⟩)), rfl, Sv.put (Sv.re (j := 1) (v := .int .i64 (j : Int)) (Sv.re (j := 0) (v := .slice (some ⟨w1.heap.size + 1, 0, none⟩) L.length L.length) HV.out e0) e1) (fun u hu => by cases hu; rfl), HST.out⟩
               ·have d2 := ready_dep hr (k := 2) (by kernel_rfl)
                clear hr
                have e2 : s 2 = .pointer (some ⟨w1.heap.size + 1, j, none⟩) := HV.out.v d2 rfl
                obtain ⟨q0, q1, q2, q3, q4, q5, q6, q7, q8, q9, q10, q11, q12, hbl⟩ := HST.out
                refine wpOp_step rfl (fun K hK => ?_)
                go_simp
                refine hK _ _ ?_
                exact ⟨upd (upd s 2 (.pointer (some ⟨w1.heap.size + 1, j, none⟩))) 3 (.bool true), rfl, Sv.put (Sv.re (j := 2) (v := .pointer (some ⟨w1.heap.size + 1, j, none⟩)) HV.out e2) (fun u hu => by cases hu; rfl), HST.out⟩
               ·have d3 := ready_dep hr (k := 3) (by kernel_rfl)
                clear hr
                have e3 : s 3 = .bool true := HV.out.v d3 rfl
                refine wpOp_step rfl (fun K hK => ?_)
                go_simp
                refine hK _ _ ?_
                exact ⟨upd (upd s 3 (.bool true)) 4 (.bool true), rfl, Sv.put (Sv.re (j := 3) (v := .bool true) HV.out e3) (fun u hu => by cases hu; rfl), HST.out⟩
               ·have d4 := ready_dep hr (k := 4) (by kernel_rfl)
                clear hr
                have e4 : s 4 = .bool true := HV.out.v d4 rfl
                refine wpOp_step rfl (fun K hK => ?_)
                go_simp
                refine hK _ _ ?_
                exact ⟨upd (upd s 4 (.bool true)) 5 (.slice (some ⟨w1.heap.size, 0, none⟩) L.length L.length), rfl, Sv.put (Sv.re (j := 4) (v := .bool true) HV.out e4) (fun u hu => by cases hu; rfl), HST.out⟩
               ·have d4 := ready_dep hr (k := 4) (by kernel_rfl)
                clear hr
                have e4 : s 4 = .bool true := HV.out.v d4 rfl
                refine wpOp_step rfl (fun K hK => ?_)
                go_simp
                refine hK _ _ ?_
                exact ⟨upd (upd s 4 (.bool true)) 6 (.int .i64 (j : Int)), rfl, Sv.put (Sv.re (j := 4) (v := .bool true) HV.out e4) (fun u hu => by cases hu; rfl), HST.out⟩
               ·have d4 := ready_dep hr (k := 4) (by kernel_rfl)
                have d5 := ready_dep hr (k := 5) (by kernel_rfl)
                have d6 := ready_dep hr (k := 6) (by kernel_rfl)
                clear hr
                have e4 : s 4 = .bool true := HV.out.v d4 rfl
                have e5 : s 5 = .slice (some ⟨w1.heap.size, 0, none⟩) L.length L.length := HV.out.v d5 rfl
                have e6 : s 6 = .int .i64 (j : Int) := HV.out.v d6 rfl
                refine wpOp_step rfl (fun K hK => ?_)
                go_simp
                refine hK _ _ ?_
                exact ⟨upd (upd (upd (upd s 4 (.bool true)) 5 (.slice (some ⟨w1.heap.size, 0, none⟩) L.length L.length)) 6 (.int .i64 (j : Int))) 7 (.pointer (some ⟨w1.heap.size, j * 6, none⟩)), rfl, Sv.put (Sv.re (j := 6) (v := .int .i64 (j : Int)) (Sv.re (j := 5) (v := .slice (some ⟨w1.heap.size, 0, none⟩) L.length L.length) (Sv.re (j := 4) (v := .bool true) HV.out e4) e5) e6) (fun u hu => by cases hu; rfl), HST.out⟩
               ·have d4 := ready_dep hr (k := 4) (by kernel_rfl)
                have d7 := ready_dep hr (k := 7) (by kernel_rfl)
                clear hr
                have e4 : s 4 = .bool true := HV.out.v d4 rfl
                have e7 : s 7 = .pointer (some ⟨w1.heap.size, j * 6, none⟩) := HV.out.v d7 rfl
                obtain ⟨q0, q1, q2, q3, q4, q5, q6, q7, q8, q9, q10, q11, q12, hbl⟩ := HST.out
                refine wpOp_step rfl (fun K hK => ?_)
                go_simp
                refine hK _ _ ?_
                exact ⟨upd (upd (upd s 4 (.bool true)) 7 (.pointer (some ⟨w1.heap.size, j * 6, none⟩))) 8 (.agg #[.int .i64 mj.1, .int .i64 mj.2.1, .int .i64 mj.2.2.1, .int .i64 mj.2.2.2.1, .int .i64 mj.2.2.2.2.1, .int .i64 mj.2.2.2.2.2]), rfl, Sv.put (Sv.re (j := 7) (v := .pointer (some ⟨w1.heap.size, j * 6, none⟩)) (Sv.re (j := 4) (v := .bool true) HV.out e4) e7) (fun u hu => by cases hu; rfl), HST.out⟩
               ·have d4 := ready_dep hr (k := 4) (by kernel_rfl)
                clear hr
                have e4 : s 4 = .bool true := HV.out.v d4 rfl
                obtain ⟨q0, q1, q2, q3, q4, q5, q6, q7, q8, q9, q10, q11, q12, hbl⟩ := HST.out
                refine wpOp_step rfl (fun K hK => ?_)
                go_simp
                refine hK _ _ ?_
                exact ⟨upd (upd s 4 (.bool true)) 9 (.agg #[.int .i64 m'.1, .int .i64 m'.2.1, .int .i64 m'.2.2.1, .int .i64 m'.2.2.2.1, .int .i64 m'.2.2.2.2.1, .int .i64 m'.2.2.2.2.2]), rfl, Sv.put (Sv.re (j := 4) (v := .bool true) HV.out e4) (fun u hu => by cases hu; rfl), HST.out⟩
               ·have d4 := ready_dep hr (k := 4) (by kernel_rfl)
                have d8 := ready_dep hr (k := 8) (by kernel_rfl)
                have d9 := ready_dep hr (k := 9) (by kernel_rfl)
                clear hr
                have e4 : s 4 = .bool true := HV.out.v d4 rfl
                have e8 : s 8 = .agg #[.int .i64 mj.1, .int .i64 mj.2.1, .int .i64 mj.2.2.1, .int .i64 mj.2.2.2.1, .int .i64 mj.2.2.2.2.1, .int .i64 mj.2.2.2.2.2] := HV.out.v d8 rfl
                have e9 : s 9 = .agg #[.int .i64 m'.1, .int .i64 m'.2.1, .int .i64 m'.2.2.1, .int .i64 m'.2.2.2.1, .int .i64 m'.2.2.2.2.1, .int .i64 m'.2.2.2.2.2] := HV.out.v d9 rfl
                refine wpOp_step rfl (fun K hK => ?_)
                go_simp
                refine hK _ _ ?_
                exact ⟨upd (upd (upd (upd s 4 (.bool true)) 8 (.agg #[.int .i64 mj.1, .int .i64 mj.2.1, .int .i64 mj.2.2.1, .int .i64 mj.2.2.2.1, .int .i64 mj.2.2.2.2.1, .int .i64 mj.2.2.2.2.2])) 9 (.agg #[.int .i64 m'.1, .int .i64 m'.2.1, .int .i64 m'.2.2.1, .int .i64 m'.2.2.2.1, .int .i64 m'.2.2.2.2.1, .int .i64 m'.2.2.2.2.2])) 10 (.bool false), rfl, Sv.put (Sv.re (j := 9) (v := .agg #[.int .i64 m'.1, .int .i64 m'.2.1, .int .i64 m'.2.2.1, .int .i64 m'.2.2.2.1, .int .i64 m'.2.2.2.2.1, .int .i64 m'.2.2.2.2.2]) (Sv.re (j := 8) (v := .agg #[.int .i64 mj.1, .int .i64 mj.2.1, .int .i64 mj.2.2.1, .int .i64 mj.2.2.2.1, .int .i64 mj.2.2.2.2.1, .int .i64 mj.2.2.2.2.2]) (Sv.re (j := 4) (v := .bool true) HV.out e4) e8) e9) (fun u hu => by cases hu; rfl), HST.out⟩
               ·have d4 := ready_dep hr (k := 4) (by kernel_rfl)
                have d10 := ready_dep hr (k := 10) (by kernel_rfl)
                clear hr
                have e4 : s 4 = .bool true := HV.out.v d4 rfl
                have e10 : s 10 = .bool false := HV.out.v d10 rfl
                refine wpOp_step rfl (fun K hK => ?_)
                go_simp
                refine hK _ _ ?_
                exact ⟨upd (upd (upd s 4 (.bool true)) 10 (.bool false)) 11 (.bool false), rfl, Sv.put (Sv.re (j := 10) (v := .bool false) (Sv.re (j := 4) (v := .bool true) HV.out e4) e10) (fun u hu => by cases hu; rfl), HST.out⟩
              ·intro Lq aq WN hI hrd
               obtain ⟨s, ha, hv, hst⟩ := hI
               have hall := all_listedM hrd hv.sz (by kernel_rfl)
               clear hrd
               have e0 : s 0 = (.slice (some ⟨w1.heap.size + 1, 0, none⟩) L.length L.length) := hv.v (hall 0 (by decide)) rfl
               have e1 : s 1 = (.int .i64 (j : Int)) := hv.v (hall 1 (by decide)) rfl
               have e2 : s 2 = (.pointer (some ⟨w1.heap.size + 1, j, none⟩)) := hv.v (hall 2 (by decide)) rfl
               have e3 : s 3 = (.bool true) := hv.v (hall 3 (by decide)) rfl
               have e4 : s 4 = (.bool true) := hv.v (hall 4 (by decide)) rfl
               have e5 : s 5 = (.slice (some ⟨w1.heap.size, 0, none⟩) L.length L.length) := hv.v (hall 5 (by decide)) rfl
               have e6 : s 6 = (.int .i64 (j : Int)) := hv.v (hall 6 (by decide)) rfl
               have e7 : s 7 = (.pointer (some ⟨w1.heap.size, j * 6, none⟩)) := hv.v (hall 7 (by decide)) rfl
               have e8 : s 8 = (.agg #[.int .i64 mj.1, .int .i64 mj.2.1, .int .i64 mj.2.2.1, .int .i64 mj.2.2.2.1, .int .i64 mj.2.2.2.2.1, .int .i64 mj.2.2.2.2.2]) := hv.v (hall 8 (by decide)) rfl
               have e9 : s 9 = (.agg #[.int .i64 m'.1, .int .i64 m'.2.1, .int .i64 m'.2.2.1, .int .i64 m'.2.2.2.1, .int .i64 m'.2.2.2.2.1, .int .i64 m'.2.2.2.2.2]) := hv.v (hall 9 (by decide)) rfl
               have e10 : s 10 = (.bool false) := hv.v (hall 10 (by decide)) rfl
               have e11 : s 11 = (.bool false) := hv.v (hall 11 (by decide)) rfl
               simp only [e0, e1, e2, e3, e4, e5, e6, e7, e8, e9, e10, e11] at ha
               subst ha
               clear hall hv e0 e1 e2 e3 e4 e5 e6 e7 e8 e9 e10 e11
               obtain ⟨q0, q1, q2, q3, q4, q5, q6, q7, q8, q9, q10, q11, q12, hbl⟩ := hst
               have hsz := HS12.out.below hbl
               have hez := HE12.out.below hbl
               have hinv := hsz.inv.put hk3 hM.out.1 hM.out.2 HNB.out hjn HOK.out (fun _ _ h => h.more) (fun _ => by rw [HMM.out]; exact HGM.out)
               rw [HMM.out] at hinv
               have hN := hsz.put j m' hinv
               have hE := hez.put (j := j) (m := m') hsz.row hsz.kno
               obtain ⟨m2, hm2⟩ := keep_at hM.out j m'
               have fz := hsz.row.fz
               have fk := hsz.kno.fz
               have HN := Lib.hid hN
               have HEN := Lib.hid hE
               have HM2 := Lib.hid hm2
               clear hsz hez hinv hN hE hm2 hbl y0 y1 y2 y3 y4 y5 l0 l1 l2 l3 l4 l5 zk
               go_wp2
               go_roundw
               case rel => exact ⟨k + 1, l.set j m', f'.set j true, m2, by omega, by go_num, HN, HEN, HM2⟩
               case measure => simp [intOf]; omega
             ·have hd : (!decide (mj = m')) = true := by simp [heq]
              rw [hd] at r18
              have hcl := HS12.out.inv.clash (i := i) (k := k) hk3 hM.out.1 hM.out.2 HNB.out HMJ.out hfj (by rw [HMM.out]; exact heq)
              have HCL := Lib.hid hcl
              clear heq hd hcl hfj
              go_wp2_with fail
              refine wp_region_inv (fun Lq aq WN => ∃ s : Nat → Value, aq = { tmps := #[shV W H Am nm cm Ac nc cc, .pointer (some ⟨w.heap.size, 0, none⟩), u2, u3, .slice (some ⟨gv, 0, none⟩) L.length cv, .slice (some ⟨w1.heap.size, 0, none⟩) L.length L.length, .slice (some ⟨w1.heap.size + 1, 0, none⟩) L.length L.length, .int .i64 (r : Int), .int .i64 (i : Int), .slice (some ⟨ge, 0, none⟩) 3 3, .int .i64 (k : Int), .pointer (some ⟨gU, 0, none⟩), .bool true, .int .i64 (j : Int), .pointer (some ⟨w6.heap.size, 0, none⟩), .agg #[.int .i64 W, .int .i64 H, .slice Am nm cm, .slice Ac nc cc], .slice (some ⟨gv, 0, none⟩) L.length cv, .slice (some ⟨gv, 0, none⟩) L.length cv, .int .i64 (L.length : Int), .slice (some ⟨w1.heap.size, 0, none⟩) L.length L.length, .slice (some ⟨gv, 0, none⟩) L.length cv, .int .i64 (L.length : Int), .slice (some ⟨w1.heap.size + 1, 0, none⟩) L.length L.length, .slice (some ⟨w1.heap.size, 0, none⟩) L.length L.length, .agg #[.int .i64 1, .int .i64 0, .int .i64 0, .int .i64 1, .int .i64 0, .int .i64 0], .pointer (some ⟨w1.heap.size, 0, none⟩), .slice (some ⟨w1.heap.size + 1, 0, none⟩) L.length L.length, .pointer (some ⟨w1.heap.size + 1, 0, none⟩), .int .i64 (r : Int), .slice (some ⟨gv, 0, none⟩) L.length cv, .int .i64 (L.length : Int), .bool true, u32, u33, .int .i64 (i : Int), .slice (some ⟨gv, 0, none⟩) L.length cv, .int .i64 (L.length : Int), .bool true, u38, u39, .slice (some ⟨w1.heap.size + 1, 0, none⟩) L.length L.length, .int .i64 (i : Int), .pointer (some ⟨w1.heap.size + 1, i, none⟩), .bool true, .bool false, .slice (some ⟨gv, 0, none⟩) L.length cv, .int .i64 (i : Int), .pointer (some ⟨gv, i * 3, none⟩), .agg #[.int .i64 t.1, .int .i64 t.2.1, .int .i64 t.2.2], .slice (some ⟨ge, 0, none⟩) 3 3, .int .i64 (k : Int), .bool true, u52, u53, .tuple #[.agg #[.int .i64 U.1, .int .i64 U.2.1, .int .i64 U.2.2], .bool true], .slice (some ⟨gv, 0, none⟩) L.length cv, .int .i64 (i : Int), .pointer (some ⟨gv, i * 3, none⟩), .agg #[.int .i64 t.1, .int .i64 t.2.1, .int .i64 t.2.2], .slice (some ⟨ge, 0, none⟩) 3 3, .int .i64 (k : Int), .pointer (some ⟨ge, k * 4, none⟩), .agg #[.int .i64 E.1, .int .i64 E.2.1, .int .i64 E.2.2.1, .int .i64 E.2.2.2], .tuple #[.agg #[.int .i64 U.1, .int .i64 U.2.1, .int .i64 U.2.2], .bool true], .agg #[.int .i64 U.1, .int .i64 U.2.1, .int .i64 U.2.2], .bool true, .slice (some ⟨gv, 0, none⟩) L.length cv, .agg #[.int .i64 U.1, .int .i64 U.2.1, .int .i64 U.2.2], .int .i64 (j : Int), .int .i64 (j : Int), .bool false, .slice (some ⟨w1.heap.size, 0, none⟩) L.length L.length, .int .i64 (i : Int), .pointer (some ⟨w1.heap.size, i * 6, none⟩), .agg #[.int .i64 m.1, .int .i64 m.2.1, .int .i64 m.2.2.1, .int .i64 m.2.2.2.1, .int .i64 m.2.2.2.2.1, .int .i64 m.2.2.2.2.2], .agg #[.int .i64 W, .int .i64 H, .slice Am nm cm, .slice Ac nc cc], .slice (some ⟨ge, 0, none⟩) 3 3, .int .i64 (k : Int), .pointer (some ⟨ge, k * 4, none⟩), .agg #[.int .i64 E.1, .int .i64 E.2.1, .int .i64 E.2.2.1, .int .i64 E.2.2.2], .int .i64 KD, .bool false, u82, u83, u84, u85, u86, u87, u88, u89, u90, u91, u92, (s 0), (s 1), (s 2), (s 3), (s 4), (s 5), (s 6), (s 7), (s 8), (s 9), (s 10), (s 11), u105, u106, u107, u108, u109, u110, u111, undef], defers := [] } ∧ Sv 12 [some (.slice (some ⟨w1.heap.size + 1, 0, none⟩) L.length L.length), some (.int .i64 (j : Int)), some (.pointer (some ⟨w1.heap.size + 1, j, none⟩)), some (.bool true), some (.bool true), some (.slice (some ⟨w1.heap.size, 0, none⟩) L.length L.length), some (.int .i64 (j : Int)), some (.pointer (some ⟨w1.heap.size, j * 6, none⟩)), some (.agg #[.int .i64 mj.1, .int .i64 mj.2.1, .int .i64 mj.2.2.1, .int .i64 mj.2.2.2.1, .int .i64 mj.2.2.2.2.1, .int .i64 mj.2.2.2.2.2]), some (.agg #[.int .i64 m'.1, .int .i64 m'.2.1, .int .i64 m'.2.2.1, .int .i64 m'.2.2.2.1, .int .i64 m'.2.2.2.2.1, .int .i64 m'.2.2.2.2.2]), some (.bool true), some (.bool true)] Lq s ∧ (WN.cell? ⟨w1.heap.size + 1, j, none⟩ = some (.bool true) ∧ WN.cell? ⟨w1.heap.size, j * 6, none⟩ = some (.int .i64 mj.1) ∧ WN.cell? ⟨w1.heap.size, j * 6 + 1, none⟩ = some (.int .i64 mj.2.1) ∧ WN.cell? ⟨w1.heap.size, j * 6 + 2, none⟩ = some (.int .i64 mj.2.2.1) ∧ WN.cell? ⟨w1.heap.size, j * 6 + 3, none⟩ = some (.int .i64 mj.2.2.2.1) ∧ WN.cell? ⟨w1.heap.size, j * 6 + 4, none⟩ = some (.int .i64 mj.2.2.2.2.1) ∧ WN.cell? ⟨w1.heap.size, j * 6 + 5, none⟩ = some (.int .i64 mj.2.2.2.2.2) ∧ WN.cell? ⟨w6.heap.size, 0, none⟩ = some (.int .i64 m'.1) ∧ WN.cell? ⟨w6.heap.size, 1, none⟩ = some (.int .i64 m'.2.1) ∧ WN.cell? ⟨w6.heap.size, 2, none⟩ = some (.int .i64 m'.2.2.1) ∧ WN.cell? ⟨w6.heap.size, 3, none⟩ = some (.int .i64 m'.2.2.2.1) ∧ WN.cell? ⟨w6.heap.size, 4, none⟩ = some (.int .i64 m'.2.2.2.2.1) ∧ WN.cell? ⟨w6.heap.size, 5, none⟩ = some (.int .i64 m'.2.2.2.2.2) ∧ Below wz.heap.size wz WN)) (by kernel_rfl) ?_ ?_ ?_
              ·exact ⟨listF [u93, u94, u95, u96, u97, u98, u99, u100, u101, u102, u103, u104], rfl, Sv.start 12 _ _, ⟨zk, y0, y1, y2, y3, y4, y5, l0, l1, l2, l3, l4, l5, (Below.refl _ _).drew⟩⟩
              ·intro Lq aq WN i0 hI hr
               obtain ⟨s, rfl, hv, hst⟩ := hI
               have hi0 : i0 < 12 := ready_lt hr
               have HV := Lib.hid hv
               have HST := Lib.hid hst
               clear hv hst
               have hii : i0 = 0 ∨ i0 = 1 ∨ i0 = 2 ∨ i0 = 3 ∨ i0 = 4 ∨ i0 = 5 ∨ i0 = 6 ∨ i0 = 7 ∨ i0 = 8 ∨ i0 = 9 ∨ i0 = 10 ∨ i0 = 11 := by omega
               clear hi0
               rcases hii with rfl | rfl | rfl | rfl | rfl | rfl | rfl | rfl | rfl | rfl | rfl | rfl
               ·clear hr
                refine wpOp_step rfl (fun K hK => ?_)
                go_simp
                refine hK _ _ ?_
                exact ⟨upd s 0 (.slice (some ⟨w1.heap.size + 1, 0, none⟩) L.length L.length), rfl, Sv.put HV.out (fun u hu => by cases hu; rfl), HST.out⟩
               ·clear hr
                refine wpOp_step rfl (fun K hK => ?_)
                go_simp
                refine hK _ _ ?_
                exact ⟨upd s 1 (.int .i64 (j : Int)), rfl, Sv.put HV.out (fun u hu => by cases hu; rfl), HST.out⟩
               ·have d0 := ready_dep hr (k := 0) (by kernel_rfl)
                have d1 := ready_dep hr (k := 1) (by kernel_rfl)
                clear hr
                have e0 : s 0 = .slice (some ⟨w1.heap.size + 1, 0, none⟩) L.length L.length := HV.out.v d0 rfl
                have e1 : s 1 = .int .i64 (j : Int) := HV.out.v d1 rfl
                refine wpOp_step rfl (fun K hK => ?_)
                go_simp
                refine hK _ _ ?_
                exact ⟨upd (upd (upd s 0 (.slice (some ⟨w1.heap.size + 1, 0, none⟩) L.length L.length)) 1 (.int .i64 (j : Int))) 2 (.pointer (some ⟨w1.heap.size + 1, j, none⟩)), rfl, Sv.put (Sv.re (j := 1) (v := .int .i64 (j : Int)) (Sv.re (j := 0) (v := .slice (some ⟨w1.heap.size + 1, 0, none⟩) L.length L.length) HV.out e0) e1) (fun u hu => by cases hu; rfl), HST.out⟩
               ·have d2 := ready_dep hr (k := 2) (by kernel_rfl)
                clear hr
                have e2 : s 2 = .pointer (some ⟨w1.heap.size + 1, j, none⟩) := HV.out.v d2 rfl
                obtain ⟨q0, q1, q2, q3, q4, q5, q6, q7, q8, q9, q10, q11, q12, hbl⟩ := HST.out
                refine wpOp_step rfl (fun K hK => ?_)
                go_simp
                refine hK _ _ ?_
                exact ⟨upd (upd s 2 (.pointer (some ⟨w1.heap.size + 1, j, none⟩))) 3 (.bool true), rfl, Sv.put (Sv.re (j := 2) (v := .pointer (some ⟨w1.heap.size + 1, j, none⟩)) HV.out e2) (fun u hu => by cases hu; rfl), HST.out⟩
               ·have d3 := ready_dep hr (k := 3) (by kernel_rfl)
                clear hr
                have e3 : s 3 = .bool true := HV.out.v d3 rfl
                refine wpOp_step rfl (fun K hK => ?_)
                go_simp
                refine hK _ _ ?_
                exact ⟨upd (upd s 3 (.bool true)) 4 (.bool true), rfl, Sv.put (Sv.re (j := 3) (v := .bool true) HV.out e3) (fun u hu => by cases hu; rfl), HST.out⟩
               ·have d4 := ready_dep hr (k := 4) (by kernel_rfl)
                clear hr
                have e4 : s 4 = .bool true := HV.out.v d4 rfl
                refine wpOp_step rfl (fun K hK => ?_)
                go_simp
                refine hK _ _ ?_
                exact ⟨upd (upd s 4 (.bool true)) 5 (.slice (some ⟨w1.heap.size, 0, none⟩) L.length L.length), rfl, Sv.put (Sv.re (j := 4) (v := .bool true) HV.out e4) (fun u hu => by cases hu; rfl), HST.out⟩
               ·have d4 := ready_dep hr (k := 4) (by kernel_rfl)
                clear hr
                have e4 : s 4 = .bool true := HV.out.v d4 rfl
                refine wpOp_step rfl (fun K hK => ?_)
                go_simp
                refine hK _ _ ?_
                exact ⟨upd (upd s 4 (.bool true)) 6 (.int .i64 (j : Int)), rfl, Sv.put (Sv.re (j := 4) (v := .bool true) HV.out e4) (fun u hu => by cases hu; rfl), HST.out⟩
               ·have d4 := ready_dep hr (k := 4) (by kernel_rfl)
                have d5 := ready_dep hr (k := 5) (by kernel_rfl)
                have d6 := ready_dep hr (k := 6) (by kernel_rfl)
                clear hr
                have e4 : s 4 = .bool true := HV.out.v d4 rfl
                have e5 : s 5 = .slice (some ⟨w1.heap.size, 0, none⟩) L.length L.length := HV.out.v d5 rfl
                have e6 : s 6 = .int .i64 (j : Int) := HV.out.v d6 rfl
                refine wpOp_step rfl (fun K hK => ?_)
                go_simp
                refine hK _ _ ?_
                exact ⟨upd (upd (upd (upd s 4 (.bool true)) 5 (.slice (some ⟨w1.heap.size, 0, none⟩) L.length L.length)) 6 (.int .i64 (j : Int))) 7 (.pointer (some ⟨w1.heap.size, j * 6, none⟩)), rfl, Sv.put (Sv.re (j := 6) (v := .int .i64 (j : Int)) (Sv.re (j := 5) (v := .slice (some ⟨w1.heap.size, 0, none⟩) L.length L.length) (Sv.re (j := 4) (v := .bool true) HV.out e4) e5) e6) (fun u hu => by cases hu; rfl), HST.out⟩
               ·have d4 := ready_dep hr (k := 4) (by kernel_rfl)
                have d7 := ready_dep hr (k := 7) (by kernel_rfl)
                clear hr
                have e4 : s 4 = .bool true := HV.out.v d4 rfl
                have e7 : s 7 = .pointer (some ⟨w1.heap.size, j * 6, none⟩) := HV.out.v d7 rfl
                obtain ⟨q0, q1, q2, q3, q4, q5, q6, q7, q8, q9, q10, q11, q12, hbl⟩ := HST.out
                refine wpOp_step rfl (fun K hK => ?_)
                go_simp
                refine hK _ _ ?_
                exact ⟨upd (upd (upd s 4 (.bool true)) 7 (.pointer (some ⟨w1.heap.size, j * 6, none⟩))) 8 (.agg #[.int .i64 mj.1, .int .i64 mj.2.1, .int .i64 mj.2.2.1, .int .i64 mj.2.2.2.1, .int .i64 mj.2.2.2.2.1, .int .i64 mj.2.2.2.2.2]), rfl, Sv.put (Sv.re (j := 7) (v := .pointer (some ⟨w1.heap.size, j * 6, none⟩)) (Sv.re (j := 4) (v := .bool true) HV.out e4) e7) (fun u hu => by cases hu; rfl), HST.out⟩
               ·have d4 := ready_dep hr (k := 4) (by kernel_rfl)
                clear hr
                have e4 : s 4 = .bool true := HV.out.v d4 rfl
                obtain ⟨q0, q1, q2, q3, q4, q5, q6, q7, q8, q9, q10, q11, q12, hbl⟩ := HST.out
                refine wpOp_step rfl (fun K hK => ?_)
                go_simp
                refine hK _ _ ?_
                exact ⟨upd (upd s 4 (.bool true)) 9 (.agg #[.int .i64 m'.1, .int .i64 m'.2.1, .int .i64 m'.2.2.1, .int .i64 m'.2.2.2.1, .int .i64 m'.2.2.2.2.1, .int .i64 m'.2.2.2.2.2]), rfl, Sv.put (Sv.re (j := 4) (v := .bool true) HV.out e4) (fun u hu => by cases hu; rfl), HST.out⟩
               ·have d4 := ready_dep hr (k := 4) (by kernel_rfl)
                have d8 := ready_dep hr (k := 8) (by kernel_rfl)
                have d9 := ready_dep hr (k := 9) (by kernel_rfl)
                clear hr
                have e4 : s 4 = .bool true := HV.out.v d4 rfl
                have e8 : s 8 = .agg #[.int .i64 mj.1, .int .i64 mj.2.1, .int .i64 mj.2.2.1, .int .i64 mj.2.2.2.1, .int .i64 mj.2.2.2.2.1, .int .i64 mj.2.2.2.2.2] := HV.out.v d8 rfl
                have e9 : s 9 = .agg #[.int .i64 m'.1, .int .i64 m'.2.1, .int .i64 m'.2.2.1, .int .i64 m'.2.2.2.1, .int .i64 m'.2.2.2.2.1, .int .i64 m'.2.2.2.2.2] := HV.out.v d9 rfl
                refine wpOp_step rfl (fun K hK => ?_)
                go_simp
                refine hK _ _ ?_
                exact ⟨upd (upd (upd (upd s 4 (.bool true)) 8 (.agg #[.int .i64 mj.1, .int .i64 mj.2.1, .int .i64 mj.2.2.1, .int .i64 mj.2.2.2.1, .int .i64 mj.2.2.2.2.1, .int .i64 mj.2.2.2.2.2])) 9 (.agg #[.int .i64 m'.1, .int .i64 m'.2.1, .int .i64 m'.2.2.1, .int .i64 m'.2.2.2.1, .int .i64 m'.2.2.2.2.1, .int .i64 m'.2.2.2.2.2])) 10 (.bool true), rfl, Sv.put (Sv.re (j := 9) (v := .agg #[.int .i64 m'.1, .int .i64 m'.2.1, .int .i64 m'.2.2.1, .int .i64 m'.2.2.2.1, .int .i64 m'.2.2.2.2.1, .int .i64 m'.2.2.2.2.2]) (Sv.re (j := 8) (v := .agg #[.int .i64 mj.1, .int .i64 mj.2.1, .int .i64 mj.2.2.1, .int .i64 mj.2.2.2.1, .int .i64 mj.2.2.2.2.1, .int .i64 mj.2.2.2.2.2]) (Sv.re (j := 4) (v := .bool true) HV.out e4) e8) e9) (fun u hu => by cases hu; rfl), HST.out⟩
               ·have d4 := ready_dep hr (k := 4) (by kernel_rfl)
                have d10 := ready_dep hr (k := 10) (by kernel_rfl)
                clear hr
                have e4 : s 4 = .bool true := HV.out.v d4 rfl
                have e10 : s 10 = .bool true := HV.out.v d10 rfl
                refine wpOp_step rfl (fun K hK => ?_)
                go_simp
                refine hK _ _ ?_
                exact ⟨upd (upd (upd s 4 (.bool true)) 10 (.bool true)) 11 (.bool true), rfl, Sv.put (Sv.re (j := 10) (v := .bool true) (Sv.re (j := 4) (v := .bool true) HV.out e4) e10) (fun u hu => by cases hu; rfl), HST.out⟩
              ·intro Lq aq WN hI hrd
               obtain ⟨s, ha, hv, hst⟩ := hI
               have hall := all_listedM hrd hv.sz (by kernel_rfl)
               clear hrd
               have e0 : s 0 = (.slice (some ⟨w1.heap.size + 1, 0, none⟩) L.length L.length) := hv.v (hall 0 (by decide)) rfl
               have e1 : s 1 = (.int .i64 (j : Int)) := hv.v (hall 1 (by decide)) rfl
               have e2 : s 2 = (.pointer (some ⟨w1.heap.size + 1, j, none⟩)) := hv.v (hall 2 (by decide)) rfl
               have e3 : s 3 = (.bool true) := hv.v (hall 3 (by decide)) rfl
               have e4 : s 4 = (.bool true) := hv.v (hall 4 (by decide)) rfl
               have e5 : s 5 = (.slice (some ⟨w1.heap.size, 0, none⟩) L.length L.length) := hv.v (hall 5 (by decide)) rfl
               have e6 : s 6 = (.int .i64 (j : Int)) := hv.v (hall 6 (by decide)) rfl
               have e7 : s 7 = (.pointer (some ⟨w1.heap.size, j * 6, none⟩)) := hv.v (hall 7 (by decide)) rfl
               have e8 : s 8 = (.agg #[.int .i64 mj.1, .int .i64 mj.2.1, .int .i64 mj.2.2.1, .int .i64 mj.2.2.2.1, .int .i64 mj.2.2.2.2.1, .int .i64 mj.2.2.2.2.2]) := hv.v (hall 8 (by decide)) rfl
               have e9 : s 9 = (.agg #[.int .i64 m'.1, .int .i64 m'.2.1, .int .i64 m'.2.2.1, .int .i64 m'.2.2.2.1, .int .i64 m'.2.2.2.2.1, .int .i64 m'.2.2.2.2.2]) := hv.v (hall 9 (by decide)) rfl
               have e10 : s 10 = (.bool true) := hv.v (hall 10 (by decide)) rfl
               have e11 : s 11 = (.bool true) := hv.v (hall 11 (by decide)) rfl
               simp only [e0, e1, e2, e3, e4, e5, e6, e7, e8, e9, e10, e11] at ha
               subst ha
               clear hall hv e0 e1 e2 e3 e4 e5 e6 e7 e8 e9 e10 e11
               obtain ⟨q0, q1, q2, q3, q4, q5, q6, q7, q8, q9, q10, q11, q12, hbl⟩ := hst
               have HBF := Lib.hid (stay_b HBW.out (stay_b HS12.out.bel hbl))
               clear hbl
               go_wp2
               exact bodyPost_ret (v := .tuple #[.slice none 0 0, .bool false]) (by simp [results, Tryd.results24, go_sem]) rfl ⟨HBF.out, .inl ⟨(by first | exact HCL.out | exact not_exists.1 HCL.out), rfl⟩⟩
          ·have hkn : (KD != 0) = true := by simpa using hkz
           have HKZ := Lib.hid hkz
           clear hkz
           refine wp_region_inv (fun Lq aq WN => ∃ s : Nat → Value, aq = { tmps := #[shV W H Am nm cm Ac nc cc, .pointer (some ⟨w.heap.size, 0, none⟩), u2, u3, .slice (some ⟨gv, 0, none⟩) L.length cv, .slice (some ⟨w1.heap.size, 0, none⟩) L.length L.length, .slice (some ⟨w1.heap.size + 1, 0, none⟩) L.length L.length, .int .i64 (r : Int), .int .i64 (i : Int), .slice (some ⟨ge, 0, none⟩) 3 3, .int .i64 (k : Int), .pointer (some ⟨gU, 0, none⟩), .bool true, .int .i64 (j : Int), .pointer (some ⟨w6.heap.size, 0, none⟩), .agg #[.int .i64 W, .int .i64 H, .slice Am nm cm, .slice Ac nc cc], .slice (some ⟨gv, 0, none⟩) L.length cv, .slice (some ⟨gv, 0, none⟩) L.length cv, .int .i64 (L.length : Int), .slice (some ⟨w1.heap.size, 0, none⟩) L.length L.length, .slice (some ⟨gv, 0, none⟩) L.length cv, .int .i64 (L.length : Int), .slice (some ⟨w1.heap.size + 1, 0, none⟩) L.length L.length, .slice (some ⟨w1.heap.size, 0, none⟩) L.length L.length, .agg #[.int .i64 1, .int .i64 0, .int .i64 0, .int .i64 1, .int .i64 0, .int .i64 0], .pointer (some ⟨w1.heap.size, 0, none⟩), .slice (some ⟨w1.heap.size + 1, 0, none⟩) L.length L.length, .pointer (some ⟨w1.heap.size + 1, 0, none⟩), .int .i64 (r : Int), .slice (some ⟨gv, 0, none⟩) L.length cv, .int .i64 (L.length : Int), .bool true, u32, u33, .int .i64 (i : Int), .slice (some ⟨gv, 0, none⟩) L.length cv, .int .i64 (L.length : Int), .bool true, u38, u39, .slice (some ⟨w1.heap.size + 1, 0, none⟩) L.length L.length, .int .i64 (i : Int), .pointer (some ⟨w1.heap.size + 1, i, none⟩), .bool true, .bool false, .slice (some ⟨gv, 0, none⟩) L.length cv, .int .i64 (i : Int), .pointer (some ⟨gv, i * 3, none⟩), .agg #[.int .i64 t.1, .int .i64 t.2.1, .int .i64 t.2.2], .slice (some ⟨ge, 0, none⟩) 3 3, .int .i64 (k : Int), .bool true, u52, u53, .tuple #[.agg #[.int .i64 U.1, .int .i64 U.2.1, .int .i64 U.2.2], .bool true], .slice (some ⟨gv, 0, none⟩) L.length cv, .int .i64 (i : Int), .pointer (some ⟨gv, i * 3, none⟩), .agg #[.int .i64 t.1, .int .i64 t.2.1, .int .i64 t.2.2], .slice (some ⟨ge, 0, none⟩) 3 3, .int .i64 (k : Int), .pointer (some ⟨ge, k * 4, none⟩), .agg #[.int .i64 E.1, .int .i64 E.2.1, .int .i64 E.2.2.1, .int .i64 E.2.2.2], .tuple #[.agg #[.int .i64 U.1, .int .i64 U.2.1, .int .i64 U.2.2], .bool true], .agg #[.int .i64 U.1, .int .i64 U.2.1, .int .i64 U.2.2], .bool true, .slice (some ⟨gv, 0, none⟩) L.length cv, .agg #[.int .i64 U.1, .int .i64 U.2.1, .int .i64 U.2.2], .int .i64 (j : Int), .int .i64 (j : Int), .bool false, .slice (some ⟨w1.heap.size, 0, none⟩) L.length L.length, .int .i64 (i : Int), .pointer (some ⟨w1.heap.size, i * 6, none⟩), .agg #[.int .i64 m.1, .int .i64 m.2.1, .int .i64 m.2.2.1, .int .i64 m.2.2.2.1, .int .i64 m.2.2.2.2.1, .int .i64 m.2.2.2.2.2], (s 0), (s 1), (s 2), (s 3), (s 4), (s 5), (s 6), u82, u83, u84, u85, u86, u87, u88, u89, u90, u91, u92, u93, u94, u95, u96, u97, u98, u99, u100, u101, u102, u103, u104, u105, u106, u107, u108, u109, u110, u111, undef], defers := [] } ∧ Sv 7 [some (.agg #[.int .i64 W, .int .i64 H, .slice Am nm cm, .slice Ac nc cc]), some (.slice (some ⟨ge, 0, none⟩) 3 3), some (.int .i64 (k : Int)), some (.pointer (some ⟨ge, k * 4, none⟩)), some (.agg #[.int .i64 E.1, .int .i64 E.2.1, .int .i64 E.2.2.1, .int .i64 E.2.2.2]), some (.int .i64 KD), some (.bool true)] Lq s ∧ (WN.cell? ⟨w.heap.size, 0, none⟩ = some (.int .i64 W) ∧ WN.cell? ⟨w.heap.size, 1, none⟩ = some (.int .i64 H) ∧ WN.cell? ⟨w.heap.size, 2, none⟩ = some (.slice Am nm cm) ∧ WN.cell? ⟨w.heap.size, 3, none⟩ = some (.slice Ac nc cc) ∧ WN.cell? ⟨ge, k * 4, none⟩ = some (.int .i64 E.1) ∧ WN.cell? ⟨ge, k * 4 + 1, none⟩ = some (.int .i64 E.2.1) ∧ WN.cell? ⟨ge, k * 4 + 2, none⟩ = some (.int .i64 E.2.2.1) ∧ WN.cell? ⟨ge, k * 4 + 3, none⟩ = some (.int .i64 E.2.2.2) ∧ Below wA.heap.size wA WN)) (by kernel_rfl) ?_ ?_ ?_
           ·exact ⟨listF [u75, u76, u77, u78, u79, u80, u81], rfl, Sv.start 7 _ _, ⟨b0, b1, b2, b3, y0, y1, y2, y3, (Below.refl _ _).drew⟩⟩
           ·intro Lq aq WN i0 hI hr
            obtain ⟨s, rfl, hv, hst⟩ := hI
            have hi0 : i0 < 7 := ready_lt hr
            have HV := Lib.hid hv
            have HST := Lib.hid hst
            clear hv hst
            have hii : i0 = 0 ∨ i0 = 1 ∨ i0 = 2 ∨ i0 = 3 ∨ i0 = 4 ∨ i0 = 5 ∨ i0 = 6 := by omega
            clear hi0
            rcases hii with rfl | rfl | rfl | rfl | rfl | rfl | rfl
            ·clear hr
             obtain ⟨q0, q1, q2, q3, q4, q5, q6, q7, hbl⟩ := HST.out
             refine wpOp_step rfl (fun K hK => ?_)
             go_simp
             refine hK _ _ ?_
             exact ⟨upd s 0 (.agg #[.int .i64 W, .int .i64 H, .slice Am nm cm, .slice Ac nc cc]), rfl, Sv.put HV.out (fun u hu => by cases hu; rfl), HST.out⟩
            ·clear hr
             refine wpOp_step rfl (fun K hK => ?_)
             go_simp
             refine hK _ _ ?_
             exact ⟨upd s 1 (.slice (some ⟨ge, 0, none⟩) 3 3), rfl, Sv.put HV.out (fun u hu => by cases hu; rfl), HST.out⟩
            ·clear hr
             refine wpOp_step rfl (fun K hK => ?_)
             go_simp
             refine hK _ _ ?_
             exact ⟨upd s 2 (.int .i64 (k : Int)), rfl, Sv.put HV.out (fun u hu => by cases hu; rfl), HST.out⟩
            ·have d1 := ready_dep hr (k := 1) (by kernel_rfl)
             have d2 := ready_dep hr (k := 2) (by kernel_rfl)
             clear hr
             have e1 : s 1 = .slice (some ⟨ge, 0, none⟩) 3 3 := HV.out.v d1 rfl
             have e2 : s 2 = .int .i64 (k : Int) := HV.out.v d2 rfl
             refine wpOp_step rfl (fun K hK => ?_)
             go_simp
             refine hK _ _ ?_
             exact ⟨upd (upd (upd s 1 (.slice (some ⟨ge, 0, none⟩) 3 3)) 2 (.int .i64 (k : Int))) 3 (.pointer (some ⟨ge, k * 4, none⟩)), rfl, Sv.put (Sv.re (j := 2) (v := .int .i64 (k : Int)) (Sv.re (j := 1) (v := .slice (some ⟨ge, 0, none⟩) 3 3) HV.out e1) e2) (fun u hu => by cases hu; rfl), HST.out⟩
            ·have d3 := ready_dep hr (k := 3) (by kernel_rfl)
             clear hr
             have e3 : s 3 = .pointer (some ⟨ge, k * 4, none⟩) := HV.out.v d3 rfl
             obtain ⟨q0, q1, q2, q3, q4, q5, q6, q7, hbl⟩ := HST.out
             refine wpOp_step rfl (fun K hK => ?_)
             go_simp
             refine hK _ _ ?_
             exact ⟨upd (upd s 3 (.pointer (some ⟨ge, k * 4, none⟩))) 4 (.agg #[.int .i64 E.1, .int .i64 E.2.1, .int .i64 E.2.2.1, .int .i64 E.2.2.2]), rfl, Sv.put (Sv.re (j := 3) (v := .pointer (some ⟨ge, k * 4, none⟩)) HV.out e3) (fun u hu => by cases hu; rfl), HST.out⟩
            ·have d0 := ready_dep hr (k := 0) (by kernel_rfl)
             have d4 := ready_dep hr (k := 4) (by kernel_rfl)
             clear hr
             have e0 : s 0 = .agg #[.int .i64 W, .int .i64 H, .slice Am nm cm, .slice Ac nc cc] := HV.out.v d0 rfl
             have e4 : s 4 = .agg #[.int .i64 E.1, .int .i64 E.2.1, .int .i64 E.2.2.1, .int .i64 E.2.2.2] := HV.out.v d4 rfl
             obtain ⟨q0, q1, q2, q3, q4, q5, q6, q7, hbl⟩ := HST.out
             refine wpOp_step rfl (fun K hK => ?_)
             go_simp
             refine (CK2.out _ hbl).mono ?_
             rintro e' wc ⟨he, hbc⟩
             subst he
             refine hK _ _ ?_
             exact ⟨upd (upd (upd s 0 (.agg #[.int .i64 W, .int .i64 H, .slice Am nm cm, .slice Ac nc cc])) 4 (.agg #[.int .i64 E.1, .int .i64 E.2.1, .int .i64 E.2.2.1, .int .i64 E.2.2.2])) 5 (.int .i64 KD), rfl, Sv.put (Sv.re (j := 4) (v := .agg #[.int .i64 E.1, .int .i64 E.2.1, .int .i64 E.2.2.1, .int .i64 E.2.2.2]) (Sv.re (j := 0) (v := .agg #[.int .i64 W, .int .i64 H, .slice Am nm cm, .slice Ac nc cc]) HV.out e0) e4) (fun u hu => by cases hu; rfl), ⟨stay_c q0 hbc (Nat.le_refl _), stay_c q1 hbc (Nat.le_refl _), stay_c q2 hbc (Nat.le_refl _), stay_c q3 hbc (Nat.le_refl _), stay_c q4 hbc (Nat.le_refl _), stay_c q5 hbc (Nat.le_refl _), stay_c q6 hbc (Nat.le_refl _), stay_c q7 hbc (Nat.le_refl _), stay_b hbl hbc⟩⟩
            ·have d5 := ready_dep hr (k := 5) (by kernel_rfl)
             clear hr
             have e5 : s 5 = .int .i64 KD := HV.out.v d5 rfl
             refine wpOp_step rfl (fun K hK => ?_)
             go_simp
             refine hK _ _ ?_
             exact ⟨upd (upd s 5 (.int .i64 KD)) 6 (.bool true), rfl, Sv.put (Sv.re (j := 5) (v := .int .i64 KD) HV.out e5) (fun u hu => by cases hu; rfl), HST.out⟩
           ·intro Lq aq WN hI hrd
            obtain ⟨s, ha, hv, hst⟩ := hI
            have hall := all_listedM hrd hv.sz (by kernel_rfl)
            clear hrd
            have e0 : s 0 = (.agg #[.int .i64 W, .int .i64 H, .slice Am nm cm, .slice Ac nc cc]) := hv.v (hall 0 (by decide)) rfl
            have e1 : s 1 = (.slice (some ⟨ge, 0, none⟩) 3 3) := hv.v (hall 1 (by decide)) rfl
            have e2 : s 2 = (.int .i64 (k : Int)) := hv.v (hall 2 (by decide)) rfl
            have e3 : s 3 = (.pointer (some ⟨ge, k * 4, none⟩)) := hv.v (hall 3 (by decide)) rfl
            have e4 : s 4 = (.agg #[.int .i64 E.1, .int .i64 E.2.1, .int .i64 E.2.2.1, .int .i64 E.2.2.2]) := hv.v (hall 4 (by decide)) rfl
            have e5 : s 5 = (.int .i64 KD) := hv.v (hall 5 (by decide)) rfl
            have e6 : s 6 = (.bool true) := hv.v (hall 6 (by decide)) rfl
            simp only [e0, e1, e2, e3, e4, e5, e6] at ha
            subst ha
            clear hall hv e0 e1 e2 e3 e4 e5 e6
            obtain ⟨q0, q1, q2, q3, q4, q5, q6, q7, hbl⟩ := hst
            have HSB := Lib.hid (HSA.out.below hbl)
            have HEB := Lib.hid (HEA.out.below hbl)
            have KMB := Lib.hid ((LB.one KM0.out).below hbl)
            have y0 := stay_c y0 hbl (Nat.le_refl _)
            have y1 := stay_c y1 hbl (Nat.le_refl _)
            have y2 := stay_c y2 hbl (Nat.le_refl _)
            have y3 := stay_c y3 hbl (Nat.le_refl _)
            obtain ⟨wB, hwB⟩ : ∃ x, x = WN := ⟨_, rfl⟩
            subst hwB
            clear hbl q0 q1 q2 q3 q4 q5 q6 q7 HSA HEA KM0 CK2 b0 b1 b2 b3
            have hgv := HSB.out.inv.good i m hM.out.1 hM.out.2
            have hgo := HGO.out _ hgv
            have htr := trueN_le (f := f')
            rw [HSB.out.inv.lenf] at htr
            have hcE : C E = false := by rw [HCZ.out]; exact decide_eq_false HKZ.out
            have hm' : stpL L C i k m = afterV (mirB (lnW E) (lnC E)) m := by rw [HST.out]; unfold stpV; rw [hcE]; rfl
            have hr := lnW_rng E
            have hc := lnC_bd HKE.out
            have hg1 := gb_mir hr.1 hr.2 hc.1 hc.2
            have cL := fun (W' : World) => lineD_any E W' HKE.out
            obtain ⟨la, hla⟩ : ∃ x, x = lnW E := ⟨_, rfl⟩
            obtain ⟨lc, hlc⟩ : ∃ x, x = lnC E := ⟨_, rfl⟩
            rw [← hla, ← hlc] at hm' hg1
            rw [← hla, ← hlc] at cL
            rw [← hlc] at hc
            have cM := fun (W' : World) => mirrorOf_any la lc W' (by omega) (by omega)
            obtain ⟨M1, hM1⟩ : ∃ x, x = mirB la lc := ⟨_, rfl⟩
            rw [← hM1] at cM hm' hg1
            have cA := fun (W' : World) => afterOf_any M1.1 M1.2.1 M1.2.2.1 M1.2.2.2.1 M1.2.2.2.2.1 M1.2.2.2.2.2 m.1 m.2.1 m.2.2.1 m.2.2.2.1 m.2.2.2.2.1 m.2.2.2.2.2 W' (gb_sm hg1 (by decide)) (gb_sm hgv (by omega))
            obtain ⟨m', hmm⟩ : ∃ m', m' = afterV M1 m := ⟨_, rfl⟩
            have cA2 : ∀ W' : World, Calls Tryd.prog 53 #[aggM M1, aggM m] W' fun e' w' => e' = .returned (aggM m') ∧ Below W'.heap.size W' w' := fun W' => by rw [hmm]; exact cA W'
            rw [← hmm] at hm'
            rw [← HST.out, hm'] at hgo
            have CL := Lib.hid cL
            have CMI := Lib.hid cM
            have CA := Lib.hid cA2
            have HMM := Lib.hid hm'
            have HGM := Lib.hid hgo
            obtain ⟨z0, z1, z2, z3, z4, z5⟩ := HSB.out.row.at_ hM.out.1
            clear hcE hm' hr hc hg1 cL cM cA cA2 hla hlc hM1 hmm hgv hgo
            go_wp2_with fail
            refine wp_region_inv (fun Lq aq WN => ∃ s : Nat → Value, aq = { tmps := #[shV W H Am nm cm Ac nc cc, .pointer (some ⟨w.heap.size, 0, none⟩), u2, u3, .slice (some ⟨gv, 0, none⟩) L.length cv, .slice (some ⟨w1.heap.size, 0, none⟩) L.length L.length, .slice (some ⟨w1.heap.size + 1, 0, none⟩) L.length L.length, .int .i64 (r : Int), .int .i64 (i : Int), .slice (some ⟨ge, 0, none⟩) 3 3, .int .i64 (k : Int), .pointer (some ⟨gU, 0, none⟩), .bool true, .int .i64 (j : Int), .pointer (some ⟨w6.heap.size, 0, none⟩), .agg #[.int .i64 W, .int .i64 H, .slice Am nm cm, .slice Ac nc cc], .slice (some ⟨gv, 0, none⟩) L.length cv, .slice (some ⟨gv, 0, none⟩) L.length cv, .int .i64 (L.length : Int), .slice (some ⟨w1.heap.size, 0, none⟩) L.length L.length, .slice (some ⟨gv, 0, none⟩) L.length cv, .int .i64 (L.length : Int), .slice (some ⟨w1.heap.size + 1, 0, none⟩) L.length L.length, .slice (some ⟨w1.heap.size, 0, none⟩) L.length L.length, .agg #[.int .i64 1, .int .i64 0, .int .i64 0, .int .i64 1, .int .i64 0, .int .i64 0], .pointer (some ⟨w1.heap.size, 0, none⟩), .slice (some ⟨w1.heap.size + 1, 0, none⟩) L.length L.length, .pointer (some ⟨w1.heap.size + 1, 0, none⟩), .int .i64 (r : Int), .slice (some ⟨gv, 0, none⟩) L.length cv, .int .i64 (L.length : Int), .bool true, u32, u33, .int .i64 (i : Int), .slice (some ⟨gv, 0, none⟩) L.length cv, .int .i64 (L.length : Int), .bool true, u38, u39, .slice (some ⟨w1.heap.size + 1, 0, none⟩) L.length L.length, .int .i64 (i : Int), .pointer (some ⟨w1.heap.size + 1, i, none⟩), .bool true, .bool false, .slice (some ⟨gv, 0, none⟩) L.length cv, .int .i64 (i : Int), .pointer (some ⟨gv, i * 3, none⟩), .agg #[.int .i64 t.1, .int .i64 t.2.1, .int .i64 t.2.2], .slice (some ⟨ge, 0, none⟩) 3 3, .int .i64 (k : Int), .bool true, u52, u53, .tuple #[.agg #[.int .i64 U.1, .int .i64 U.2.1, .int .i64 U.2.2], .bool true], .slice (some ⟨gv, 0, none⟩) L.length cv, .int .i64 (i : Int), .pointer (some ⟨gv, i * 3, none⟩), .agg #[.int .i64 t.1, .int .i64 t.2.1, .int .i64 t.2.2], .slice (some ⟨ge, 0, none⟩) 3 3, .int .i64 (k : Int), .pointer (some ⟨ge, k * 4, none⟩), .agg #[.int .i64 E.1, .int .i64 E.2.1, .int .i64 E.2.2.1, .int .i64 E.2.2.2], .tuple #[.agg #[.int .i64 U.1, .int .i64 U.2.1, .int .i64 U.2.2], .bool true], .agg #[.int .i64 U.1, .int .i64 U.2.1, .int .i64 U.2.2], .bool true, .slice (some ⟨gv, 0, none⟩) L.length cv, .agg #[.int .i64 U.1, .int .i64 U.2.1, .int .i64 U.2.2], .int .i64 (j : Int), .int .i64 (j : Int), .bool false, .slice (some ⟨w1.heap.size, 0, none⟩) L.length L.length, .int .i64 (i : Int), .pointer (some ⟨w1.heap.size, i * 6, none⟩), .agg #[.int .i64 m.1, .int .i64 m.2.1, .int .i64 m.2.2.1, .int .i64 m.2.2.2.1, .int .i64 m.2.2.2.2.1, .int .i64 m.2.2.2.2.2], .agg #[.int .i64 W, .int .i64 H, .slice Am nm cm, .slice Ac nc cc], .slice (some ⟨ge, 0, none⟩) 3 3, .int .i64 (k : Int), .pointer (some ⟨ge, k * 4, none⟩), .agg #[.int .i64 E.1, .int .i64 E.2.1, .int .i64 E.2.2.1, .int .i64 E.2.2.2], .int .i64 KD, .bool true, (s 0), (s 1), (s 2), (s 3), (s 4), (s 5), (s 6), (s 7), (s 8), (s 9), (s 10), u93, u94, u95, u96, u97, u98, u99, u100, u101, u102, u103, u104, u105, u106, u107, u108, u109, u110, u111, undef], defers := [] } ∧ Sv 12 [some (.slice (some ⟨ge, 0, none⟩) 3 3), some (.int .i64 (k : Int)), some (.pointer (some ⟨ge, k * 4, none⟩)), some (.agg #[.int .i64 E.1, .int .i64 E.2.1, .int .i64 E.2.2.1, .int .i64 E.2.2.2]), some (aggL la lc), some (aggM M1), some (.slice (some ⟨w1.heap.size, 0, none⟩) L.length L.length), some (.int .i64 (i : Int)), some (.pointer (some ⟨w1.heap.size, i * 6, none⟩)), some (.agg #[.int .i64 m.1, .int .i64 m.2.1, .int .i64 m.2.2.1, .int .i64 m.2.2.2.1, .int .i64 m.2.2.2.2.1, .int .i64 m.2.2.2.2.2]), some (aggM m'), some (undef)] Lq s ∧ Cl [(11, 0), (11, 1), (11, 2), (11, 3), (11, 4), (11, 5), (11, 6), (11, 7), (11, 8), (11, 9), (11, 10)] Lq ∧ (Lq.getD 11 false = false → WN.cell? ⟨ge, k * 4, none⟩ = some (.int .i64 E.1) ∧ WN.cell? ⟨ge, k * 4 + 1, none⟩ = some (.int .i64 E.2.1) ∧ WN.cell? ⟨ge, k * 4 + 2, none⟩ = some (.int .i64 E.2.2.1) ∧ WN.cell? ⟨ge, k * 4 + 3, none⟩ = some (.int .i64 E.2.2.2) ∧ WN.cell? ⟨w1.heap.size, i * 6, none⟩ = some (.int .i64 m.1) ∧ WN.cell? ⟨w1.heap.size, i * 6 + 1, none⟩ = some (.int .i64 m.2.1) ∧ WN.cell? ⟨w1.heap.size, i * 6 + 2, none⟩ = some (.int .i64 m.2.2.1) ∧ WN.cell? ⟨w1.heap.size, i * 6 + 3, none⟩ = some (.int .i64 m.2.2.2.1) ∧ WN.cell? ⟨w1.heap.size, i * 6 + 4, none⟩ = some (.int .i64 m.2.2.2.2.1) ∧ WN.cell? ⟨w1.heap.size, i * 6 + 5, none⟩ = some (.int .i64 m.2.2.2.2.2) ∧ Below wB.heap.size wB WN) ∧ (Lq.getD 11 false = true → ∃ W0 : World, (W0.cell? ⟨ge, k * 4, none⟩ = some (.int .i64 E.1) ∧ W0.cell? ⟨ge, k * 4 + 1, none⟩ = some (.int .i64 E.2.1) ∧ W0.cell? ⟨ge, k * 4 + 2, none⟩ = some (.int .i64 E.2.2.1) ∧ W0.cell? ⟨ge, k * 4 + 3, none⟩ = some (.int .i64 E.2.2.2) ∧ W0.cell? ⟨w1.heap.size, i * 6, none⟩ = some (.int .i64 m.1) ∧ W0.cell? ⟨w1.heap.size, i * 6 + 1, none⟩ = some (.int .i64 m.2.1) ∧ W0.cell? ⟨w1.heap.size, i * 6 + 2, none⟩ = some (.int .i64 m.2.2.1) ∧ W0.cell? ⟨w1.heap.size, i * 6 + 3, none⟩ = some (.int .i64 m.2.2.2.1) ∧ W0.cell? ⟨w1.heap.size, i * 6 + 4, none⟩ = some (.int .i64 m.2.2.2.2.1) ∧ W0.cell? ⟨w1.heap.size, i * 6 + 5, none⟩ = some (.int .i64 m.2.2.2.2.2) ∧ Below wB.heap.size wB W0) ∧ WN = set6 W0 w6.heap.size 0 m')) (by kernel_rfl) ?_ ?_ ?_
            ·exact ⟨listF [u82, u83, u84, u85, u86, u87, u88, u89, u90, u91, u92, undef], rfl, Sv.start 12 _ _, Cl.start _ _, fun _ => ⟨y0, y1, y2, y3, z0, z1, z2, z3, z4, z5, (Below.refl _ _).drew⟩, fun h => (by rw [getD_replicate_false] at h; cases h)⟩
            ·intro Lq aq WN i0 hI hr
             obtain ⟨s, rfl, hv, hcl, hst, _⟩ := hI
             have hi0 : i0 < 12 := ready_lt hr
             have hno := (mem_ready.1 hr).1
             have hsz := hv.sz
             have HV := Lib.hid hv
             have HST := Lib.hid hst
             have HCL := Lib.hid hcl
             clear hv hst hcl
             have hii : i0 = 0 ∨ i0 = 1 ∨ i0 = 2 ∨ i0 = 3 ∨ i0 = 4 ∨ i0 = 5 ∨ i0 = 6 ∨ i0 = 7 ∨ i0 = 8 ∨ i0 = 9 ∨ i0 = 10 ∨ i0 = 11 := by omega
             clear hi0
             rcases hii with rfl | rfl | rfl | rfl | rfl | rfl | rfl | rfl | rfl | rfl | rfl | rfl
             ·clear hr
              have hs0 : Lq.getD 11 false = false := HCL.out.no (i := 0) (by decide) hno
              refine wpOp_step rfl (fun K hK => ?_)
              go_simp
              refine hK _ _ ?_
              exact ⟨upd s 0 (.slice (some ⟨ge, 0, none⟩) 3 3), rfl, Sv.put HV.out (fun u hu => by cases hu; rfl), Cl.set HCL.out (by simp only [List.mem_cons, List.not_mem_nil, or_false]; rintro p (rfl | rfl | rfl | rfl | rfl | rfl | rfl | rfl | rfl | rfl | rfl) hp <;> first | assumption | (simp at hp; done)), fun _ => HST.out hs0, (fun hh => by rw [set_other (show (0 : Nat) ≠ 11 by decide), hs0] at hh; cases hh)⟩
             ·clear hr
              have hs0 : Lq.getD 11 false = false := HCL.out.no (i := 1) (by decide) hno
              refine wpOp_step rfl (fun K hK => ?_)
              go_simp
              refine hK _ _ ?_
              exact ⟨upd s 1 (.int .i64 (k : Int)), rfl, Sv.put HV.out (fun u hu => by cases hu; rfl), Cl.set HCL.out (by simp only [List.mem_cons, List.not_mem_nil, or_false]; rintro p (rfl | rfl | rfl | rfl | rfl | rfl | rfl | rfl | rfl | rfl | rfl) hp <;> first | assumption | (simp at hp; done)), fun _ => HST.out hs0, (fun hh => by rw [set_other (show (1 : Nat) ≠ 11 by decide), hs0] at hh; cases hh)⟩
             ·have d0 := ready_dep hr (k := 0) (by kernel_rfl)
              have d1 := ready_dep hr (k := 1) (by kernel_rfl)
              clear hr
              have hs0 : Lq.getD 11 false = false := HCL.out.no (i := 2) (by decide) hno
              have e0 : s 0 = .slice (some ⟨ge, 0, none⟩) 3 3 := HV.out.v d0 rfl
              have e1 : s 1 = .int .i64 (k : Int) := HV.out.v d1 rfl
              refine wpOp_step rfl (fun K hK => ?_)
              go_simp
              refine hK _ _ ?_
              exact ⟨upd (upd (upd s 0 (.slice (some ⟨ge, 0, none⟩) 3 3)) 1 (.int .i64 (k : Int))) 2 (.pointer (some ⟨ge, k * 4, none⟩)), rfl, Sv.put (Sv.re (j := 1) (v := .int .i64 (k : Int)) (Sv.re (j := 0) (v := .slice (some ⟨ge, 0, none⟩) 3 3) HV.out e0) e1) (fun u hu => by cases hu; rfl), Cl.set HCL.out (by simp only [List.mem_cons, List.not_mem_nil, or_false]; rintro p (rfl | rfl | rfl | rfl | rfl | rfl | rfl | rfl | rfl | rfl | rfl) hp <;> first | assumption | (simp at hp; done)), fun _ => HST.out hs0, (fun hh => by rw [set_other (show (2 : Nat) ≠ 11 by decide), hs0] at hh; cases hh)⟩
             ·have d2 := ready_dep hr (k := 2) (by kernel_rfl)
              clear hr
              have hs0 : Lq.getD 11 false = false := HCL.out.no (i := 3) (by decide) hno
              have e2 : s 2 = .pointer (some ⟨ge, k * 4, none⟩) := HV.out.v d2 rfl
              obtain ⟨q0, q1, q2, q3, q4, q5, q6, q7, q8, q9, hbl⟩ := HST.out hs0
              refine wpOp_step rfl (fun K hK => ?_)
              go_simp
              refine hK _ _ ?_
              exact ⟨upd (upd s 2 (.pointer (some ⟨ge, k * 4, none⟩))) 3 (.agg #[.int .i64 E.1, .int .i64 E.2.1, .int .i64 E.2.2.1, .int .i64 E.2.2.2]), rfl, Sv.put (Sv.re (j := 2) (v := .pointer (some ⟨ge, k * 4, none⟩)) HV.out e2) (fun u hu => by cases hu; rfl), Cl.set HCL.out (by simp only [List.mem_cons, List.not_mem_nil, or_false]; rintro p (rfl | rfl | rfl | rfl | rfl | rfl | rfl | rfl | rfl | rfl | rfl) hp <;> first | assumption | (simp at hp; done)), fun _ => HST.out hs0, (fun hh => by rw [set_other (show (3 : Nat) ≠ 11 by decide), hs0] at hh; cases hh)⟩
             ·have d3 := ready_dep hr (k := 3) (by kernel_rfl)
              clear hr
              have hs0 : Lq.getD 11 false = false := HCL.out.no (i := 4) (by decide) hno
              have e3 : s 3 = .agg #[.int .i64 E.1, .int .i64 E.2.1, .int .i64 E.2.2.1, .int .i64 E.2.2.2] := HV.out.v d3 rfl
              obtain ⟨q0, q1, q2, q3, q4, q5, q6, q7, q8, q9, hbl⟩ := HST.out hs0
              refine wpOp_step rfl (fun K hK => ?_)
              go_simp
              refine (CL.out _).mono ?_
              rintro e' wc ⟨he, hbc⟩
              subst he
              refine hK _ _ ?_
              exact ⟨upd (upd s 3 (.agg #[.int .i64 E.1, .int .i64 E.2.1, .int .i64 E.2.2.1, .int .i64 E.2.2.2])) 4 (aggL la lc), rfl, Sv.put (Sv.re (j := 3) (v := .agg #[.int .i64 E.1, .int .i64 E.2.1, .int .i64 E.2.2.1, .int .i64 E.2.2.2]) HV.out e3) (fun u hu => by cases hu; rfl), Cl.set HCL.out (by simp only [List.mem_cons, List.not_mem_nil, or_false]; rintro p (rfl | rfl | rfl | rfl | rfl | rfl | rfl | rfl | rfl | rfl | rfl) hp <;> first | assumption | (simp at hp; done)), fun _ => ⟨stay_c q0 hbc (Nat.le_refl _), stay_c q1 hbc (Nat.le_refl _), stay_c q2 hbc (Nat.le_refl _), stay_c q3 hbc (Nat.le_refl _), stay_c q4 hbc (Nat.le_refl _), stay_c q5 hbc (Nat.le_refl _), stay_c q6 hbc (Nat.le_refl _), stay_c q7 hbc (Nat.le_refl _), stay_c q8 hbc (Nat.le_refl _), stay_c q9 hbc (Nat.le_refl _), stay_b hbl hbc⟩, (fun hh => by rw [set_other (show (4 : Nat) ≠ 11 by decide), hs0] at hh; cases hh)⟩
             ·have d4 := ready_dep hr (k := 4) (by kernel_rfl)
              clear hr
              have hs0 : Lq.getD 11 false = false := HCL.out.no (i := 5) (by decide) hno
              have e4 : s 4 = aggL la lc := HV.out.v d4 rfl
              obtain ⟨q0, q1, q2, q3, q4, q5, q6, q7, q8, q9, hbl⟩ := HST.out hs0
              refine wpOp_step rfl (fun K hK => ?_)
              go_simp
              refine (CMI.out _).mono ?_
              rintro e' wc ⟨he, hbc⟩
              subst he
              refine hK _ _ ?_
              exact ⟨upd (upd s 4 (aggL la lc)) 5 (aggM M1), rfl, Sv.put (Sv.re (j := 4) (v := aggL la lc) HV.out e4) (fun u hu => by cases hu; rfl), Cl.set HCL.out (by simp only [List.mem_cons, List.not_mem_nil, or_false]; rintro p (rfl | rfl | rfl | rfl | rfl | rfl | rfl | rfl | rfl | rfl | rfl) hp <;> first | assumption | (simp at hp; done)), fun _ => ⟨stay_c q0 hbc (Nat.le_refl _), stay_c q1 hbc (Nat.le_refl _), stay_c q2 hbc (Nat.le_refl _), stay_c q3 hbc (Nat.le_refl _), stay_c q4 hbc (Nat.le_refl _), stay_c q5 hbc (Nat.le_refl _), stay_c q6 hbc (Nat.le_refl _), stay_c q7 hbc (Nat.le_refl _), stay_c q8 hbc (Nat.le_refl _), stay_c q9 hbc (Nat.le_refl _), stay_b hbl hbc⟩, (fun hh => by rw [set_other (show (5 : Nat) ≠ 11 by decide), hs0] at hh; cases hh)⟩
             ·clear hr
              have hs0 : Lq.getD 11 false = false := HCL.out.no (i := 6) (by decide) hno
              refine wpOp_step rfl (fun K hK => ?_)
              go_simp
              refine hK _ _ ?_
              exact ⟨upd s 6 (.slice (some ⟨w1.heap.size, 0, none⟩) L.length L.length), rfl, Sv.put HV.out (fun u hu => by cases hu; rfl), Cl.set HCL.out (by simp only [List.mem_cons, List.not_mem_nil, or_false]; rintro p (rfl | rfl | rfl | rfl | rfl | rfl | rfl | rfl | rfl | rfl | rfl) hp <;> first | assumption | (simp at hp; done)), fun _ => HST.out hs0, (fun hh => by rw [set_other (show (6 : Nat) ≠ 11 by decide), hs0] at hh; cases hh)⟩
             ·clear hr
              have hs0 : Lq.getD 11 false = false := HCL.out.no (i := 7) (by decide) hno
              refine wpOp_step rfl (fun K hK => ?_)
              go_simp
              refine hK _ _ ?_
              exact ⟨upd s 7 (.int .i64 (i : Int)), rfl, Sv.put HV.out (fun u hu => by cases hu; rfl), Cl.set HCL.out (by simp only [List.mem_cons, List.not_mem_nil, or_false]; rintro p (rfl | rfl | rfl | rfl | rfl | rfl | rfl | rfl | rfl | rfl | rfl) hp <;> first | assumption | (simp at hp; done)), fun _ => HST.out hs0, (fun hh => by rw [set_other (show (7 : Nat) ≠ 11 by decide), hs0] at hh; cases hh)⟩
             ·have d6 := ready_dep hr (k := 6) (by kernel_rfl)
              have d7 := ready_dep hr (k := 7) (by kernel_rfl)
              clear hr
              have hs0 : Lq.getD 11 false = false := HCL.out.no (i := 8) (by decide) hno
              have e6 : s 6 = .slice (some ⟨w1.heap.size, 0, none⟩) L.length L.length := HV.out.v d6 rfl
              have e7 : s 7 = .int .i64 (i : Int) := HV.out.v d7 rfl
              refine wpOp_step rfl (fun K hK => ?_)
              go_simp
              refine hK _ _ ?_
              exact ⟨upd (upd (upd s 6 (.slice (some ⟨w1.heap.size, 0, none⟩) L.length L.length)) 7 (.int .i64 (i : Int))) 8 (.pointer (some ⟨w1.heap.size, i * 6, none⟩)), rfl, Sv.put (Sv.re (j := 7) (v := .int .i64 (i : Int)) (Sv.re (j := 6) (v := .slice (some ⟨w1.heap.size, 0, none⟩) L.length L.length) HV.out e6) e7) (fun u hu => by cases hu; rfl), Cl.set HCL.out (by simp only [List.mem_cons, List.not_mem_nil, or_false]; rintro p (rfl | rfl | rfl | rfl | rfl | rfl | rfl | rfl | rfl | rfl | rfl) hp <;> first | assumption | (simp at hp; done)), fun _ => HST.out hs0, (fun hh => by rw [set_other (show (8 : Nat) ≠ 11 by decide), hs0] at hh; cases hh)⟩
             ·have d8 := ready_dep hr (k := 8) (by kernel_rfl)
              clear hr
              have hs0 : Lq.getD 11 false = false := HCL.out.no (i := 9) (by decide) hno
              have e8 : s 8 = .pointer (some ⟨w1.heap.size, i * 6, none⟩) := HV.out.v d8 rfl
              obtain ⟨q0, q1, q2, q3, q4, q5, q6, q7, q8, q9, hbl⟩ := HST.out hs0
              refine wpOp_step rfl (fun K hK => ?_)
              go_simp
              refine hK _ _ ?_
              exact ⟨upd (upd s 8 (.pointer (some ⟨w1.heap.size, i * 6, none⟩))) 9 (.agg #[.int .i64 m.1, .int .i64 m.2.1, .int .i64 m.2.2.1, .int .i64 m.2.2.2.1, .int .i64 m.2.2.2.2.1, .int .i64 m.2.2.2.2.2]), rfl, Sv.put (Sv.re (j := 8) (v := .pointer (some ⟨w1.heap.size, i * 6, none⟩)) HV.out e8) (fun u hu => by cases hu; rfl), Cl.set HCL.out (by simp only [List.mem_cons, List.not_mem_nil, or_false]; rintro p (rfl | rfl | rfl | rfl | rfl | rfl | rfl | rfl | rfl | rfl | rfl) hp <;> first | assumption | (simp at hp; done)), fun _ => HST.out hs0, (fun hh => by rw [set_other (show (9 : Nat) ≠ 11 by decide), hs0] at hh; cases hh)⟩
             ·have d5 := ready_dep hr (k := 5) (by kernel_rfl)
              have d9 := ready_dep hr (k := 9) (by kernel_rfl)
              clear hr
              have hs0 : Lq.getD 11 false = false := HCL.out.no (i := 10) (by decide) hno
              have e5 : s 5 = aggM M1 := HV.out.v d5 rfl
              have e9 : s 9 = .agg #[.int .i64 m.1, .int .i64 m.2.1, .int .i64 m.2.2.1, .int .i64 m.2.2.2.1, .int .i64 m.2.2.2.2.1, .int .i64 m.2.2.2.2.2] := HV.out.v d9 rfl
              obtain ⟨q0, q1, q2, q3, q4, q5, q6, q7, q8, q9, hbl⟩ := HST.out hs0
              refine wpOp_step rfl (fun K hK => ?_)
              go_simp
              refine (CA.out _).mono ?_
              rintro e' wc ⟨he, hbc⟩
              subst he
              refine hK _ _ ?_
              exact ⟨upd (upd (upd s 5 (aggM M1)) 9 (.agg #[.int .i64 m.1, .int .i64 m.2.1, .int .i64 m.2.2.1, .int .i64 m.2.2.2.1, .int .i64 m.2.2.2.2.1, .int .i64 m.2.2.2.2.2])) 10 (aggM m'), rfl, Sv.put (Sv.re (j := 9) (v := .agg #[.int .i64 m.1, .int .i64 m.2.1, .int .i64 m.2.2.1, .int .i64 m.2.2.2.1, .int .i64 m.2.2.2.2.1, .int .i64 m.2.2.2.2.2]) (Sv.re (j := 5) (v := aggM M1) HV.out e5) e9) (fun u hu => by cases hu; rfl), Cl.set HCL.out (by simp only [List.mem_cons, List.not_mem_nil, or_false]; rintro p (rfl | rfl | rfl | rfl | rfl | rfl | rfl | rfl | rfl | rfl | rfl) hp <;> first | assumption | (simp at hp; done)), fun _ => ⟨stay_c q0 hbc (Nat.le_refl _), stay_c q1 hbc (Nat.le_refl _), stay_c q2 hbc (Nat.le_refl _), stay_c q3 hbc (Nat.le_refl _), stay_c q4 hbc (Nat.le_refl _), stay_c q5 hbc (Nat.le_refl _), stay_c q6 hbc (Nat.le_refl _), stay_c q7 hbc (Nat.le_refl _), stay_c q8 hbc (Nat.le_refl _), stay_c q9 hbc (Nat.le_refl _), stay_b hbl hbc⟩, (fun hh => by rw [set_other (show (10 : Nat) ≠ 11 by decide), hs0] at hh; cases hh)⟩
             ·have d0 := ready_dep hr (k := 0) (by kernel_rfl)
              have d1 := ready_dep hr (k := 1) (by kernel_rfl)
              have d2 := ready_dep hr (k := 2) (by kernel_rfl)
              have d3 := ready_dep hr (k := 3) (by kernel_rfl)
              have d4 := ready_dep hr (k := 4) (by kernel_rfl)
              have d5 := ready_dep hr (k := 5) (by kernel_rfl)
              have d6 := ready_dep hr (k := 6) (by kernel_rfl)
              have d7 := ready_dep hr (k := 7) (by kernel_rfl)
              have d8 := ready_dep hr (k := 8) (by kernel_rfl)
              have d9 := ready_dep hr (k := 9) (by kernel_rfl)
              have d10 := ready_dep hr (k := 10) (by kernel_rfl)
              clear hr
              have hs0 : Lq.getD 11 false = false := getD_both hno
              have e10 : s 10 = aggM m' := HV.out.v d10 rfl
              obtain ⟨q0, q1, q2, q3, q4, q5, q6, q7, q8, q9, hbl⟩ := HST.out hs0
              have kmW := KMB.out.below hbl
              obtain ⟨l0, l1, l2, l3, l4, l5⟩ := kmW.cells1
              have fz := kmW.fz
              refine wpOp_step rfl (fun K hK => ?_)
              go_simp
              refine hK _ _ ?_
              exact ⟨upd (upd s 10 (aggM m')) 11 undef, rfl, Sv.put (Sv.re (j := 10) (v := aggM m') HV.out e10) (fun u hu => by cases hu; rfl), Cl.set HCL.out (by simp only [List.mem_cons, List.not_mem_nil, or_false]; rintro p (rfl | rfl | rfl | rfl | rfl | rfl | rfl | rfl | rfl | rfl | rfl) hp <;> first | assumption | (simp at hp; done)), (fun hh => by rw [set_self hsz (by decide)] at hh; cases hh), fun _ => ⟨WN, HST.out hs0, rfl⟩⟩
            ·intro Lq aq WN hI hrd
             obtain ⟨s, ha, hv, _, _, hst⟩ := hI
             have hall := all_listedM hrd hv.sz (by kernel_rfl)
             clear hrd
             have e0 : s 0 = (.slice (some ⟨ge, 0, none⟩) 3 3) := hv.v (hall 0 (by decide)) rfl
             have e1 : s 1 = (.int .i64 (k : Int)) := hv.v (hall 1 (by decide)) rfl
             have e2 : s 2 = (.pointer (some ⟨ge, k * 4, none⟩)) := hv.v (hall 2 (by decide)) rfl
             have e3 : s 3 = (.agg #[.int .i64 E.1, .int .i64 E.2.1, .int .i64 E.2.2.1, .int .i64 E.2.2.2]) := hv.v (hall 3 (by decide)) rfl
             have e4 : s 4 = (aggL la lc) := hv.v (hall 4 (by decide)) rfl
             have e5 : s 5 = (aggM M1) := hv.v (hall 5 (by decide)) rfl
             have e6 : s 6 = (.slice (some ⟨w1.heap.size, 0, none⟩) L.length L.length) := hv.v (hall 6 (by decide)) rfl
             have e7 : s 7 = (.int .i64 (i : Int)) := hv.v (hall 7 (by decide)) rfl
             have e8 : s 8 = (.pointer (some ⟨w1.heap.size, i * 6, none⟩)) := hv.v (hall 8 (by decide)) rfl
             have e9 : s 9 = (.agg #[.int .i64 m.1, .int .i64 m.2.1, .int .i64 m.2.2.1, .int .i64 m.2.2.2.1, .int .i64 m.2.2.2.2.1, .int .i64 m.2.2.2.2.2]) := hv.v (hall 9 (by decide)) rfl
             have e10 : s 10 = (aggM m') := hv.v (hall 10 (by decide)) rfl
             simp only [e0, e1, e2, e3, e4, e5, e6, e7, e8, e9, e10] at ha
             subst ha
             obtain ⟨W0, hst0, hWN⟩ := hst (hall 11 (by decide))
             clear hall hv hst e0 e1 e2 e3 e4 e5 e6 e7 e8 e9 e10
             obtain ⟨q0, q1, q2, q3, q4, q5, q6, q7, q8, q9, hbl⟩ := hst0
             have hkW := KMB.out.below hbl
             have hkh : W0.heap[w6.heap.size]? = _ := hkW
             have hs12 := (HSB.out.below hbl).box6 hkh (by have := HGO6.out; omega) (by have := HGO6.out; omega) m'
             have he12 := (HEB.out.below hbl).box6 hkh m'
             have KM := Lib.hid (hkW.set 0 m')
             rw [← hWN] at hs12 KM he12
             have KM : Hid (LB WN w6.heap.size [m']) := KM
             have HS12 := Lib.hid hs12
             have HE12 := Lib.hid he12
             obtain ⟨wz, hwz⟩ : ∃ x, x = WN := ⟨_, rfl⟩
             subst hwz
             clear hkW hkh hs12 he12 hWN hbl q0 q1 q2 q3 q4 q5 q6 q7 q8 q9 KMB y0 y1 y2 y3 z0 z1 z2 z3 z4 z5 HSB HEB
             obtain ⟨mj, hmj⟩ : ∃ mj, l[j]? = some mj := ⟨_, List.getElem?_eq_getElem (by rw [HS12.out.inv.len]; exact hjn)⟩
             obtain ⟨b, hfj⟩ : ∃ b, f'[j]? = some b := ⟨_, List.getElem?_eq_getElem (by rw [HS12.out.inv.lenf]; exact hjn)⟩
             obtain ⟨y0, y1, y2, y3, y4, y5⟩ := HS12.out.row.at_ hmj
             obtain ⟨l0, l1, l2, l3, l4, l5⟩ := KM.out.cells1
             have zk := HS12.out.kno.at_ hfj
             have r18 := neM mj m'
             have HMJ := Lib.hid hmj
             clear hmj
             cases b with
             | false =>
              have hok : f'[j]? = some true → l[j]? = some (stpL L C i k m) := fun h => by rw [hfj] at h; cases h
              have HOK := Lib.hid hok
              clear hfj hok r18
              go_wp2_with fail
              refine wp_region_inv (fun Lq aq WN => ∃ s : Nat → Value, aq = { tmps := #[shV W H Am nm cm Ac nc cc, .pointer (some ⟨w.heap.size, 0, none⟩), u2, u3, .slice (some ⟨gv, 0, none⟩) L.length cv, .slice (some ⟨w1.heap.size, 0, none⟩) L.length L.length, .slice (some ⟨w1.heap.size + 1, 0, none⟩) L.length L.length, .int .i64 (r : Int), .int .i64 (i : Int), .slice (some ⟨ge, 0, none⟩) 3 3, .int .i64 (k : Int), .pointer (some ⟨gU, 0, none⟩), .bool true, .int .i64 (j : Int), .pointer (some ⟨w6.heap.size, 0, none⟩), .agg #[.int .i64 W, .int .i64 H, .slice Am nm cm, .slice Ac nc cc], .slice (some ⟨gv, 0, none⟩) L.length cv, .slice (some ⟨gv, 0, none⟩) L.length cv, .int .i64 (L.length : Int), .slice (some ⟨w1.heap.size, 0, none⟩) L.length L.length, .slice (some ⟨gv, 0, none⟩) L.length cv, .int .i64 (L.length : Int), .slice (some ⟨w1.heap.size + 1, 0, none⟩) L.length L.length, .slice (some ⟨w1.heap.size, 0, none⟩) L.length L.length, .agg #[.int .i64 1, .int .i64 0, .int .i64 0, .int .i64 1, .int .i64 0, .int .i64 0], .pointer (some ⟨w1.heap.size, 0, none⟩), .slice (some ⟨w1.heap.size + 1, 0, none⟩) L.length L.length, .pointer (some ⟨w1.heap.size + 1, 0, none⟩), .int .i64 (r : Int), .slice (some ⟨gv, 0, none⟩) L.length cv, .int .i64 (L.length : Int), .bool true, u32, u33, .int .i64 (i : Int), .slice (some ⟨gv, 0, none⟩) L.length cv, .int .i64 (L.length : Int), .bool true, u38, u39, .slice (some ⟨w1.heap.size + 1, 0, none⟩) L.length L.length, .int .i64 (i : Int), .pointer (some ⟨w1.heap.size + 1, i, none⟩), .bool true, .bool false, .slice (some ⟨gv, 0, none⟩) L.length cv, .int .i64 (i : Int), .pointer (some ⟨gv, i * 3, none⟩), .agg #[.int .i64 t.1, .int .i64 t.2.1, .int .i64 t.2.2], .slice (some ⟨ge, 0, none⟩) 3 3, .int .i64 (k : Int), .bool true, u52, u53, .tuple #[.agg #[.int .i64 U.1, .int .i64 U.2.1, .int .i64 U.2.2], .bool true], .slice (some ⟨gv, 0, none⟩) L.length cv, .int .i64 (i : Int), .pointer (some ⟨gv, i * 3, none⟩), .agg #[.int .i64 t.1, .int .i64 t.2.1, .int .i64 t.2.2], .slice (some ⟨ge, 0, none⟩) 3 3, .int .i64 (k : Int), .pointer (some ⟨ge, k * 4, none⟩), .agg #[.int .i64 E.1, .int .i64 E.2.1, .int .i64 E.2.2.1, .int .i64 E.2.2.2], .tuple #[.agg #[.int .i64 U.1, .int .i64 U.2.1, .int .i64 U.2.2], .bool true], .agg #[.int .i64 U.1, .int .i64 U.2.1, .int .i64 U.2.2], .bool true, .slice (some ⟨gv, 0, none⟩) L.length cv, .agg #[.int .i64 U.1, .int .i64 U.2.1, .int .i64 U.2.2], .int .i64 (j : Int), .int .i64 (j : Int), .bool false, .slice (some ⟨w1.heap.size, 0, none⟩) L.length L.length, .int .i64 (i : Int), .pointer (some ⟨w1.heap.size, i * 6, none⟩), .agg #[.int .i64 m.1, .int .i64 m.2.1, .int .i64 m.2.2.1, .int .i64 m.2.2.2.1, .int .i64 m.2.2.2.2.1, .int .i64 m.2.2.2.2.2], .agg #[.int .i64 W, .int .i64 H, .slice Am nm cm, .slice Ac nc cc], .slice (some ⟨ge, 0, none⟩) 3 3, .int .i64 (k : Int), .pointer (some ⟨ge, k * 4, none⟩), .agg #[.int .i64 E.1, .int .i64 E.2.1, .int .i64 E.2.2.1, .int .i64 E.2.2.2], .int .i64 KD, .bool true, .slice (some ⟨ge, 0, none⟩) 3 3, .int .i64 (k : Int), .pointer (some ⟨ge, k * 4, none⟩), .agg #[.int .i64 E.1, .int .i64 E.2.1, .int .i64 E.2.2.1, .int .i64 E.2.2.2], aggL la lc, aggM M1, .slice (some ⟨w1.heap.size, 0, none⟩) L.length L.length, .int .i64 (i : Int), .pointer (some ⟨w1.heap.size, i * 6, none⟩), .agg #[.int .i64 m.1, .int .i64 m.2.1, .int .i64 m.2.2.1, .int .i64 m.2.2.2.1, .int .i64 m.2.2.2.2.1, .int .i64 m.2.2.2.2.2], aggM m', (s 0), (s 1), (s 2), (s 3), (s 4), (s 5), (s 6), (s 7), (s 8), (s 9), (s 10), (s 11), u105, u106, u107, u108, u109, u110, u111, undef], defers := [] } ∧ Sv 12 [some (.slice (some ⟨w1.heap.size + 1, 0, none⟩) L.length L.length), some (.int .i64 (j : Int)), some (.pointer (some ⟨w1.heap.size + 1, j, none⟩)), some (.bool false), some (.bool false), some (undef), some (undef), some (undef), some (undef), some (undef), some (undef), some (.bool false)] Lq s ∧ (WN.cell? ⟨w1.heap.size + 1, j, none⟩ = some (.bool false) ∧ WN.cell? ⟨w1.heap.size, j * 6, none⟩ = some (.int .i64 mj.1) ∧ WN.cell? ⟨w1.heap.size, j * 6 + 1, none⟩ = some (.int .i64 mj.2.1) ∧ WN.cell? ⟨w1.heap.size, j * 6 + 2, none⟩ = some (.int .i64 mj.2.2.1) ∧ WN.cell? ⟨w1.heap.size, j * 6 + 3, none⟩ = some (.int .i64 mj.2.2.2.1) ∧ WN.cell? ⟨w1.heap.size, j * 6 + 4, none⟩ = some (.int .i64 mj.2.2.2.2.1) ∧ WN.cell? ⟨w1.heap.size, j * 6 + 5, none⟩ = some (.int .i64 mj.2.2.2.2.2) ∧ WN.cell? ⟨w6.heap.size, 0, none⟩ = some (.int .i64 m'.1) ∧ WN.cell? ⟨w6.heap.size, 1, none⟩ = some (.int .i64 m'.2.1) ∧ WN.cell? ⟨w6.heap.size, 2, none⟩ = some (.int .i64 m'.2.2.1) ∧ WN.cell? ⟨w6.heap.size, 3, none⟩ = some (.int .i64 m'.2.2.2.1) ∧ WN.cell? ⟨w6.heap.size, 4, none⟩ = some (.int .i64 m'.2.2.2.2.1) ∧ WN.cell? ⟨w6.heap.size, 5, none⟩ = some (.int .i64 m'.2.2.2.2.2) ∧ Below wz.heap.size wz WN)) (by kernel_rfl) ?_ ?_ ?_
              ·exact ⟨listF [u93, u94, u95, u96, u97, u98, u99, u100, u101, u102, u103, u104], rfl, Sv.start 12 _ _, ⟨zk, y0, y1, y2, y3, y4, y5, l0, l1, l2, l3, l4, l5, (Below.refl _ _).drew⟩⟩
              ·intro Lq aq WN i0 hI hr
               obtain ⟨s, rfl, hv, hst⟩ := hI
               have hi0 : i0 < 12 := ready_lt hr
               have HV := Lib.hid hv
               have HST := Lib.hid hst
               clear hv hst
               have hii : i0 = 0 ∨ i0 = 1 ∨ i0 = 2 ∨ i0 = 3 ∨ i0 = 4 ∨ i0 = 5 ∨ i0 = 6 ∨ i0 = 7 ∨ i0 = 8 ∨ i0 = 9 ∨ i0 = 10 ∨ i0 = 11 := by omega
               clear hi0
               rcases hii with rfl | rfl | rfl | rfl | rfl | rfl | rfl | rfl | rfl | rfl | rfl | rfl
               ·clear hr
                refine wpOp_step rfl (fun K hK => ?_)
                go_simp
                refine hK _ _ ?_
                exact ⟨upd s 0 (.slice (some ⟨w1.heap.size + 1, 0, none⟩) L.length L.length), rfl, Sv.put HV.out (fun u hu => by cases hu; rfl), HST.out⟩
               ·clear hr
                refine wpOp_step rfl (fun K hK => ?_)
                go_simp
                refine hK _ _ ?_
                exact ⟨upd s 1 (.int .i64 (j : Int)), rfl, Sv.put HV.out (fun u hu => by cases hu; rfl), HST.out⟩
               ·have d0 := ready_dep hr (k := 0) (by kernel_rfl)
                have d1 := ready_dep hr (k := 1) (by kernel_rfl)
                clear hr
                have e0 : s 0 = .slice (some ⟨w1.heap.size + 1, 0, none⟩) L.length L.length := HV.out.v d0 rfl
                have e1 : s 1 = .int .i64 (j : Int) := HV.out.v d1 rfl
                refine wpOp_step rfl (fun K hK => ?_)
                go_simp
                refine hK _ _ ?_
                exact ⟨upd (upd (upd s 0 (.slice (some ⟨w1.heap.size + 1, 0, none⟩) L.length L.length)) 1 (.int .i64 (j : Int))) 2 (.pointer (some ⟨w1.heap.size + 1, j, none⟩)), rfl, Sv.put (Sv.re (j := 1) (v := .int .i64 (j : Int)) (Sv.re (j := 0) (v := .slice (some ⟨w1.heap.size + 1, 0, none⟩) L.length L.length) HV.out e0) e1) (fun u hu => by cases hu; rfl), HST.out⟩
               ·have d2 := ready_dep hr (k := 2) (by kernel_rfl)
                clear hr
                have e2 : s 2 = .pointer (some ⟨w1.heap.size + 1, j, none⟩) := HV.out.v d2 rfl
                obtain ⟨q0, q1, q2, q3, q4, q5, q6, q7, q8, q9, q10, q11, q12, hbl⟩ := HST.out
                refine wpOp_step rfl (fun K hK => ?_)
                go_simp
                refine hK _ _ ?_
                exact ⟨upd (upd s 2 (.pointer (some ⟨w1.heap.size + 1, j, none⟩))) 3 (.bool false), rfl, Sv.put (Sv.re (j := 2) (v := .pointer (some ⟨w1.heap.size + 1, j, none⟩)) HV.out e2) (fun u hu => by cases hu; rfl), HST.out⟩
               ·have d3 := ready_dep hr (k := 3) (by kernel_rfl)
                clear hr
                have e3 : s 3 = .bool false := HV.out.v d3 rfl
                refine wpOp_step rfl (fun K hK => ?_)
                go_simp
                refine hK _ _ ?_
                exact ⟨upd (upd s 3 (.bool false)) 4 (.bool false), rfl, Sv.put (Sv.re (j := 3) (v := .bool false) HV.out e3) (fun u hu => by cases hu; rfl), HST.out⟩
               ·have d4 := ready_dep hr (k := 4) (by kernel_rfl)
                clear hr
                have e4 : s 4 = .bool false := HV.out.v d4 rfl
                refine wpOp_step rfl (fun K hK => ?_)
                go_simp
                refine hK _ _ ?_
                exact ⟨upd (upd s 4 (.bool false)) 5 (undef), rfl, Sv.put (Sv.re (j := 4) (v := .bool false) HV.out e4) (fun u hu => by cases hu; rfl), HST.out⟩
               ·have d4 := ready_dep hr (k := 4) (by kernel_rfl)
                clear hr
                have e4 : s 4 = .bool false := HV.out.v d4 rfl
                refine wpOp_step rfl (fun K hK => ?_)
                go_simp
                refine hK _ _ ?_
                exact ⟨upd (upd s 4 (.bool false)) 6 (undef), rfl, Sv.put (Sv.re (j := 4) (v := .bool false) HV.out e4) (fun u hu => by cases hu; rfl), HST.out⟩
               ·have d4 := ready_dep hr (k := 4) (by kernel_rfl)
                clear hr
                have e4 : s 4 = .bool false := HV.out.v d4 rfl
                refine wpOp_step rfl (fun K hK => ?_)
                go_simp
                refine hK _ _ ?_
                exact ⟨upd (upd s 4 (.bool false)) 7 (undef), rfl, Sv.put (Sv.re (j := 4) (v := .bool false) HV.out e4) (fun u hu => by cases hu; rfl), HST.out⟩
               ·have d4 := ready_dep hr (k := 4) (by kernel_rfl)
                clear hr
                have e4 : s 4 = .bool false := HV.out.v d4 rfl
                refine wpOp_step rfl (fun K hK => ?_)
                go_simp
                refine hK _ _ ?_
                exact ⟨upd (upd s 4 (.bool false)) 8 (undef), rfl, Sv.put (Sv.re (j := 4) (v := .bool false) HV.out e4) (fun u hu => by cases hu; rfl), HST.out⟩
               ·have d4 := ready_dep hr (k := 4) (by kernel_rfl)
                clear hr
                have e4 : s 4 = .bool false := HV.out.v d4 rfl
                refine wpOp_step rfl (fun K hK => ?_)
                go_simp
                refine hK _ _ ?_
                exact ⟨upd (upd s 4 (.bool false)) 9 (undef), rfl, Sv.put (Sv.re (j := 4) (v := .bool false) HV.out e4) (fun u hu => by cases hu; rfl), HST.out⟩
               ·have d4 := ready_dep hr (k := 4) (by kernel_rfl)
                clear hr
                have e4 : s 4 = .bool false := HV.out.v d4 rfl
                refine wpOp_step rfl (fun K hK => ?_)
                go_simp
                refine hK _ _ ?_
                exact ⟨upd (upd s 4 (.bool false)) 10 (undef), rfl, Sv.put (Sv.re (j := 4) (v := .bool false) HV.out e4) (fun u hu => by cases hu; rfl), HST.out⟩
               ·have d4 := ready_dep hr (k := 4) (by kernel_rfl)
                have d10 := ready_dep hr (k := 10) (by kernel_rfl)
                clear hr
                have e4 : s 4 = .bool false := HV.out.v d4 rfl
                have e10 : s 10 = undef := HV.out.v d10 rfl
                refine wpOp_step rfl (fun K hK => ?_)
                go_simp
                refine hK _ _ ?_
                exact ⟨upd (upd (upd s 4 (.bool false)) 10 (undef)) 11 (.bool false), rfl, Sv.put (Sv.re (j := 10) (v := undef) (Sv.re (j := 4) (v := .bool false) HV.out e4) e10) (fun u hu => by cases hu; rfl), HST.out⟩
              ·intro Lq aq WN hI hrd
               obtain ⟨s, ha, hv, hst⟩ := hI
               have hall := all_listedM hrd hv.sz (by kernel_rfl)
               clear hrd
               have e0 : s 0 = (.slice (some ⟨w1.heap.size + 1, 0, none⟩) L.length L.length) := hv.v (hall 0 (by decide)) rfl
               have e1 : s 1 = (.int .i64 (j : Int)) := hv.v (hall 1 (by decide)) rfl
               have e2 : s 2 = (.pointer (some ⟨w1.heap.size + 1, j, none⟩)) := hv.v (hall 2 (by decide)) rfl
               have e3 : s 3 = (.bool false) := hv.v (hall 3 (by decide)) rfl
               have e4 : s 4 = (.bool false) := hv.v (hall 4 (by decide)) rfl
               have e5 : s 5 = (undef) := hv.v (hall 5 (by decide)) rfl
               have e6 : s 6 = (undef) := hv.v (hall 6 (by decide)) rfl
               have e7 : s 7 = (undef) := hv.v (hall 7 (by decide)) rfl
               have e8 : s 8 = (undef) := hv.v (hall 8 (by decide)) rfl
               have e9 : s 9 = (undef) := hv.v (hall 9 (by decide)) rfl
               have e10 : s 10 = (undef) := hv.v (hall 10 (by decide)) rfl
               have e11 : s 11 = (.bool false) := hv.v (hall 11 (by decide)) rfl
               simp only [e0, e1, e2, e3, e4, e5, e6, e7, e8, e9, e10, e11] at ha
               subst ha
               clear hall hv e0 e1 e2 e3 e4 e5 e6 e7 e8 e9 e10 e11
               obtain ⟨q0, q1, q2, q3, q4, q5, q6, q7, q8, q9, q10, q11, q12, hbl⟩ := hst
               have hsz := HS12.out.below hbl
               have hez := HE12.out.below hbl
               have hinv := hsz.inv.put hk3 hM.out.1 hM.out.2 HNB.out hjn HOK.out (fun _ _ h => h.more) (fun _ => by rw [HMM.out]; exact HGM.out)
               rw [HMM.out] at hinv
               have hN := hsz.put j m' hinv
               have hE := hez.put (j := j) (m := m') hsz.row hsz.kno
               obtain ⟨m2, hm2⟩ := keep_at hM.out j m'
               have fz := hsz.row.fz
               have fk := hsz.kno.fz
               have HN := Lib.hid hN
               have HEN := Lib.hid hE
               have HM2 := Lib.hid hm2
               clear hsz hez hinv hN hE hm2 hbl y0 y1 y2 y3 y4 y5 l0 l1 l2 l3 l4 l5 zk
               go_wp2
               go_roundw
               case rel => exact ⟨k + 1, l.set j m', f'.set j true, m2, by omega, by go_num, HN, HEN, HM2⟩
               case measure => simp [intOf]; omega
             | true =>
              by_cases heq : mj = m'
              ·have hd : (!decide (mj = m')) = false := by simp [heq]
               rw [hd] at r18
               have hok : f'[j]? = some true → l[j]? = some (stpL L C i k m) := fun _ => by rw [HMM.out, ← heq]; exact HMJ.out
               have HOK := Lib.hid hok
               clear heq hd hok hfj
               go_wp2_with fail
               refine wp_region_inv (fun Lq aq WN => ∃ s : Nat → Value, aq = { tmps := #[shV W H Am nm cm Ac nc cc, .pointer (some ⟨w.heap.size, 0, none⟩), u2, u3, .slice (some ⟨gv, 0, none⟩) L.length cv, .slice (some ⟨w1.heap.size, 0, none⟩) L.length L.length, .slice (some ⟨w1.heap.size + 1, 0, none⟩) L.length L.length, .int .i64 (r : Int), .int .i64 (i : Int), .slice (some ⟨ge, 0, none⟩) 3 3, .int .i64 (k : Int), .pointer (some ⟨gU, 0, none⟩), .bool true, .int .i64 (j : Int), .pointer (some ⟨w6.heap.size, 0, none⟩), .agg #[.int .i64 W, .int .i64 H, .slice Am nm cm, .slice Ac nc cc], .slice (some ⟨gv, 0, none⟩) L.length cv, .slice (some ⟨gv, 0, none⟩) L.length cv, .int .i64 (L.length : Int), .slice (some ⟨w1.heap.size, 0, none⟩) L.length L.length, .slice (some ⟨gv, 0, none⟩) L.length cv, .int .i64 (L.length : Int), .slice (some ⟨w1.heap.size + 1, 0, none⟩) L.length L.length, .slice (some ⟨w1.heap.size, 0, none⟩) L.length L.length, .agg #[.int .i64 1, .int .i64 0, .int .i64 0, .int .i64 1, .int .i64 0, .int .i64 0], .pointer (some ⟨w1.heap.size, 0, none⟩), .slice (some ⟨w1.heap.size + 1, 0, none⟩) L.length L.length, .pointer (some ⟨w1.heap.size + 1, 0, none⟩), .int .i64 (r : Int), .slice (some ⟨gv, 0, none⟩) L.length cv, .int .i64 (L.length : Int), .bool true, u32, u33, .int .i64 (i : Int), .slice (some ⟨gv, 0, none⟩) L.length cv, .int .i64 (L.length : Int), .bool true, u38, u39, .slice (some ⟨w1.heap.size + 1, 0, none⟩) L.length L.length, .int .i64 (i : Int), .pointer (some ⟨w1.heap.size + 1, i, none⟩), .bool true, .bool false, .slice (some ⟨gv, 0, none⟩) L.length cv, .int .i64 (i : Int), .pointer (some ⟨gv, i * 3, none⟩), .agg #[.int .i64 t.1, .int .i64 t.2.1, .int .i64 t.2.2], .slice (some ⟨ge, 0, none⟩) 3 3, .int .i64 (k : Int), .bool true, u52, u53, .tuple #[.agg #[.int .i64 U.1, .int .i64 U.2.1, .int .i64 U.2.2], .bool true], .slice (some ⟨gv, 0, none⟩) L.length cv, .int .i64 (i : Int), .pointer (some ⟨gv, i * 3, none⟩), .agg #[.int .i64 t.1, .int .i64 t.2.1, .int .i64 t.2.2], .slice (some ⟨ge, 0, none⟩) 3 3, .int .i64 (k : Int), .pointer (some ⟨ge, k * 4, none⟩), .agg #[.int .i64 E.1, .int .i64 E.2.1, .int .i64 E.2.2.1, .int .i64 E.2.2.2], .tuple #[.agg #[.int .i64 U.1, .int .i64 U.2.1, .int .i64 U.2.2], .bool true], .agg #[.int .i64 U.1, .int .i64 U.2.1, .int .i64 U.2.2], .bool true, .slice (some ⟨gv, 0, none⟩) L.length cv, .agg #[.int .i64 U.1, .int .i64 U.2.1, .int .i64 U.2.2], .int .i64 (j : Int), .int .i64 (j : Int), .bool false, .slice (some ⟨w1.heap.size, 0, none⟩) L.length L.length, .int .i64 (i : Int), .pointer (some ⟨w1.heap.size, i * 6, none⟩), .agg #[.int .i64 m.1, .int .i64 m.2.1, .int .i64 m.2.2.1, .int .i64 m.2.2.2.1, .int .i64 m.2.2.2.2.1, .int .i64 m.2.2.2.2.2], .agg #[.int .i64 W, .int .i64 H, .slice Am nm cm, .slice Ac nc cc], .slice (some ⟨ge, 0, none⟩) 3 3, .int .i64 (k : Int), .pointer (some ⟨ge, k * 4, none⟩), .agg #[.int .i64 E.1, .int .i64 E.2.1, .int .i64 E.2.2.1, .int .i64 E.2.2.2], .int .i64 KD, .bool true, .slice (some ⟨ge, 0, none⟩) 3 3, .int .i64 (k : Int), .pointer (some ⟨ge, k * 4, none⟩), .agg #[.int .i64 E.1, .int .i64 E.2.1, .int .i64 E.2.2.1, .int .i64 E.2.2.2], aggL la lc, aggM M1, .slice (some ⟨w1.heap.size, 0, none⟩) L.length L.length, .int .i64 (i : Int), .pointer (some ⟨w1.heap.size, i * 6, none⟩), .agg #[.int .i64 m.1, .int .i64 m.2.1, .int .i64 m.2.2.1, .int .i64 m.2.2.2.1, .int .i64 m.2.2.2.2.1, .int .i64 m.2.2.2.2.2], aggM m', (s 0), (s 1), (s 2), (s 3), (s 4), (s 5), (s 6), (s 7), (s 8), (s 9), (s 10), (s 11), u105, u106, u107, u108, u109, u110, u111, undef], defers := [] } ∧ Sv 12 [some (.slice (some ⟨w1.heap.size + 1, 0, none⟩) L.length L.length), some (.int .i64 (j : Int)), some (.pointer (some ⟨w1.heap.size + 1, j, none⟩)), some (.bool true), some (.bool true), some (.slice (some ⟨w1.heap.size, 0, none⟩) L.length L.length), some (.int .i64 (j : Int)), some (.pointer (some ⟨w1.heap.size, j * 6, none⟩)), some (.agg #[.int .i64 mj.1, .int .i64 mj.2.1, .int .i64 mj.2.2.1, .int .i64 mj.2.2.2.1, .int .i64 mj.2.2.2.2.1, .int .i64 mj.2.2.2.2.2]), some (.agg #[.int .i64 m'.1, .int .i64 m'.2.1, .int .i64 m'.2.2.1, .int .i64 m'.2.2.2.1, .int .i64 m'.2.2.2.2.1, .int .i64 m'.2.2.2.2.2]), some (.bool false), some (.bool false)] Lq s ∧ (WN.cell? ⟨w1.heap.size + 1, j, none⟩ = some (.bool true) ∧ WN.cell? ⟨w1.heap.size, j * 6, none⟩ = some (.int .i64 mj.1) ∧ WN.cell? ⟨w1.heap.size, j * 6 + 1, none⟩ = some (.int .i64 mj.2.1) ∧ WN.cell? ⟨w1.heap.size, j * 6 + 2, none⟩ = some (.int .i64 mj.2.2.1) ∧ WN.cell? ⟨w1.heap.size, j * 6 + 3, none⟩ = some (.int .i64 mj.2.2.2.1) ∧ WN.cell? ⟨w1.heap.size, j * 6 + 4, none⟩ = some (.int .i64 mj.2.2.2.2.1) ∧ WN.cell? ⟨w1.heap.size, j * 6 + 5, none⟩ = some (.int .i64 mj.2.2.2.2.2) ∧ WN.cell? ⟨w6.heap.size, 0, none⟩ = some (.int .i64 m'.1) ∧ WN.cell? ⟨w6.heap.size, 1, none⟩ = some (.int .i64 m'.2.1) ∧ WN.cell? ⟨w6.heap.size, 2, none⟩ = some (.int .i64 m'.2.2.1) ∧ WN.cell? ⟨w6.heap.size, 3, none⟩ = some (.int .i64 m'.2.2.2.1) ∧ WN.cell? ⟨w6.heap.size, 4, none⟩ = some (.int .i64 m'.2.2.2.2.1) ∧ WN.cell? ⟨w6.heap.size, 5, none⟩ = some (.int .i64 m'.2.2.2.2.2) ∧ Below wz.heap.size wz WN)) (by kernel_rfl) ?_ ?_ ?_
               ·exact ⟨listF [u93, u94, u95, u96, u97, u98, u99, u100, u101, u102, u103, u104], rfl, Sv.start 12 _ _, ⟨zk, y0, y1, y2, y3, y4, y5, l0, l1, l2, l3, l4, l5, (Below.refl _ _).drew⟩⟩
               ·intro Lq aq WN i0 hI hr
                obtain ⟨s, rfl, hv, hst⟩ := hI
                have hi0 : i0 < 12 := ready_lt hr
                have HV := Lib.hid hv
                have HST := Lib.hid hst
                clear hv hst
                have hii : i0 = 0 ∨ i0 = 1 ∨ i0 = 2 ∨ i0 = 3 ∨ i0 = 4 ∨ i0 = 5 ∨ i0 = 6 ∨ i0 = 7 ∨ i0 = 8 ∨ i0 = 9 ∨ i0 = 10 ∨ i0 = 11 := by omega
                clear hi0
                rcases hii with rfl | rfl | rfl | rfl | rfl | rfl | rfl | rfl | rfl | rfl | rfl | rfl
                ·clear hr
                 refine wpOp_step rfl (fun K hK => ?_)
                 go_simp
                 refine hK _ _ ?_
                 exact ⟨upd s 0 (.slice (some ⟨w1.heap.size + 1, 0, none⟩) L.length L.length), rfl, Sv.put HV.out (fun u hu => by cases hu; rfl), HST.out⟩
                ·clear hr
                 refine wpOp_step rfl (fun K hK => ?_)
                 go_simp
                 refine hK _ _ ?_
                 exact ⟨upd s 1 (.int .i64 (j : Int)), rfl, Sv.put HV.out (fun u hu => by cases hu; rfl), HST.out⟩
                ·have d0 := ready_dep hr (k := 0) (by kernel_rfl)
                 have d1 := ready_dep hr (k := 1) (by kernel_rfl)
                 clear hr
                 have e0 : s 0 = .slice (some ⟨w1.heap.size + 1, 0, none⟩) L.length L.length := HV.out.v d0 rfl
                 have e1 : s 1 = .int .i64 (j : Int) := HV.out.v d1 rfl
                 refine wpOp_step rfl (fun K hK => ?_)
                 go_simp
                 refine hK _ _ ?_
                 exact ⟨upd (upd (upd s 0 (.slice (some ⟨w1.heap.size + 1, 0, none⟩) L.length L.length)) 1 (.int .i64 (j : Int))) 2 (.pointer (some ⟨w1.heap.size + 1, j, none⟩)), rfl, Sv.put (Sv.re (j := 1) (v := .int .i64 (j : Int)) (Sv.re (j := 0) (v := .slice (some ⟨w1.heap.size + 1, 0, none⟩) L.length L.length) HV.out e0) e1) (fun u hu => by cases hu; rfl), HST.out⟩
                ·have d2 := ready_dep hr (k := 2) (by kernel_rfl)
                 clear hr
                 have e2 : s 2 = .pointer (some ⟨w1.heap.size + 1, j, none⟩) := HV.out.v d2 rfl
                 obtain ⟨q0, q1, q2, q3, q4, q5, q6, q7, q8, q9, q10, q11, q12, hbl⟩ := HST.out
                 refine wpOp_step rfl (fun K hK => ?_)
                 go_simp
                 refine hK _ _ ?_
                 exact ⟨upd (upd s 2 (.pointer (some ⟨w1.heap.size + 1, j, none⟩))) 3 (.bool true), rfl, Sv.put (Sv.re (j := 2) (v := .pointer (some ⟨w1.heap.size + 1, j, none⟩)) HV.out e2) (fun u hu => by cases hu; rfl), HST.out⟩
                ·have d3 := ready_dep hr (k := 3) (by kernel_rfl)
                 clear hr
                 have e3 : s 3 = .bool true := HV.out.v d3 rfl
                 refine wpOp_step rfl (fun K hK => ?_)
                 go_simp
                 refine hK _ _ ?_
                 exact ⟨upd (upd s 3 (.bool true)) 4 (.bool true), rfl, Sv.put (Sv.re (j := 3) (v := .bool true) HV.out e3) (fun u hu => by cases hu; rfl), HST.out⟩
                ·have d4 := ready_dep hr (k := 4) (by kernel_rfl)
                 clear hr
                 have e4 : s 4 = .bool true := HV.out.v d4 rfl
                 refine wpOp_step rfl (fun K hK => ?_)
                 go_simp
                 refine hK _ _ ?_
                 exact ⟨upd (upd s 4 (.bool true)) 5 (.slice (some ⟨w1.heap.size, 0, none⟩) L.length L.length), rfl, Sv.put (Sv.re (j := 4) (v := .bool true) HV.out e4) (fun u hu => by cases hu; rfl), HST.out⟩
                ·have d4 := ready_dep hr (k := 4) (by kernel_rfl)
                 clear hr
                 have e4 : s 4 = .bool true := HV.out.v d4 rfl
                 refine wpOp_step rfl (fun K hK => ?_)
                 go_simp
                 refine hK _ _ ?_
                 exact ⟨upd (upd s 4 (.bool true)) 6 (.int .i64 (j : Int)), rfl, Sv.put (Sv.re (j := 4) (v := .bool true) HV.out e4) (fun u hu => by cases hu; rfl), HST.out⟩
                ·have d4 := ready_dep hr (k := 4) (by kernel_rfl)
                 have d5 := ready_dep hr (k := 5) (by kernel_rfl)
                 have d6 := ready_dep hr (k := 6) (by kernel_rfl)
                 clear hr
                 have e4 : s 4 = .bool true := HV.out.v d4 rfl
                 have e5 : s 5 = .slice (some ⟨w1.heap.size, 0, none⟩) L.length L.length := HV.out.v d5 rfl
                 have e6 : s 6 = .int .i64 (j : Int) := HV.out.v d6 rfl
                 refine wpOp_step rfl (fun K hK => ?_)
                 go_simp
                 refine hK _ _ ?_
                 exact ⟨upd (upd (upd (upd s 4 (.bool true)) 5 (.slice (some ⟨w1.heap.size, 0, none⟩) L.length L.length)) 6 (.int .i64 (j : Int))) 7 (.pointer (some ⟨w1.heap.size, j * 6, none⟩)), rfl, Sv.put (Sv.re (j := 6) (v := .int .i64 (j : Int)) (Sv.re (j := 5) (v := .slice (some ⟨w1.heap.size, 0, none⟩) L.length L.length) (Sv.re (j := 4) (v := .bool true) HV.out e4) e5) e6) (fun u hu => by cases hu; rfl), HST.out⟩
                ·have d4 := ready_dep hr (k := 4) (by kernel_rfl)
                 have d7 := ready_dep hr (k := 7) (by kernel_rfl)
                 clear hr
                 have e4 : s 4 = .bool true := HV.out.v d4 rfl
                 have e7 : s 7 = .pointer (some ⟨w1.heap.size, j * 6, none⟩) := HV.out.v d7 rfl
                 obtain ⟨q0, q1, q2, q3, q4, q5, q6, q7, q8, q9, q10, q11, q12, hbl⟩ := HST.out
                 refine wpOp_step rfl (fun K hK => ?_)
                 go_simp
                 refine hK _ _ ?_
                 exact ⟨upd (upd (upd s 4 (.bool true)) 7 (.pointer (some ⟨w1.heap.size, j * 6, none⟩))) 8 (.agg #[.int .i64 mj.1, .int .i64 mj.2.1, .int .i64 mj.2.2.1, .int .i64 mj.2.2.2.1, .int .i64 mj.2.2.2.2.1, .int .i64 mj.2.2.2.2.2]), rfl, Sv.put (Sv.re (j := 7) (v := .pointer (some ⟨w1.heap.size, j * 6, none⟩)) (Sv.re (j := 4) (v := .bool true) HV.out e4) e7) (fun u hu => by cases hu; rfl), HST.out⟩
                ·have d4 := ready_dep hr (k := 4) (by kernel_rfl)
                 clear hr
                 have e4 : s 4 = .bool true := HV.out.v d4 rfl
                 obtain ⟨q0, q1, q2, q3, q4, q5, q6, q7, q8, q9, q10, q11, q12, hbl⟩ := HST.out
                 refine wpOp_step rfl (fun K hK => ?_)
                 go_simp
                 refine hK _ _ ?_
                 exact ⟨upd (upd s 4 (.bool true)) 9 (.agg #[.int .i64 m'.1, .int .i64 m'.2.1, .int .i64 m'.2.2.1, .int .i64 m'.2.2.2.1, .int .i64 m'.2.2.2.2.1, .int .i64 m'.2.2.2.2.2]), rfl, Sv.put (Sv.re (j := 4) (v := .bool true) HV.out e4) (fun u hu => by cases hu; rfl), HST.out⟩
                ·have d4 := ready_dep hr (k := 4) (by kernel_rfl)
                 have d8 := ready_dep hr (k := 8) (by kernel_rfl)
                 have d9 := ready_dep hr (k := 9) (by kernel_rfl)
                 clear hr
                 have e4 : s 4 = .bool true := HV.out.v d4 rfl
                 have e8 : s 8 = .agg #[.int .i64 mj.1, .int .i64 mj.2.1, .int .i64 mj.2.2.1, .int .i64 mj.2.2.2.1, .int .i64 mj.2.2.2.2.1, .int .i64 mj.2.2.2.2.2] := HV.out.v d8 rfl
                 have e9 : s 9 = .agg #[.int .i64 m'.1, .int .i64 m'.2.1, .int .i64 m'.2.2.1, .int .i64 m'.2.2.2.1, .int .i64 m'.2.2.2.2.1, .int .i64 m'.2.2.2.2.2] := HV.out.v d9 rfl
                 refine wpOp_step rfl (fun K hK => ?_)
                 go_simp
                 refine hK _ _ ?_
                 exact ⟨upd (upd (upd (upd s 4 (.bool true)) 8 (.agg #[.int .i64 mj.1, .int .i64 mj.2.1, .int .i64 mj.2.2.1, .int .i64 mj.2.2.2.1, .int .i64 mj.2.2.2.2.1, .int .i64 mj.2.2.2.2.2])) 9 (.agg #[.int .i64 m'.1, .int .i64 m'.2.1, .int .i64 m'.2.2.1, .int .i64 m'.2.2.2.1, .int .i64 m'.2.2.2.2.1, .int .i64 m'.2.2.2.2.2])) 10 (.bool false), rfl, Sv.put (Sv.re (j := 9) (v := .agg #[.int .i64 m'.1, .int .i64 m'.2.1, .int .i64 m'.2.2.1, .int .i64 m'.2.2.2.1, .int .i64 m'.2.2.2.2.1, .int .i64 m'.2.2.2.2.2]) (Sv.re (j := 8) (v := .agg #[.int .i64 mj.1, .int .i64 mj.2.1, .int .i64 mj.2.2.1, .int .i64 mj.2.2.2.1, .int .i64 mj.2.2.2.2.1, .int .i64 mj.2.2.2.2.2]) (Sv.re (j := 4) (v := .bool true) HV.out e4) e8) e9) (fun u hu => by cases hu; rfl), HST.out⟩
                ·have d4 := ready_dep hr (k := 4) (by kernel_rfl)
                 have d10 := ready_dep hr (k := 10) (by kernel_rfl)
                 clear hr
                 have e4 : s 4 = .bool true := HV.out.v d4 rfl
                 have e10 : s 10 = .bool false := HV.out.v d10 rfl
                 refine wpOp_step rfl (fun K hK => ?_)
                 go_simp
                 refine hK _ _ ?_
                 exact ⟨upd (upd (upd s 4 (.bool true)) 10 (.bool false)) 11 (.bool false), rfl, Sv.put (Sv.re (j := 10) (v := .bool false) (Sv.re (j := 4) (v := .bool true) HV.out e4) e10) (fun u hu => by cases hu; rfl), HST.out⟩
               ·intro Lq aq WN hI hrd
                obtain ⟨s, ha, hv, hst⟩ := hI
                have hall := all_listedM hrd hv.sz (by kernel_rfl)
                clear hrd
                have e0 : s 0 = (.slice (some ⟨w1.heap.size + 1, 0, none⟩) L.length L.length) := hv.v (hall 0 (by decide)) rfl
                have e1 : s 1 = (.int .i64 (j : Int)) := hv.v (hall 1 (by decide)) rfl
                have e2 : s 2 = (.pointer (some ⟨w1.heap.size + 1, j, none⟩)) := hv.v (hall 2 (by decide)) rfl
                have e3 : s 3 = (.bool true) := hv.v (hall 3 (by decide)) rfl
                have e4 : s 4 = (.bool true) := hv.v (hall 4 (by decide)) rfl
                have e5 : s 5 = (.slice (some ⟨w1.heap.size, 0, none⟩) L.length L.length) := hv.v (hall 5 (by decide)) rfl
                have e6 : s 6 = (.int .i64 (j : Int)) := hv.v (hall 6 (by decide)) rfl
                have e7 : s 7 = (.pointer (some ⟨w1.heap.size, j * 6, none⟩)) := hv.v (hall 7 (by decide)) rfl
                have e8 : s 8 = (.agg #[.int .i64 mj.1, .int .i64 mj.2.1, .int .i64 mj.2.2.1, .int .i64 mj.2.2.2.1, .int .i64 mj.2.2.2.2.1, .int .i64 mj.2.2.2.2.2]) := hv.v (hall 8 (by decide)) rfl
                have e9 : s 9 = (.agg #[.int .i64 m'.1, .int .i64 m'.2.1, .int .i64 m'.2.2.1, .int .i64 m'.2.2.2.1, .int .i64 m'.2.2.2.2.1, .int .i64 m'.2.2.2.2.2]) := hv.v (hall 9 (by decide)) rfl
                have e10 : s 10 = (.bool false) := hv.v (hall 10 (by decide)) rfl
                have e11 : s 11 = (.bool false) := hv.v (hall 11 (by decide)) rfl
                simp only [e0, e1, e2, e3, e4, e5, e6, e7, e8, e9, e10, e11] at ha
                subst ha
                clear hall hv e0 e1 e2 e3 e4 e5 e6 e7 e8 e9 e10 e11
                obtain ⟨q0, q1, q2, q3, q4, q5, q6, q7, q8, q9, q10, q11, q12, hbl⟩ := hst
                have hsz := HS12.out.below hbl
                have hez := HE12.out.below hbl
                have hinv := hsz.inv.put hk3 hM.out.1 hM.out.2 HNB.out hjn HOK.out (fun _ _ h => h.more) (fun _ => by rw [HMM.out]; exact HGM.out)
                rw [HMM.out] at hinv
                have hN := hsz.put j m' hinv
                have hE := hez.put (j := j) (m := m') hsz.row hsz.kno
                obtain ⟨m2, hm2⟩ := keep_at hM.out j m'
                have fz := hsz.row.fz
                have fk := hsz.kno.fz
                have HN := Lib.hid hN
                have HEN := Lib.hid hE
                have HM2 := Lib.hid hm2
                clear hsz hez hinv hN hE hm2 hbl y0 y1 y2 y3 y4 y5 l0 l1 l2 l3 l4 l5 zk
                go_wp2
                go_roundw
                case rel => exact ⟨k + 1, l.set j m', f'.set j true, m2, by omega, by go_num, HN, HEN, HM2⟩
                case measure => simp [intOf]; omega
              ·have hd : (!decide (mj = m')) = true := by simp [heq]
               rw [hd] at r18
               have hcl := HS12.out.inv.clash (i := i) (k := k) hk3 hM.out.1 hM.out.2 HNB.out HMJ.out hfj (by rw [HMM.out]; exact heq)
               have HCL := Lib.hid hcl
               clear heq hd hcl hfj
               go_wp2_with fail
               refine wp_region_inv (fun Lq aq WN => ∃ s : Nat → Value, aq = { tmps := #[shV W H Am nm cm Ac nc cc, .pointer (some ⟨w.heap.size, 0, none⟩), u2, u3, .slice (some ⟨gv, 0, none⟩) L.length cv, .slice (some ⟨w1.heap.size, 0, none⟩) L.length L.length, .slice (some ⟨w1.heap.size + 1, 0, none⟩) L.length L.length, .int .i64 (r : Int), .int .i64 (i : Int), .slice (some ⟨ge, 0, none⟩) 3 3, .int .i64 (k : Int), .pointer (some ⟨gU, 0, none⟩), .bool true, .int .i64 (j : Int), .pointer (some ⟨w6.heap.size, 0, none⟩), .agg #[.int .i64 W, .int .i64 H, .slice Am nm cm, .slice Ac nc cc], .slice (some ⟨gv, 0, none⟩) L.length cv, .slice (some ⟨gv, 0, none⟩) L.length cv, .int .i64 (L.length : Int), .slice (some ⟨w1.heap.size, 0, none⟩) L.length L.length, .slice (some ⟨gv, 0, none⟩) L.length cv, .int .i64 (L.length : Int), .slice (some ⟨w1.heap.size + 1, 0, none⟩) L.length L.length, .slice (some ⟨w1.heap.size, 0, none⟩) L.length L.length, .agg #[.int .i64 1, .int .i64 0, .int .i64 0, .int .i64 1, .int .i64 0, .int .i64 0], .pointer (some ⟨w1.heap.size, 0, none⟩), .slice (some ⟨w1.heap.size + 1, 0, none⟩) L.length L.length, .pointer (some ⟨w1.heap.size + 1, 0, none⟩), .int .i64 (r : Int), .slice (some ⟨gv, 0, none⟩) L.length cv, .int .i64 (L.length : Int), .bool true, u32, u33, .int .i64 (i : Int), .slice (some ⟨gv, 0, none⟩) L.length cv, .int .i64 (L.length : Int), .bool true, u38, u39, .slice (some ⟨w1.heap.size + 1, 0, none⟩) L.length L.length, .int .i64 (i : Int), .pointer (some ⟨w1.heap.size + 1, i, none⟩), .bool true, .bool false, .slice (some ⟨gv, 0, none⟩) L.length cv, .int .i64 (i : Int), .pointer (some ⟨gv, i * 3, none⟩), .agg #[.int .i64 t.1, .int .i64 t.2.1, .int .i64 t.2.2], .slice (some ⟨ge, 0, none⟩) 3 3, .int .i64 (k : Int), .bool true, u52, u53, .tuple #[.agg #[.int .i64 U.1, .int .i64 U.2.1, .int .i64 U.2.2], .bool true], .slice (some ⟨gv, 0, none⟩) L.length cv, .int .i64 (i : Int), .pointer (some ⟨gv, i * 3, none⟩), .agg #[.int .i64 t.1, .int .i64 t.2.1, .int .i64 t.2.2], .slice (some ⟨ge, 0, none⟩) 3 3, .int .i64 (k : Int), .pointer (some ⟨ge, k * 4, none⟩), .agg #[.int .i64 E.1, .int .i64 E.2.1, .int .i64 E.2.2.1, .int .i64 E.2.2.2], .tuple #[.agg #[.int .i64 U.1, .int .i64 U.2.1, .int .i64 U.2.2], .bool true], .agg #[.int .i64 U.1, .int .i64 U.2.1, .int .i64 U.2.2], .bool true, .slice (some ⟨gv, 0, none⟩) L.length cv, .agg #[.int .i64 U.1, .int .i64 U.2.1, .int .i64 U.2.2], .int .i64 (j : Int), .int .i64 (j : Int), .bool false, .slice (some ⟨w1.heap.size, 0, none⟩) L.length L.length, .int .i64 (i : Int), .pointer (some ⟨w1.heap.size, i * 6, none⟩), .agg #[.int .i64 m.1, .int .i64 m.2.1, .int .i64 m.2.2.1, .int .i64 m.2.2.2.1, .int .i64 m.2.2.2.2.1, .int .i64 m.2.2.2.2.2], .agg #[.int .i64 W, .int .i64 H, .slice Am nm cm, .slice Ac nc cc], .slice (some ⟨ge, 0, none⟩) 3 3, .int .i64 (k : Int), .pointer (some ⟨ge, k * 4, none⟩), .agg #[.int .i64 E.1, .int .i64 E.2.1, .int .i64 E.2.2.1, .int .i64 E.2.2.2], .int .i64 KD, .bool true, .slice (some ⟨ge, 0, none⟩) 3 3, .int .i64 (k : Int), .pointer (some ⟨ge, k * 4, none⟩), .agg #[.int .i64 E.1, .int .i64 E.2.1, .int .i64 E.2.2.1, .int .i64 E.2.2.2], aggL la lc, aggM M1, .slice (some ⟨w1.heap.size, 0, none⟩) L.length L.length, .int .i64 (i : Int), .pointer (some ⟨w1.heap.size, i * 6, none⟩), .agg #[.int .i64 m.1, .int .i64 m.2.1, .int .i64 m.2.2.1, .int .i64 m.2.2.2.1, .int .i64 m.2.2.2.2.1, .int .i64 m.2.2.2.2.2], aggM m', (s 0), (s 1), (s 2), (s 3), (s 4), (s 5), (s 6), (s 7), (s 8), (s 9), (s 10), (s 11), u105, u106, u107, u108, u109, u110, u111, undef], defers := [] } ∧ Sv 12 [some (.slice (some ⟨w1.heap.size + 1, 0, none⟩) L.length L.length), some (.int .i64 (j : Int)), some (.pointer (some ⟨w1.heap.size + 1, j, none⟩)), some (.bool true), some (.bool true), some (.slice (some ⟨w1.heap.size, 0, none⟩) L.length L.length), some (.int .i64 (j : Int)), some (.pointer (some ⟨w1.heap.size, j * 6, none⟩)), some (.agg #[.int .i64 mj.1, .int .i64 mj.2.1, .int .i64 mj.2.2.1, .int .i64 mj.2.2.2.1, .int .i64 mj.2.2.2.2.1, .int .i64 mj.2.2.2.2.2]), some (.agg #[.int .i64 m'.1, .int .i64 m'.2.1, .int .i64 m'.2.2.1, .int .i64 m'.2.2.2.1, .int .i64 m'.2.2.2.2.1, .int .i64 m'.2.2.2.2.2]), some (.bool true), some (.bool true)] Lq s ∧ (WN.cell? ⟨w1.heap.size + 1, j, none⟩ = some (.bool true) ∧ WN.cell? ⟨w1.heap.size, j * 6, none⟩ = some (.int .i64 mj.1) ∧ WN.cell? ⟨w1.heap.size, j * 6 + 1, none⟩ = some (.int .i64 mj.2.1) ∧ WN.cell? ⟨w1.heap.size, j * 6 + 2, none⟩ = some (.int .i64 mj.2.2.1) ∧ WN.cell? ⟨w1.heap.size, j * 6 + 3, none⟩ = some (.int .i64 mj.2.2.2.1) ∧ WN.cell? ⟨w1.heap.size, j * 6 + 4, none⟩ = some (.int .i64 mj.2.2.2.2.1) ∧ WN.cell? ⟨w1.heap.size, j * 6 + 5, none⟩ = some (.int .i64 mj.2.2.2.2.2) ∧ WN.cell? ⟨w6.heap.size, 0, none⟩ = some (.int .i64 m'.1) ∧ WN.cell? ⟨w6.heap.size, 1, none⟩ = some (.int .i64 m'.2.1) ∧ WN.cell? ⟨w6.heap.size, 2, none⟩ = some (.int .i64 m'.2.2.1) ∧ WN.cell? ⟨w6.heap.size, 3, none⟩ = some (.int .i64 m'.2.2.2.1) ∧ WN.cell? ⟨w6.heap.size, 4, none⟩ = some (.int .i64 m'.2.2.2.2.1) ∧ WN.cell? ⟨w6.heap.size, 5, none⟩ = some (.int .i64 m'.2.2.2.2.2) ∧ Below wz.heap.size wz WN)) (by kernel_rfl) ?_ ?_ ?_
               ·exact ⟨listF [u93, u94, u95, u96, u97, u98, u99, u100, u101, u102, u103, u104], rfl, Sv.start 12 _ _, ⟨zk, y0, y1, y2, y3, y4, y5, l0, l1, l2, l3, l4, l5, (Below.refl _ _).drew⟩⟩
               ·intro Lq aq WN i0 hI hr
                obtain ⟨s, rfl, hv, hst⟩ := hI
                have hi0 : i0 < 12 := ready_lt hr
                have HV := Lib.hid hv
                have HST := Lib.hid hst
                clear hv hst
                have hii : i0 = 0 ∨ i0 = 1 ∨ i0 = 2 ∨ i0 = 3 ∨ i0 = 4 ∨ i0 = 5 ∨ i0 = 6 ∨ i0 = 7 ∨ i0 = 8 ∨ i0 = 9 ∨ i0 = 10 ∨ i0 = 11 := by omega
                clear hi0
                rcases hii with rfl | rfl | rfl | rfl | rfl | rfl | rfl | rfl | rfl | rfl | rfl | rfl
                ·clear hr
                 refine wpOp_step rfl (fun K hK => ?_)
                 go_simp
                 refine hK _ _ ?_
                 exact ⟨upd s 0 (.slice (some ⟨w1.heap.size + 1, 0, none⟩) L.length L.length), rfl, Sv.put HV.out (fun u hu => by cases hu; rfl), HST.out⟩
                ·clear hr
                 refine wpOp_step rfl (fun K hK => ?_)
                 go_simp
                 refine hK _ _ ?_
                 exact ⟨upd s 1 (.int .i64 (j : Int)), rfl, Sv.put HV.out (fun u hu => by cases hu; rfl), HST.out⟩
                ·have d0 := ready_dep hr (k := 0) (by kernel_rfl)
                 have d1 := ready_dep hr (k := 1) (by kernel_rfl)
                 clear hr
                 have e0 : s 0 = .slice (some ⟨w1.heap.size + 1, 0, none⟩) L.length L.length := HV.out.v d0 rfl
                 have e1 : s 1 = .int .i64 (j : Int) := HV.out.v d1 rfl
                 refine wpOp_step rfl (fun K hK => ?_)
                 go_simp
                 refine hK _ _ ?_
                 exact ⟨upd (upd (upd s 0 (.slice (some ⟨w1.heap.size + 1, 0, none⟩) L.length L.length)) 1 (.int .i64 (j : Int))) 2 (.pointer (some ⟨w1.heap.size + 1, j, none⟩)), rfl, Sv.put (Sv.re (j := 1) (v := .int .i64 (j : Int)) (Sv.re (j := 0) (v := .slice (some ⟨w1.heap.size + 1, 0, none⟩) L.length L.length) HV.out e0) e1) (fun u hu => by cases hu; rfl), HST.out⟩
                ·have d2 := ready_dep hr (k := 2) (by kernel_rfl)
                 clear hr
                 have e2 : s 2 = .pointer (some ⟨w1.heap.size + 1, j, none⟩) := HV.out.v d2 rfl
                 obtain ⟨q0, q1, q2, q3, q4, q5, q6, q7, q8, q9, q10, q11, q12, hbl⟩ := HST.out
                 refine wpOp_step rfl (fun K hK => ?_)
                 go_simp
                 refine hK _ _ ?_
                 exact ⟨upd (upd s 2 (.pointer (some ⟨w1.heap.size + 1, j, none⟩))) 3 (.bool true), rfl, Sv.put (Sv.re (j := 2) (v := .pointer (some ⟨w1.heap.size + 1, j, none⟩)) HV.out e2) (fun u hu => by cases hu; rfl), HST.out⟩
                ·have d3 := ready_dep hr (k := 3) (by kernel_rfl)
                 clear hr
                 have e3 : s 3 = .bool true := HV.out.v d3 rfl
                 refine wpOp_step rfl (fun K hK => ?_)
                 go_simp
                 refine hK _ _ ?_
                 exact ⟨upd (upd s 3 (.bool true)) 4 (.bool true), rfl, Sv.put (Sv.re (j := 3) (v := .bool true) HV.out e3) (fun u hu => by cases hu; rfl), HST.out⟩
                ·have d4 := ready_dep hr (k := 4) (by kernel_rfl)
                 clear hr
                 have e4 : s 4 = .bool true := HV.out.v d4 rfl
                 refine wpOp_step rfl (fun K hK => ?_)
                 go_simp
                 refine hK _ _ ?_
                 exact ⟨upd (upd s 4 (.bool true)) 5 (.slice (some ⟨w1.heap.size, 0, none⟩) L.length L.length), rfl, Sv.put (Sv.re (j := 4) (v := .bool true) HV.out e4) (fun u hu => by cases hu; rfl), HST.out⟩
                ·have d4 := ready_dep hr (k := 4) (by kernel_rfl)
                 clear hr
                 have e4 : s 4 = .bool true := HV.out.v d4 rfl
                 refine wpOp_step rfl (fun K hK => ?_)
                 go_simp
                 refine hK _ _ ?_
                 exact ⟨upd (upd s 4 (.bool true)) 6 (.int .i64 (j : Int)), rfl, Sv.put (Sv.re (j := 4) (v := .bool true) HV.out e4) (fun u hu => by cases hu; rfl), HST.out⟩
                ·have d4 := ready_dep hr (k := 4) (by kernel_rfl)
                 have d5 := ready_dep hr (k := 5) (by kernel_rfl)
                 have d6 := ready_dep hr (k := 6) (by kernel_rfl)
                 clear hr
                 have e4 : s 4 = .bool true := HV.out.v d4 rfl
                 have e5 : s 5 = .slice (some ⟨w1.heap.size, 0, none⟩) L.length L.length := HV.out.v d5 rfl
                 have e6 : s 6 = .int .i64 (j : Int) := HV.out.v d6 rfl
                 refine wpOp_step rfl (fun K hK => ?_)
                 go_simp
                 refine hK _ _ ?_
                 exact ⟨upd (upd (upd (upd s 4 (.bool true)) 5 (.slice (some ⟨w1.heap.size, 0, none⟩) L.length L.length)) 6 (.int .i64 (j : Int))) 7 (.pointer (some ⟨w1.heap.size, j * 6, none⟩)), rfl, Sv.put (Sv.re (j := 6) (v := .int .i64 (j : Int)) (Sv.re (j := 5) (v := .slice (some ⟨w1.heap.size, 0, none⟩) L.length L.length) (Sv.re (j := 4) (v := .bool true) HV.out e4) e5) e6) (fun u hu => by cases hu; rfl), HST.out⟩
                ·have d4 := ready_dep hr (k := 4) (by kernel_rfl)
                 have d7 := ready_dep hr (k := 7) (by kernel_rfl)
                 clear hr
                 have e4 : s 4 = .bool true := HV.out.v d4 rfl
                 have e7 : s 7 = .pointer (some ⟨w1.heap.size, j * 6, none⟩) := HV.out.v d7 rfl
                 obtain ⟨q0, q1, q2, q3, q4, q5, q6, q7, q8, q9, q10, q11, q12, hbl⟩ := HST.out
                 refine wpOp_step rfl (fun K hK => ?_)
                 go_simp
                 refine hK _ _ ?_
                 exact ⟨upd (upd (upd s 4 (.bool true)) 7 (.pointer (some ⟨w1.heap.size, j * 6, none⟩))) 8 (.agg #[.int .i64 mj.1, .int .i64 mj.2.1, .int .i64 mj.2.2.1, .int .i64 mj.2.2.2.1, .int .i64 mj.2.2.2.2.1, .int .i64 mj.2.2.2.2.2]), rfl, Sv.put (Sv.re (j := 7) (v := .pointer (some ⟨w1.heap.size, j * 6, none⟩)) (Sv.re (j := 4) (v := .bool true) HV.out e4) e7) (fun u hu => by cases hu; rfl), HST.out⟩
                ·have d4 := ready_dep hr (k := 4) (by kernel_rfl)
                 clear hr
                 have e4 : s 4 = .bool true := HV.out.v d4 rfl
                 obtain ⟨q0, q1, q2, q3, q4, q5, q6, q7, q8, q9, q10, q11, q12, hbl⟩ := HST.out
                 refine wpOp_step rfl (fun K hK => ?_)
                 go_simp
                 refine hK _ _ ?_
                 exact ⟨upd (upd s 4 (.bool true)) 9 (.agg #[.int .i64 m'.1, .int .i64 m'.2.1, .int .i64 m'.2.2.1, .int .i64 m'.2.2.2.1, .int .i64 m'.2.2.2.2.1, .int .i64 m'.2.2.2.2.2]), rfl, Sv.put (Sv.re (j := 4) (v := .bool true) HV.out e4) (fun u hu => by cases hu; rfl), HST.out⟩
                ·have d4 := ready_dep hr (k := 4) (by kernel_rfl)
                 have d8 := ready_dep hr (k := 8) (by kernel_rfl)
                 have d9 := ready_dep hr (k := 9) (by kernel_rfl)
                 clear hr
                 have e4 : s 4 = .bool true := HV.out.v d4 rfl
                 have e8 : s 8 = .agg #[.int .i64 mj.1, .int .i64 mj.2.1, .int .i64 mj.2.2.1, .int .i64 mj.2.2.2.1, .int .i64 mj.2.2.2.2.1, .int .i64 mj.2.2.2.2.2] := HV.out.v d8 rfl
                 have e9 : s 9 = .agg #[.int .i64 m'.1, .int .i64 m'.2.1, .int .i64 m'.2.2.1, .int .i64 m'.2.2.2.1, .int .i64 m'.2.2.2.2.1, .int .i64 m'.2.2.2.2.2] := HV.out.v d9 rfl
                 refine wpOp_step rfl (fun K hK => ?_)
                 go_simp
                 refine hK _ _ ?_
                 exact ⟨upd (upd (upd (upd s 4 (.bool true)) 8 (.agg #[.int .i64 mj.1, .int .i64 mj.2.1, .int .i64 mj.2.2.1, .int .i64 mj.2.2.2.1, .int .i64 mj.2.2.2.2.1, .int .i64 mj.2.2.2.2.2])) 9 (.agg #[.int .i64 m'.1, .int .i64 m'.2.1, .int .i64 m'.2.2.1, .int .i64 m'.2.2.2.1, .int .i64 m'.2.2.2.2.1, .int .i64 m'.2.2.2.2.2])) 10 (.bool true), rfl, Sv.put (Sv.re (j := 9) (v := .agg #[.int .i64 m'.1, .int .i64 m'.2.1, .int .i64 m'.2.2.1, .int .i64 m'.2.2.2.1, .int .i64 m'.2.2.2.2.1, .int .i64 m'.2.2.2.2.2]) (Sv.re (j := 8) (v := .agg #[.int .i64 mj.1, .int .i64 mj.2.1, .int .i64 mj.2.2.1, .int .i64 mj.2.2.2.1, .int .i64 mj.2.2.2.2.1, .int .i64 mj.2.2.2.2.2]) (Sv.re (j := 4) (v := .bool true) HV.out e4) e8) e9) (fun u hu => by cases hu; rfl), HST.out⟩
                ·have d4 := ready_dep hr (k := 4) (by kernel_rfl)
                 have d10 := ready_dep hr (k := 10) (by kernel_rfl)
                 clear hr
                 have e4 : s 4 = .bool true := HV.out.v d4 rfl
                 have e10 : s 10 = .bool true := HV.out.v d10 rfl
                 refine wpOp_step rfl (fun K hK => ?_)
                 go_simp
                 refine hK _ _ ?_
                 exact ⟨upd (upd (upd s 4 (.bool true)) 10 (.bool true)) 11 (.bool true), rfl, Sv.put (Sv.re (j := 10) (v := .bool true) (Sv.re (j := 4) (v := .bool true) HV.out e4) e10) (fun u hu => by cases hu; rfl), HST.out⟩
               ·intro Lq aq WN hI hrd
                obtain ⟨s, ha, hv, hst⟩ := hI
                have hall := all_listedM hrd hv.sz (by kernel_rfl)
                clear hrd
                have e0 : s 0 = (.slice (some ⟨w1.heap.size + 1, 0, none⟩) L.length L.length) := hv.v (hall 0 (by decide)) rfl
                have e1 : s 1 = (.int .i64 (j : Int)) := hv.v (hall 1 (by decide)) rfl
                have e2 : s 2 = (.pointer (some ⟨w1.heap.size + 1, j, none⟩)) := hv.v (hall 2 (by decide)) rfl
                have e3 : s 3 = (.bool true) := hv.v (hall 3 (by decide)) rfl
                have e4 : s 4 = (.bool true) := hv.v (hall 4 (by decide)) rfl
                have e5 : s 5 = (.slice (some ⟨w1.heap.size, 0, none⟩) L.length L.length) := hv.v (hall 5 (by decide)) rfl
                have e6 : s 6 = (.int .i64 (j : Int)) := hv.v (hall 6 (by decide)) rfl
                have e7 : s 7 = (.pointer (some ⟨w1.heap.size, j * 6, none⟩)) := hv.v (hall 7 (by decide)) rfl
                have e8 : s 8 = (.agg #[.int .i64 mj.1, .int .i64 mj.2.1, .int .i64 mj.2.2.1, .int .i64 mj.2.2.2.1, .int .i64 mj.2.2.2.2.1, .int .i64 mj.2.2.2.2.2]) := hv.v (hall 8 (by decide)) rfl
                have e9 : s 9 = (.agg #[.int .i64 m'.1, .int .i64 m'.2.1, .int .i64 m'.2.2.1, .int .i64 m'.2.2.2.1, .int .i64 m'.2.2.2.2.1, .int .i64 m'.2.2.2.2.2]) := hv.v (hall 9 (by decide)) rfl
                have e10 : s 10 = (.bool true) := hv.v (hall 10 (by decide)) rfl
                have e11 : s 11 = (.bool true) := hv.v (hall 11 (by decide)) rfl
                simp only [e0, e1, e2, e3, e4, e5, e6, e7, e8, e9, e10, e11] at ha
                subst ha
                clear hall hv e0 e1 e2 e3 e4 e5 e6 e7 e8 e9 e10 e11
                obtain ⟨q0, q1, q2, q3, q4, q5, q6, q7, q8, q9, q10, q11, q12, hbl⟩ := hst
                have HBF := Lib.hid (stay_b HBW.out (stay_b HS12.out.bel hbl))
                clear hbl
                go_wp2
                exact bodyPost_ret (v := .tuple #[.slice none 0 0, .bool false]) (by simp [results, Tryd.results24, go_sem]) rfl ⟨HBF.out, .inl ⟨(by first | exact HCL.out | exact not_exists.1 HCL.out), rfl⟩⟩
         ·have hje : placeI L U = -1 := by unfold placeI; rw [if_neg hUL]
          have cP := CP.out
          rw [hje] at cP
          have CP := Lib.hid cP
          have hsn := HS5.out.re (HS5.out.inv.none (HNN.out hUL))
          have HSN := Lib.hid hsn
          clear cP hje hUL HNN HNS HS5 hsn
          go_wp2_with (go_at_call 52; refine CP.out.mono ?_; rintro r w6 ⟨rfl, hb6⟩)
          have HS6 := Lib.hid (HSN.out.below hb6)
          have HED6 := Lib.hid (HED5.out.below hb6)
          clear HSN HED5 hb6
          go_roundw
          case rel => exact ⟨k + 1, l, f', m, by omega, by go_num, HS6, HED6, hM⟩
          case measure => simp [intOf]; omega
       ·have hk4 : k = 3 := by omega
        subst hk4
        have HS3 := Lib.hid (hS.out.re hS.out.inv.row)
        clear hS
        go_wp2
        go_roundw
        case rel => exact ⟨i + 1, l, f', by omega, by go_num, HS3⟩
        case measure => simp [intOf]; omega
    ·have hi2 : i = L.length := by omega
     subst hi2
     have hov := hS.out.inv.over HFF.out HRK.out HCN.out
     have hR2 : r + 1 + 1 ≤ trueN f' ∨ AllK L C l f' := by
      rcases hov with h | h
      ·rcases hR.out with h2 | h2
       ·exact .inl (by omega)
       ·have h3 := true_all HFF.out h2.1
        have h4 := trueN_le (f := f')
        have h5 := hS.out.inv.lenf
        omega
      ·exact .inr h
     have HR2 := Lib.hid hR2
     have HSN := Lib.hid (hS.out.re hS.out.inv.next)
     clear hov hR2 hS
     go_wp2
     go_roundw
     case rel => exact ⟨r + 1, l, f', by omega, by go_num, HSN, HR2⟩
     case measure => simp [intOf]; omega
  ·have hall : AllK L C l f := by
    rcases hR.out with h | h
    ·have := HFN.out
     omega
    ·exact h
   have HALL := Lib.hid hall
   clear hall hR
   go_wp2
   exact bodyPost_ret (v := .tuple #[.slice (some ⟨w1.heap.size, 0, none⟩) L.length L.length, .bool true]) (by simp [results, Tryd.results24, go_sem]) rfl ⟨stay_b HBW.out hS.out.bel, .inr ⟨l, w1.heap.size, hS.out.inv.len, HALL.out.2 zeroV, hS.out.row, rfl⟩⟩
end Go.Proofs.YtoienokpchbglaaDoor
