/- pleatlaw.SheetTells, walked. Printed by gen_tell.py. -/
import Derived.Test.YtoienokpchbglaaDoorShw
import Derived.Test.YtoienokpchbglaaDoorFcl
import Derived.Test.YtoienokpchbglaaDoorSm
import Derived.Test.YtoienokpchbglaaDoorSo
namespace Go.Proofs.YtoienokpchbglaaDoor
set_option linter.unusedSimpArgs false
set_option linter.unusedVariables false
open Go.RowKit Go.Maps

theorem edge_boxQ {t : T3} (h : K4 t) {i : Nat} (hi : i < 3) : 2 * t.1 ≤ (eT t i).2.2.1 ∧ (eT t i).2.2.1 ≤ 2 * t.1 + 2 ∧ 2 * t.2.1 ≤ (eT t i).2.2.2 ∧ (eT t i).2.2.2 ≤ 2 * t.2.1 + 2 := by
  obtain ⟨x, y, ht⟩ := k4_cases h
  rcases i3_cases hi with rfl | rfl | rfl <;> rcases ht with rfl | rfl | rfl | rfl <;> simp [e00, e01, e02, e10, e11, e12, e20, e21, e22, e30, e31, e32] <;> omega
theorem creas_few {l : List T3} {cs : List C5} (he : ∀ c ∈ cs, ∃ t ∈ l, ∃ i, i < 3 ∧ eT t i = c.1) (hd : cs.Pairwise fun a b => a.1 ≠ b.1) : cs.length ≤ 3 * l.length := by
  have h1 : (cs.map fun c => c.1).Nodup := List.pairwise_map.2 hd
  have h2 := nodup_sub_len h1 (l := l.flatMap fun t => [eT t 0, eT t 1, eT t 2]) (fun e hm => by
    obtain ⟨c, hc, rfl⟩ := List.mem_map.1 hm
    obtain ⟨t, ht, i, hi, e⟩ := he c hc
    rw [List.mem_flatMap]
    refine ⟨t, ht, ?_⟩
    rw [← e]
    have hc : i = 0 ∨ i = 1 ∨ i = 2 := by omega
    rcases hc with rfl | rfl | rfl <;> simp)
  have h3 : (l.flatMap fun t => [eT t 0, eT t 1, eT t 2]).length = 3 * l.length := by
    simp [List.length_flatMap, Function.comp_def, List.map_const', List.sum_replicate_nat]
    omega
  rw [List.length_map] at h2
  omega
theorem newB_tell {W H : Int} {mask : List Int} {cs : List C5} (h : newB W H mask cs = true) : SheetI mask cs ∧ ∃ Wn Hn : Nat, W = Wn ∧ H = Hn ∧ (1 ≤ Wn ∧ Wn ≤ 8) ∧ (1 ≤ Hn ∧ Hn ≤ 8) ∧ mask.length = Wn * Hn := by
  have hcr := newB_creases h
  unfold newB at h
  simp only [Bool.and_eq_true, cellsB, decide_eq_true_eq, List.all_eq_true] at h
  obtain ⟨⟨⟨⟨h1, h2⟩, h3⟩, h4⟩, _⟩ := h
  obtain ⟨Wn, rfl⟩ := Int.eq_ofNat_of_zero_le (show 0 ≤ W by omega)
  obtain ⟨Hn, rfl⟩ := Int.eq_ofNat_of_zero_le (show 0 ≤ H by omega)
  have hml : mask.length = Wn * Hn := by
    have : (mask.length : Int) = ((Wn * Hn : Nat) : Int) := by rw [h3]; simp
    omega
  simp only [Int.toNat_natCast] at hcr
  obtain ⟨g1, _, g2⟩ := creasesB_sorted hcr
  have hed : ∀ c ∈ cs, ∃ t ∈ trisL Wn mask, ∃ i, i < 3 ∧ eT t i = c.1 := fun c hc => by
    obtain ⟨t, ht, i, hi, e, _⟩ := innerB_iff.1 (g2 c hc).2
    exact ⟨t, ht, i, hi, e⟩
  have hdis : cs.Pairwise fun a b => a.1 ≠ b.1 := g1.imp fun {a b} h e => by
    rw [e] at h
    exact lessE_irrefl _ h
  have hfew := creas_few hed hdis
  have hlen : (trisL Wn mask).length ≤ 1000 := by
    have h5 := trisL_len Wn mask
    have h6 : Wn * Hn ≤ 8 * 8 := Nat.mul_le_mul (by omega) (by omega)
    omega
  refine ⟨⟨h4, fun c hc => ?_, fun c hc => (g2 c hc).1, by omega⟩, Wn, Hn, rfl, rfl, by omega, by omega, hml⟩
  obtain ⟨t, ht, i, hi, e⟩ := hed c hc
  have h5 := trisL_in (by omega) hml ht
  have b1 := edge_box h5.2.2.2.2 hi
  have b2 := edge_boxQ h5.2.2.2.2 hi
  unfold SmC
  rw [← e]
  omega
set_option maxRecDepth 100000 in
set_option maxHeartbeats 12800000 in
theorem tell_walk (W H : Int) (Am Ac : Option Addr) (nm cm nc cc : Nat) (mask : List Int) (cs : List C5) (w : World) (hs : Steps w) (hm : Rd w 1 Am nm (vis mask)) (hc : Rd w 5 Ac nc (ccs cs)) (hAm : Am = none → cm = 0) (hAc : Ac = none → cc = 0) (hnm : nm * 8 ≤ 140737488351232) (hnc : nc * 40 ≤ 140737488351232) :
    Calls Tryd.prog 3 #[.agg #[.int .i64 W, .int .i64 H, .slice Am nm cm, .slice Ac nc cc]] w fun e w' => e = .returned (.bool true) ∧ Below w.heap.size w w' := by
  have kb0 := heap_alloc_new w (.cells #[.int .i64 W, .int .i64 H, .slice Am nm cm, .slice Ac nc cc] 25)
  have hb0 := below_new w (.cells #[.int .i64 W, .int .i64 H, .slice Am nm cm, .slice Ac nc cc] 25)
  have a0 := cell_of_blk kb0 0
  have a1 := cell_of_blk kb0 1
  have a2 := cell_of_blk kb0 2
  have a3 := cell_of_blk kb0 3
  simp only [List.getElem?_toArray, List.getElem?_cons_zero, List.getElem?_cons_succ] at a0 a1 a2 a3
  have hnm2 : nm ≤ 140737488351232 := by omega
  have hnc2 : nc ≤ 140737488351232 := by omega
  have hs0 := hs.below hb0
  have hm0 := hm.below hb0
  have hc0 := hc.below hb0
  have cS := fun (w' : World) (hb : Below (w.alloc (.cells #[.int .i64 W, .int .i64 H, .slice Am nm cm, .slice Ac nc cc] 25)).heap.size (w.alloc (.cells #[.int .i64 W, .int .i64 H, .slice Am nm cm, .slice Ac nc cc] 25)) w') => sheetOfC_any W H Am Ac nm cm nc cc mask cs w' (hm0.below hb) (hc0.below hb) hnm hnc hAm hAc
  have cM := fun (w' : World) (hb : Below (w.alloc (.cells #[.int .i64 W, .int .i64 H, .slice Am nm cm, .slice Ac nc cc] 25)).heap.size (w.alloc (.cells #[.int .i64 W, .int .i64 H, .slice Am nm cm, .slice Ac nc cc] 25)) w') => sheetMay_any W H Am Ac nm cm nc cc mask cs w' (hm0.below hb) (hc0.below hb) hnm2 hnc2
  have cA := fun (w' : World) (hb : Below (w.alloc (.cells #[.int .i64 W, .int .i64 H, .slice Am nm cm, .slice Ac nc cc] 25)).heap.size (w.alloc (.cells #[.int .i64 W, .int .i64 H, .slice Am nm cm, .slice Ac nc cc] 25)) w') (Bm Bc : Option Addr) (c1 c2 : Nat) (hm1 : Rd w' 1 Bm nm (vis mask)) (hc1 : Rd w' 5 Bc nc (ccs cs)) => may_any W H Bm Bc nm c1 nc c2 mask cs w' (hs0.below hb) hm1 hc1 hnm2 hnc2
  have cT := fun (w' : World) (hb : Below (w.alloc (.cells #[.int .i64 W, .int .i64 H, .slice Am nm cm, .slice Ac nc cc] 25)).heap.size (w.alloc (.cells #[.int .i64 W, .int .i64 H, .slice Am nm cm, .slice Ac nc cc] 25)) w') (Bm Bc : Option Addr) (c1 c2 : Nat) (hm1 : Rd w' 1 Bm nm (vis mask)) (hc1 : Rd w' 5 Bc nc (ccs cs)) => tris_any W H Bm Bc nm c1 nc c2 mask cs w' (hs0.below hb) hm1 hc1 hnm2 hnc2
  have cH := fun (w' : World) (hb : Below (w.alloc (.cells #[.int .i64 W, .int .i64 H, .slice Am nm cm, .slice Ac nc cc] 25)).heap.size (w.alloc (.cells #[.int .i64 W, .int .i64 H, .slice Am nm cm, .slice Ac nc cc] 25)) w') (Bm Bc : Option Addr) (c1 c2 : Nat) (hm1 : Rd w' 1 Bm nm (vis mask)) (hc1 : Rd w' 5 Bc nc (ccs cs)) (hcp : nm ≤ c1 ∧ c1 ≤ maxLen) => show_any W H Bm Bc nm c1 nc c2 mask cs w' (hs0.below hb) hm1 hc1 hnm2 hnc2 hcp newB_tell
  have hdim := newB_tell (W := W) (H := H) (mask := mask) (cs := cs)
  have hsh := fun (Wn Hn : Nat) (hW : 1 ≤ Wn ∧ Wn ≤ 8) (hH : 1 ≤ Hn ∧ Hn ≤ 8) (hl : mask.length = Wn * Hn) => (⟨hW, hH, hl, hm0, hc0, hnc2⟩ : ShM (w.alloc (.cells #[.int .i64 W, .int .i64 H, .slice Am nm cm, .slice Ac nc cc] 25)) Wn Hn Am nm mask Ac nc cs)
  cases hNB : newB W H mask cs with
  | false =>
    rw [hNB] at cM cA cT cH
    have CS := Lib.hid cS
    have CM := Lib.hid cM
    have CA := Lib.hid cA
    have CT := Lib.hid cT
    have CH := Lib.hid cH
    have HB0 := Lib.hid hb0
    clear cS cM cA cT cH hdim hsh hs hm hc hs0 hm0 hc0 hb0 kb0 hNB
    go_enter Tryd.func3, Tryd.ntmps3
    go_wp2_with fail
    generalize w.alloc (.cells #[.int .i64 W, .int .i64 H, .slice Am nm cm, .slice Ac nc cc] 25) = w0 at a0 a1 a2 a3 CS CM CA CT CH HB0 ⊢
    refine (CS.out w0 (Below.refl _ _)).mono ?_
    rintro e w1 ⟨Bm, c1, Bc, c2, rfl, hm1, hc1, hcp, hb1⟩
    have a0 := stay_c a0 hb1 (Nat.le_refl _)
    have a1 := stay_c a1 hb1 (Nat.le_refl _)
    have a2 := stay_c a2 hb1 (Nat.le_refl _)
    have a3 := stay_c a3 hb1 (Nat.le_refl _)
    have HM1 := Lib.hid hm1
    have HC1 := Lib.hid hc1
    have HCP := Lib.hid hcp
    have HB1 := Lib.hid (stay_b (Below.refl _ _) hb1)

    clear hm1 hc1 hb1 hcp
    go_wp2_with fail
    refine (CA.out w1 HB1.out Bm Bc c1 c2 HM1.out HC1.out).mono ?_
    rintro e w2 ⟨rfl, hb2⟩
    have a0 := stay_c a0 hb2 (Nat.le_refl _)
    have a1 := stay_c a1 hb2 (Nat.le_refl _)
    have a2 := stay_c a2 hb2 (Nat.le_refl _)
    have a3 := stay_c a3 hb2 (Nat.le_refl _)
    have HB2 := Lib.hid (stay_b HB1.out hb2)

    clear hb2 HM1 HC1 HCP
    go_wp2_with fail
    refine (CS.out w2 HB2.out).mono ?_
    rintro e w3 ⟨Bm, c1, Bc, c2, rfl, hm1, hc1, hcp, hb1⟩
    have a0 := stay_c a0 hb1 (Nat.le_refl _)
    have a1 := stay_c a1 hb1 (Nat.le_refl _)
    have a2 := stay_c a2 hb1 (Nat.le_refl _)
    have a3 := stay_c a3 hb1 (Nat.le_refl _)
    have HM1 := Lib.hid hm1
    have HC1 := Lib.hid hc1
    have HCP := Lib.hid hcp
    have HB3 := Lib.hid (stay_b HB2.out hb1)

    clear hm1 hc1 hb1 hcp
    go_wp2_with fail
    refine (CT.out w3 HB3.out Bm Bc c1 c2 HM1.out HC1.out).mono ?_
    rintro e w4 ⟨hb2, ⟨_, rfl⟩ | ⟨hT, _⟩⟩
    rotate_left
    · cases hT
    have a0 := stay_c a0 hb2 (Nat.le_refl _)
    have a1 := stay_c a1 hb2 (Nat.le_refl _)
    have a2 := stay_c a2 hb2 (Nat.le_refl _)
    have a3 := stay_c a3 hb2 (Nat.le_refl _)
    have HB4 := Lib.hid (stay_b HB3.out hb2)

    clear hb2 HM1 HC1 HCP
    go_wp2_with fail
    refine (CS.out w4 HB4.out).mono ?_
    rintro e w5 ⟨Bm, c1, Bc, c2, rfl, hm1, hc1, hcp, hb1⟩
    have a0 := stay_c a0 hb1 (Nat.le_refl _)
    have a1 := stay_c a1 hb1 (Nat.le_refl _)
    have a2 := stay_c a2 hb1 (Nat.le_refl _)
    have a3 := stay_c a3 hb1 (Nat.le_refl _)
    have HM1 := Lib.hid hm1
    have HC1 := Lib.hid hc1
    have HCP := Lib.hid hcp
    have HB5 := Lib.hid (stay_b HB4.out hb1)

    clear hm1 hc1 hb1 hcp
    go_wp2_with fail
    refine (CH.out w5 HB5.out Bm Bc c1 c2 HM1.out HC1.out HCP.out).mono ?_
    rintro e w6 ⟨hb2, ⟨_, rfl⟩ | ⟨hT, _⟩⟩
    rotate_left
    · cases hT
    have a0 := stay_c a0 hb2 (Nat.le_refl _)
    have a1 := stay_c a1 hb2 (Nat.le_refl _)
    have a2 := stay_c a2 hb2 (Nat.le_refl _)
    have a3 := stay_c a3 hb2 (Nat.le_refl _)
    have HB6 := Lib.hid (stay_b HB5.out hb2)

    clear hb2 HM1 HC1 HCP
    go_wp2_with fail
    refine (CM.out w6 HB6.out).mono ?_
    rintro e w7 ⟨rfl, hb2⟩
    have a0 := stay_c a0 hb2 (Nat.le_refl _)
    have a1 := stay_c a1 hb2 (Nat.le_refl _)
    have a2 := stay_c a2 hb2 (Nat.le_refl _)
    have a3 := stay_c a3 hb2 (Nat.le_refl _)
    have HB7 := Lib.hid (stay_b HB6.out hb2)

    clear hb2
    clear a0 a1 a2 a3
    go_wp2
    go_ret
    exact ⟨rfl, stay_b HB0.out HB7.out⟩
  | true =>
    obtain ⟨hI, Wn, Hn, rfl, rfl, hW, hH, hml⟩ := hdim hNB
    rw [hNB] at cM cA cT cH
    simp only [Int.toNat_natCast] at cT cH
    have cD := fun (w' : World) (hb : Below (w.alloc (.cells #[.int .i64 (Wn : Int), .int .i64 (Hn : Int), .slice Am nm cm, .slice Ac nc cc] 25)).heap.size (w.alloc (.cells #[.int .i64 (Wn : Int), .int .i64 (Hn : Int), .slice Am nm cm, .slice Ac nc cc] 25)) w') => trisOf_any Wn Hn Am Ac nm cm nc cc mask cs w' ((hsh Wn Hn hW hH hml).below hb)
    have cX := fun (w' : World) (hb : Below (w.alloc (.cells #[.int .i64 (Wn : Int), .int .i64 (Hn : Int), .slice Am nm cm, .slice Ac nc cc] 25)).heap.size (w.alloc (.cells #[.int .i64 (Wn : Int), .int .i64 (Hn : Int), .slice Am nm cm, .slice Ac nc cc] 25)) w') => text_any Wn Hn Am Ac nm cm nc cc mask cs w' ((hsh Wn Hn hW hH hml).below hb) hI
    obtain ⟨L, hLe⟩ : ∃ L, L = trisL Wn mask := ⟨_, rfl⟩
    obtain ⟨TX, hTX⟩ : ∃ T, T = bA (sheetT Wn Hn mask cs) := ⟨_, rfl⟩
    rw [← hLe] at cT cD
    rw [← hTX] at cH cX
    have CS := Lib.hid cS
    have CM := Lib.hid cM
    have CA := Lib.hid cA
    have CT := Lib.hid cT
    have CH := Lib.hid cH
    have CD := Lib.hid cD
    have CX := Lib.hid cX
    have HB0 := Lib.hid hb0
    clear cS cM cA cT cH cD cX hdim hsh hs hm hc hs0 hm0 hc0 hb0 kb0 hNB hLe hTX hml hI
    go_enter Tryd.func3, Tryd.ntmps3
    go_wp2_with fail
    generalize w.alloc (.cells #[.int .i64 (Wn : Int), .int .i64 (Hn : Int), .slice Am nm cm, .slice Ac nc cc] 25) = w0 at a0 a1 a2 a3 CS CM CA CT CH HB0 CD CX ⊢
    refine (CS.out w0 (Below.refl _ _)).mono ?_
    rintro e w1 ⟨Bm, c1, Bc, c2, rfl, hm1, hc1, hcp, hb1⟩
    have a0 := stay_c a0 hb1 (Nat.le_refl _)
    have a1 := stay_c a1 hb1 (Nat.le_refl _)
    have a2 := stay_c a2 hb1 (Nat.le_refl _)
    have a3 := stay_c a3 hb1 (Nat.le_refl _)
    have HM1 := Lib.hid hm1
    have HC1 := Lib.hid hc1
    have HCP := Lib.hid hcp
    have HB1 := Lib.hid (stay_b (Below.refl _ _) hb1)

    clear hm1 hc1 hb1 hcp
    go_wp2_with fail
    refine (CA.out w1 HB1.out Bm Bc c1 c2 HM1.out HC1.out).mono ?_
    rintro e w2 ⟨rfl, hb2⟩
    have a0 := stay_c a0 hb2 (Nat.le_refl _)
    have a1 := stay_c a1 hb2 (Nat.le_refl _)
    have a2 := stay_c a2 hb2 (Nat.le_refl _)
    have a3 := stay_c a3 hb2 (Nat.le_refl _)
    have HB2 := Lib.hid (stay_b HB1.out hb2)

    clear hb2 HM1 HC1 HCP
    go_wp2_with fail
    refine (CS.out w2 HB2.out).mono ?_
    rintro e w3 ⟨Bm, c1, Bc, c2, rfl, hm1, hc1, hcp, hb1⟩
    have a0 := stay_c a0 hb1 (Nat.le_refl _)
    have a1 := stay_c a1 hb1 (Nat.le_refl _)
    have a2 := stay_c a2 hb1 (Nat.le_refl _)
    have a3 := stay_c a3 hb1 (Nat.le_refl _)
    have HM1 := Lib.hid hm1
    have HC1 := Lib.hid hc1
    have HCP := Lib.hid hcp
    have HB3 := Lib.hid (stay_b HB2.out hb1)

    clear hm1 hc1 hb1 hcp
    go_wp2_with fail
    refine (CT.out w3 HB3.out Bm Bc c1 c2 HM1.out HC1.out).mono ?_
    rintro e w4 ⟨hb2, ⟨hF, _⟩ | ⟨_, vl, hlb, rfl⟩⟩
    · cases hF
    obtain ⟨Al, cl, hvl, _, hcm⟩ := own_slice hlb
    have hSb : L.length ≤ 9223372036854775807 := by unfold maxLen at hcm; omega
    subst hvl
    have HRL := Lib.hid (Rd.of_own hlb)
    clear hlb
    have a0 := stay_c a0 hb2 (Nat.le_refl _)
    have a1 := stay_c a1 hb2 (Nat.le_refl _)
    have a2 := stay_c a2 hb2 (Nat.le_refl _)
    have a3 := stay_c a3 hb2 (Nat.le_refl _)
    have HB4 := Lib.hid (stay_b HB3.out hb2)

    clear hb2 HM1 HC1 HCP
    go_wp2_with fail
    refine (CS.out w4 HB4.out).mono ?_
    rintro e w5 ⟨Bm, c1, Bc, c2, rfl, hm1, hc1, hcp, hb1⟩
    have a0 := stay_c a0 hb1 (Nat.le_refl _)
    have a1 := stay_c a1 hb1 (Nat.le_refl _)
    have a2 := stay_c a2 hb1 (Nat.le_refl _)
    have a3 := stay_c a3 hb1 (Nat.le_refl _)
    have HM1 := Lib.hid hm1
    have HC1 := Lib.hid hc1
    have HCP := Lib.hid hcp
    have HB5 := Lib.hid (stay_b HB4.out hb1)
    have HRL := Lib.hid (HRL.out.below hb1)
    clear hm1 hc1 hb1 hcp
    go_wp2_with fail
    refine (CH.out w5 HB5.out Bm Bc c1 c2 HM1.out HC1.out HCP.out).mono ?_
    rintro e w6 ⟨hb2, ⟨hF, _⟩ | ⟨_, rfl⟩⟩
    · cases hF
    have a0 := stay_c a0 hb2 (Nat.le_refl _)
    have a1 := stay_c a1 hb2 (Nat.le_refl _)
    have a2 := stay_c a2 hb2 (Nat.le_refl _)
    have a3 := stay_c a3 hb2 (Nat.le_refl _)
    have HB6 := Lib.hid (stay_b HB5.out hb2)
    have HRL := Lib.hid (HRL.out.below hb2)
    clear hb2 HM1 HC1 HCP
    go_wp2_with fail
    refine (CM.out w6 HB6.out).mono ?_
    rintro e w7 ⟨rfl, hb2⟩
    have a0 := stay_c a0 hb2 (Nat.le_refl _)
    have a1 := stay_c a1 hb2 (Nat.le_refl _)
    have a2 := stay_c a2 hb2 (Nat.le_refl _)
    have a3 := stay_c a3 hb2 (Nat.le_refl _)
    have HB7 := Lib.hid (stay_b HB6.out hb2)
    have HRL := Lib.hid (HRL.out.below hb2)
    clear hb2
    go_wp2_with fail
    refine (CD.out w7 HB7.out).mono ?_
    rintro e w8 ⟨vd, rfl, hld, hb2⟩
    obtain ⟨Ad, cd, hvd, _, _⟩ := own_slice hld
    subst hvd
    have a0 := stay_c a0 hb2 (Nat.le_refl _)
    have a1 := stay_c a1 hb2 (Nat.le_refl _)
    have a2 := stay_c a2 hb2 (Nat.le_refl _)
    have a3 := stay_c a3 hb2 (Nat.le_refl _)
    have HRL := Lib.hid (HRL.out.below hb2)
    have HRD := Lib.hid (Rd.of_own hld)
    have HB8 := Lib.hid (stay_b HB7.out hb2)
    clear hb2 hld
    have cQ := sameTris_any Al Ad L.length L.length cl cd L L w8 HRL.out HRD.out hSb hSb
    have e1 : decide (L = L) = true := by simp
    rw [e1] at cQ
    have CQ := Lib.hid cQ
    clear cQ e1
    go_wp2_with fail
    refine CQ.out.mono ?_
    rintro e w9 ⟨rfl, hb2⟩
    have a0 := stay_c a0 hb2 (Nat.le_refl _)
    have a1 := stay_c a1 hb2 (Nat.le_refl _)
    have a2 := stay_c a2 hb2 (Nat.le_refl _)
    have a3 := stay_c a3 hb2 (Nat.le_refl _)
    have HB9 := Lib.hid (stay_b HB8.out hb2)
    clear hb2
    go_wp2_with fail
    refine (CX.out w9 HB9.out).mono ?_
    rintro e w10 ⟨rfl, hb2⟩
    have HB10 := Lib.hid (stay_b HB9.out hb2)
    clear hb2 a0 a1 a2 a3
    go_wp2
    go_ret
    exact ⟨rfl, stay_b HB0.out HB10.out⟩
end Go.Proofs.YtoienokpchbglaaDoor
