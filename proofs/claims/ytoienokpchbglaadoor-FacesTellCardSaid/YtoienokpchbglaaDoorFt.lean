/- pleatlaw.FacesTell, walked. Printed by gen_ft.py. -/
import Derived.Test.YtoienokpchbglaaDoorFo
import Derived.Test.YtoienokpchbglaaDoorHd
import Derived.Test.YtoienokpchbglaaDoorFc2
import Derived.Test.YtoienokpchbglaaDoorSo
namespace Go.Proofs.YtoienokpchbglaaDoor
set_option linter.unusedSimpArgs false
set_option linter.unusedVariables false
open Go.RowKit Go.Maps

theorem newB_dims {W H : Int} {mask : List Int} {cs : List C5} (h : newB W H mask cs = true) : ∃ Wn Hn : Nat, W = Wn ∧ H = Hn ∧ (1 ≤ Wn ∧ Wn ≤ 8) ∧ (1 ≤ Hn ∧ Hn ≤ 8) ∧ mask.length = Wn * Hn := by
  unfold newB at h
  simp only [Bool.and_eq_true, cellsB, decide_eq_true_eq] at h
  obtain ⟨⟨⟨⟨h1, h2⟩, h3⟩, _⟩, _⟩ := h
  obtain ⟨Wn, rfl⟩ := Int.eq_ofNat_of_zero_le (show 0 ≤ W by omega)
  obtain ⟨Hn, rfl⟩ := Int.eq_ofNat_of_zero_le (show 0 ≤ H by omega)
  refine ⟨Wn, Hn, rfl, rfl, by omega, by omega, ?_⟩
  have : (mask.length : Int) = ((Wn * Hn : Nat) : Int) := by rw [h3]; simp
  omega
theorem HolesN.uniq {L : List T3} {N M : Int} (h : HolesN L N) (g : HolesN L M) : N = M := by
  obtain ⟨ks, es, a1, a2, a3, a4, rfl⟩ := h
  obtain ⟨ks', es', b1, b2, b3, b4, rfl⟩ := g
  have e1 := same_len a1 b1 fun x => (a2 x).trans (b2 x).symm
  have e2 := same_len a3 b3 fun x => (a4 x).trans (b4 x).symm
  rw [e1, e2]
set_option maxRecDepth 100000 in
set_option maxHeartbeats 12800000 in
theorem faces_walk (W H : Int) (Am Ac : Option Addr) (nm cm nc cc : Nat) (mask : List Int) (cs : List C5) (w : World) (hs : Steps w) (hm : Rd w 1 Am nm (vis mask)) (hc : Rd w 5 Ac nc (ccs cs)) (hAm : Am = none → cm = 0) (hAc : Ac = none → cc = 0) (hnm : nm * 8 ≤ 140737488351232) (hnc : nc * 40 ≤ 140737488351232) :
    Calls Tryd.prog 4 #[.agg #[.int .i64 W, .int .i64 H, .slice Am nm cm, .slice Ac nc cc]] w fun e w' => e = .returned (.bool true) ∧ Below w.heap.size w w' := by
  have kb0 := heap_alloc_new w (.cells #[.int .i64 W, .int .i64 H, .slice Am nm cm, .slice Ac nc cc] 25)
  have hb0 := below_new w (.cells #[.int .i64 W, .int .i64 H, .slice Am nm cm, .slice Ac nc cc] 25)
  have a0 := cell_of_blk kb0 0
  have a1 := cell_of_blk kb0 1
  have a2 := cell_of_blk kb0 2
  have a3 := cell_of_blk kb0 3
  simp only [List.getElem?_toArray, List.getElem?_cons_zero, List.getElem?_cons_succ] at a0 a1 a2 a3
  have hnm2 : nm ≤ 140737488351232 := by omega
  have hnc2 : nc ≤ 140737488351232 := by omega
  have hs0 := hs.below hb0
  have hm0 := hm.below hb0
  have hc0 := hc.below hb0
  have cS := fun (w' : World) (hb : Below (w.alloc (.cells #[.int .i64 W, .int .i64 H, .slice Am nm cm, .slice Ac nc cc] 25)).heap.size (w.alloc (.cells #[.int .i64 W, .int .i64 H, .slice Am nm cm, .slice Ac nc cc] 25)) w') => sheetOf_any W H Am Ac nm cm nc cc mask cs w' (hm0.below hb) (hc0.below hb) hnm hnc hAm hAc
  have cM := fun (w' : World) (hb : Below (w.alloc (.cells #[.int .i64 W, .int .i64 H, .slice Am nm cm, .slice Ac nc cc] 25)).heap.size (w.alloc (.cells #[.int .i64 W, .int .i64 H, .slice Am nm cm, .slice Ac nc cc] 25)) w') => sheetMay_any W H Am Ac nm cm nc cc mask cs w' (hm0.below hb) (hc0.below hb) hnm2 hnc2
  have cF := fun (w' : World) (hb : Below (w.alloc (.cells #[.int .i64 W, .int .i64 H, .slice Am nm cm, .slice Ac nc cc] 25)).heap.size (w.alloc (.cells #[.int .i64 W, .int .i64 H, .slice Am nm cm, .slice Ac nc cc] 25)) w') (Bm Bc : Option Addr) (c1 c2 : Nat) (hm1 : Rd w' 1 Bm nm (vis mask)) (hc1 : Rd w' 5 Bc nc (ccs cs)) => faces_any W H Bm Bc nm c1 nc c2 mask cs w' (hs0.below hb) hm1 hc1 hnm2 hnc2
  have cH := fun (w' : World) (hb : Below (w.alloc (.cells #[.int .i64 W, .int .i64 H, .slice Am nm cm, .slice Ac nc cc] 25)).heap.size (w.alloc (.cells #[.int .i64 W, .int .i64 H, .slice Am nm cm, .slice Ac nc cc] 25)) w') (Bm Bc : Option Addr) (c1 c2 : Nat) (hm1 : Rd w' 1 Bm nm (vis mask)) (hc1 : Rd w' 5 Bc nc (ccs cs)) => holes_any W H Bm Bc nm c1 nc c2 mask cs w' (hs0.below hb) hm1 hc1 hnm2 hnc2
  have hdim := newB_dims (W := W) (H := H) (mask := mask) (cs := cs)
  have hsh := fun (Wn Hn : Nat) (hW : 1 ≤ Wn ∧ Wn ≤ 8) (hH : 1 ≤ Hn ∧ Hn ≤ 8) (hl : mask.length = Wn * Hn) => (⟨hW, hH, hl, hm0, hc0, hnc2⟩ : ShM (w.alloc (.cells #[.int .i64 W, .int .i64 H, .slice Am nm cm, .slice Ac nc cc] 25)) Wn Hn Am nm mask Ac nc cs)
  cases hNB : newB W H mask cs with
  | false =>
    rw [hNB] at cM cF cH
    have CS := Lib.hid cS
    have CM := Lib.hid cM
    have CF := Lib.hid cF
    have CH := Lib.hid cH
    have HB0 := Lib.hid hb0
    clear cS cM cF cH hdim hsh hs hm hc hs0 hm0 hc0 hb0 kb0 hNB
    go_enter Tryd.func4, Tryd.ntmps4
    go_wp2_with fail
    generalize w.alloc (.cells #[.int .i64 W, .int .i64 H, .slice Am nm cm, .slice Ac nc cc] 25) = w0 at a0 a1 a2 a3 CS CM CF CH HB0 ⊢
    refine (CS.out w0 (Below.refl _ _)).mono ?_
    rintro e w1 ⟨Bm, c1, Bc, c2, rfl, hm1, hc1, hb1⟩
    have a0 := stay_c a0 hb1 (Nat.le_refl _)
    have a1 := stay_c a1 hb1 (Nat.le_refl _)
    have a2 := stay_c a2 hb1 (Nat.le_refl _)
    have a3 := stay_c a3 hb1 (Nat.le_refl _)
    have HM1 := Lib.hid hm1
    have HC1 := Lib.hid hc1
    have HB1 := Lib.hid hb1
    clear hm1 hc1 hb1
    go_wp2_with fail
    refine (CF.out w1 HB1.out Bm Bc c1 c2 HM1.out HC1.out).mono ?_
    rintro e w2 ⟨hb2, ⟨hF, rfl⟩ | ⟨hT, _⟩⟩
    rotate_left
    · cases hT
    have a0 := stay_c a0 hb2 (Nat.le_refl _)
    have a1 := stay_c a1 hb2 (Nat.le_refl _)
    have a2 := stay_c a2 hb2 (Nat.le_refl _)
    have a3 := stay_c a3 hb2 (Nat.le_refl _)
    have HB2 := Lib.hid (stay_b HB1.out hb2)

    clear hb2 HM1 HC1 HB1 CF
    go_wp2_with fail
    refine (CS.out w2 HB2.out).mono ?_
    rintro e w3 ⟨Bm3, c3, Bc3, c4, rfl, hm3, hc3, hb3⟩
    have a0 := stay_c a0 hb3 (Nat.le_refl _)
    have a1 := stay_c a1 hb3 (Nat.le_refl _)
    have a2 := stay_c a2 hb3 (Nat.le_refl _)
    have a3 := stay_c a3 hb3 (Nat.le_refl _)
    have HM3 := Lib.hid hm3
    have HC3 := Lib.hid hc3
    have HB3 := Lib.hid (stay_b HB2.out hb3)

    clear hm3 hc3 hb3 HB2 CS
    go_wp2_with fail
    refine (CH.out w3 HB3.out Bm3 Bc3 c3 c4 HM3.out HC3.out).mono ?_
    rintro e w4 ⟨hb4, ⟨hF, rfl⟩ | ⟨hT, _⟩⟩
    rotate_left
    · cases hT
    have a0 := stay_c a0 hb4 (Nat.le_refl _)
    have a1 := stay_c a1 hb4 (Nat.le_refl _)
    have a2 := stay_c a2 hb4 (Nat.le_refl _)
    have a3 := stay_c a3 hb4 (Nat.le_refl _)
    have HB4 := Lib.hid (stay_b HB3.out hb4)

    clear hb4 HM3 HC3 HB3 CH
    go_wp2_with fail
    refine (CM.out w4 HB4.out).mono ?_
    rintro e w5 ⟨rfl, hb5⟩
    have a0 := stay_c a0 hb5 (Nat.le_refl _)
    have a1 := stay_c a1 hb5 (Nat.le_refl _)
    have a2 := stay_c a2 hb5 (Nat.le_refl _)
    have a3 := stay_c a3 hb5 (Nat.le_refl _)
    have HB5 := Lib.hid (stay_b HB4.out hb5)

    clear hb5 HB4 CM
    go_wp2
    go_ret
    exact ⟨rfl, stay_b HB0.out HB5.out⟩
  | true =>
    obtain ⟨Wn, Hn, rfl, rfl, hW, hH, hml⟩ := hdim hNB
    rw [hNB] at cM cF cH
    have hL0 : (trisL Wn mask).length ≤ 1000 := (hsh Wn Hn hW hH hml).tris_len
    obtain ⟨L, hLe⟩ : ∃ L, L = trisL Wn mask := ⟨_, rfl⟩
    have cO := fun (w' : World) (hb : Below (w.alloc (.cells #[.int .i64 (Wn : Int), .int .i64 (Hn : Int), .slice Am nm cm, .slice Ac nc cc] 25)).heap.size (w.alloc (.cells #[.int .i64 (Wn : Int), .int .i64 (Hn : Int), .slice Am nm cm, .slice Ac nc cc] 25)) w') => facesOf_any Wn Hn Am Ac nm cm nc cc mask cs w' ((hsh Wn Hn hW hH hml).below hb)
    have cG := fun (w' : World) (hb : Below (w.alloc (.cells #[.int .i64 (Wn : Int), .int .i64 (Hn : Int), .slice Am nm cm, .slice Ac nc cc] 25)).heap.size (w.alloc (.cells #[.int .i64 (Wn : Int), .int .i64 (Hn : Int), .slice Am nm cm, .slice Ac nc cc] 25)) w') => holesOf_any Wn Hn Am Ac nm cm nc cc mask cs w' ((hsh Wn Hn hW hH hml).below hb)
    simp only [Int.toNat_natCast] at cF cH
    rw [← hLe] at cF cH cO cG hL0
    have hfl := facesL_len L (crsF false cs) L.length
    obtain ⟨F, hFe⟩ : ∃ F, F = facesL L (crsF false cs) L.length := ⟨_, rfl⟩
    rw [← hFe] at cF cO hfl
    have CS := Lib.hid cS
    have CM := Lib.hid cM
    have CF := Lib.hid cF
    have CH := Lib.hid cH
    have HSH := Lib.hid (And.intro cO cG)
    have HB0 := Lib.hid hb0
    clear cS cM cF cH hdim hsh hs hm hc hs0 hm0 hc0 hb0 kb0 hNB cO cG hLe hFe hml
    go_enter Tryd.func4, Tryd.ntmps4
    go_wp2_with fail
    generalize w.alloc (.cells #[.int .i64 (Wn : Int), .int .i64 (Hn : Int), .slice Am nm cm, .slice Ac nc cc] 25) = w0 at a0 a1 a2 a3 CS CM CF CH HB0 HSH ⊢
    refine (CS.out w0 (Below.refl _ _)).mono ?_
    rintro e w1 ⟨Bm, c1, Bc, c2, rfl, hm1, hc1, hb1⟩
    have a0 := stay_c a0 hb1 (Nat.le_refl _)
    have a1 := stay_c a1 hb1 (Nat.le_refl _)
    have a2 := stay_c a2 hb1 (Nat.le_refl _)
    have a3 := stay_c a3 hb1 (Nat.le_refl _)
    have HM1 := Lib.hid hm1
    have HC1 := Lib.hid hc1
    have HB1 := Lib.hid hb1
    clear hm1 hc1 hb1
    go_wp2_with fail
    refine (CF.out w1 HB1.out Bm Bc c1 c2 HM1.out HC1.out).mono ?_
    rintro e w2 ⟨hb2, ⟨hF, _⟩ | ⟨hT, vl, vls, hrl, rfl⟩⟩
    · cases hF
    obtain ⟨Al, cl, hvl, hcl, _⟩ := own_slice hrl.own
    subst hvl
    have a0 := stay_c a0 hb2 (Nat.le_refl _)
    have a1 := stay_c a1 hb2 (Nat.le_refl _)
    have a2 := stay_c a2 hb2 (Nat.le_refl _)
    have a3 := stay_c a3 hb2 (Nat.le_refl _)
    have HB2 := Lib.hid (stay_b HB1.out hb2)
    have HRL := Lib.hid hrl
    clear hrl hT
    clear hb2 HM1 HC1 HB1 CF
    go_wp2_with fail
    refine (CS.out w2 HB2.out).mono ?_
    rintro e w3 ⟨Bm3, c3, Bc3, c4, rfl, hm3, hc3, hb3⟩
    have a0 := stay_c a0 hb3 (Nat.le_refl _)
    have a1 := stay_c a1 hb3 (Nat.le_refl _)
    have a2 := stay_c a2 hb3 (Nat.le_refl _)
    have a3 := stay_c a3 hb3 (Nat.le_refl _)
    have HM3 := Lib.hid hm3
    have HC3 := Lib.hid hc3
    have HB3 := Lib.hid (stay_b HB2.out hb3)
    have HRL := Lib.hid (HRL.out.below hb3)
    clear hm3 hc3 hb3 HB2 CS
    go_wp2_with fail
    refine (CH.out w3 HB3.out Bm3 Bc3 c3 c4 HM3.out HC3.out).mono ?_
    rintro e w4 ⟨hb4, ⟨hF, _⟩ | ⟨hT, N, hN, rfl⟩⟩

    · cases hF
    have a0 := stay_c a0 hb4 (Nat.le_refl _)
    have a1 := stay_c a1 hb4 (Nat.le_refl _)
    have a2 := stay_c a2 hb4 (Nat.le_refl _)
    have a3 := stay_c a3 hb4 (Nat.le_refl _)
    have HB4 := Lib.hid (stay_b HB3.out hb4)
    have HRL := Lib.hid (HRL.out.below hb4)
    have HN := Lib.hid hN
    clear hN hT
    clear hb4 HM3 HC3 HB3 CH
    go_wp2_with fail
    refine (CM.out w4 HB4.out).mono ?_
    rintro e w5 ⟨rfl, hb5⟩
    have a0 := stay_c a0 hb5 (Nat.le_refl _)
    have a1 := stay_c a1 hb5 (Nat.le_refl _)
    have a2 := stay_c a2 hb5 (Nat.le_refl _)
    have a3 := stay_c a3 hb5 (Nat.le_refl _)
    have HB5 := Lib.hid (stay_b HB4.out hb5)
    have HRL := Lib.hid (HRL.out.below hb5)
    clear hb5 HB4 CM
    go_wp2_with fail
    refine (HSH.out.1 w5 HB5.out).mono ?_
    rintro e w6 ⟨vm, vms, rfl, hrm, hb6⟩
    obtain ⟨Aq, cq, hvq, hcq, _⟩ := own_slice hrm.own
    subst hvq
    have a0 := stay_c a0 hb6 (Nat.le_refl _)
    have a1 := stay_c a1 hb6 (Nat.le_refl _)
    have a2 := stay_c a2 hb6 (Nat.le_refl _)
    have a3 := stay_c a3 hb6 (Nat.le_refl _)
    have HB6 := Lib.hid (stay_b HB5.out hb6)
    have HRL := Lib.hid (HRL.out.below hb6)
    have HRM := Lib.hid hrm
    clear hrm hb6 HB5
    go_wp2_with fail
    refine (HSH.out.2 w6 HB6.out).mono ?_
    rintro e w7 ⟨N2, rfl, hN2, hb7⟩
    obtain rfl := HN.out.uniq hN2
    have HB7 := Lib.hid (stay_b HB6.out hb7)
    have HRL := Lib.hid (HRL.out.below hb7)
    have HRM := Lib.hid (HRM.out.below hb7)
    clear hb7 hN2 HB6 HN HSH a0 a1 a2 a3
    go_wp2_with fail
    go_loopw [8] (fun x wr => ∃ k : Nat, k ≤ F.length ∧ x = .int .i64 k ∧ Hid (Below w7.heap.size w7 wr)) (fun x _ => F.length - (intOf x).toNat)
    case atStart => exact ⟨0, by omega, rfl, Lib.hid (Below.refl _ _)⟩
    case round =>
      obtain ⟨k, hk, rfl, hB⟩ := hrel
      by_cases hkF : k < F.length
      · have hki : (k : Int) < (F.length : Int) := by omega
        obtain ⟨f, hf⟩ : ∃ f, F[k]? = some f := ⟨_, List.getElem?_eq_getElem hkF⟩
        obtain ⟨gl, _, _, hal, _, _, _, _⟩ := own_addr HRL.out.own (by omega)
        cases hal
        obtain ⟨gm, _, _, ham, _, _, _, _⟩ := own_addr HRM.out.own (by omega)
        cases ham
        obtain ⟨vl1, hl1, hl2⟩ := HRL.out.row k f hf
        obtain ⟨vm1, hm1, hm2⟩ := HRM.out.row k f hf
        obtain ⟨A1, c1, hv1, _, _⟩ := own_slice hl2
        subst hv1
        obtain ⟨A2, c2, hv2, _, _⟩ := own_slice hm2
        subst hv2
        have y0 := stay_c ((HRL.out.own.cellAt k (by omega)).trans hl1) hB.out (Nat.le_refl _)
        have y1 := stay_c ((HRM.out.own.cellAt k (by omega)).trans hm1) hB.out (Nat.le_refl _)
        have hfn : f.length ≤ 9223372036854775807 := by
          have h1 := hl2.2
          rcases h1 with ⟨h1, h2⟩ | ⟨g, cap, cur, h1, h2, h3, h4, h5, _⟩
          · omega
          · unfold maxLen at h5; omega
        have cT := fun (w' : World) (hb : Below wr.heap.size wr w') => sameTris_any A1 A2 f.length f.length c1 c2 f f w' (Rd.of_own (own_below hl2 (stay_b hB.out hb) (Nat.le_refl _))) (Rd.of_own (own_below hm2 (stay_b hB.out hb) (Nat.le_refl _))) hfn hfn
        have e1 : decide (f = f) = true := by simp
        rw [e1] at cT
        have CT := Lib.hid cT
        clear cT hl1 hl2 hm1 hm2 hf e1
        go_wp2_with fail
        have hS : wr.drew.cell? ⟨gl, k, none⟩ = some (.slice A1 f.length c1) ∧ wr.drew.cell? ⟨gm, k, none⟩ = some (.slice A2 f.length c2) ∧ Below wr.heap.size wr wr.drew := ⟨y0, y1, (Below.refl _ _).drew⟩
        clear y0 y1
        go_region_held3 (fun w' => w'.cell? ⟨gl, k, none⟩ = some (.slice A1 f.length c1) ∧ w'.cell? ⟨gm, k, none⟩ = some (.slice A2 f.length c2) ∧ Below wr.heap.size wr w')
          (first
            | with_reducible exact hS
            | with_reducible assumption
            | (go_split_ands; exact ⟨stay_c ‹_› hbc (Nat.le_refl _), stay_c ‹_› hbc (Nat.le_refl _), stay_b ‹_› hbc⟩))
          (first
            | (go_split_ands; (with_reducible refine (CT.out _ (by assumption)).mono ?_); rintro r wc ⟨rfl, hbc⟩))
        rename_i hSS
        have HB9 := Lib.hid (stay_b hB.out hSS.2.2)
        clear hSS
        go_wp2
        go_roundw
        case rel => exact ⟨k + 1, by omega, by go_num, HB9⟩
        case measure => simp [intOf]; omega
      · obtain rfl : k = F.length := by omega
        go_wp2
        go_ret
        exact ⟨rfl, stay_b HB0.out (stay_b HB7.out hB.out)⟩
end Go.Proofs.YtoienokpchbglaaDoor
