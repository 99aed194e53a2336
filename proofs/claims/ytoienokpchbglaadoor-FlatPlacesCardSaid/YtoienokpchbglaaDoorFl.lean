/- pleatlaw.FlatPlaces, walked. Printed by gen_fl.py. -/
import Derived.Test.YtoienokpchbglaaDoorFp
import Derived.Test.YtoienokpchbglaaDoorPd
import Derived.Test.YtoienokpchbglaaDoorSo
namespace Go.Proofs.YtoienokpchbglaaDoor
set_option linter.unusedSimpArgs false
set_option linter.unusedVariables false
open Go.RowKit Go.Maps

theorem newB_dim8 {W H : Int} {mask : List Int} {cs : List C5} (h : newB W H mask cs = true) : ∃ Wn Hn : Nat, W = Wn ∧ H = Hn ∧ (1 ≤ Wn ∧ Wn ≤ 8) ∧ (1 ≤ Hn ∧ Hn ≤ 8) ∧ mask.length = Wn * Hn := by
  unfold newB at h
  simp only [Bool.and_eq_true, cellsB, decide_eq_true_eq] at h
  obtain ⟨⟨⟨⟨h1, h2⟩, h3⟩, _⟩, _⟩ := h
  obtain ⟨Wn, rfl⟩ := Int.eq_ofNat_of_zero_le (show 0 ≤ W by omega)
  obtain ⟨Hn, rfl⟩ := Int.eq_ofNat_of_zero_le (show 0 ≤ H by omega)
  refine ⟨Wn, Hn, rfl, rfl, by omega, by omega, ?_⟩
  have : (mask.length : Int) = ((Wn * Hn : Nat) : Int) := by rw [h3]; simp
  omega
theorem getD_eq {n : Nat} {l m : List V6} (hl : l.length = n) (hm : m.length = n) (h : ∀ i, i < n → l.getD i zeroV = m.getD i zeroV) : l = m := by
  apply List.ext_getElem (by rw [hl, hm])
  intro i h1 h2
  have h3 := h i (by omega)
  simpa [List.getD, h1, h2] using h3
set_option maxRecDepth 100000 in
set_option maxHeartbeats 12800000 in
theorem places_walk (W H : Int) (Am Ac : Option Addr) (nm cm nc cc : Nat) (mask : List Int) (cs : List C5) (w : World) (hs : Steps w) (hm : Rd w 1 Am nm (vis mask)) (hc : Rd w 5 Ac nc (ccs cs)) (hAm : Am = none → cm = 0) (hAc : Ac = none → cc = 0) (hnm : nm * 8 ≤ 140737488351232) (hnc : nc * 40 ≤ 140737488351232) :
    Calls Tryd.prog 6 #[.agg #[.int .i64 W, .int .i64 H, .slice Am nm cm, .slice Ac nc cc]] w fun e w' => e = .returned (.bool true) ∧ Below w.heap.size w w' := by
  have kb0 := heap_alloc_new w (.cells #[.int .i64 W, .int .i64 H, .slice Am nm cm, .slice Ac nc cc] 25)
  have hb0 := below_new w (.cells #[.int .i64 W, .int .i64 H, .slice Am nm cm, .slice Ac nc cc] 25)
  have a0 := cell_of_blk kb0 0
  have a1 := cell_of_blk kb0 1
  have a2 := cell_of_blk kb0 2
  have a3 := cell_of_blk kb0 3
  simp only [List.getElem?_toArray, List.getElem?_cons_zero, List.getElem?_cons_succ] at a0 a1 a2 a3
  have hnm2 : nm ≤ 140737488351232 := by omega
  have hnc2 : nc ≤ 140737488351232 := by omega
  have hs0 := hs.below hb0
  have hm0 := hm.below hb0
  have hc0 := hc.below hb0
  have cS := fun (w' : World) (hb : Below (w.alloc (.cells #[.int .i64 W, .int .i64 H, .slice Am nm cm, .slice Ac nc cc] 25)).heap.size (w.alloc (.cells #[.int .i64 W, .int .i64 H, .slice Am nm cm, .slice Ac nc cc] 25)) w') => sheetOf_any W H Am Ac nm cm nc cc mask cs w' (hm0.below hb) (hc0.below hb) hnm hnc hAm hAc
  have cM := fun (w' : World) (hb : Below (w.alloc (.cells #[.int .i64 W, .int .i64 H, .slice Am nm cm, .slice Ac nc cc] 25)).heap.size (w.alloc (.cells #[.int .i64 W, .int .i64 H, .slice Am nm cm, .slice Ac nc cc] 25)) w') => sheetMay_any W H Am Ac nm cm nc cc mask cs w' (hm0.below hb) (hc0.below hb) hnm2 hnc2
  have cF := fun (w' : World) (hb : Below (w.alloc (.cells #[.int .i64 W, .int .i64 H, .slice Am nm cm, .slice Ac nc cc] 25)).heap.size (w.alloc (.cells #[.int .i64 W, .int .i64 H, .slice Am nm cm, .slice Ac nc cc] 25)) w') (Bm Bc : Option Addr) (c1 c2 : Nat) (hm1 : Rd w' 1 Bm nm (vis mask)) (hc1 : Rd w' 5 Bc nc (ccs cs)) => placeF_any W H Bm Bc nm c1 nc c2 mask cs w' (hs0.below hb) hm1 hc1 hnm2 hnc2
  have hdim := newB_dim8 (W := W) (H := H) (mask := mask) (cs := cs)
  have hjo := fun (h : newB W H mask cs = true) => newB_join h
  have hsh := fun (Wn Hn : Nat) (hW : 1 ≤ Wn ∧ Wn ≤ 8) (hH : 1 ≤ Hn ∧ Hn ≤ 8) (hl : mask.length = Wn * Hn) => (⟨hW, hH, hl, hm0, hc0, hnc2⟩ : ShM (w.alloc (.cells #[.int .i64 W, .int .i64 H, .slice Am nm cm, .slice Ac nc cc] 25)) Wn Hn Am nm mask Ac nc cs)
  cases hNB : newB W H mask cs with
  | false =>
    rw [hNB] at cM cF
    have CS := Lib.hid cS
    have CM := Lib.hid cM
    have CF := Lib.hid cF
    have HB0 := Lib.hid hb0
    clear cS cM cF hdim hsh hs hm hc hs0 hm0 hc0 hb0 kb0 hNB hjo
    go_enter Tryd.func6, Tryd.ntmps6
    go_wp2_with fail
    generalize w.alloc (.cells #[.int .i64 W, .int .i64 H, .slice Am nm cm, .slice Ac nc cc] 25) = w0 at a0 a1 a2 a3 CS CM CF HB0 ⊢
    refine (CS.out w0 (Below.refl _ _)).mono ?_
    rintro e w1 ⟨Bm, c1, Bc, c2, rfl, hm1, hc1, hb1⟩
    have a0 := stay_c a0 hb1 (Nat.le_refl _)
    have a1 := stay_c a1 hb1 (Nat.le_refl _)
    have a2 := stay_c a2 hb1 (Nat.le_refl _)
    have a3 := stay_c a3 hb1 (Nat.le_refl _)
    have HM1 := Lib.hid hm1
    have HC1 := Lib.hid hc1
    have HB1 := Lib.hid hb1
    clear hm1 hc1 hb1 CS
    go_wp2_with fail
    refine (CF.out w1 HB1.out Bm Bc c1 c2 HM1.out HC1.out).mono ?_
    rintro e w2 ⟨hb2, ⟨hF, rfl⟩ | ⟨hT, _⟩ | ⟨hT, _⟩⟩
    rotate_left
    · cases hT
    · cases hT
    have a0 := stay_c a0 hb2 (Nat.le_refl _)
    have a1 := stay_c a1 hb2 (Nat.le_refl _)
    have a2 := stay_c a2 hb2 (Nat.le_refl _)
    have a3 := stay_c a3 hb2 (Nat.le_refl _)
    have HB2 := Lib.hid (stay_b HB1.out hb2)
    clear hb2 HM1 HC1 HB1 CF
    go_wp2_with fail
    refine (CM.out w2 HB2.out).mono ?_
    rintro e w5 ⟨rfl, hb5⟩
    have a0 := stay_c a0 hb5 (Nat.le_refl _)
    have a1 := stay_c a1 hb5 (Nat.le_refl _)
    have a2 := stay_c a2 hb5 (Nat.le_refl _)
    have a3 := stay_c a3 hb5 (Nat.le_refl _)
    have HB5 := Lib.hid (stay_b HB2.out hb5)

    clear hb5 HB2 CM
    clear a0 a1 a2 a3 hF
    go_wp2
    go_ret
    exact ⟨rfl, stay_b HB0.out HB5.out⟩
  | true =>
    obtain ⟨Wn, Hn, rfl, rfl, hW, hH, hml⟩ := hdim hNB
    have hjoin := hjo hNB
    rw [hNB] at cM cF
    simp only [Int.toNat_natCast] at cF hjoin
    have hIn : ∀ t ∈ trisL Wn mask, In8 t := fun t ht => by
      have := trisL_in (by omega) hml ht
      exact ⟨by omega, by omega, this.2.2.2.2⟩
    have hcn := conn_of (sorted_nodup (hsh Wn Hn hW hH hml).tris_sorted) (fun t ht => (hIn t ht).2.2) hjoin
    have hL0 : (trisL Wn mask).length ≤ 1000 := (hsh Wn Hn hW hH hml).tris_len
    have cO := fun (w' : World) (hb : Below (w.alloc (.cells #[.int .i64 (Wn : Int), .int .i64 (Hn : Int), .slice Am nm cm, .slice Ac nc cc] 25)).heap.size (w.alloc (.cells #[.int .i64 (Wn : Int), .int .i64 (Hn : Int), .slice Am nm cm, .slice Ac nc cc] 25)) w') => placeD_any Wn Hn Am Ac nm cm nc cc mask cs w' ((hsh Wn Hn hW hH hml).below hb) hjoin
    obtain ⟨L, hLe⟩ : ∃ L, L = trisL Wn mask := ⟨_, rfl⟩
    obtain ⟨C, hC⟩ : ∃ C, C = crsF false cs := ⟨_, rfl⟩
    rw [← hLe, ← hC] at cF cO
    rw [← hLe] at hcn hL0
    have CS := Lib.hid cS
    have CM := Lib.hid cM
    have CF := Lib.hid cF
    have HSH := Lib.hid cO
    have HCN := Lib.hid hcn
    have HB0 := Lib.hid hb0
    clear cS cM cF hdim hsh hs hm hc hs0 hm0 hc0 hb0 kb0 hNB cO hLe hC hml hjo hjoin hIn hcn
    go_enter Tryd.func6, Tryd.ntmps6
    go_wp2_with fail
    generalize w.alloc (.cells #[.int .i64 (Wn : Int), .int .i64 (Hn : Int), .slice Am nm cm, .slice Ac nc cc] 25) = w0 at a0 a1 a2 a3 CS CM CF HB0 HSH ⊢
    refine (CS.out w0 (Below.refl _ _)).mono ?_
    rintro e w1 ⟨Bm, c1, Bc, c2, rfl, hm1, hc1, hb1⟩
    have a0 := stay_c a0 hb1 (Nat.le_refl _)
    have a1 := stay_c a1 hb1 (Nat.le_refl _)
    have a2 := stay_c a2 hb1 (Nat.le_refl _)
    have a3 := stay_c a3 hb1 (Nat.le_refl _)
    have HM1 := Lib.hid hm1
    have HC1 := Lib.hid hc1
    have HB1 := Lib.hid hb1
    clear hm1 hc1 hb1 CS
    go_wp2_with fail
    refine (CF.out w1 HB1.out Bm Bc c1 c2 HM1.out HC1.out).mono ?_
    rintro e w2 ⟨hb2, ⟨hF, _⟩ | ⟨hT, hno, rfl⟩ | ⟨hT, l, gl, hll, hcl, hlb, hgl, rfl⟩⟩
    · cases hF
    · have HNO := Lib.hid hno
      clear hno hT
      have a0 := stay_c a0 hb2 (Nat.le_refl _)
      have a1 := stay_c a1 hb2 (Nat.le_refl _)
      have a2 := stay_c a2 hb2 (Nat.le_refl _)
      have a3 := stay_c a3 hb2 (Nat.le_refl _)
      have HB2 := Lib.hid (stay_b HB1.out hb2)
      clear hb2 HM1 HC1 HB1 CF
      go_wp2_with fail
      refine (CM.out w2 HB2.out).mono ?_
      rintro e w5 ⟨rfl, hb5⟩
      have a0 := stay_c a0 hb5 (Nat.le_refl _)
      have a1 := stay_c a1 hb5 (Nat.le_refl _)
      have a2 := stay_c a2 hb5 (Nat.le_refl _)
      have a3 := stay_c a3 hb5 (Nat.le_refl _)
      have HB5 := Lib.hid (stay_b HB2.out hb5)

      clear hb5 HB2 CM
      go_wp2_with fail
      refine (HSH.out w5 HB5.out).mono ?_
      rintro e w6 ⟨hb6, ⟨hno2, rfl⟩ | ⟨l2, go2, hl2, hc2, _, _⟩⟩
      · have HB6 := Lib.hid (stay_b HB0.out (stay_b HB5.out hb6))
        clear hno2 hb6 a0 a1 a2 a3
        go_wp2
        go_ret
        exact ⟨rfl, HB6.out⟩
      · exact absurd ⟨_, hc2⟩ HNO.out
    · have HLL := Lib.hid hll
      have HCL := Lib.hid hcl
      have HLB := Lib.hid hlb
      clear hll hcl hlb hgl hT
      have a0 := stay_c a0 hb2 (Nat.le_refl _)
      have a1 := stay_c a1 hb2 (Nat.le_refl _)
      have a2 := stay_c a2 hb2 (Nat.le_refl _)
      have a3 := stay_c a3 hb2 (Nat.le_refl _)
      have HB2 := Lib.hid (stay_b HB1.out hb2)
      clear hb2 HM1 HC1 HB1 CF
      go_wp2_with fail
      refine (CM.out w2 HB2.out).mono ?_
      rintro e w5 ⟨rfl, hb5⟩
      have a0 := stay_c a0 hb5 (Nat.le_refl _)
      have a1 := stay_c a1 hb5 (Nat.le_refl _)
      have a2 := stay_c a2 hb5 (Nat.le_refl _)
      have a3 := stay_c a3 hb5 (Nat.le_refl _)
      have HB5 := Lib.hid (stay_b HB2.out hb5)
      have HLB := Lib.hid (HLB.out.below hb5)
      clear hb5 HB2 CM
      go_wp2_with fail
      refine (HSH.out w5 HB5.out).mono ?_
      rintro e w6 ⟨hb6, ⟨hno2, rfl⟩ | ⟨l2, go2, hl2, hc2, hlb2, rfl⟩⟩
      · exact absurd ⟨_, HCL.out⟩ hno2
      have hle : l2 = l := getD_eq hl2 HLL.out (fun i hi => Cns.uniq HCN.out hc2 HCL.out i hi)
      subst hle
      have HB6 := Lib.hid (stay_b HB5.out hb6)
      have HLB := Lib.hid (HLB.out.below hb6)
      have HLC := Lib.hid hlb2
      clear hb6 hl2 hc2 hlb2 HCL HB5 HSH a0 a1 a2 a3 HCN
      go_wp2_with fail
      go_loopw [7] (fun x wr => ∃ k : Nat, k ≤ L.length ∧ x = .int .i64 k ∧ Hid (Below w6.heap.size w6 wr)) (fun x _ => L.length - (intOf x).toNat)
      case atStart => exact ⟨0, by omega, rfl, Lib.hid (Below.refl _ _)⟩
      case round =>
        obtain ⟨k, hk, rfl, hB⟩ := hrel
        by_cases hkF : k < L.length
        · have hki : (k : Int) < (L.length : Int) := by omega
          obtain ⟨m, hm⟩ : ∃ m, l2[k]? = some m := ⟨_, List.getElem?_eq_getElem (by rw [HLL.out]; exact hkF)⟩
          obtain ⟨y0, y1, y2, y3, y4, y5⟩ := (HLB.out.below hB.out).at_ hm
          obtain ⟨z0, z1, z2, z3, z4, z5⟩ := (HLC.out.below hB.out).at_ hm
          have r18 := neM m m
          have hd : (!decide (m = m)) = false := by simp
          rw [hd] at r18
          clear hm hd
          go_wp2_with fail
          have hS : wr.drew.cell? ⟨gl, k * 6, none⟩ = some (.int .i64 m.1) ∧ wr.drew.cell? ⟨gl, k * 6 + 1, none⟩ = some (.int .i64 m.2.1) ∧ wr.drew.cell? ⟨gl, k * 6 + 2, none⟩ = some (.int .i64 m.2.2.1) ∧ wr.drew.cell? ⟨gl, k * 6 + 3, none⟩ = some (.int .i64 m.2.2.2.1) ∧ wr.drew.cell? ⟨gl, k * 6 + 4, none⟩ = some (.int .i64 m.2.2.2.2.1) ∧ wr.drew.cell? ⟨gl, k * 6 + 5, none⟩ = some (.int .i64 m.2.2.2.2.2) ∧ wr.drew.cell? ⟨go2, k * 6, none⟩ = some (.int .i64 m.1) ∧ wr.drew.cell? ⟨go2, k * 6 + 1, none⟩ = some (.int .i64 m.2.1) ∧ wr.drew.cell? ⟨go2, k * 6 + 2, none⟩ = some (.int .i64 m.2.2.1) ∧ wr.drew.cell? ⟨go2, k * 6 + 3, none⟩ = some (.int .i64 m.2.2.2.1) ∧ wr.drew.cell? ⟨go2, k * 6 + 4, none⟩ = some (.int .i64 m.2.2.2.2.1) ∧ wr.drew.cell? ⟨go2, k * 6 + 5, none⟩ = some (.int .i64 m.2.2.2.2.2) ∧ wr.drew = wr.drew := ⟨y0, y1, y2, y3, y4, y5, z0, z1, z2, z3, z4, z5, rfl⟩
          clear y0 y1 y2 y3 y4 y5 z0 z1 z2 z3 z4 z5
          go_region_held3 (fun w' => w'.cell? ⟨gl, k * 6, none⟩ = some (.int .i64 m.1) ∧ w'.cell? ⟨gl, k * 6 + 1, none⟩ = some (.int .i64 m.2.1) ∧ w'.cell? ⟨gl, k * 6 + 2, none⟩ = some (.int .i64 m.2.2.1) ∧ w'.cell? ⟨gl, k * 6 + 3, none⟩ = some (.int .i64 m.2.2.2.1) ∧ w'.cell? ⟨gl, k * 6 + 4, none⟩ = some (.int .i64 m.2.2.2.2.1) ∧ w'.cell? ⟨gl, k * 6 + 5, none⟩ = some (.int .i64 m.2.2.2.2.2) ∧ w'.cell? ⟨go2, k * 6, none⟩ = some (.int .i64 m.1) ∧ w'.cell? ⟨go2, k * 6 + 1, none⟩ = some (.int .i64 m.2.1) ∧ w'.cell? ⟨go2, k * 6 + 2, none⟩ = some (.int .i64 m.2.2.1) ∧ w'.cell? ⟨go2, k * 6 + 3, none⟩ = some (.int .i64 m.2.2.2.1) ∧ w'.cell? ⟨go2, k * 6 + 4, none⟩ = some (.int .i64 m.2.2.2.2.1) ∧ w'.cell? ⟨go2, k * 6 + 5, none⟩ = some (.int .i64 m.2.2.2.2.2) ∧ w' = wr.drew)
            (first
              | with_reducible exact hS
              | with_reducible assumption)
            (first
              | fail)
          rename_i hSS
          clear hSS
          have HB9 := Lib.hid (stay_b hB.out (Below.refl _ _).drew)
          go_wp2
          go_roundw
          case rel => exact ⟨k + 1, by omega, by go_num, HB9⟩
          case measure => simp [intOf]; omega
        · have hk2 : k = L.length := by omega
          subst hk2
          go_wp2
          go_ret
          exact ⟨rfl, stay_b HB0.out (stay_b HB6.out hB.out)⟩
end Go.Proofs.YtoienokpchbglaaDoor
