/- flat.Place. -/
import Derived.Test.YtoienokpchbglaaDoorPf
import Derived.Test.YtoienokpchbglaaDoorFcl
namespace Go.Proofs.YtoienokpchbglaaDoor
set_option linter.unusedSimpArgs false
set_option linter.unusedVariables false
open Go.RowKit Go.Maps

theorem newB_join {W H : Int} {mask : List Int} {cs : List C5} (h : newB W H mask cs = true) : joinB (trisL W.toNat mask) = true := by
  unfold newB at h
  simp only [Bool.and_eq_true] at h
  first | exact h.1.2 | exact h.2.2 | exact h.2.1 | exact h.1.1.2
set_option maxRecDepth 100000 in
set_option maxHeartbeats 3200000 in
theorem placeF_any (W H : Int) (Am Ac : Option Addr) (nm cm nc cc : Nat) (mask : List Int) (cs : List C5) (w : World) (hs : Steps w) (hm : Rd w 1 Am nm (vis mask)) (hc : Rd w 5 Ac nc (ccs cs)) (hnm : nm ≤ 140737488351232) (hnc : nc ≤ 140737488351232) :
    Calls Tryd.prog 23 #[.agg #[.int .i64 W, .int .i64 H, .slice Am nm cm, .slice Ac nc cc]] w fun e w' => Below w.heap.size w w' ∧
      ((newB W H mask cs = false ∧ e = .returned (.tuple #[.slice none 0 0, .int .i64 10])) ∨
       (newB W H mask cs = true ∧ (¬ ∃ M, Cns (trisL W.toNat mask).length (nbL (trisL W.toNat mask)) (stpL (trisL W.toNat mask) (crsF false cs)) stillV M) ∧ e = .returned (.tuple #[.slice none 0 0, .int .i64 8])) ∨
       (newB W H mask cs = true ∧ ∃ (l : List V6) (gl : Nat), l.length = (trisL W.toNat mask).length ∧ Cns (trisL W.toNat mask).length (nbL (trisL W.toNat mask)) (stpL (trisL W.toNat mask) (crsF false cs)) stillV (fun i => l.getD i zeroV) ∧ LB w' gl l ∧ w.heap.size ≤ gl ∧
          e = .returned (.tuple #[.slice (some ⟨gl, 0, none⟩) (trisL W.toNat mask).length (trisL W.toNat mask).length, .int .i64 0]))) := by
  have kb0 := heap_alloc_new w (.cells #[.int .i64 W, .int .i64 H, .slice Am nm cm, .slice Ac nc cc] 25)
  have hb0 := below_new w (.cells #[.int .i64 W, .int .i64 H, .slice Am nm cm, .slice Ac nc cc] 25)
  have a0 := cell_of_blk kb0 0
  have a1 := cell_of_blk kb0 1
  have a2 := cell_of_blk kb0 2
  have a3 := cell_of_blk kb0 3
  simp only [List.getElem?_toArray, List.getElem?_cons_zero, List.getElem?_cons_succ] at a0 a1 a2 a3
  have cN := new_any W H Am Ac nm cm nc cc mask cs (w.alloc (.cells #[.int .i64 W, .int .i64 H, .slice Am nm cm, .slice Ac nc cc] 25)) (hs.below hb0) (hm.below hb0) (hc.below hb0) hnm hnc
  have hfc := fun (h : newB W H mask cs = true) => facF_crs (newB_creases h)
  have hjo := fun (h : newB W H mask cs = true) => newB_join h
  obtain ⟨NB, hNB⟩ : ∃ NB, NB = newB W H mask cs := ⟨_, rfl⟩
  rw [← hNB] at cN hfc hjo ⊢
  obtain ⟨L, hLe⟩ : ∃ L, L = trisL W.toNat mask := ⟨_, rfl⟩
  obtain ⟨C, hC⟩ : ∃ C, C = crsF false cs := ⟨_, rfl⟩
  rw [← hLe, ← hC]
  rw [← hC] at hfc
  rw [← hLe] at hjo
  have HLE := Lib.hid hLe
  have CN := Lib.hid cN
  have HS := Lib.hid hs
  have HFC := Lib.hid hfc
  have HJO := Lib.hid hjo
  have HB0 := Lib.hid hb0
  clear cN hs hm hc hNB kb0 hLe hfc hb0 hC hjo
  go_enter Tryd.func23, Tryd.ntmps23
  go_wp2_with fail
  refine CN.out.mono ?_
  rintro e w1 ⟨hb1, ⟨hF, v, rfl⟩ | ⟨hT, Wn, Hn, pb, b0, nb, kb, mn, vt, rfl, rfl, hW, hH, hml, rfl, hN⟩⟩
  · have hbf := stay_b HB0.out hb1
    have HBF := Lib.hid hbf
    have HF := Lib.hid hF
    clear hbf hb1 hF CN a0 a1 a2 a3
    go_wp2
    exact bodyPost_ret (v := .tuple #[.slice none 0 0, .int .i64 10]) (by simp [results, Tryd.results23, go_sem]) rfl ⟨HBF.out, .inl ⟨HF.out, rfl⟩⟩
  · have hLe : L = trisL Wn mask := HLE.out
    have hb1w := stay_b HB0.out hb1
    have hL : ∀ t ∈ trisL Wn mask, In8 t := fun t ht => by
      have := trisL_in (by omega) hml ht
      exact ⟨by omega, by omega, this.2.2.2.2⟩
    have hlen : (trisL Wn mask).length ≤ 1000 := by
      have h1 := trisL_len Wn mask
      have h2 : Wn * Hn ≤ 8 * 8 := Nat.mul_le_mul hW.2 hH.2
      omega
    have hso : (trisL Wn mask).Pairwise triLt := partT_sorted (by omega) mask _
    rw [← hLe] at hN hL hlen hso
    have cO := placeP_any pb nb kb Wn Hn _ _ _ vt L mn _ _ w1 (HS.out.below hb1w) hN.pap hN.own hL hlen hso (HJO.out hT)
    rw [List.take_length, HFC.out hT] at cO
    have CO := Lib.hid cO
    have HB1 := Lib.hid hb1w
    have HT := Lib.hid hT
    clear hb1 hb1w hT hL hN CN hLe HLE HS a0 a1 a2 a3 hml hW hH cO hlen hso
    go_wp2_with fail
    refine CO.out.mono ?_
    rintro r w3 ⟨hb3, ⟨hno, rfl⟩ | ⟨l, gl, hll, hcn, hlb, hgl, rfl⟩⟩
    · have HNO := Lib.hid hno
      have HB3 := Lib.hid (stay_b HB1.out hb3)
      clear hno hb3 CO
      go_wp2
      exact bodyPost_ret (v := .tuple #[.slice none 0 0, .int .i64 8]) (by simp [results, Tryd.results23, go_sem]) rfl ⟨HB3.out, .inr (.inl ⟨HT.out, (by first | exact HNO.out | exact not_exists.1 HNO.out), rfl⟩)⟩
    · have HLL := Lib.hid hll
      have HCNS := Lib.hid hcn
      have HLB := Lib.hid hlb
      have HGL := Lib.hid (Nat.le_trans HB1.out.size hgl)
      have HB3 := Lib.hid (stay_b HB1.out hb3)
      clear hll hcn hlb hgl hb3 CO
      go_wp2
      exact bodyPost_ret (v := .tuple #[.slice (some ⟨gl, 0, none⟩) L.length L.length, .int .i64 0]) (by simp [results, Tryd.results23, go_sem]) rfl ⟨HB3.out, .inr (.inr ⟨HT.out, l, gl, HLL.out, HCNS.out, HLB.out, HGL.out, rfl⟩)⟩
end Go.Proofs.YtoienokpchbglaaDoor
