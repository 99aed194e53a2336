/- sheet.May, sheet.Tris, say; the document's Dec. -/
import Derived.Test.YtoienokpchbglaaDoorSb
import Derived.Test.YtoienokpchbglaaDoorNew
import Derived.Test.YtoienokpchbglaaDoorRf2
namespace Go.Proofs.YtoienokpchbglaaDoor
set_option linter.unusedSimpArgs false
set_option linter.unusedVariables false
open Go.RowKit Go.Maps

set_option maxRecDepth 100000 in
set_option maxHeartbeats 3200000 in
theorem may_any (W H : Int) (Am Ac : Option Addr) (nm cm nc cc : Nat) (mask : List Int) (cs : List C5) (w : World) (hs : Steps w) (hm : Rd w 1 Am nm (vis mask)) (hc : Rd w 5 Ac nc (ccs cs)) (hnm : nm ≤ 140737488351232) (hnc : nc ≤ 140737488351232) :
    Calls Tryd.prog 8 #[.agg #[.int .i64 W, .int .i64 H, .slice Am nm cm, .slice Ac nc cc]] w fun e w' => e = .returned (.bool (newB W H mask cs)) ∧ Below w.heap.size w w' := by
  have kb0 := heap_alloc_new w (.cells #[.int .i64 W, .int .i64 H, .slice Am nm cm, .slice Ac nc cc] 25)
  have hb0 := below_new w (.cells #[.int .i64 W, .int .i64 H, .slice Am nm cm, .slice Ac nc cc] 25)
  have a0 := cell_of_blk kb0 0
  have a1 := cell_of_blk kb0 1
  have a2 := cell_of_blk kb0 2
  have a3 := cell_of_blk kb0 3
  simp only [List.getElem?_toArray, List.getElem?_cons_zero, List.getElem?_cons_succ] at a0 a1 a2 a3
  have cN := new_any W H Am Ac nm cm nc cc mask cs (w.alloc (.cells #[.int .i64 W, .int .i64 H, .slice Am nm cm, .slice Ac nc cc] 25)) (hs.below hb0) (hm.below hb0) (hc.below hb0) hnm hnc
  obtain ⟨NB, hNB⟩ : ∃ NB, NB = newB W H mask cs := ⟨_, rfl⟩
  rw [← hNB] at cN ⊢
  have CN := Lib.hid cN
  have HB0 := Lib.hid hb0
  clear cN hs hm hc hNB kb0 hb0
  go_enter Tryd.func8, Tryd.ntmps8
  go_wp2_with fail
  refine CN.out.mono ?_
  rintro e w1 ⟨hb1, ⟨hF, v, rfl⟩ | ⟨hT, Wn, Hn, pb, b0, nb, kb, mn, vt, _, _, _, _, _, rfl, _⟩⟩
  · have HBF := Lib.hid (stay_b HB0.out hb1)
    have HF := Lib.hid hF
    clear hb1 hF CN a0 a1 a2 a3
    go_wp2
    go_ret
    exact ⟨ret_bool HF.out.symm, HBF.out⟩
  · have HBF := Lib.hid (stay_b HB0.out hb1)
    have HT := Lib.hid hT
    clear hb1 hT CN a0 a1 a2 a3
    go_wp2
    go_ret
    exact ⟨ret_bool HT.out.symm, HBF.out⟩
set_option maxRecDepth 100000 in
set_option maxHeartbeats 3200000 in
theorem tris_any (W H : Int) (Am Ac : Option Addr) (nm cm nc cc : Nat) (mask : List Int) (cs : List C5) (w : World) (hs : Steps w) (hm : Rd w 1 Am nm (vis mask)) (hc : Rd w 5 Ac nc (ccs cs)) (hnm : nm ≤ 140737488351232) (hnc : nc ≤ 140737488351232) :
    Calls Tryd.prog 10 #[.agg #[.int .i64 W, .int .i64 H, .slice Am nm cm, .slice Ac nc cc]] w fun e w' => Below w.heap.size w w' ∧
      ((newB W H mask cs = false ∧ e = .returned (.tuple #[.slice none 0 0, .int .i64 10])) ∨ (newB W H mask cs = true ∧ ∃ v, w'.ownsRow w.heap.size 93 3 v (trisL W.toNat mask).length (tcT (trisL W.toNat mask)) ∧ e = .returned (.tuple #[v, .int .i64 0]))) := by
  have kb0 := heap_alloc_new w (.cells #[.int .i64 W, .int .i64 H, .slice Am nm cm, .slice Ac nc cc] 25)
  have hb0 := below_new w (.cells #[.int .i64 W, .int .i64 H, .slice Am nm cm, .slice Ac nc cc] 25)
  have a0 := cell_of_blk kb0 0
  have a1 := cell_of_blk kb0 1
  have a2 := cell_of_blk kb0 2
  have a3 := cell_of_blk kb0 3
  simp only [List.getElem?_toArray, List.getElem?_cons_zero, List.getElem?_cons_succ] at a0 a1 a2 a3
  have cN := new_any W H Am Ac nm cm nc cc mask cs (w.alloc (.cells #[.int .i64 W, .int .i64 H, .slice Am nm cm, .slice Ac nc cc] 25)) (hs.below hb0) (hm.below hb0) (hc.below hb0) hnm hnc
  obtain ⟨NB, hNB⟩ : ∃ NB, NB = newB W H mask cs := ⟨_, rfl⟩
  rw [← hNB] at cN ⊢
  obtain ⟨L, hLe⟩ : ∃ L, L = trisL W.toNat mask := ⟨_, rfl⟩
  rw [← hLe]
  have HLE := Lib.hid hLe
  have CN := Lib.hid cN
  have HB0 := Lib.hid hb0
  clear cN hs hm hc hNB kb0 hb0 hLe
  go_enter Tryd.func10, Tryd.ntmps10
  go_wp2_with fail
  refine CN.out.mono ?_
  rintro e w1 ⟨hb1, ⟨hF, v, rfl⟩ | ⟨hT, Wn, Hn, pb, b0, nb, kb, mn, vt, rfl, rfl, _, _, _, rfl, hN⟩⟩
  · have HBF := Lib.hid (stay_b HB0.out hb1)
    have HF := Lib.hid hF
    clear hb1 hF CN a0 a1 a2 a3
    go_wp2
    exact bodyPost_ret (v := .tuple #[.slice none 0 0, .int .i64 10]) (by simp [results, Tryd.results10, go_sem]) rfl ⟨HBF.out, .inl ⟨HF.out, rfl⟩⟩
  · have hle : L = trisL Wn mask := HLE.out
    have c4 := hN.pap.c4
    have hO := own_mono hN.own HB0.out.size
    rw [← hle] at hO
    have HO := Lib.hid hO
    have HBF := Lib.hid (stay_b HB0.out hb1)
    have HT := Lib.hid hT
    clear hb1 hT CN a0 a1 a2 a3 hN hO hle HLE
    obtain ⟨At, ct, hv, _, _⟩ := own_slice HO.out
    subst hv
    go_wp2
    exact bodyPost_ret (v := .tuple #[.slice At L.length ct, .int .i64 0]) (by simp [results, Tryd.results10, go_sem]) rfl ⟨HBF.out, .inr ⟨HT.out, _, HO.out, rfl⟩⟩
end Go.Proofs.YtoienokpchbglaaDoor
