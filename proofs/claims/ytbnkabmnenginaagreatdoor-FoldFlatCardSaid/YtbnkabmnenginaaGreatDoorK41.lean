/- SheetOf: the copies are rows of the call's own.. Heaped: what holds while stacks are laid.. -/
import Derived.Test.YtbnkabmnenginaaGreatDoorK25
import Derived.Test.YtbnkabmnenginaaGreatDoorK38
import Derived.Test.YtbnkabmnenginaaGreatDoorK39
import Derived.Test.YtbnkabmnenginaaGreatDoorK40
namespace Go.Proofs.YtbnkabmnenginaaGreatDoor
set_option linter.unusedSimpArgs false
set_option linter.unusedVariables false
section
open Go.RowKit
set_option maxRecDepth 100000 in
set_option maxHeartbeats 3200000 in
theorem sheetOfO_any (W H : Int) (Am Ac : Option Addr) (nm cm nc cc : Nat) (mask : List Int) (cs : List C5) (w : World) (hm : Rd w 1 Am nm (vis mask)) (hc : Rd w 5 Ac nc (ccs cs)) (hnm : nm * 8 ≤ 140737488351232) (hnc : nc * 40 ≤ 140737488351232) (hAm : Am = none → cm = 0) (hAc : Ac = none → cc = 0) :
  Calls Tryz.prog 5 #[.agg #[.int .i64 W, .int .i64 H, .slice Am nm cm, .slice Ac nc cc]] w fun e w' => ∃ Bm cm' Bc cc', e = .returned (.agg #[.int .i64 W, .int .i64 H, .slice Bm nm cm', .slice Bc nc cc']) ∧ w'.ownsRow w.heap.size 3 1 (.slice Bm nm cm') nm (vis mask) ∧ w'.ownsRow w.heap.size 52 5 (.slice Bc nc cc') nc (ccs cs) ∧ Below w.heap.size w w' := by
 have kb := blk_alloc (heap_alloc_new w (.cells #[.int .i64 W, .int .i64 H, .slice Am nm cm, .slice Ac nc cc] 25)) (.cells #[.int .i64 0, .int .i64 0, .slice none 0 0, .slice none 0 0] 25)
 have kr := heap_alloc_new (w.alloc (.cells #[.int .i64 W, .int .i64 H, .slice Am nm cm, .slice Ac nc cc] 25)) (.cells #[.int .i64 0, .int .i64 0, .slice none 0 0, .slice none 0 0] 25)
 have hb0 := ba (below_new w (.cells #[.int .i64 W, .int .i64 H, .slice Am nm cm, .slice Ac nc cc] 25)) (.cells #[.int .i64 0, .int .i64 0, .slice none 0 0, .slice none 0 0] 25)
 rw [World.size_alloc] at kr
 have HM := Lib.hid (hm.below hb0)
 have HC := Lib.hid hc
 have KB := Lib.hid kb
 have KR := Lib.hid kr
 have HB0 := Lib.hid hb0
 have hlt0 := blk_lt kb
 have hlt1 := blk_lt kr
 clear hm hc kb kr hb0
 have q2 := cell_of_blk KB.out 2
 have q3 := cell_of_blk KB.out 3
 simp only [List.getElem?_toArray, List.getElem?_cons_zero, List.getElem?_cons_succ] at q2 q3
 go_enter Tryz.func5, Tryz.ntmps5
 go_wp2_with (first
  | (at_builtin; refine app_copy Tryz.underlying22 int_info rfl (by decide) rfl _ _ rfl rfl Am nm cm (vis mask) rfl hAm HM.out (vis_one _) hnm (by omega) ?_; intro v1 w1 ho1 hb1; obtain ⟨A1, c1, hv1, _, _⟩ := own_slice ho1; subst hv1; have KB1 := Lib.hid (blk_below KB.out hb1 hlt0); have KR1 := Lib.hid (blk_below KR.out hb1 hlt1); have HB1 := Lib.hid (stay_b HB0.out hb1); have HO1 := Lib.hid ho1; have f1 := frozen_of_blk KB1.out; have l1 := blk_lt KB1.out; have g2 : w1.cell? ⟨w.heap.size, 2, none⟩ = some (.slice Am nm cm) := cell_of_blk KB1.out 2; have g3 : w1.cell? ⟨w.heap.size, 3, none⟩ = some (.slice Ac nc cc) := cell_of_blk KB1.out 3; clear ho1 hb1 q2 q3)
  | (at_builtin; refine app_copy Tryz.underlying23 crease_info rfl (by decide) rfl _ _ rfl rfl Ac nc cc (ccs cs) rfl hAc (HC.out.below (HB1.out.setCell (p := ⟨w.heap.size, 2, none⟩) (Nat.le_refl _) _)) (ccs_one _) hnc (by omega) ?_; intro v2 w2 ho2 hb2; obtain ⟨A2, c2, hv2, _, _⟩ := own_slice ho2; subst hv2; have KB2 := Lib.hid (blk_below (blk_set KB1.out 2 (.slice A1 nm c1)) hb2 (by simpa using l1)); have KR2 := Lib.hid (blk_below (blk_far (p := ⟨w.heap.size, 2, none⟩) KR1.out (by simp) (.slice A1 nm c1)) hb2 (by simpa using blk_lt KR1.out)); have HB2 := Lib.hid (stay_b (HB1.out.setCell (p := ⟨w.heap.size, 2, none⟩) (Nat.le_refl _) (.slice A1 nm c1)) hb2); have HO2 := Lib.hid ho2; have HX2 := Lib.hid hb2; have f2 := frozen_of_blk KB2.out; have f3 := frozen_of_blk KR2.out; have i0 : w2.cell? ⟨w.heap.size, 0, none⟩ = some (.int .i64 W) := cell_of_blk KB2.out 0; have i1 : w2.cell? ⟨w.heap.size, 1, none⟩ = some (.int .i64 H) := cell_of_blk KB2.out 1; have i2 : w2.cell? ⟨w.heap.size, 2, none⟩ = some (.slice A1 nm c1) := cell_of_blk KB2.out 2; have i3 : w2.cell? ⟨w.heap.size, 3, none⟩ = some (.slice Ac nc cc) := cell_of_blk KB2.out 3; have j0 : w2.cell? ⟨w.heap.size + 1, 0, none⟩ = some (.int .i64 0) := cell_of_blk KR2.out 0; have j1 : w2.cell? ⟨w.heap.size + 1, 1, none⟩ = some (.int .i64 0) := cell_of_blk KR2.out 1; have j2 : w2.cell? ⟨w.heap.size + 1, 2, none⟩ = some (.slice none 0 0) := cell_of_blk KR2.out 2; have j3 : w2.cell? ⟨w.heap.size + 1, 3, none⟩ = some (.slice none 0 0) := cell_of_blk KR2.out 3; clear ho2 hb2 g2 g3))
 have hz0 : w.heap.size < ((w.alloc (.cells #[.int .i64 W, .int .i64 H, .slice Am nm cm, .slice Ac nc cc] 25)).alloc (.cells #[.int .i64 0, .int .i64 0, .slice none 0 0, .slice none 0 0] 25)).heap.size := hlt0
 have hz1 : w.heap.size + 1 < ((w.alloc (.cells #[.int .i64 W, .int .i64 H, .slice Am nm cm, .slice Ac nc cc] 25)).alloc (.cells #[.int .i64 0, .int .i64 0, .slice none 0 0, .slice none 0 0] 25)).heap.size := hlt1
 have hy0 : w.heap.size < (w1.setCell ⟨w.heap.size, 2, none⟩ (.slice A1 nm c1)).heap.size := by simpa using l1
 have hy1 : w.heap.size + 1 < (w1.setCell ⟨w.heap.size, 2, none⟩ (.slice A1 nm c1)).heap.size := by simpa using blk_lt KR1.out
 have five : ∀ {base : Nat} {e : TypeId} {sz n : Nat} {v : Value} {xs : List Value}, w.heap.size < base → w.heap.size + 1 < base → w2.ownsRow base e sz v n xs → (((((w2.setCell ⟨w.heap.size, 3, none⟩ (.slice A2 nc c2)).setCell ⟨w.heap.size + 1, 0, none⟩ (.int .i64 W)).setCell ⟨w.heap.size + 1, 1, none⟩ (.int .i64 H)).setCell ⟨w.heap.size + 1, 2, none⟩ (.slice A1 nm c1)).setCell ⟨w.heap.size + 1, 3, none⟩ (.slice A2 nc c2)).ownsRow base e sz v n xs :=
  fun h0 h1 h => ownsRow_setCell_below (ownsRow_setCell_below (ownsRow_setCell_below (ownsRow_setCell_below (ownsRow_setCell_below h (a := ⟨w.heap.size, 3, none⟩) h0 _) (a := ⟨w.heap.size + 1, 0, none⟩) h1 _) (a := ⟨w.heap.size + 1, 1, none⟩) h1 _) (a := ⟨w.heap.size + 1, 2, none⟩) h1 _) (a := ⟨w.heap.size + 1, 3, none⟩) h1 _
 have ho1 := five hz0 hz1 (od (ownsRow_setCell_below HO1.out (a := ⟨w.heap.size, 2, none⟩) hz0 (.slice A1 nm c1)) HX2.out)
 have ho2 := five hy0 hy1 HO2.out
 have hbf := ((((HB2.out.setCell (p := ⟨w.heap.size, 3, none⟩) (Nat.le_refl _) (.slice A2 nc c2)).setCell (p := ⟨w.heap.size + 1, 0, none⟩) (Nat.le_succ _) (.int .i64 W)).setCell (p := ⟨w.heap.size + 1, 1, none⟩) (Nat.le_succ _) (.int .i64 H)).setCell (p := ⟨w.heap.size + 1, 2, none⟩) (Nat.le_succ _) (.slice A1 nm c1)).setCell (p := ⟨w.heap.size + 1, 3, none⟩) (Nat.le_succ _) (.slice A2 nc c2)
 exact bodyPost_ret (v := .agg #[.int .i64 W, .int .i64 H, .slice A1 nm c1, .slice A2 nc c2]) (by simp [results, Tryz.results5, go_sem, j0, j1, j2, j3]) rfl ⟨A1, c1, A2, c2, rfl, own_mono ho1 (Nat.le_of_lt hz0), own_mono ho2 (Nat.le_of_lt hy0), hbf⟩
end
section
open Go.RowKit Go.Maps
theorem scs_set : ∀ {ss : List Stk} {vs : List Value} {i : Nat} (s : Stk) (v : Value), i < ss.length → vs.length = ss.length → ((((scs ss vs).set (i * 4) (.int .i64 s.1.1)).set (i * 4 + 1) (.int .i64 s.1.2.1)).set (i * 4 + 2) (.int .i64 s.1.2.2)).set (i * 4 + 3) v = scs (ss.set i s) (vs.set i v)
 | [], _, i, s, v, h, _ => by simp at h
 | _ :: _, [], i, s, v, _, h => by simp at h
 | a :: ss, u :: vs, 0, s, v, _, _ => by simp [scs]
 | a :: ss, u :: vs, i + 1, s, v, h1, h2 => by
  have := scs_set (ss := ss) (vs := vs) (i := i) s v (by simpa using h1) (by simpa using h2)
  rw [show (i + 1) * 4 = i * 4 + 1 + 1 + 1 + 1 by omega]
  simp only [scs, List.set_cons_succ]
  rw [this]
theorem scs_set1 : ∀ {ss : List Stk} {vs : List Value} {i : Nat} {x : T3} {l l' : List T3} (v : Value), ss[i]? = some (x, l) → vs.length = ss.length → (scs ss vs).set (i * 4 + 3) v = scs (ss.set i (x, l')) (vs.set i v)
 | [], _, i, _, _, _, v, h, _ => by simp at h
 | _ :: _, [], i, _, _, _, v, _, h => by simp at h
 | a :: ss, u :: vs, 0, x, l, l', v, h1, _ => by
  simp at h1
  subst h1
  simp [scs]
 | a :: ss, u :: vs, i + 1, x, l, l', v, h1, h2 => by
  have := scs_set1 (ss := ss) (vs := vs) (i := i) (x := x) (l := l) (l' := l') v (by simpa using h1) (by simpa using h2)
  rw [show (i + 1) * 4 + 3 = i * 4 + 3 + 1 + 1 + 1 + 1 by omega]
  simp only [scs, List.set_cons_succ]
  rw [this]
section
variable {w wr : World} {base gS n c : Nat} {sts : List Stk}
theorem StkW.at_ (h : StkW w base (.slice (some ⟨gS, 0, none⟩) n c) sts) {i : Nat} {s : Stk} (hs : sts[i]? = some s) : ∃ u, w.cell? ⟨gS, i * 4, none⟩ = some (.int .i64 s.1.1) ∧ w.cell? ⟨gS, i * 4 + 1, none⟩ = some (.int .i64 s.1.2.1) ∧ w.cell? ⟨gS, i * 4 + 2, none⟩ = some (.int .i64 s.1.2.2) ∧ w.cell? ⟨gS, i * 4 + 3, none⟩ = some u ∧ w.ownsRow base 59 3 u s.2.length (tcT s.2) := by
 obtain ⟨vs, h0, h1, h2⟩ := h.ex
 obtain ⟨u, h3, h4⟩ := h2 i s hs
 have hi := (List.getElem?_eq_some_iff.1 hs).1
 obtain ⟨A, c', hA, _, _⟩ := own_slice h1
 cases hA
 obtain ⟨b, off, e, _, hc⟩ := (Rd.of_own h1).2 (by omega)
 cases e
 obtain ⟨e0, e1, e2, e3⟩ := scs_at hs h3
 refine ⟨u, ?_, ?_, ?_, ?_, h4⟩
 ·have := hc _ _ e0; rwa [Nat.zero_add] at this
 ·have := hc _ _ e1; rwa [Nat.zero_add] at this
 ·have := hc _ _ e2; rwa [Nat.zero_add] at this
 ·have := hc _ _ e3; rwa [Nat.zero_add] at this
theorem StkW.blk (h : StkW w base (.slice (some ⟨gS, 0, none⟩) n c) sts) : ∃ cs, w.heap[gS]? = some (.cells cs 62 (0, 0)) ∧ base ≤ gS := by
 obtain ⟨vs, h0, h1, h2⟩ := h.ex
 obtain ⟨cs, hc⟩ := own_cells h1 gS rfl
 exact ⟨cs, hc, (h1.lt gS rfl).1⟩
theorem StkW.put4 (h : StkW w base (.slice (some ⟨gS, 0, none⟩) n c) sts) {i : Nat} (hi : i < sts.length) (s : Stk) {u : Value} (hu : w.ownsRow base 59 3 u s.2.length (tcT s.2)) :
  StkW ((((w.setCell ⟨gS, i * 4, none⟩ (.int .i64 s.1.1)).setCell ⟨gS, i * 4 + 1, none⟩ (.int .i64 s.1.2.1)).setCell ⟨gS, i * 4 + 2, none⟩ (.int .i64 s.1.2.2)).setCell ⟨gS, i * 4 + 3, none⟩ u) base (.slice (some ⟨gS, 0, none⟩) n c) (sts.set i s) ∧ ((((w.setCell ⟨gS, i * 4, none⟩ (.int .i64 s.1.1)).setCell ⟨gS, i * 4 + 1, none⟩ (.int .i64 s.1.2.1)).setCell ⟨gS, i * 4 + 2, none⟩ (.int .i64 s.1.2.2)).setCell ⟨gS, i * 4 + 3, none⟩ u).cell? ⟨gS, i * 4 + 3, none⟩ = some u := by
 obtain ⟨vs, h0, h1, h2⟩ := h.ex
 obtain ⟨cs, hc⟩ := own_cells h1 gS rfl
 obtain ⟨A, c', hA, _, _⟩ := own_slice h1
 cases hA
 have keep : ∀ {v : Value} {m : Nat} {l : List Value}, w.ownsRow base 59 3 v m l → ((((w.setCell ⟨gS, i * 4, none⟩ (.int .i64 s.1.1)).setCell ⟨gS, i * 4 + 1, none⟩ (.int .i64 s.1.2.1)).setCell ⟨gS, i * 4 + 2, none⟩ (.int .i64 s.1.2.2)).setCell ⟨gS, i * 4 + 3, none⟩ u).ownsRow base 59 3 v m l := fun hv =>
  own_step (own_step (own_step (own_step hv hc (by decide) _ _) (blk_set hc _ _) (by decide) _ _) (blk_set (blk_set hc _ _) _ _) (by decide) _ _) (blk_set (blk_set (blk_set hc _ _) _ _) _ _) (by decide) _ _
 have r := ((((h1.stored (i * 4) (.int .i64 s.1.1)).1.stored (i * 4 + 1) (.int .i64 s.1.2.1)).1.stored (i * 4 + 2) (.int .i64 s.1.2.2)).1.stored (i * 4 + 3) u).1
 rw [scs_set s u hi h0] at r
 have hcell := (Rd.of_own r).2 (by omega)
 obtain ⟨b, off, e, _, hcc⟩ := hcell
 cases e
 have hc3 := hcc _ _ (scs_at (ss := sts.set i s) (vs := vs.set i u) (List.getElem?_set_self hi) (List.getElem?_set_self (by omega))).2.2.2
 rw [Nat.zero_add] at hc3
 refine ⟨⟨vs.set i u, by simp [h0], by rw [List.length_set]; exact r, fun j s' hs => ?_⟩, hc3⟩
 by_cases e : i = j
 ·subst e
  rw [List.getElem?_set_self hi] at hs
  cases hs
  exact ⟨u, List.getElem?_set_self (by omega), keep hu⟩
 ·rw [List.getElem?_set_ne e] at hs
  obtain ⟨v, h3, h4⟩ := h2 j s' hs
  exact ⟨v, by rw [List.getElem?_set_ne e]; exact h3, keep h4⟩
theorem StkW.put1 (h : StkW w base (.slice (some ⟨gS, 0, none⟩) n c) sts) {i : Nat} {x : T3} {l l' : List T3} (hx : sts[i]? = some (x, l)) {u : Value} (hu : w.ownsRow base 59 3 u l'.length (tcT l')) :
  StkW (w.setCell ⟨gS, i * 4 + 3, none⟩ u) base (.slice (some ⟨gS, 0, none⟩) n c) (sts.set i (x, l')) := by
 obtain ⟨vs, h0, h1, h2⟩ := h.ex
 have hi := (List.getElem?_eq_some_iff.1 hx).1
 obtain ⟨cs, hc⟩ := own_cells h1 gS rfl
 obtain ⟨A, c', hA, _, _⟩ := own_slice h1
 cases hA
 have r := (h1.stored (i * 4 + 3) u).1
 rw [scs_set1 (l' := l') u hx h0] at r
 refine ⟨vs.set i u, by simp [h0], by rw [List.length_set]; exact r, fun j s' hs => ?_⟩
 by_cases e : i = j
 ·subst e
  rw [List.getElem?_set_self hi] at hs
  cases hs
  exact ⟨u, List.getElem?_set_self (by omega), own_step hu hc (by decide) _ _⟩
 ·rw [List.getElem?_set_ne e] at hs
  obtain ⟨v, h3, h4⟩ := h2 j s' hs
  exact ⟨v, by rw [List.getElem?_set_ne e]; exact h3, own_step h4 hc (by decide) _ _⟩
end
section
variable {w wr w' : World} {g gS n c : Nat} {W H : Int} {M C P S : Value} {sts : List Stk}
theorem Kp2.setge {w1 : World} {gl mb : Nat} (h : Kp2 w w1 gl mb) {b : Nat} (hb : w.heap.size ≤ b) (i : Nat) (v : Value) : Kp2 w (w1.setCell ⟨b, i, none⟩ v) gl mb :=
 ⟨h.os, h.tape, h.output, by simpa using h.size, fun k hk h1 h2 => (Below.heap_setCell w1 ⟨b, i, none⟩ v k (by simp only; omega)).trans (h.blk k hk h1 h2)⟩
theorem StI.put4 (h : StI w g W H M C P S (.slice (some ⟨gS, 0, none⟩) n c) sts wr) {i : Nat} (hi : i < sts.length) (s : Stk) {u : Value} (hu : wr.ownsRow w.heap.size 59 3 u s.2.length (tcT s.2)) :
  StI w g W H M C P S (.slice (some ⟨gS, 0, none⟩) n c) (sts.set i s) ((((wr.setCell ⟨gS, i * 4, none⟩ (.int .i64 s.1.1)).setCell ⟨gS, i * 4 + 1, none⟩ (.int .i64 s.1.2.1)).setCell ⟨gS, i * 4 + 2, none⟩ (.int .i64 s.1.2.2)).setCell ⟨gS, i * 4 + 3, none⟩ u) := by
 obtain ⟨cs, hc, hb⟩ := h.stk.blk
 have hlt := h.lt
 have hne : g ≠ gS := by omega
 exact ⟨(((h.kp.setge hb _ _).setge hb _ _).setge hb _ _).setge hb _ _, blk_far (blk_far (blk_far (blk_far h.blk hne _) hne _) hne _) hne _, (h.stk.put4 hi s hu).1, h.lt⟩
theorem StI.put1 (h : StI w g W H M C P S (.slice (some ⟨gS, 0, none⟩) n c) sts wr) {i : Nat} {x : T3} {l l' : List T3} (hx : sts[i]? = some (x, l)) {u : Value} (hu : wr.ownsRow w.heap.size 59 3 u l'.length (tcT l')) :
  StI w g W H M C P S (.slice (some ⟨gS, 0, none⟩) n c) (sts.set i (x, l')) (wr.setCell ⟨gS, i * 4 + 3, none⟩ u) := by
 obtain ⟨cs, hc, hb⟩ := h.stk.blk
 have hlt := h.lt
 have hne : g ≠ gS := by omega
 exact ⟨h.kp.setge hb _ _, blk_far h.blk hne _, h.stk.put1 hx hu, h.lt⟩
theorem ones_take {L : List T3} {i : Nat} {t : T3} (ht : L[i]? = some t) : ones (L.take (i + 1)) = ones (L.take i) ++ [(t, [t])] := by
 unfold ones
 rw [List.take_add_one, ht, List.map_append]
 rfl
theorem ones_len (L : List T3) : (ones L).length = L.length := by simp [ones]
theorem set_last {α : Type} (l : List α) (a b : α) : (l ++ [a]).set l.length b = l ++ [b] := by
 rw [List.set_append_right _ _ (Nat.le_refl _)]
 simp
end
end
end Go.Proofs.YtbnkabmnenginaaGreatDoor
