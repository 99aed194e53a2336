/- 'append(nil, x...)' of what lies in memory, in a drawn region.. SheetOf: the copies are rows of the call's own.. A row of stacks that is laid by the call itself.. -/
import Derived.Test.YtnndadhkedlohaaDoorK41
import Derived.Test.YtnndadhkedlohaaDoorK24
namespace Go.Proofs.YtnndadhkedlohaaDoor
set_option linter.unusedSimpArgs false
set_option linter.unusedVariables false
section
open Go.RowKit
set_option maxRecDepth 100000 in
theorem step_copyA {T E : TypeId} {z : Value} {sz bytes : Nat} (hT : Tryd.prog.underlying T = some (.slice E)) (hE : (Tryd.prog.info? E).map (fun i => (i.zero, i.size, i.bytes)) = some (some z, sz, bytes))
  (hzs : z.cells.size = sz) (hsz : 0 < sz)
  {w : World} {ops : Array Oper} {o : Oper} {a : Act} {K : Act → World → Prop} {Q : Exit → Act → World → Prop} {Z : Prop} (hgd : o.guard = none) (s x : Operand)
  (ho : o.op = .call { callee := .builtin .append, args := #[s, x], argTypes := #[T, T] })
  (hs : a.eval s = .slice none 0 0) (A : Option Addr) (n c : Nat) (xs : List Value) (hx : a.eval x = .slice A n c) (hA : A = none → c = 0) (hr : Rd w sz A n xs) (h1 : ∀ u ∈ xs, u.oneCell' = true) (hn : n * bytes ≤ 140737488351232) (hn2 : n ≤ 140737488351232)
  (h : ∀ v' w', w'.ownsRow w.heap.size E sz v' n xs → Below w.heap.size w w' → K (a.put o.dst v') w') :
  if Region.wanted o (yielded ops a.tmps) = true then Oper.wp Tryd.prog o a w K Q else Z := by
 cases A with
 | some ad =>
  have hw : Region.wanted o (yielded ops a.tmps) = true := by simp [Region.wanted, hgd]
  rw [if_pos hw]
  obtain ⟨i0, hi, hz0, hz1, hz2⟩ := info_parts hE
  have hnews : ∀ j u, xs[j]? = some u → w.cell? (ad.add j) = some u := by
   intro j u hu
   rcases Nat.eq_zero_or_pos n with h0 | h0
   ·subst h0
    have : xs = [] := List.length_eq_zero_iff.1 (by simpa using hr.1)
    subst this
    simp at hu
   ·obtain ⟨b, off, e, _, hc⟩ := hr.2 h0
    injection e with e
    subst e
    rw [addr_add]
    exact hc j u hu
  obtain ⟨v', w', hrun, h2, h3, _, h5⟩ := run_append_own_at (P := Tryd.prog) w w.heap.size T o.type E i0 z sz bytes hT hi hz0 hz1 hz2 hzs hsz (.slice none 0 0) 0 [] (World.ownsRow_nil _ _ _ _) ad n c xs hr.1 hnews h1 (by simp only [maxLen]; omega) (by rw [Nat.zero_add]; omega) (Nat.le_refl _)
  unfold Oper.wp execOp
  simp only [ho, resolve, invoke, builtin, Sem.run_bind, Sem.run_pure, Result.andThen_ok, List.map_toArray, List.map_cons, List.map_nil, hs, hx, hrun]
  exact h v' w' (by simpa using h2) ((Below.refl _ _).grown h3 (Nat.le_refl _) (fun k hk => by cases hk))
 | none =>
  have hw : Region.wanted o (yielded ops a.tmps) = true := by simp [Region.wanted, hgd]
  rw [if_pos hw]
  obtain ⟨i0, hi, hz0, hz1, hz2⟩ := info_parts hE
  have hm : n = 0 := by
   rcases Nat.eq_zero_or_pos n with hm | hm
   ·exact hm
   ·obtain ⟨b, off, e, _⟩ := hr.2 hm
    cases e
  subst hm
  have hc := hA rfl
  subst hc
  have hnews : xs = [] := List.length_eq_zero_iff.1 (by simpa using hr.1)
  subst hnews
  have hrun := run_append_owned_none (P := Tryd.prog) (w := w) w.heap.size T o.type E i0 sz hT hi (.slice none 0 0) 0 [] (World.ownsRow_nil _ _ _ _)
  unfold Oper.wp
  simp [execOp, ho, resolve, invoke, builtin, hs, hx, hrun, Result.andThen]
  exact h _ _ (World.ownsRow_nil _ _ _ _) (Below.refl _ _)
set_option maxRecDepth 100000 in
theorem step_app2 {T E : TypeId} {z : Value} {sz bytes : Nat} (hT : Tryd.prog.underlying T = some (.slice E)) (hE : (Tryd.prog.info? E).map (fun i => (i.zero, i.size, i.bytes)) = some (some z, sz, bytes))
  (hzs : z.cells.size = sz) (hsz : 0 < sz)
  {w : World} {ops : Array Oper} {o : Oper} {a : Act} {K : Act → World → Prop} {Q : Exit → Act → World → Prop} {Z : Prop} (hgd : o.guard = none) (s x : Operand)
  (ho : o.op = .call { callee := .builtin .append, args := #[s, x], argTypes := #[T, T] })
  (base : Nat) (v : Value) (n : Nat) (xs news : List Value) (hs : a.eval s = v) (hown : w.ownsRow base E sz v n xs) (hbase : base ≤ w.heap.size)
  (m g : Nat) (hx : a.eval x = .slice (some ⟨g, 0, none⟩) m m) (hblk : w.heap[g]? = some (.cells news.toArray E (0, 0))) (hm : news.length = m * sz) (h1 : ∀ u ∈ news, u.oneCell' = true) (hn : (n + m) * bytes ≤ 140737488351232) (hn2 : n + m ≤ 140737488351232)
  (h : ∀ v' w', w'.ownsRow base E sz v' (n + m) (xs ++ news) → Below base w w' → GrowOf w w' v v' → K (a.put o.dst v') w') :
  if Region.wanted o (yielded ops a.tmps) = true then Oper.wp Tryd.prog o a w K Q else Z := by
 have hw : Region.wanted o (yielded ops a.tmps) = true := by simp [Region.wanted, hgd]
 rw [if_pos hw]
 obtain ⟨i0, hi, hz0, hz1, hz2⟩ := info_parts hE
 have hnews : ∀ j u, news[j]? = some u → w.cell? ((⟨g, 0, none⟩ : Addr).add j) = some u := by
  intro j u hu
  rw [addr_add, cell_of_row w g (0 + j) _ _ (0, 0) hblk]
  simpa using hu
 obtain ⟨v', w', hrun, h2, h3, _, h5⟩ := run_append_own_at (P := Tryd.prog) w base T o.type E i0 z sz bytes hT hi hz0 hz1 hz2 hzs hsz v n xs hown ⟨g, 0, none⟩ m m news hm hnews h1 (by simp only [maxLen]; omega) (by omega) hbase
 unfold Oper.wp execOp
 simp only [ho, resolve, invoke, builtin, Sem.run_bind, Sem.run_pure, Result.andThen_ok, List.map_toArray, List.map_cons, List.map_nil, hs, hx, hrun]
 refine h v' w' h2 ((Below.refl _ _).grown h3 hbase (fun k hk => (hown.lt k hk).1)) ⟨h3, ?_⟩
 rcases h5 with h5 | h5
 ·exact .inl h5
 ·exact .inr ⟨_, h5, Nat.le_refl _⟩
end
section
open Go.RowKit
set_option maxRecDepth 100000 in
set_option maxHeartbeats 3200000 in
theorem sheetOfO_any (W H : Int) (Am Ac : Option Addr) (nm cm nc cc : Nat) (mask : List Int) (cs : List C5) (w : World) (hm : Rd w 1 Am nm (vis mask)) (hc : Rd w 5 Ac nc (ccs cs)) (hnm : nm * 8 ≤ 140737488351232) (hnc : nc * 40 ≤ 140737488351232) (hAm : Am = none → cm = 0) (hAc : Ac = none → cc = 0) :
  Calls Tryd.prog 19 #[.agg #[.int .i64 W, .int .i64 H, .slice Am nm cm, .slice Ac nc cc]] w fun e w' => ∃ Bm cm' Bc cc', e = .returned (.agg #[.int .i64 W, .int .i64 H, .slice Bm nm cm', .slice Bc nc cc']) ∧ w'.ownsRow w.heap.size 3 1 (.slice Bm nm cm') nm (vis mask) ∧ w'.ownsRow w.heap.size 98 5 (.slice Bc nc cc') nc (ccs cs) ∧ Below w.heap.size w w' := by
 have kb := blk_alloc (heap_alloc_new w (.cells #[.int .i64 W, .int .i64 H, .slice Am nm cm, .slice Ac nc cc] 25)) (.cells #[.int .i64 0, .int .i64 0, .slice none 0 0, .slice none 0 0] 25)
 have kr := heap_alloc_new (w.alloc (.cells #[.int .i64 W, .int .i64 H, .slice Am nm cm, .slice Ac nc cc] 25)) (.cells #[.int .i64 0, .int .i64 0, .slice none 0 0, .slice none 0 0] 25)
 have hb0 := ba (below_new w (.cells #[.int .i64 W, .int .i64 H, .slice Am nm cm, .slice Ac nc cc] 25)) (.cells #[.int .i64 0, .int .i64 0, .slice none 0 0, .slice none 0 0] 25)
 rw [World.size_alloc] at kr
 have HM := Lib.hid (hm.below hb0)
 have HC := Lib.hid hc
 have KB := Lib.hid kb
 have KR := Lib.hid kr
 have HB0 := Lib.hid hb0
 have hlt0 := blk_lt kb
 have hlt1 := blk_lt kr
 clear hm hc kb kr hb0
 have q2 := cell_of_blk KB.out 2
 have q3 := cell_of_blk KB.out 3
 simp only [List.getElem?_toArray, List.getElem?_cons_zero, List.getElem?_cons_succ] at q2 q3
 go_enter Tryd.func19, Tryd.ntmps19
 go_wp2_with (first
  | (at_builtin; refine app_copy Tryd.underlying22 int_info rfl (by decide) rfl _ _ rfl rfl Am nm cm (vis mask) rfl hAm HM.out (vis_one _) hnm (by omega) ?_; intro v1 w1 ho1 hb1; obtain ⟨A1, c1, hv1, _, _⟩ := own_slice ho1; subst hv1; have KB1 := Lib.hid (blk_below KB.out hb1 hlt0); have KR1 := Lib.hid (blk_below KR.out hb1 hlt1); have HB1 := Lib.hid (stay_b HB0.out hb1); have HO1 := Lib.hid ho1; have f1 := frozen_of_blk KB1.out; have l1 := blk_lt KB1.out; have g2 : w1.cell? ⟨w.heap.size, 2, none⟩ = some (.slice Am nm cm) := cell_of_blk KB1.out 2; have g3 : w1.cell? ⟨w.heap.size, 3, none⟩ = some (.slice Ac nc cc) := cell_of_blk KB1.out 3; clear ho1 hb1 q2 q3)
  | (at_builtin; refine app_copy Tryd.underlying23 crease_info rfl (by decide) rfl _ _ rfl rfl Ac nc cc (ccs cs) rfl hAc (HC.out.below (HB1.out.setCell (p := ⟨w.heap.size, 2, none⟩) (Nat.le_refl _) _)) (ccs_one _) hnc (by omega) ?_; intro v2 w2 ho2 hb2; obtain ⟨A2, c2, hv2, _, _⟩ := own_slice ho2; subst hv2; have KB2 := Lib.hid (blk_below (blk_set KB1.out 2 (.slice A1 nm c1)) hb2 (by simpa using l1)); have KR2 := Lib.hid (blk_below (blk_far (p := ⟨w.heap.size, 2, none⟩) KR1.out (by simp) (.slice A1 nm c1)) hb2 (by simpa using blk_lt KR1.out)); have HB2 := Lib.hid (stay_b (HB1.out.setCell (p := ⟨w.heap.size, 2, none⟩) (Nat.le_refl _) (.slice A1 nm c1)) hb2); have HO2 := Lib.hid ho2; have HX2 := Lib.hid hb2; have f2 := frozen_of_blk KB2.out; have f3 := frozen_of_blk KR2.out; have i0 : w2.cell? ⟨w.heap.size, 0, none⟩ = some (.int .i64 W) := cell_of_blk KB2.out 0; have i1 : w2.cell? ⟨w.heap.size, 1, none⟩ = some (.int .i64 H) := cell_of_blk KB2.out 1; have i2 : w2.cell? ⟨w.heap.size, 2, none⟩ = some (.slice A1 nm c1) := cell_of_blk KB2.out 2; have i3 : w2.cell? ⟨w.heap.size, 3, none⟩ = some (.slice Ac nc cc) := cell_of_blk KB2.out 3; have j0 : w2.cell? ⟨w.heap.size + 1, 0, none⟩ = some (.int .i64 0) := cell_of_blk KR2.out 0; have j1 : w2.cell? ⟨w.heap.size + 1, 1, none⟩ = some (.int .i64 0) := cell_of_blk KR2.out 1; have j2 : w2.cell? ⟨w.heap.size + 1, 2, none⟩ = some (.slice none 0 0) := cell_of_blk KR2.out 2; have j3 : w2.cell? ⟨w.heap.size + 1, 3, none⟩ = some (.slice none 0 0) := cell_of_blk KR2.out 3; clear ho2 hb2 g2 g3))
 have hz0 : w.heap.size < ((w.alloc (.cells #[.int .i64 W, .int .i64 H, .slice Am nm cm, .slice Ac nc cc] 25)).alloc (.cells #[.int .i64 0, .int .i64 0, .slice none 0 0, .slice none 0 0] 25)).heap.size := hlt0
 have hz1 : w.heap.size + 1 < ((w.alloc (.cells #[.int .i64 W, .int .i64 H, .slice Am nm cm, .slice Ac nc cc] 25)).alloc (.cells #[.int .i64 0, .int .i64 0, .slice none 0 0, .slice none 0 0] 25)).heap.size := hlt1
 have hy0 : w.heap.size < (w1.setCell ⟨w.heap.size, 2, none⟩ (.slice A1 nm c1)).heap.size := by simpa using l1
 have hy1 : w.heap.size + 1 < (w1.setCell ⟨w.heap.size, 2, none⟩ (.slice A1 nm c1)).heap.size := by simpa using blk_lt KR1.out
 have five : ∀ {base : Nat} {e : TypeId} {sz n : Nat} {v : Value} {xs : List Value}, w.heap.size < base → w.heap.size + 1 < base → w2.ownsRow base e sz v n xs → (((((w2.setCell ⟨w.heap.size, 3, none⟩ (.slice A2 nc c2)).setCell ⟨w.heap.size + 1, 0, none⟩ (.int .i64 W)).setCell ⟨w.heap.size + 1, 1, none⟩ (.int .i64 H)).setCell ⟨w.heap.size + 1, 2, none⟩ (.slice A1 nm c1)).setCell ⟨w.heap.size + 1, 3, none⟩ (.slice A2 nc c2)).ownsRow base e sz v n xs :=
  fun h0 h1 h => ownsRow_setCell_below (ownsRow_setCell_below (ownsRow_setCell_below (ownsRow_setCell_below (ownsRow_setCell_below h (a := ⟨w.heap.size, 3, none⟩) h0 _) (a := ⟨w.heap.size + 1, 0, none⟩) h1 _) (a := ⟨w.heap.size + 1, 1, none⟩) h1 _) (a := ⟨w.heap.size + 1, 2, none⟩) h1 _) (a := ⟨w.heap.size + 1, 3, none⟩) h1 _
 have ho1 := five hz0 hz1 (od (ownsRow_setCell_below HO1.out (a := ⟨w.heap.size, 2, none⟩) hz0 (.slice A1 nm c1)) HX2.out)
 have ho2 := five hy0 hy1 HO2.out
 have hbf := ((((HB2.out.setCell (p := ⟨w.heap.size, 3, none⟩) (Nat.le_refl _) (.slice A2 nc c2)).setCell (p := ⟨w.heap.size + 1, 0, none⟩) (Nat.le_succ _) (.int .i64 W)).setCell (p := ⟨w.heap.size + 1, 1, none⟩) (Nat.le_succ _) (.int .i64 H)).setCell (p := ⟨w.heap.size + 1, 2, none⟩) (Nat.le_succ _) (.slice A1 nm c1)).setCell (p := ⟨w.heap.size + 1, 3, none⟩) (Nat.le_succ _) (.slice A2 nc c2)
 exact bodyPost_ret (v := .agg #[.int .i64 W, .int .i64 H, .slice A1 nm c1, .slice A2 nc c2]) (by simp [results, Tryd.results19, go_sem, j0, j1, j2, j3]) rfl ⟨A1, c1, A2, c2, rfl, own_mono ho1 (Nat.le_of_lt hz0), own_mono ho2 (Nat.le_of_lt hy0), hbf⟩
end
section
open Go.RowKit Go.Maps
theorem stk_one (x y k : Int) (A : Option Addr) (n c : Nat) : ∀ u ∈ [Value.int .i64 x, .int .i64 y, .int .i64 k, .slice A n c], u.oneCell' = true := by
 intro u hu
 simp only [List.mem_cons, List.not_mem_nil, or_false] at hu
 rcases hu with rfl | rfl | rfl | rfl <;> rfl
theorem tcT_ones (l : List T3) : ∀ u ∈ tcT l, u.oneCell' = true := by
 intro u hu
 obtain ⟨t, _, ht⟩ := List.mem_flatMap.1 hu
 exact tri_one _ _ _ u ht
theorem scs_app : ∀ {ss : List Stk} {vs : List Value} (s : Stk) (v : Value), vs.length = ss.length → scs (ss ++ [s]) (vs ++ [v]) = scs ss vs ++ [.int .i64 s.1.1, .int .i64 s.1.2.1, .int .i64 s.1.2.2, v]
 | [], [], s, v, _ => rfl
 | [], _ :: _, s, v, h => by simp at h
 | a :: ss, [], s, v, h => by simp at h
 | a :: ss, b :: vs, s, v, h => by
  have := scs_app (ss := ss) (vs := vs) s v (by simpa using h)
  simp only [List.cons_append, scs, this]
theorem stack_info : (Tryd.prog.info? 68).map (fun i => (i.zero, i.size, i.bytes)) = some (some (.agg #[.int .i64 0, .int .i64 0, .int .i64 0, .slice none 0 0]), 4, 48) := by kernel_rfl
theorem own_none {w : World} {base n sz c : Nat} {e : TypeId} {A : Option Addr} {xs : List Value} (h : w.ownsRow base e sz (.slice A n c) n xs) : A = none → c = 0 := by
 obtain ⟨A', c', hv, h1⟩ := own_sl0 h
 cases hv
 exact h1
structure StkW (w : World) (base : Nat) (v : Value) (sts : List Stk) : Prop where
 ex : ∃ vs : List Value, vs.length = sts.length ∧ w.ownsRow base 68 4 v sts.length (scs sts vs) ∧ ∀ (i : Nat) (s : Stk), sts[i]? = some s → ∃ u, vs[i]? = some u ∧ w.ownsRow base 31 3 u s.2.length (tcT s.2)
section
variable {w w' : World} {base : Nat} {v v' u : Value} {sts : List Stk}
theorem StkW.nil (w : World) (base : Nat) : StkW w base (.slice none 0 0) [] := ⟨[], rfl, World.ownsRow_nil _ _ _ _, fun i s h => by simp at h⟩
theorem StkW.below (h : StkW w base v sts) (hb : Below w.heap.size w w') : StkW w' base v sts := by
 obtain ⟨vs, h0, h1, h2⟩ := h.ex
 exact ⟨vs, h0, od h1 hb, fun i s hs => by obtain ⟨u, h3, h4⟩ := h2 i s hs; exact ⟨u, h3, od h4 hb⟩⟩
theorem StkW.mono {base' : Nat} (h : StkW w base v sts) (hb : base' ≤ base) : StkW w base' v sts := by
 obtain ⟨vs, h0, h1, h2⟩ := h.ex
 exact ⟨vs, h0, own_mono h1 hb, fun i s hs => by obtain ⟨u, h3, h4⟩ := h2 i s hs; exact ⟨u, h3, own_mono h4 hb⟩⟩
theorem StkW.set {g : Nat} {t : TypeId} {cs : Array Value} (h : StkW w base v sts) (hg : w.heap[g]? = some (.cells cs t (0, 0))) (h1 : 68 ≠ t) (h2 : 31 ≠ t) (i : Nat) (x : Value) : StkW (w.setCell ⟨g, i, none⟩ x) base v sts := by
 obtain ⟨vs, h0, h3, h4⟩ := h.ex
 exact ⟨vs, h0, own_set h3 (fun k hk e => own_not h3 hg h1 (by rw [hk, e])) i x, fun i2 s hs => by
  obtain ⟨u, h5, h6⟩ := h4 i2 s hs
  exact ⟨u, h5, own_set h6 (fun k hk e => own_not h6 hg h2 (by rw [hk, e])) i x⟩⟩
theorem StkW.row (h : StkW w base v sts) : ∃ xs, w.ownsRow base 68 4 v sts.length xs ∧ ∀ {w' : World} {v' u : Value} (s : Stk), GrowOf w w' v v' → w.ownsRow base 31 3 u s.2.length (tcT s.2) → w'.ownsRow base 68 4 v' (sts.length + 1) (xs ++ [.int .i64 s.1.1, .int .i64 s.1.2.1, .int .i64 s.1.2.2, u]) → StkW w' base v' (sts ++ [s]) := by
 obtain ⟨vs, h0, h1, h2⟩ := h.ex
 refine ⟨scs sts vs, h1, fun {w' v' u} s hg hu ho => ⟨vs ++ [u], by simp [h0], by rw [scs_app s u h0]; simpa using ho, fun i s' hs => ?_⟩⟩
 rcases Nat.lt_or_ge i sts.length with hi | hi
 ·rw [List.getElem?_append_left hi] at hs
  obtain ⟨x, h3, h4⟩ := h2 i s' hs
  exact ⟨x, by rw [List.getElem?_append_left (by omega)]; exact h3, own_grow h4 hg (own_apart h4 h1 (by decide))⟩
 ·have he : i = sts.length := by
   have := (List.getElem?_eq_some_iff.1 hs).1
   simp at this
   omega
  subst he
  simp at hs
  subst hs
  exact ⟨u, by rw [← h0]; simp, own_grow hu hg (own_apart hu h1 (by decide))⟩
theorem StkW.rd {A : Option Addr} {n c : Nat} (h : StkW w base (.slice A n c) sts) (hn : n = sts.length) (ho : ∀ s ∈ sts, (inR s.1.1 ∧ inR s.1.2.1 ∧ inR s.1.2.2) ∧ ∀ t ∈ s.2, inR t.1 ∧ inR t.2.1 ∧ inR t.2.2) (hz : ∀ s ∈ sts, s.2.length ≤ 140737488351232) (hs : n ≤ 140737488351232) : StkR w A n sts := by
 obtain ⟨vs, h0, h1, h2⟩ := h.ex
 subst hn
 refine ⟨rfl, ⟨vs, Rd.of_own h1, fun i s hi => ?_⟩, ho, hs⟩
 obtain ⟨u, h3, h4⟩ := h2 i s hi
 obtain ⟨A', c', hv, h5, _⟩ := own_slice h4
 subst hv
 exact ⟨A', c', h3, Rd.of_own h4, hz s (List.mem_of_getElem? hi), h5, own_none h4⟩
theorem StkW.sl (h : StkW w base v sts) : ∃ A c, v = .slice A sts.length c := by
 obtain ⟨vs, h0, h1, h2⟩ := h.ex
 obtain ⟨A, c, hv, _⟩ := own_slice h1
 exact ⟨A, c, hv⟩
end
theorem own_step {w : World} {base sz n g : Nat} {e t : TypeId} {v : Value} {xs : List Value} {cs : Array Value} (h : w.ownsRow base e sz v n xs) (hg : w.heap[g]? = some (.cells cs t (0, 0))) (hne : e ≠ t) (i : Nat) (x : Value) : (w.setCell ⟨g, i, none⟩ x).ownsRow base e sz v n xs := own_set h (fun k hk e => own_not h hg hne (by rw [hk, e])) i x
theorem own_set6 {w : World} {base sz n g : Nat} {e t : TypeId} {v : Value} {xs : List Value} {cs : Array Value} (h : w.ownsRow base e sz v n xs) (hg : w.heap[g]? = some (.cells cs t (0, 0))) (hne : e ≠ t) (v0 v1 v2 v3 v4 v5 : Value) : ((((((w.setCell ⟨g, 0, none⟩ v0).setCell ⟨g, 1, none⟩ v1).setCell ⟨g, 2, none⟩ v2).setCell ⟨g, 3, none⟩ v3).setCell ⟨g, 4, none⟩ v4).setCell ⟨g, 5, none⟩ v5).ownsRow base e sz v n xs := (own_step (own_step (own_step (own_step (own_step (own_step h hg hne 0 v0) (blk_set hg 0 v0) hne 1 v1) (blk_set (blk_set hg 0 v0) 1 v1) hne 2 v2) (blk_set (blk_set (blk_set hg 0 v0) 1 v1) 2 v2) hne 3 v3) (blk_set (blk_set (blk_set (blk_set hg 0 v0) 1 v1) 2 v2) 3 v3) hne 4 v4) (blk_set (blk_set (blk_set (blk_set (blk_set hg 0 v0) 1 v1) 2 v2) 3 v3) 4 v4) hne 5 v5)
theorem StkW.set6 {w : World} {base g : Nat} {t : TypeId} {v : Value} {sts : List Stk} {cs : Array Value} (h : StkW w base v sts) (hg : w.heap[g]? = some (.cells cs t (0, 0))) (h1 : 68 ≠ t) (h2 : 31 ≠ t) (v0 v1 v2 v3 v4 v5 : Value) : StkW ((((((w.setCell ⟨g, 0, none⟩ v0).setCell ⟨g, 1, none⟩ v1).setCell ⟨g, 2, none⟩ v2).setCell ⟨g, 3, none⟩ v3).setCell ⟨g, 4, none⟩ v4).setCell ⟨g, 5, none⟩ v5) base v sts := (StkW.set (StkW.set (StkW.set (StkW.set (StkW.set (StkW.set h hg h1 h2 0 v0) (blk_set hg 0 v0) h1 h2 1 v1) (blk_set (blk_set hg 0 v0) 1 v1) h1 h2 2 v2) (blk_set (blk_set (blk_set hg 0 v0) 1 v1) 2 v2) h1 h2 3 v3) (blk_set (blk_set (blk_set (blk_set hg 0 v0) 1 v1) 2 v2) 3 v3) h1 h2 4 v4) (blk_set (blk_set (blk_set (blk_set (blk_set hg 0 v0) 1 v1) 2 v2) 3 v3) 4 v4) h1 h2 5 v5)
theorem blk_set6 {w : World} {g : Nat} {t : TypeId} {c0 c1 c2 c3 c4 c5 : Value} (hg : w.heap[g]? = some (.cells #[c0, c1, c2, c3, c4, c5] t (0, 0))) (v0 v1 v2 v3 v4 v5 : Value) : ((((((w.setCell ⟨g, 0, none⟩ v0).setCell ⟨g, 1, none⟩ v1).setCell ⟨g, 2, none⟩ v2).setCell ⟨g, 3, none⟩ v3).setCell ⟨g, 4, none⟩ v4).setCell ⟨g, 5, none⟩ v5).heap[g]? = some (.cells #[v0, v1, v2, v3, v4, v5] t (0, 0)) := by
 have h := (blk_set (blk_set (blk_set (blk_set (blk_set (blk_set hg 0 v0) 1 v1) 2 v2) 3 v3) 4 v4) 5 v5)
 simpa using h
theorem below_set6 {w0 w : World} {B g : Nat} (h : Below B w0 w) (hg : B ≤ g) (v0 v1 v2 v3 v4 v5 : Value) : Below B w0 ((((((w.setCell ⟨g, 0, none⟩ v0).setCell ⟨g, 1, none⟩ v1).setCell ⟨g, 2, none⟩ v2).setCell ⟨g, 3, none⟩ v3).setCell ⟨g, 4, none⟩ v4).setCell ⟨g, 5, none⟩ v5) := (Below.setCell (p := ⟨g, 5, none⟩) (Below.setCell (p := ⟨g, 4, none⟩) (Below.setCell (p := ⟨g, 3, none⟩) (Below.setCell (p := ⟨g, 2, none⟩) (Below.setCell (p := ⟨g, 1, none⟩) (Below.setCell (p := ⟨g, 0, none⟩) h hg v0) hg v1) hg v2) hg v3) hg v4) hg v5)
structure SoI (w w1 : World) (g : Nat) (W H : Int) (M C P S T : Value) (nm nc np : Nat) (mask : List Int) (cs : List C5) (ms : List V6) (sts : List Stk) (wr : World) : Prop where
 bel : Below w1.heap.size w1 wr
 gw : w1.heap.size ≤ g
 blk : wr.heap[g]? = some (.cells #[.int .i64 W, .int .i64 H, M, C, P, S] 29 (0, 0))
 r1 : wr.ownsRow w.heap.size 3 1 M nm (vis mask)
 r2 : wr.ownsRow w.heap.size 98 5 C nc (ccs cs)
 r3 : wr.ownsRow w.heap.size 75 6 P np (mcs ms)
 stk : StkW wr w1.heap.size T sts
section
variable {w w1 wr w' : World} {g : Nat} {W H : Int} {M C P S T T' : Value} {nm nc np : Nat} {mask : List Int} {cs : List C5} {ms : List V6} {sts : List Stk}
theorem SoI.below (h : SoI w w1 g W H M C P S T nm nc np mask cs ms sts wr) (hb : Below wr.heap.size wr w') : SoI w w1 g W H M C P S T nm nc np mask cs ms sts w' :=
 ⟨stay_b h.bel hb, h.gw, blk_below h.blk hb (blk_lt h.blk), od h.r1 hb, od h.r2 hb, od h.r3 hb, h.stk.below hb⟩
theorem SoI.cell (h : SoI w w1 g W H M C P S T nm nc np mask cs ms sts wr) : wr.cell? ⟨g, 5, none⟩ = some S := by rw [cell_of_blk h.blk 5]; rfl
theorem SoI.push (h : SoI w w1 g W H M C P S T nm nc np mask cs ms sts wr) {s : Stk} {u : Value} (hu : wr.ownsRow w1.heap.size 31 3 u s.2.length (tcT s.2)) : ∃ xs, wr.ownsRow w1.heap.size 68 4 T sts.length xs ∧ ∀ (T' : Value) (w' : World), w'.ownsRow w1.heap.size 68 4 T' (sts.length + 1) (xs ++ [.int .i64 s.1.1, .int .i64 s.1.2.1, .int .i64 s.1.2.2, u]) → Below w1.heap.size wr w' → GrowOf wr w' T T' → SoI w w1 g W H M C P S T' nm nc np mask cs ms (sts ++ [s]) w' := by
 obtain ⟨xs, h1, h2⟩ := h.stk.row
 refine ⟨xs, h1, fun T' w' o1 o2 o3 => ⟨h.bel.trans o2, h.gw, (o3.grown.block g (blk_lt h.blk) (fun e => own_not h1 h.blk (by decide) e.symm)).trans h.blk, own_grow h.r1 o3 (own_apart h.r1 h1 (by decide)), own_grow h.r2 o3 (own_apart h.r2 h1 (by decide)), own_grow h.r3 o3 (own_apart h.r3 h1 (by decide)), h2 s o3 hu o1⟩⟩
theorem SoI.store (h : SoI w w1 g W H M C P S T nm nc np mask cs ms sts wr) : SoI w w1 g W H M C P T T nm nc np mask cs ms sts (wr.setCell ⟨g, 5, none⟩ T) :=
 ⟨h.bel.setCell (p := ⟨g, 5, none⟩) h.gw T, h.gw, by simpa using blk_set h.blk 5 T, own_set h.r1 (fun k hk e => own_not h.r1 h.blk (by decide) (by rw [hk, e])) 5 T, own_set h.r2 (fun k hk e => own_not h.r2 h.blk (by decide) (by rw [hk, e])) 5 T, own_set h.r3 (fun k hk e => own_not h.r3 h.blk (by decide) (by rw [hk, e])) 5 T, h.stk.set h.blk (by decide) (by decide) 5 T⟩
end
end
end Go.Proofs.YtnndadhkedlohaaDoor
