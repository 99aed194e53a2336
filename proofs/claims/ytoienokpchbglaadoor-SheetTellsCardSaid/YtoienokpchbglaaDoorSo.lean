/- Copies of sheets; two lists of triangles held against each other. -/
import Derived.Test.YtoienokpchbglaaDoorFc0
import Derived.Laws.AppendOwnNone
namespace Go.Proofs.YtoienokpchbglaaDoor
set_option linter.unusedSimpArgs false
set_option linter.unusedVariables false
open Go.RowKit

section
variable {w : World}
set_option maxRecDepth 100000 in
/-- 'append(nil, x...)': a copy of what lies in memory. -/
theorem app_copy {T E : TypeId} {z : Value} {sz bytes : Nat} (hT : Tryd.prog.underlying T = some (.slice E)) (hE : (Tryd.prog.info? E).map (fun i => (i.zero, i.size, i.bytes)) = some (some z, sz, bytes))
    (hzs : z.cells.size = sz) (hsz : 0 < sz)
    {ops : Array Oper} {rest : List Oper} {o : Oper} {a : Act} {Q : Exit → Act → World → Prop} (hgd : o.guard = none) (s x : Operand)
    (ho : o.op = .call { callee := .builtin .append, args := #[s, x], argTypes := #[T, T] })
    (hs : a.eval s = .slice none 0 0) (A : Option Addr) (n c : Nat) (xs : List Value) (hx : a.eval x = .slice A n c) (hA : A = none → c = 0) (hr : Rd w sz A n xs) (h1 : ∀ u ∈ xs, u.oneCell' = true) (hn : n * bytes ≤ 140737488351232) (hn2 : n ≤ 140737488351232)
    (h : ∀ v' w', w'.ownsRow w.heap.size E sz v' n xs → Below w.heap.size w w' → wpList Tryd.prog ops Q rest (a.put o.dst v') w') :
    wpList Tryd.prog ops Q (o :: rest) a w := by
  obtain ⟨i0, hi, hz0, hz1, hz2⟩ := info_parts hE
  cases A with
  | none =>
    have hm : n = 0 := by
      rcases Nat.eq_zero_or_pos n with hm | hm
      · exact hm
      · obtain ⟨b, off, e, _⟩ := hr.2 hm
        cases e
    subst hm
    have hc := hA rfl
    subst hc
    have hnews : xs = [] := List.length_eq_zero_iff.1 (by simpa using hr.1)
    subst hnews
    exact wpList_append_own_none hgd s x T ho w.heap.size E i0 sz hT hi (.slice none 0 0) 0 [] hs (World.ownsRow_nil _ _ _ _) hx (h _ _ (World.ownsRow_nil _ _ _ _) (Below.refl _ _))
  | some ad =>
    refine wpList_append_own _ hgd s x T ho w.heap.size E i0 z sz bytes hT hi hz0 hz1 hz2 hzs hsz (.slice none 0 0) 0 [] hs (World.ownsRow_nil _ _ _ _) ad n c xs hx hr.1 ?_ h1 (by simp only [maxLen]; omega) (by rw [Nat.zero_add]; omega) (Nat.le_refl _) ?_
    · intro j u hu
      rcases Nat.eq_zero_or_pos n with h0 | h0
      · subst h0
        have : xs = [] := List.length_eq_zero_iff.1 (by simpa using hr.1)
        subst this
        simp at hu
      · obtain ⟨b, off, e, _, hc⟩ := hr.2 h0
        injection e with e
        subst e
        rw [addr_add]
        exact hc j u hu
    · intro v' w' h2 h3 _
      refine h v' w' (by simpa using h2) ((Below.refl _ _).grown h3 (Nat.le_refl _) (fun k hk => by cases hk))
end
set_option maxRecDepth 100000 in
theorem crease_info : (Tryd.prog.info? 88).map (fun i => (i.zero, i.size, i.bytes)) = some (some (.agg #[.int .i64 0, .int .i64 0, .int .i64 0, .int .i64 0, .int .i64 0]), 5, 40) := by kernel_rfl
theorem vis_one (zs : List Int) : ∀ u ∈ vis zs, u.oneCell' = true := fun u hu => by obtain ⟨z, _, rfl⟩ := List.mem_map.1 hu; rfl
theorem ccs_one (cs : List C5) : ∀ u ∈ ccs cs, u.oneCell' = true := by
  intro u hu
  simp only [ccs, List.mem_flatMap, List.mem_cons, List.not_mem_nil, or_false] at hu
  obtain ⟨c, _, h⟩ := hu
  rcases h with rfl | rfl | rfl | rfl | rfl <;> rfl
set_option maxRecDepth 100000 in
set_option maxHeartbeats 3200000 in
theorem sheetOfC_any (W H : Int) (Am Ac : Option Addr) (nm cm nc cc : Nat) (mask : List Int) (cs : List C5) (w : World) (hm : Rd w 1 Am nm (vis mask)) (hc : Rd w 5 Ac nc (ccs cs)) (hnm : nm * 8 ≤ 140737488351232) (hnc : nc * 40 ≤ 140737488351232) (hAm : Am = none → cm = 0) (hAc : Ac = none → cc = 0) :
    Calls Tryd.prog 9 #[.agg #[.int .i64 W, .int .i64 H, .slice Am nm cm, .slice Ac nc cc]] w fun e w' => ∃ Bm cm' Bc cc', e = .returned (.agg #[.int .i64 W, .int .i64 H, .slice Bm nm cm', .slice Bc nc cc']) ∧ Rd w' 1 Bm nm (vis mask) ∧ Rd w' 5 Bc nc (ccs cs) ∧ (nm ≤ cm' ∧ cm' ≤ maxLen) ∧ Below w.heap.size w w' := by
  have kb := blk_alloc (heap_alloc_new w (.cells #[.int .i64 W, .int .i64 H, .slice Am nm cm, .slice Ac nc cc] 25)) (.cells #[.int .i64 0, .int .i64 0, .slice none 0 0, .slice none 0 0] 25)
  have kr := heap_alloc_new (w.alloc (.cells #[.int .i64 W, .int .i64 H, .slice Am nm cm, .slice Ac nc cc] 25)) (.cells #[.int .i64 0, .int .i64 0, .slice none 0 0, .slice none 0 0] 25)
  have hb0 := ba (below_new w (.cells #[.int .i64 W, .int .i64 H, .slice Am nm cm, .slice Ac nc cc] 25)) (.cells #[.int .i64 0, .int .i64 0, .slice none 0 0, .slice none 0 0] 25)
  rw [World.size_alloc] at kr
  have HM := Lib.hid (hm.below hb0)
  have HC := Lib.hid hc
  have KB := Lib.hid kb
  have KR := Lib.hid kr
  have HB0 := Lib.hid hb0
  have hlt0 := blk_lt kb
  have hlt1 := blk_lt kr
  clear hm hc kb kr hb0
  have q2 := cell_of_blk KB.out 2
  have q3 := cell_of_blk KB.out 3
  simp only [List.getElem?_toArray, List.getElem?_cons_zero, List.getElem?_cons_succ] at q2 q3
  go_enter Tryd.func9, Tryd.ntmps9
  go_wp2_with (first
    | (at_builtin; refine app_copy Tryd.underlying22 int_info rfl (by decide) rfl _ _ rfl rfl Am nm cm (vis mask) rfl hAm HM.out (vis_one _) hnm (by omega) ?_; intro v1 w1 ho1 hb1; obtain ⟨A1, c1, hv1, _, _⟩ := own_slice ho1; subst hv1; have KB1 := Lib.hid (blk_below KB.out hb1 hlt0); have KR1 := Lib.hid (blk_below KR.out hb1 hlt1); have HB1 := Lib.hid (stay_b HB0.out hb1); have HO1 := Lib.hid ho1; have f1 := frozen_of_blk KB1.out; have l1 := blk_lt KB1.out; have g2 : w1.cell? ⟨w.heap.size, 2, none⟩ = some (.slice Am nm cm) := cell_of_blk KB1.out 2; have g3 : w1.cell? ⟨w.heap.size, 3, none⟩ = some (.slice Ac nc cc) := cell_of_blk KB1.out 3; clear ho1 hb1 q2 q3)
    | (at_builtin; refine app_copy Tryd.underlying23 crease_info rfl (by decide) rfl _ _ rfl rfl Ac nc cc (ccs cs) rfl hAc (HC.out.below (HB1.out.setCell (p := ⟨w.heap.size, 2, none⟩) (Nat.le_refl _) _)) (ccs_one _) hnc (by omega) ?_; intro v2 w2 ho2 hb2; obtain ⟨A2, c2, hv2, _, _⟩ := own_slice ho2; subst hv2; have KB2 := Lib.hid (blk_below (blk_set KB1.out 2 (.slice A1 nm c1)) hb2 (by simpa using l1)); have KR2 := Lib.hid (blk_below (blk_far (p := ⟨w.heap.size, 2, none⟩) KR1.out (by simp) (.slice A1 nm c1)) hb2 (by simpa using blk_lt KR1.out)); have HB2 := Lib.hid (stay_b (HB1.out.setCell (p := ⟨w.heap.size, 2, none⟩) (Nat.le_refl _) (.slice A1 nm c1)) hb2); have HO2 := Lib.hid ho2; have HX2 := Lib.hid hb2; have f2 := frozen_of_blk KB2.out; have f3 := frozen_of_blk KR2.out; have i0 : w2.cell? ⟨w.heap.size, 0, none⟩ = some (.int .i64 W) := cell_of_blk KB2.out 0; have i1 : w2.cell? ⟨w.heap.size, 1, none⟩ = some (.int .i64 H) := cell_of_blk KB2.out 1; have i2 : w2.cell? ⟨w.heap.size, 2, none⟩ = some (.slice A1 nm c1) := cell_of_blk KB2.out 2; have i3 : w2.cell? ⟨w.heap.size, 3, none⟩ = some (.slice Ac nc cc) := cell_of_blk KB2.out 3; have j0 : w2.cell? ⟨w.heap.size + 1, 0, none⟩ = some (.int .i64 0) := cell_of_blk KR2.out 0; have j1 : w2.cell? ⟨w.heap.size + 1, 1, none⟩ = some (.int .i64 0) := cell_of_blk KR2.out 1; have j2 : w2.cell? ⟨w.heap.size + 1, 2, none⟩ = some (.slice none 0 0) := cell_of_blk KR2.out 2; have j3 : w2.cell? ⟨w.heap.size + 1, 3, none⟩ = some (.slice none 0 0) := cell_of_blk KR2.out 3; clear ho2 hb2 g2 g3))
  have hz0 : w.heap.size < ((w.alloc (.cells #[.int .i64 W, .int .i64 H, .slice Am nm cm, .slice Ac nc cc] 25)).alloc (.cells #[.int .i64 0, .int .i64 0, .slice none 0 0, .slice none 0 0] 25)).heap.size := hlt0
  have hz1 : w.heap.size + 1 < ((w.alloc (.cells #[.int .i64 W, .int .i64 H, .slice Am nm cm, .slice Ac nc cc] 25)).alloc (.cells #[.int .i64 0, .int .i64 0, .slice none 0 0, .slice none 0 0] 25)).heap.size := hlt1
  have hy0 : w.heap.size < (w1.setCell ⟨w.heap.size, 2, none⟩ (.slice A1 nm c1)).heap.size := by simpa using l1
  have hy1 : w.heap.size + 1 < (w1.setCell ⟨w.heap.size, 2, none⟩ (.slice A1 nm c1)).heap.size := by simpa using blk_lt KR1.out
  have five : ∀ {base : Nat} {e : TypeId} {sz n : Nat} {v : Value} {xs : List Value}, w.heap.size < base → w.heap.size + 1 < base → w2.ownsRow base e sz v n xs → (((((w2.setCell ⟨w.heap.size, 3, none⟩ (.slice A2 nc c2)).setCell ⟨w.heap.size + 1, 0, none⟩ (.int .i64 W)).setCell ⟨w.heap.size + 1, 1, none⟩ (.int .i64 H)).setCell ⟨w.heap.size + 1, 2, none⟩ (.slice A1 nm c1)).setCell ⟨w.heap.size + 1, 3, none⟩ (.slice A2 nc c2)).ownsRow base e sz v n xs :=
    fun h0 h1 h => ownsRow_setCell_below (ownsRow_setCell_below (ownsRow_setCell_below (ownsRow_setCell_below (ownsRow_setCell_below h (a := ⟨w.heap.size, 3, none⟩) h0 _) (a := ⟨w.heap.size + 1, 0, none⟩) h1 _) (a := ⟨w.heap.size + 1, 1, none⟩) h1 _) (a := ⟨w.heap.size + 1, 2, none⟩) h1 _) (a := ⟨w.heap.size + 1, 3, none⟩) h1 _
  have ho1 := five hz0 hz1 (own_below (ownsRow_setCell_below HO1.out (a := ⟨w.heap.size, 2, none⟩) hz0 (.slice A1 nm c1)) HX2.out (Nat.le_refl _))
  have ho2 := five hy0 hy1 HO2.out
  have hbf := ((((HB2.out.setCell (p := ⟨w.heap.size, 3, none⟩) (Nat.le_refl _) (.slice A2 nc c2)).setCell (p := ⟨w.heap.size + 1, 0, none⟩) (Nat.le_succ _) (.int .i64 W)).setCell (p := ⟨w.heap.size + 1, 1, none⟩) (Nat.le_succ _) (.int .i64 H)).setCell (p := ⟨w.heap.size + 1, 2, none⟩) (Nat.le_succ _) (.slice A1 nm c1)).setCell (p := ⟨w.heap.size + 1, 3, none⟩) (Nat.le_succ _) (.slice A2 nc c2)
  have hcap : nm ≤ c1 ∧ c1 ≤ maxLen := by
    obtain ⟨_, _, e, h1, h2⟩ := own_slice ho1
    cases e
    exact ⟨h1, h2⟩
  exact bodyPost_ret (v := .agg #[.int .i64 W, .int .i64 H, .slice A1 nm c1, .slice A2 nc c2]) (by simp [results, Tryd.results9, go_sem, j0, j1, j2, j3]) rfl ⟨A1, c1, A2, c2, rfl, Rd.of_own ho1, Rd.of_own ho2, hcap, hbf⟩
theorem sheetOf_any (W H : Int) (Am Ac : Option Addr) (nm cm nc cc : Nat) (mask : List Int) (cs : List C5) (w : World) (hm : Rd w 1 Am nm (vis mask)) (hc : Rd w 5 Ac nc (ccs cs)) (hnm : nm * 8 ≤ 140737488351232) (hnc : nc * 40 ≤ 140737488351232) (hAm : Am = none → cm = 0) (hAc : Ac = none → cc = 0) :
    Calls Tryd.prog 9 #[.agg #[.int .i64 W, .int .i64 H, .slice Am nm cm, .slice Ac nc cc]] w fun e w' => ∃ Bm cm' Bc cc', e = .returned (.agg #[.int .i64 W, .int .i64 H, .slice Bm nm cm', .slice Bc nc cc']) ∧ Rd w' 1 Bm nm (vis mask) ∧ Rd w' 5 Bc nc (ccs cs) ∧ Below w.heap.size w w' :=
  (sheetOfC_any W H Am Ac nm cm nc cc mask cs w hm hc hnm hnc hAm hAc).mono fun _ _ ⟨Bm, cm', Bc, cc', h1, h2, h3, _, h5⟩ => ⟨Bm, cm', Bc, cc', h1, h2, h3, h5⟩
set_option maxRecDepth 100000 in
/-- Are two lists of triangles the same? -/
theorem sameTris_any (A B : Option Addr) (n m c d : Nat) (xs ys : List T3) (w : World) (hx : Rd w 3 A n (tcT xs)) (hy : Rd w 3 B m (tcT ys)) (hn : n ≤ 9223372036854775807) (hm : m ≤ 9223372036854775807) :
    Calls Tryd.prog 13 #[.slice A n c, .slice B m d] w fun e w' => e = .returned (.bool (decide (xs = ys))) ∧ Below w.heap.size w w' := by
  have hxl : xs.length = n := by have := hx.1; rw [tcT_len] at this; omega
  have hyl : ys.length = m := by have := hy.1; rw [tcT_len] at this; omega
  have rd3 : ∀ {w : World} {A : Option Addr} {n k : Nat} {l : List T3}, Rd w 3 A n (tcT l) → l.length = n → k < n → ∃ b off t, A = some ⟨b, off, none⟩ ∧ l[k]? = some t ∧ w.cell? ⟨b, off + k * 3, none⟩ = some (.int .i64 t.1) ∧ w.cell? ⟨b, off + k * 3 + 1, none⟩ = some (.int .i64 t.2.1) ∧ w.cell? ⟨b, off + k * 3 + 2, none⟩ = some (.int .i64 t.2.2) := by
    intro w A n k l hr hl hk
    obtain ⟨b, off, e, _, hc⟩ := hr.2 (by omega)
    have hk' : k < l.length := by omega
    refine ⟨b, off, l[k], e, List.getElem?_eq_getElem hk', ?_, ?_, ?_⟩
    · exact hc (k * 3) _ (by rw [Nat.mul_comm]; exact (tcT_at l k 0 _ (List.getElem?_eq_getElem hk') (by decide)).trans rfl)
    · exact hc (k * 3 + 1) _ (by rw [Nat.mul_comm]; exact (tcT_at l k 1 _ (List.getElem?_eq_getElem hk') (by decide)).trans rfl)
    · exact hc (k * 3 + 2) _ (by rw [Nat.mul_comm]; exact (tcT_at l k 2 _ (List.getElem?_eq_getElem hk') (by decide)).trans rfl)
  by_cases hnm : n = m
  · subst hnm
    have HX := Lib.hid hxl
    have HY := Lib.hid hyl
    have RX := Lib.hid hx
    have RY := Lib.hid hy
    clear hxl hyl hx hy
    go_enter Tryd.func13, Tryd.ntmps13
    go_wp2
    go_loopw [5] (fun i wr => ∃ k : Nat, k ≤ n ∧ i = .int .i64 k ∧ Hid (xs.take k = ys.take k) ∧ Below w.heap.size w wr) (fun i _ => n - (intOf i).toNat)
    case atStart => exact ⟨0, Nat.zero_le _, rfl, Lib.hid rfl, Below.refl _ _⟩
    case round =>
      obtain ⟨k, hk, rfl, heq, hb⟩ := hrel
      by_cases hlt : k < n
      · obtain ⟨b1, o1, x, hA, hx1, x0, x1, x2⟩ := rd3 (RX.out.below hb) HX.out hlt
        obtain ⟨b2, o2, y, hB, hy1, y0, y1, y2⟩ := rd3 (RY.out.below hb) HY.out hlt
        have HX1 := Lib.hid hx1
        have HY1 := Lib.hid hy1
        have hki : (k : Int) < (n : Int) := by omega
        clear hx1 hy1
        subst hA
        subst hB
        have hq := neT x.1 x.2.1 x.2.2 y.1 y.2.1 y.2.2
        have hqe : (!(eqL [(x.1, y.1), (x.2.1, y.2.1), (x.2.2, y.2.2)])) = !decide (x = y) := by
          obtain ⟨a1, a2, a3⟩ := x
          obtain ⟨b1, b2, b3⟩ := y
          congr 1
          rw [Bool.eq_iff_iff]
          simp [eqL]
        rw [hqe] at hq
        have HQ := Lib.hid hqe
        clear hqe
        by_cases hxy : x = y
        · have hd : (!decide (x = y)) = false := by simp [hxy]
          rw [hd] at hq
          go_wp2
          go_quiet (fail)
          go_wp2
          go_roundw
          case rel => exact ⟨k + 1, by omega, by go_num, Lib.hid (by rw [List.take_add_one, List.take_add_one, HX1.out, HY1.out, heq.out, hxy]), below_drewN hb _⟩
          case measure => simp [intOf]; omega
        · have hd : (!decide (x = y)) = true := by simp [hxy]
          rw [hd] at hq
          go_wp2
          go_quiet (fail)
          go_wp2
          go_ret
          refine ⟨ret_bool ?_, below_drewN hb _⟩
          have : ¬ xs = ys := by
            rintro rfl
            have h1 := HX1.out.symm.trans HY1.out
            injection h1 with h1
            exact hxy h1
          simp [this]
      · have hfin : xs = ys := by
          have h1 := heq.out
          rw [List.take_of_length_le (by rw [HX.out]; omega), List.take_of_length_le (by rw [HY.out]; omega)] at h1
          exact h1
        have HF := Lib.hid hfin
        clear hfin
        go_wp2
        go_ret
        exact ⟨ret_bool (by simp [HF.out]), hb⟩
  · have hne : ((n : Int) != (m : Int)) = true := by simp; omega
    have hxy : ¬ xs = ys := by rintro rfl; omega
    have HXY := Lib.hid hxy
    clear hxl hyl hnm hxy rd3
    go_enter Tryd.func13, Tryd.ntmps13
    go_wp2
    go_ret
    exact ⟨ret_bool (by simp [HXY.out]), Below.refl _ _⟩
end Go.Proofs.YtoienokpchbglaaDoor
