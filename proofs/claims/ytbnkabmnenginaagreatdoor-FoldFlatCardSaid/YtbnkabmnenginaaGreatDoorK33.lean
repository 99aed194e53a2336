/- slices.Clone of a row of maps.. slices.Clone of rows of numbers, of creases, of maps. paper.Copied. -/
import Derived.Test.YtbnkabmnenginaaGreatDoorK27
import Derived.Test.YtbnkabmnenginaaGreatDoorK25
import Derived.Test.YtbnkabmnenginaaGreatDoorK32
namespace Go.Proofs.YtbnkabmnenginaaGreatDoor
set_option linter.unusedSimpArgs false
set_option linter.unusedVariables false
section
open Go.RowKit Go.Maps
theorem map_info6 : (Tryz.prog.info? 57).map (fun i => (i.zero, i.size, i.bytes)) = some (some (.agg #[.int .i64 0, .int .i64 0, .int .i64 0, .int .i64 0, .int .i64 0, .int .i64 0]), 6, 48) := by kernel_rfl
theorem mcs_one6 (ms : List V6) : ∀ u ∈ mcs ms, u.oneCell' = true := by
 intro u hu
 simp only [mcs, List.mem_flatMap, List.mem_cons, List.not_mem_nil, or_false] at hu
 obtain ⟨c, _, h⟩ := hu
 rcases h with rfl | rfl | rfl | rfl | rfl | rfl <;> rfl
end
section
open Go.RowKit Go.Maps
set_option maxRecDepth 100000 in
theorem app_own {T E : TypeId} {z : Value} {sz bytes : Nat} (hT : Tryz.prog.underlying T = some (.slice E)) (hE : (Tryz.prog.info? E).map (fun i => (i.zero, i.size, i.bytes)) = some (some z, sz, bytes)) (hzs : z.cells.size = sz) (hsz : 0 < sz)
  {ops : Array Oper} {rest : List Oper} {o : Oper} {a : Act} {Q : Exit → Act → World → Prop} (hgd : o.guard = none) (s x : Operand) {w : World}
  (ho : o.op = .call { callee := .builtin .append, args := #[s, x], argTypes := #[T, T] })
  (base : Nat) (v : Value) (hs : a.eval s = v) (hown : w.ownsRow base E sz v 0 []) (hbase : base ≤ w.heap.size)
  (ad : Addr) (m c : Nat) (xs : List Value) (hx : a.eval x = .slice (some ad) m c) (hr : Rd w sz (some ad) m xs) (h1 : ∀ u ∈ xs, u.oneCell' = true) (hn : m * bytes ≤ 140737488351232) (hn2 : m ≤ 140737488351232)
  (h : ∀ v' w', w'.ownsRow base E sz v' m xs → Below base w w' → wpList Tryz.prog ops Q rest (a.put o.dst v') w') :
  wpList Tryz.prog ops Q (o :: rest) a w := by
 obtain ⟨i0, hi, hz0, hz1, hz2⟩ := info_parts hE
 refine wpList_append_own_at _ hgd s x T ho base E i0 z sz bytes hT hi hz0 hz1 hz2 hzs hsz v 0 [] hs hown ad m c xs hx hr.1 ?_
  h1 (by simp only [maxLen]; omega) (by rw [Nat.zero_add]; omega) hbase ?_
 ·intro j u hu
  have hm : 0 < m := by
   have := (List.getElem?_eq_some_iff.1 hu).1
   have := hr.1
   rcases Nat.eq_zero_or_pos m with h0 | h0
   ·rw [h0, Nat.zero_mul] at this; omega
   ·exact h0
  obtain ⟨b', off', e, _, hc⟩ := hr.2 hm
  injection e with e
  subst e
  rw [addr_add]
  exact hc j u hu
 ·intro v' w' h1 h2 _ h3
  exact h v' w' (by simpa using h1) ((Below.refl _ _).grown h2 hbase (fun k hk => (hown.lt k hk).1))
set_option maxHeartbeats 800000 in
theorem cloneI_any (A : Option Addr) (n c : Nat) (xs : List Int) (w : World) (h : Rd w 1 A n (vis xs)) (hA : A = none → c = 0) (hn : n * 8 ≤ 140737488351232) :
  Calls Tryz.prog 59 #[.slice A n c] w fun e w' => ∃ A' c', e = .returned (.slice A' n c') ∧ w'.ownsRow w.heap.size 3 1 (.slice A' n c') n (vis xs) ∧ Below w.heap.size w w' := by
 have q22 : ∀ (w : World) (a : Option Addr) (n c n' c' : Nat), (binOp .eql 22 (.slice a n c) (.slice none n' c')).run Tryz.prog w = .ok (.bool a.isNone) w := fun w a n c n' c' => Lib.run_eql_slice_nil w _ _ a n c n' c' Tryz.underlying22
 have HR := Lib.hid h
 cases A with
 | none =>
  have hm : n = 0 := by
   rcases Nat.eq_zero_or_pos n with hm | hm
   ·exact hm
   ·obtain ⟨b, off, e, _⟩ := h.2 hm
    cases e
  subst hm
  obtain rfl := hA rfl
  have hx : vis xs = [] := List.length_eq_zero_iff.1 (by simpa using h.1)
  have HX := Lib.hid hx
  clear h hx
  go_enter Tryz.func59, Tryz.ntmps59
  go_wp2
  go_ret
  exact ⟨none, 0, rfl, by rw [HX.out]; exact World.ownsRow_nil _ _ _ _, Below.refl _ _⟩
 | some ad =>
  clear h
  go_enter Tryz.func59, Tryz.ntmps59
  go_wp2_with (at_builtin; refine app_own Tryz.underlying22 int_info rfl (by decide) rfl (.tmp 5) (.tmp 6) rfl w.heap.size _ rfl (World.ownsRow_made w #[] 0 (Nat.le_refl _) (Nat.zero_le _) rfl) (by simp) ad n c (vis xs) rfl (HR.out.alloc _) (vis_one _) hn (by omega) ?_; intro v' w' hown hb)
  go_wp2
  obtain ⟨A', c', hv, _, _⟩ := own_slice hown
  subst hv
  go_ret
  exact ⟨A', c', rfl, hown, (below_new w _).trans (hb.mono (Nat.le_refl _))⟩
set_option maxHeartbeats 800000 in
theorem cloneC_any (A : Option Addr) (n c : Nat) (xs : List C5) (w : World) (h : Rd w 5 A n (ccs xs)) (hA : A = none → c = 0) (hn : n * 40 ≤ 140737488351232) :
  Calls Tryz.prog 60 #[.slice A n c] w fun e w' => ∃ A' c', e = .returned (.slice A' n c') ∧ w'.ownsRow w.heap.size 52 5 (.slice A' n c') n (ccs xs) ∧ Below w.heap.size w w' := by
 have q22 : ∀ (w : World) (a : Option Addr) (n c n' c' : Nat), (binOp .eql 23 (.slice a n c) (.slice none n' c')).run Tryz.prog w = .ok (.bool a.isNone) w := fun w a n c n' c' => Lib.run_eql_slice_nil w _ _ a n c n' c' Tryz.underlying23
 have HR := Lib.hid h
 cases A with
 | none =>
  have hm : n = 0 := by
   rcases Nat.eq_zero_or_pos n with hm | hm
   ·exact hm
   ·obtain ⟨b, off, e, _⟩ := h.2 hm
    cases e
  subst hm
  obtain rfl := hA rfl
  have hx : ccs xs = [] := List.length_eq_zero_iff.1 (by simpa using h.1)
  have HX := Lib.hid hx
  clear h hx
  go_enter Tryz.func60, Tryz.ntmps60
  go_wp2
  go_ret
  exact ⟨none, 0, rfl, by rw [HX.out]; exact World.ownsRow_nil _ _ _ _, Below.refl _ _⟩
 | some ad =>
  clear h
  go_enter Tryz.func60, Tryz.ntmps60
  go_wp2_with (at_builtin; refine app_own Tryz.underlying23 crease_info rfl (by decide) rfl (.tmp 5) (.tmp 6) rfl w.heap.size _ rfl (World.ownsRow_made w #[] 0 (Nat.le_refl _) (Nat.zero_le _) rfl) (by simp) ad n c (ccs xs) rfl (HR.out.alloc _) (ccs_one _) hn (by omega) ?_; intro v' w' hown hb)
  go_wp2
  obtain ⟨A', c', hv, _, _⟩ := own_slice hown
  subst hv
  go_ret
  exact ⟨A', c', rfl, hown, (below_new w _).trans (hb.mono (Nat.le_refl _))⟩
set_option maxHeartbeats 800000 in
theorem cloneN_any (A : Option Addr) (n c : Nat) (xs : List V6) (w : World) (h : Rd w 6 A n (mcs xs)) (hA : A = none → c = 0) (hn : n * 48 ≤ 140737488351232) :
  Calls Tryz.prog 32 #[.slice A n c] w fun e w' => ∃ A' c', e = .returned (.slice A' n c') ∧ w'.ownsRow w.heap.size 57 6 (.slice A' n c') n (mcs xs) ∧ Below w.heap.size w w' := by
 have q22 : ∀ (w : World) (a : Option Addr) (n c n' c' : Nat), (binOp .eql 26 (.slice a n c) (.slice none n' c')).run Tryz.prog w = .ok (.bool a.isNone) w := fun w a n c n' c' => Lib.run_eql_slice_nil w _ _ a n c n' c' Tryz.underlying26
 have HR := Lib.hid h
 cases A with
 | none =>
  have hm : n = 0 := by
   rcases Nat.eq_zero_or_pos n with hm | hm
   ·exact hm
   ·obtain ⟨b, off, e, _⟩ := h.2 hm
    cases e
  subst hm
  obtain rfl := hA rfl
  have hx : mcs xs = [] := List.length_eq_zero_iff.1 (by simpa using h.1)
  have HX := Lib.hid hx
  clear h hx
  go_enter Tryz.func32, Tryz.ntmps32
  go_wp2
  go_ret
  exact ⟨none, 0, rfl, by rw [HX.out]; exact World.ownsRow_nil _ _ _ _, Below.refl _ _⟩
 | some ad =>
  clear h
  go_enter Tryz.func32, Tryz.ntmps32
  go_wp2_with (at_builtin; refine app_own Tryz.underlying26 map_info6 rfl (by decide) rfl (.tmp 5) (.tmp 6) rfl w.heap.size _ rfl (World.ownsRow_made w #[] 0 (Nat.le_refl _) (Nat.zero_le _) rfl) (by simp) ad n c (mcs xs) rfl (HR.out.alloc _) (mcs_one6 _) hn (by omega) ?_; intro v' w' hown hb)
  go_wp2
  obtain ⟨A', c', hv, _, _⟩ := own_slice hown
  subst hv
  go_ret
  exact ⟨A', c', rfl, hown, (below_new w _).trans (hb.mono (Nat.le_refl _))⟩
end
section
open Go.RowKit Go.Maps
set_option maxRecDepth 100000 in
set_option maxHeartbeats 3200000 in
theorem copied_any (W H : Int) (Am Ac : Option Addr) (nm cm nc cc : Nat) (mask : List Int) (cs : List C5) (w : World) (hm : Rd w 1 Am nm (vis mask)) (hc : Rd w 5 Ac nc (ccs cs)) (hnm : nm * 8 ≤ 140737488351232) (hnc : nc * 40 ≤ 140737488351232) (hAm : Am = none → cm = 0) (hAc : Ac = none → cc = 0) :
  Calls Tryz.prog 31 #[.agg #[.int .i64 W, .int .i64 H, .slice Am nm cm, .slice Ac nc cc]] w fun e w' => ∃ Bm cm' Bc cc', e = .returned (.agg #[.int .i64 W, .int .i64 H, .slice Bm nm cm', .slice Bc nc cc']) ∧ w'.ownsRow w.heap.size 3 1 (.slice Bm nm cm') nm (vis mask) ∧ w'.ownsRow w.heap.size 52 5 (.slice Bc nc cc') nc (ccs cs) ∧ Below w.heap.size w w' := by
 have kb := blk_alloc (heap_alloc_new w (.cells #[.int .i64 W, .int .i64 H, .slice Am nm cm, .slice Ac nc cc] 25)) (.cells #[.int .i64 0, .int .i64 0, .slice none 0 0, .slice none 0 0] 25)
 have kr := heap_alloc_new (w.alloc (.cells #[.int .i64 W, .int .i64 H, .slice Am nm cm, .slice Ac nc cc] 25)) (.cells #[.int .i64 0, .int .i64 0, .slice none 0 0, .slice none 0 0] 25)
 have hb0 := ba (below_new w (.cells #[.int .i64 W, .int .i64 H, .slice Am nm cm, .slice Ac nc cc] 25)) (.cells #[.int .i64 0, .int .i64 0, .slice none 0 0, .slice none 0 0] 25)
 rw [World.size_alloc] at kr
 have cI := fun (W' : World) (hb : Below w.heap.size w W') => cloneI_any Am nm cm mask W' (hm.below hb) hAm hnm
 have cC := fun (W' : World) (hb : Below w.heap.size w W') => cloneC_any Ac nc cc cs W' (hc.below hb) hAc hnc
 have CI := Lib.hid cI
 have CC := Lib.hid cC
 clear hm hc hAm hAc hnm hnc cI cC
 go_enter Tryz.func31, Tryz.ntmps31
 go_wp2_with fail
 have q2 := cell_of_blk kb 2
 have q3 := cell_of_blk kb 3
 simp only [List.getElem?_toArray, List.getElem?_cons_zero, List.getElem?_cons_succ] at q2 q3
 have KB := Lib.hid kb
 have KR := Lib.hid kr
 have HB0 := Lib.hid hb0
 clear kb kr hb0
 generalize (w.alloc (.cells #[.int .i64 W, .int .i64 H, .slice Am nm cm, .slice Ac nc cc] 25)).alloc (.cells #[.int .i64 0, .int .i64 0, .slice none 0 0, .slice none 0 0] 25) = w1 at q2 q3 KB KR HB0 ⊢
 refine rg_chn (fin := ?z1) [2, 5, 7, 9] [[true, true, false, true, true, false, true, false, true, false], [false, false, false, true, true, false, true, false, true, false], [true, true, false, false, false, false, true, false, true, false], [false, false, false, false, false, false, false, false, true, false], [false, false, false, false, false, false, false, false, false, false]] [[1, 0], [4, 3], [6, 2, 5, 0, 1, 3, 4], [8, 5, 7, 0, 1, 2, 3, 4, 6]] (fun x => [.pointer (some ⟨w.heap.size, 2, none⟩), .slice Am nm cm, (x 0), .pointer (some ⟨w.heap.size, 3, none⟩), .slice Ac nc cc, (x 1), .pointer (some ⟨w.heap.size, 2, none⟩), (x 2), .pointer (some ⟨w.heap.size, 3, none⟩), (x 3)]) (fun jS x WN => match jS with | 0 => WN.cell? ⟨w.heap.size, 2, none⟩ = some (.slice Am nm cm) ∧ WN.cell? ⟨w.heap.size, 3, none⟩ = some (.slice Ac nc cc) ∧ Hid (WN.heap[w.heap.size]? = some (.cells #[.int .i64 W, .int .i64 H, .slice Am nm cm, .slice Ac nc cc] 25 (0, 0))) ∧ Hid (WN.heap[w.heap.size + 1]? = some (.cells #[.int .i64 0, .int .i64 0, .slice none 0 0, .slice none 0 0] 25 (0, 0))) ∧ Hid (Below w.heap.size w WN) | 1 => WN.cell? ⟨w.heap.size, 2, none⟩ = some (.slice Am nm cm) ∧ WN.cell? ⟨w.heap.size, 3, none⟩ = some (.slice Ac nc cc) ∧ Hid (WN.heap[w.heap.size]? = some (.cells #[.int .i64 W, .int .i64 H, .slice Am nm cm, .slice Ac nc cc] 25 (0, 0))) ∧ Hid (WN.heap[w.heap.size + 1]? = some (.cells #[.int .i64 0, .int .i64 0, .slice none 0 0, .slice none 0 0] 25 (0, 0))) ∧ Hid (Below w.heap.size w WN) ∧ ∃ Bm cm2, Hid (x 0 = .slice Bm nm cm2) ∧ Hid (WN.ownsRow w.heap.size 3 1 (.slice Bm nm cm2) nm (vis mask)) | 2 => WN.cell? ⟨w.heap.size, 2, none⟩ = some (.slice Am nm cm) ∧ WN.cell? ⟨w.heap.size, 3, none⟩ = some (.slice Ac nc cc) ∧ Hid (WN.heap[w.heap.size]? = some (.cells #[.int .i64 W, .int .i64 H, .slice Am nm cm, .slice Ac nc cc] 25 (0, 0))) ∧ Hid (WN.heap[w.heap.size + 1]? = some (.cells #[.int .i64 0, .int .i64 0, .slice none 0 0, .slice none 0 0] 25 (0, 0))) ∧ Hid (Below w.heap.size w WN) ∧ ∃ Bm cm2, Hid (x 0 = .slice Bm nm cm2) ∧ Hid (WN.ownsRow w.heap.size 3 1 (.slice Bm nm cm2) nm (vis mask)) ∧ ∃ Bc cc2, Hid (x 1 = .slice Bc nc cc2) ∧ Hid (WN.ownsRow w.heap.size 52 5 (.slice Bc nc cc2) nc (ccs cs)) | 3 => Hid (WN.heap[w.heap.size + 1]? = some (.cells #[.int .i64 0, .int .i64 0, .slice none 0 0, .slice none 0 0] 25 (0, 0))) ∧ Hid (Below w.heap.size w WN) ∧ ∃ Bm cm2, Hid (x 0 = .slice Bm nm cm2) ∧ Hid (WN.ownsRow w.heap.size 3 1 (.slice Bm nm cm2) nm (vis mask)) ∧ Hid (WN.heap[w.heap.size]? = some (.cells #[.int .i64 W, .int .i64 H, .slice Bm nm cm2, .slice Ac nc cc] 25 (0, 0))) ∧ ∃ Bc cc2, Hid (x 1 = .slice Bc nc cc2) ∧ Hid (WN.ownsRow w.heap.size 52 5 (.slice Bc nc cc2) nc (ccs cs)) | _ => Hid (WN.heap[w.heap.size + 1]? = some (.cells #[.int .i64 0, .int .i64 0, .slice none 0 0, .slice none 0 0] 25 (0, 0))) ∧ Hid (Below w.heap.size w WN) ∧ ∃ Bm cm2, Hid (x 0 = .slice Bm nm cm2) ∧ Hid (WN.ownsRow w.heap.size 3 1 (.slice Bm nm cm2) nm (vis mask)) ∧ ∃ Bc cc2, Hid (x 1 = .slice Bc nc cc2) ∧ Hid (WN.ownsRow w.heap.size 52 5 (.slice Bc nc cc2) nc (ccs cs)) ∧ Hid (WN.heap[w.heap.size]? = some (.cells #[.int .i64 W, .int .i64 H, .slice Bm nm cm2, .slice Bc nc cc2] 25 (0, 0)))) ?hf (by kernel_rfl) (by kernel_rfl) (fun _ => rfl) (by kernel_rfl) ?hv ⟨q2, q3, KB, KR, Lib.hid (HB0.out.drew)⟩ ?hA ?hT (fun x WN hst => ?he)
 case hf => intro x; simp only [putOps, Act.put, List.setIfInBounds_toArray, List.set_cons_succ, List.set_cons_zero]; exact rfl
 case hv =>
  intro x jS t v h
  cases jS with
  | zero => cases h; rfl
  | succ jS =>
   cases jS with
   | zero => cases h; rfl
   | succ jS =>
    cases jS with
    | zero => cases h; rfl
    | succ jS =>
     cases jS with
     | zero => cases h; rfl
     | succ jS =>
      simp at h
 case hA =>
  intro jS x WN hj hst
  have hj : jS ≤ 4 := hj
  rcases (show jS = 0 ∨ jS = 1 ∨ jS = 2 ∨ jS = 3 ∨ jS = 4 by omega) with rfl | rfl | rfl | rfl | rfl
  ·have HST := Lib.hid hst
   obtain ⟨q2, q3, hkb, hkr, hbl⟩ := hst
   iterate 6 refine ⟨?_, fun K hK => ?_⟩
   ·trivial
   all_goals try (go_simp; exact hK _ HST.out; done)
  ·have HST := Lib.hid hst
   obtain ⟨q2, q3, hkb, hkr, hbl, Bm, cm2, hx0, ho1⟩ := hst
   iterate 4 refine ⟨?_, fun K hK => ?_⟩
   ·trivial
   all_goals try (go_simp; exact hK _ HST.out; done)
  ·have HST := Lib.hid hst
   obtain ⟨q2, q3, hkb, hkr, hbl, Bm, cm2, hx0, ho1, Bc, cc2, hx1, ho2⟩ := hst
   iterate 4 refine ⟨?_, fun K hK => ?_⟩
   ·trivial
   all_goals try (go_simp; exact hK _ HST.out; done)
  ·have HST := Lib.hid hst
   obtain ⟨hkr, hbl, Bm, cm2, hx0, ho1, hkb, Bc, cc2, hx1, ho2⟩ := hst
   iterate 1 refine ⟨?_, fun K hK => ?_⟩
   ·trivial
   all_goals try (go_simp; exact hK _ HST.out; done)
  ·trivial
 case hT =>
  intro jS t x WN ht hst o ho K hK
  cases jS with
  | zero =>
   cases ht; cases ho
   obtain ⟨q2, q3, hkb, hkr, hbl⟩ := hst
   go_simp
   refine (CI.out WN hbl.out).mono ?_
   rintro e' wc ⟨Bm, cm2, he, h1, hbc⟩
   subst he
   have hsz := hbl.out.size
   exact hK _ _ ⟨sd q2 hbc, sd q3 hbc, Lib.hid (blk_below hkb.out hbc (blk_lt hkb.out)), Lib.hid (blk_below hkr.out hbc (blk_lt hkr.out)), Lib.hid (stay_b hbl.out hbc), Bm, cm2, Lib.hid rfl, Lib.hid (own_mono h1 hsz)⟩
  | succ jS =>
   cases jS with
   | zero =>
    cases ht; cases ho
    obtain ⟨q2, q3, hkb, hkr, hbl, Bm, cm2, hx0, ho1⟩ := hst
    go_simp
    refine (CC.out WN hbl.out).mono ?_
    rintro e' wc ⟨Bc, cc2, he, h2, hbc⟩
    subst he
    have hsz := hbl.out.size
    exact hK _ _ ⟨sd q2 hbc, sd q3 hbc, Lib.hid (blk_below hkb.out hbc (blk_lt hkb.out)), Lib.hid (blk_below hkr.out hbc (blk_lt hkr.out)), Lib.hid (stay_b hbl.out hbc), Bm, cm2, hx0, Lib.hid (od ho1.out hbc), Bc, cc2, Lib.hid rfl, Lib.hid (own_mono h2 hsz)⟩
   | succ jS =>
    cases jS with
    | zero =>
     cases ht; cases ho
     obtain ⟨q2, q3, hkb, hkr, hbl, Bm, cm2, hx0, ho1, Bc, cc2, hx1, ho2⟩ := hst
     have hx := hx0.out
     have fz := frozen_of_blk hkb.out 2
     have zl := blk_lt hkb.out
     have k2 := Lib.hid (blk_set hkb.out 2 (.slice Bm nm cm2))
     have r2 := Lib.hid (blk_far (p := ⟨w.heap.size, 2, none⟩) hkr.out (by simp) (.slice Bm nm cm2))
     have b2 := Lib.hid (hbl.out.setCell (p := ⟨w.heap.size, 2, none⟩) (Nat.le_refl _) (.slice Bm nm cm2))
     have p1 := Lib.hid (own_step ho1.out hkb.out (by decide) 2 (.slice Bm nm cm2))
     have p2 := Lib.hid (own_step ho2.out hkb.out (by decide) 2 (.slice Bm nm cm2))
     rw [hx] at hK ⊢
     go_simp
     exact hK undef _ ⟨r2, b2, Bm, cm2, hx0, p1, Lib.hid (by simpa using k2.out), Bc, cc2, hx1, p2⟩
    | succ jS =>
     cases jS with
     | zero =>
      cases ht; cases ho
      obtain ⟨hkr, hbl, Bm, cm2, hx0, ho1, hkb, Bc, cc2, hx1, ho2⟩ := hst
      have hx := hx1.out
      have fz := frozen_of_blk hkb.out 3
      have zl := blk_lt hkb.out
      have q3 := cell_of_blk hkb.out 3
      simp only [List.getElem?_toArray, List.getElem?_cons_zero, List.getElem?_cons_succ] at q3
      have k2 := Lib.hid (blk_set hkb.out 3 (.slice Bc nc cc2))
      have r2 := Lib.hid (blk_far (p := ⟨w.heap.size, 3, none⟩) hkr.out (by simp) (.slice Bc nc cc2))
      have b2 := Lib.hid (hbl.out.setCell (p := ⟨w.heap.size, 3, none⟩) (Nat.le_refl _) (.slice Bc nc cc2))
      have p1 := Lib.hid (own_step ho1.out hkb.out (by decide) 3 (.slice Bc nc cc2))
      have p2 := Lib.hid (own_step ho2.out hkb.out (by decide) 3 (.slice Bc nc cc2))
      rw [hx] at hK ⊢
      go_simp
      exact hK undef _ ⟨r2, b2, Bm, cm2, hx0, p1, Bc, cc2, hx1, p2, Lib.hid (by simpa using k2.out)⟩
     | succ jS =>
      simp at ht
 case he =>
  obtain ⟨hkr, hbl, Bm, cm2, hx0, ho1, Bc, cc2, hx1, ho2, hkb⟩ := hst
  have e0 := hx0.out
  have e1 := hx1.out
  have hkk := hkb.out
  have i0 := cell_of_blk hkk 0
  have i1 := cell_of_blk hkk 1
  have i2 := cell_of_blk hkk 2
  have i3 := cell_of_blk hkk 3
  have y0 := cell_of_blk hkr.out 0
  have y1 := cell_of_blk hkr.out 1
  have y2 := cell_of_blk hkr.out 2
  have y3 := cell_of_blk hkr.out 3
  simp only [List.getElem?_toArray, List.getElem?_cons_zero, List.getElem?_cons_succ] at i0 i1 i2 i3 y0 y1 y2 y3
  have yf := frozen_of_blk hkr.out
  have yl := blk_lt hkr.out
  rw [e0, e1]
  clear e0 e1 hx0 hx1 hkk q2 q3
  go_wp2_with fail
  have o1 := Lib.hid (own_step (own_step (own_step (own_step ho1.out hkr.out (by decide) 0 (.int .i64 W)) (blk_set hkr.out 0 (.int .i64 W)) (by decide) 1 (.int .i64 H)) (blk_set (blk_set hkr.out 0 (.int .i64 W)) 1 (.int .i64 H)) (by decide) 2 (.slice Bm nm cm2)) (blk_set (blk_set (blk_set hkr.out 0 (.int .i64 W)) 1 (.int .i64 H)) 2 (.slice Bm nm cm2)) (by decide) 3 (.slice Bc nc cc2))
  have o2 := Lib.hid (own_step (own_step (own_step (own_step ho2.out hkr.out (by decide) 0 (.int .i64 W)) (blk_set hkr.out 0 (.int .i64 W)) (by decide) 1 (.int .i64 H)) (blk_set (blk_set hkr.out 0 (.int .i64 W)) 1 (.int .i64 H)) (by decide) 2 (.slice Bm nm cm2)) (blk_set (blk_set (blk_set hkr.out 0 (.int .i64 W)) 1 (.int .i64 H)) 2 (.slice Bm nm cm2)) (by decide) 3 (.slice Bc nc cc2))
  have hkf := Lib.hid (blk_set (blk_set (blk_set (blk_set hkr.out 0 (.int .i64 W)) 1 (.int .i64 H)) 2 (.slice Bm nm cm2)) 3 (.slice Bc nc cc2))
  have hbf := Lib.hid ((((hbl.out.setCell (p := ⟨w.heap.size + 1, 0, none⟩) (Nat.le_succ _) (.int .i64 W)).setCell (p := ⟨w.heap.size + 1, 1, none⟩) (Nat.le_succ _) (.int .i64 H)).setCell (p := ⟨w.heap.size + 1, 2, none⟩) (Nat.le_succ _) (.slice Bm nm cm2)).setCell (p := ⟨w.heap.size + 1, 3, none⟩) (Nat.le_succ _) (.slice Bc nc cc2))
  generalize ((((WN.setCell ⟨w.heap.size + 1, 0, none⟩ (.int .i64 W)).setCell ⟨w.heap.size + 1, 1, none⟩ (.int .i64 H)).setCell ⟨w.heap.size + 1, 2, none⟩ (.slice Bm nm cm2)).setCell ⟨w.heap.size + 1, 3, none⟩ (.slice Bc nc cc2)) = wF at o1 o2 hkf hbf ⊢
  have j0 := cell_of_blk hkf.out 0
  have j1 := cell_of_blk hkf.out 1
  have j2 := cell_of_blk hkf.out 2
  have j3 := cell_of_blk hkf.out 3
  simp at j0 j1 j2 j3
  exact bodyPost_ret (v := .agg #[.int .i64 W, .int .i64 H, .slice Bm nm cm2, .slice Bc nc cc2]) (by simp [results, Tryz.results31, go_sem, j0, j1, j2, j3]) rfl ⟨Bm, cm2, Bc, cc2, rfl, o1.out, o2.out, hbf.out⟩
end
end Go.Proofs.YtbnkabmnenginaaGreatDoor
