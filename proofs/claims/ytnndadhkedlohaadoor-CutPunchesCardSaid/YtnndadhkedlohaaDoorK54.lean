/- The document's PunchOf. The walk of the law CutPunches. -/
import Derived.Test.YtnndadhkedlohaaDoorK43
import Derived.Test.YtnndadhkedlohaaDoorK45
import Derived.Test.YtnndadhkedlohaaDoorK53
import Derived.Test.YtnndadhkedlohaaDoorK47
import Derived.Test.YtnndadhkedlohaaDoorK48
namespace Go.Proofs.YtnndadhkedlohaaDoor
set_option linter.unusedSimpArgs false
set_option linter.unusedVariables false
section
open Go.RowKit Go.Maps
set_option maxRecDepth 100000 in
set_option maxHeartbeats 12800000 in
theorem punchOf_any (W H : Nat) (Am Ac Ap As : Option Addr) (nm cm nc cc np cp ns cS : Nat) (a : T3) (mask : List Int) (cs : List C5) (ms : List V6) (C0 : E4 → Bool) (w : World) (hS : ShM w W H Am nm mask Ac nc cs) (hp : Rd w 6 Ap np (mcs ms)) (hM : MapsP (trisL W mask) C0 ms) :
  Calls Tryd.prog 9 #[.agg #[.int .i64 W, .int .i64 H, .slice Am nm cm, .slice Ac nc cc, .slice Ap np cp, .slice As ns cS], aggT3 a] w fun r w' => ∃ vo x vs, r = .returned (.tuple #[vo, x]) ∧ w'.ownsRow w.heap.size 31 3 vo (outL (gnT a (trisL W mask) ms) (trisL W mask) (trisL W mask).length).length (tcT (outL (gnT a (trisL W mask) ms) (trisL W mask) (trisL W mask).length)) ∧ RowsT w' w.heap.size x (pcsL (trisL W mask) (cutC (trisL W mask) (gnT a (trisL W mask) ms) hdY) (gnT a (trisL W mask) ms) (trisL W mask).length) vs ∧ Below w.heap.size w w' := by
 have hsm : ∀ t ∈ trisL W mask, SmT t := fun t ht => hS.tris_sm ht
 have hnd := sorted_nodup hS.tris_sorted
 have hlen := hS.tris_len
 have hnp : np = ms.length := by have := hp.1; rw [mcs_len] at this; omega
 subst hnp
 have hb0 := below_new w (.cells #[.int .i64 W, .int .i64 H, .slice Am nm cm, .slice Ac nc cc, .slice Ap ms.length cp, .slice As ns cS] 29)
 have kb0 := blk_alloc (heap_alloc_new w (.cells #[.int .i64 W, .int .i64 H, .slice Am nm cm, .slice Ac nc cc, .slice Ap ms.length cp, .slice As ns cS] 29)) (.cells #[.int .i64 a.1, .int .i64 a.2.1, .int .i64 a.2.2] 31)
 have kb1 := heap_alloc_new (w.alloc (.cells #[.int .i64 W, .int .i64 H, .slice Am nm cm, .slice Ac nc cc, .slice Ap ms.length cp, .slice As ns cS] 29)) (.cells #[.int .i64 a.1, .int .i64 a.2.1, .int .i64 a.2.2] 31)
 rw [World.size_alloc] at kb1
 have hbw := ba hb0 (.cells #[.int .i64 a.1, .int .i64 a.2.1, .int .i64 a.2.2] 31)
 have a0 := cell_of_blk kb0 0
 have a1 := cell_of_blk kb0 1
 have a2 := cell_of_blk kb0 2
 have a3 := cell_of_blk kb0 3
 have a4 := cell_of_blk kb0 4
 have l0 := cell_of_blk kb1 0
 have l1 := cell_of_blk kb1 1
 have l2 := cell_of_blk kb1 2
 simp only [List.getElem?_toArray, List.getElem?_cons_zero, List.getElem?_cons_succ] at a0 a1 a2 a3 a4 l0 l1 l2
 have hz := blk_lt kb0
 have hz1 := blk_lt kb1
 have cT := trisOf_any W H Am Ac nm cm nc cc mask cs _ (hS.below hbw)
 have cP := fun (gt gs : Nat) (f : List Bool) (z : List Int) (w2 : World) (hb : Below w.heap.size w w2) => piecesOf_any W H Am Ac nm cm nc cc mask cs gt gs f z (cutC (trisL W mask) (gnT a (trisL W mask) ms) hdY) (gnT a (trisL W mask) ms) w2 (hS.below hb)
 obtain ⟨L, hL⟩ : ∃ L, L = trisL W mask := ⟨_, rfl⟩
 rw [← hL] at cT hsm hnd hlen hM cP ⊢
 have hK4 : ∀ t ∈ L, K4 t := fun t ht => (hsm t ht).2.2
 have hp1 := hp.below hbw
 have hmk := make_ints L.length hlen
 have hmb := make_bools L.length hlen
 have CT := Lib.hid cT
 have CP := Lib.hid cP
 have HSM := Lib.hid hsm
 have HND := Lib.hid hnd
 have HK4 := Lib.hid hK4
 have HP1 := Lib.hid hp1
 have HM := Lib.hid hM
 clear cT cP hsm hnd hK4 hL hS hp hp1 hM kb0 kb1 hb0
 go_enter Tryd.func9, Tryd.ntmps9
 go_wp2_with (go_at_call 22; refine CT.out.mono ?_; rintro r w1 ⟨vT, rfl, ho1, hb1⟩; obtain ⟨Av, cv, hv, _, _⟩ := own_slice ho1; subst hv; have HB1 := Lib.hid hb1; have HO1 := Lib.hid ho1; clear hb1 ho1)
 generalize (w.alloc (.cells #[.int .i64 W, .int .i64 H, .slice Am nm cm, .slice Ac nc cc, .slice Ap ms.length cp, .slice As ns cS] 29)).alloc (.cells #[.int .i64 a.1, .int .i64 a.2.1, .int .i64 a.2.2] 31) = w0 at a0 a1 a2 a3 a4 l0 l1 l2 hz hz1 hbw HB1 HO1 HP1
 have HBW := Lib.hid (stay_b hbw HB1.out)
 have HP2 := Lib.hid (HP1.out.below HB1.out)
 replace a0 := sd a0 HB1.out
 replace a1 := sd a1 HB1.out
 replace a2 := sd a2 HB1.out
 replace a3 := sd a3 HB1.out
 replace a4 := sd a4 HB1.out
 replace l0 := sd l0 HB1.out
 replace l1 := sd l1 HB1.out
 replace l2 := sd l2 HB1.out
 have hI0 : PuI w1 w1.heap.size (fillG L.length (fun j => !gnI a L ms j) false 0) (outL (gnT a L ms) L 0) (.slice none 0 0) (w1.alloc (.cells (bcs (List.replicate L.length false)).toArray 4)) := by
  refine ⟨below_new _ _, ?_, Nat.le_refl _, by simp only [outL, List.take_zero, List.filter_nil]; exact World.ownsRow_nil _ _ _ _⟩
  rw [fillG_zero]
  exact heap_alloc_new w1 _
 have HI0 := Lib.hid hI0
 clear hI0 hz hz1 hbw HB1 HP1 hmb CT
 generalize w1.alloc (.cells (bcs (List.replicate L.length false)).toArray 4) = wm at HI0 ⊢
 go_loopw [8, 9] (fun vo x wr => ∃ i : Nat, i ≤ L.length ∧ x = .int .i64 i ∧ Hid (PuI w1 w1.heap.size (fillG L.length (fun j => !gnI a L ms j) false i) (outL (gnT a L ms) L i) vo wr)) (fun _ x _ => L.length - (intOf x).toNat)
 case atStart => exact ⟨0, by omega, rfl, HI0⟩
 case round =>
  clear HI0
  obtain ⟨i, hi, rfl, hI⟩ := hrel
  obtain ⟨Ao, co, hvo, _, _⟩ := own_slice hI.out.own
  subst hvo
  have hbw := hI.out.bel
  replace a0 := sd a0 hbw
  replace a1 := sd a1 hbw
  replace a2 := sd a2 hbw
  replace a3 := sd a3 hbw
  replace a4 := sd a4 hbw
  replace l0 := sd l0 hbw
  replace l1 := sd l1 hbw
  replace l2 := sd l2 hbw
  clear hbw
  by_cases hil : i < L.length
  ·have hii : (i : Int) < (L.length : Int) := by omega
   have hi0 : (0 : Int) ≤ (i : Int) := by omega
   obtain ⟨t, ht⟩ : ∃ t, L[i]? = some t := ⟨_, List.getElem?_eq_getElem hil⟩
   have him : i < ms.length := by rw [HM.out.len]; exact hil
   obtain ⟨gv, cpt, curt, hat, _, _, _, _⟩ := own_addr HO1.out (by omega)
   cases hat
   obtain ⟨t0, t1, t2⟩ := own_tri (od HO1.out hI.out.bel) ht
   obtain ⟨b, off, m, hA, hm, hqb, m0, m1, m2, m3, m4, m5⟩ := HP2.out.mp him
   subst hA
   replace m0 := sd m0 hI.out.bel
   replace m1 := sd m1 hI.out.bel
   replace m2 := sd m2 hI.out.bel
   replace m3 := sd m3 hI.out.bel
   replace m4 := sd m4 hI.out.bel
   replace m5 := sd m5 hI.out.bel
   obtain ⟨cM, _⟩ := HM.out.call HSM.out ht hm
   have hnl : ((ms.length : Int)) = (L.length : Int) := by rw [HM.out.len]
   have hoy := fun h => outL_yes (gn := gnT a L ms) ht h
   have hon := fun h => outL_no (gn := gnT a L ms) ht h
   have hgt : gnT a L ms t = gnI a L ms i := gnT_at HND.out ht
   rw [hgt] at hoy hon
   obtain ⟨U, hU⟩ : ∃ U, U = atI L ms i := ⟨_, rfl⟩
   obtain ⟨B, hB⟩ : ∃ y, y = !gnI a L ms i := ⟨_, rfl⟩
   have hne : ∀ W : World, (binOp .neq 31 (.agg #[.int .i64 U.1, .int .i64 U.2.1, .int .i64 U.2.2]) (.agg #[.int .i64 a.1, .int .i64 a.2.1, .int .i64 a.2.2])).run Tryd.prog W = .ok (.bool B) W := fun W => by
    rw [neT, eqL_tri, hB, hU]
    rfl
   rw [← hU] at cM
   have hoy2 : B = false → _ := fun h => hoy (by rw [hB] at h; simpa using h)
   have hon2 : B = true → _ := fun h => hon (by rw [hB] at h; simpa using h)
   have CM := Lib.hid cM
   have HBB := Lib.hid hB
   have HOY := Lib.hid hoy2
   have HON := Lib.hid hon2
   clear cM hU ht hm hB hoy hon hoy2 hon2 hgt
   have zb := hI.out.ff.getD (i := i) (by rw [fillG_len]; exact hil)
   have zf := hI.out.ff.fz
   have zl := blk_lt (show wr.heap[w1.heap.size]? = _ from hI.out.ff)
   obtain ⟨zv, hzv⟩ : ∃ y, y = (fillG L.length (fun j => !gnI a L ms j) false i).getD i false := ⟨_, rfl⟩
   rw [← hzv] at zb
   clear hzv
   go_wp2_with fail
   refine rg_chain (fin := ?z1) [15] [14, 13, 0, 1, 11, 12, 6, 10, 5, 9, 3, 4, 7, 8, 2] [true, true, true, true, true, true, true, true, true, true, true, true, true, true, true, false] [false, false, false, false, false, false, false, false, false, false, false, false, false, false, false, false] (fun x => [.slice (some ⟨w1.heap.size, 0, none⟩) L.length L.length, .int .i64 (i : Int), .pointer (some ⟨w.heap.size, 4, none⟩), .slice (some ⟨b, off, none⟩) ms.length cp, .int .i64 (i : Int), .pointer (some ⟨b, off + i * 6, none⟩), .agg #[.int .i64 m.1, .int .i64 m.2.1, .int .i64 m.2.2.1, .int .i64 m.2.2.2.1, .int .i64 m.2.2.2.2.1, .int .i64 m.2.2.2.2.2], .slice (some ⟨gv, 0, none⟩) L.length cv, .int .i64 (i : Int), .pointer (some ⟨gv, i * 3, none⟩), .agg #[.int .i64 t.1, .int .i64 t.2.1, .int .i64 t.2.2], .agg #[.int .i64 U.1, .int .i64 U.2.1, .int .i64 U.2.2], .agg #[.int .i64 a.1, .int .i64 a.2.1, .int .i64 a.2.2], .bool B, .pointer (some ⟨w1.heap.size, i, none⟩), (x 0)]) (fun j _ WN => match j with | 0 => WN.cell? ⟨w.heap.size + 1, 0, none⟩ = some (.int .i64 a.1) ∧ WN.cell? ⟨w.heap.size + 1, 1, none⟩ = some (.int .i64 a.2.1) ∧ WN.cell? ⟨w.heap.size + 1, 2, none⟩ = some (.int .i64 a.2.2) ∧ WN.cell? ⟨w.heap.size, 4, none⟩ = some (.slice (some ⟨b, off, none⟩) ms.length cp) ∧ WN.cell? ⟨b, off + i * 6, none⟩ = some (.int .i64 m.1) ∧ WN.cell? ⟨b, off + i * 6 + 1, none⟩ = some (.int .i64 m.2.1) ∧ WN.cell? ⟨b, off + i * 6 + 2, none⟩ = some (.int .i64 m.2.2.1) ∧ WN.cell? ⟨b, off + i * 6 + 3, none⟩ = some (.int .i64 m.2.2.2.1) ∧ WN.cell? ⟨b, off + i * 6 + 4, none⟩ = some (.int .i64 m.2.2.2.2.1) ∧ WN.cell? ⟨b, off + i * 6 + 5, none⟩ = some (.int .i64 m.2.2.2.2.2) ∧ WN.cell? ⟨gv, i * 3, none⟩ = some (.int .i64 t.1) ∧ WN.cell? ⟨gv, i * 3 + 1, none⟩ = some (.int .i64 t.2.1) ∧ WN.cell? ⟨gv, i * 3 + 2, none⟩ = some (.int .i64 t.2.2) ∧ Below wr.heap.size wr WN | _ => ∃ W0 : World, (W0.cell? ⟨w.heap.size + 1, 0, none⟩ = some (.int .i64 a.1) ∧ W0.cell? ⟨w.heap.size + 1, 1, none⟩ = some (.int .i64 a.2.1) ∧ W0.cell? ⟨w.heap.size + 1, 2, none⟩ = some (.int .i64 a.2.2) ∧ W0.cell? ⟨w.heap.size, 4, none⟩ = some (.slice (some ⟨b, off, none⟩) ms.length cp) ∧ W0.cell? ⟨b, off + i * 6, none⟩ = some (.int .i64 m.1) ∧ W0.cell? ⟨b, off + i * 6 + 1, none⟩ = some (.int .i64 m.2.1) ∧ W0.cell? ⟨b, off + i * 6 + 2, none⟩ = some (.int .i64 m.2.2.1) ∧ W0.cell? ⟨b, off + i * 6 + 3, none⟩ = some (.int .i64 m.2.2.2.1) ∧ W0.cell? ⟨b, off + i * 6 + 4, none⟩ = some (.int .i64 m.2.2.2.2.1) ∧ W0.cell? ⟨b, off + i * 6 + 5, none⟩ = some (.int .i64 m.2.2.2.2.2) ∧ W0.cell? ⟨gv, i * 3, none⟩ = some (.int .i64 t.1) ∧ W0.cell? ⟨gv, i * 3 + 1, none⟩ = some (.int .i64 t.2.1) ∧ W0.cell? ⟨gv, i * 3 + 2, none⟩ = some (.int .i64 t.2.2) ∧ Below wr.heap.size wr W0) ∧ WN = W0.setCell ⟨w1.heap.size, i, none⟩ (.bool B)) ?hf (by kernel_rfl) (by kernel_rfl) (fun _ => rfl) (by kernel_rfl) ?hv ⟨l0, l1, l2, a4, m0, m1, m2, m3, m4, m5, t0, t1, t2, (Below.refl _ _).drew⟩ (fun x WN hst => ?hs) ?hB ?hT (fun x WN hst => ?he)
   case hf => intro x; simp only [putOps, Act.put, List.setIfInBounds_toArray, List.set_cons_succ, List.set_cons_zero]; exact rfl
   case hv =>
    intro x j t v h; cases j with
    | zero => cases h; rfl
    | succ j => simp at h
   case hs =>
    have HST := Lib.hid hst
    obtain ⟨l0, l1, l2, a4, m0, m1, m2, m3, m4, m5, t0, t1, t2, hbl⟩ := hst
    iterate 15 refine ⟨?_, fun K hK => ?_⟩
    ·trivial
    all_goals try (go_simp; exact hK _ HST.out; done)
    ·go_simp
     refine (CM.out WN).mono ?_
     rintro e' wc ⟨he, hbc⟩
     subst he
     exact hK _ ⟨sd l0 hbc, sd l1 hbc, sd l2 hbc, sd a4 hbc, sd m0 hbc, sd m1 hbc, sd m2 hbc, sd m3 hbc, sd m4 hbc, sd m5 hbc, sd t0 hbc, sd t1 hbc, sd t2 hbc, stay_b hbl hbc⟩
   case hB => intro j x WN _ _ _; trivial
   case hT =>
    intro j t x WN ht hst o ho K hK
    obtain rfl : j = 0 := by cases j with | zero => rfl | succ j => simp at ht
    cases ht; cases ho
    have HST := Lib.hid hst
    obtain ⟨l0, l1, l2, a4, m0, m1, m2, m3, m4, m5, t0, t1, t2, hbl⟩ := hst
    have zz2 := sd zb hbl
    have zg2 := stay_f zf zl hbl
    have zm2 := Nat.lt_of_lt_of_le zl hbl.size
    go_simp
    exact hK undef _ ⟨_, HST.out, rfl⟩
   case he =>
    obtain ⟨W0, hst, hWN⟩ := hst
    obtain ⟨l0, l1, l2, a4, m0, m1, m2, m3, m4, m5, t0, t1, t2, hbl⟩ := hst
    have hI3 := (hI.out.below hbl).setB i B
    rw [HBB.out, fillG_set (fun j => !gnI a L ms j) false, ← HBB.out] at hI3
    have zc := ((hI.out.below hbl).setB i B).ff.getD (i := i) (by rw [List.length_set, fillG_len]; exact hil)
    rw [show (((fillG L.length (fun j => !gnI a L ms j) false i).set i B).getD i false) = B from by rw [List.getD_eq_getElem?_getD, List.getElem?_set_self (by rw [fillG_len]; exact hil)]; rfl] at zc
    replace t0 := set_far_c (g := w1.heap.size) (j := i) (u := .bool B) t0 (own_lt_of (k := gv) HO1.out rfl).2
    replace t1 := set_far_c (g := w1.heap.size) (j := i) (u := .bool B) t1 (own_lt_of (k := gv) HO1.out rfl).2
    replace t2 := set_far_c (g := w1.heap.size) (j := i) (u := .bool B) t2 (own_lt_of (k := gv) HO1.out rfl).2
    rw [← hWN] at hI3 zc t0 t1 t2
    have HI3 := Lib.hid hI3
    have hol := outL_len (gnT a L ms) L i
    have hsz3 := hI3.bel.size
    clear hI3 hWN hbl hne
    cases B with
    | true =>
     have he := HON.out rfl
     have hle : (outL (gnT a L ms) L i).length = (outL (gnT a L ms) L (i + 1)).length := by rw [he]
     have HI4 := HI3
     rw [← he] at HI4
     have HLE := Lib.hid hle
     clear he hle HI3
     go_wp2
     go_roundw
     case rel => exact ⟨i + 1, by omega, by go_num, by rw [HLE.out]; exact HI4⟩
     case measure => simp [intOf]; omega
    | false =>
     have he := HOY.out rfl
     have HE := Lib.hid he
     clear he
     go_wp2_with (at_builtin; go_loud (refine app_gen Tryd.underlying32 tri_info rfl (by decide) (by decide) rfl (.tmp 42) (.tmp 47) rfl w1.heap.size _ (outL (gnT a L ms) L i).length (tcT (outL (gnT a L ms) L i)) [.int .i64 t.1, .int .i64 t.2.1, .int .i64 t.2.2] rfl HI3.out.own hsz3 1 _ rfl rfl rfl (tri_one _ _ _) (by omega) ?_); intro v' w' hown' hb' hgr')
     have hI4 := HI3.out.app hown' hb' hgr'
     rw [← HE.out] at hI4
     have HI4 := Lib.hid hI4
     clear hI4 hown' hb' hgr'
     go_roundw
     case rel => exact ⟨i + 1, by omega, by go_num, HI4⟩
     case measure => simp [intOf]; omega
  ·obtain rfl : i = L.length := by omega
   have hbF := stay_b HBW.out hI.out.bel
   have HBF := Lib.hid hbF
   clear hbF
   go_wp2_with fail
   refine rg_chn (fin := ?z2) [6, 7, 9] [[true, true, true, true, true, true, false, false, true, false], [true, true, true, true, false, false, false, false, true, false], [true, false, false, false, false, false, false, false, true, false], [true, false, false, false, false, false, false, false, true, false]] [[5, 4], [2, 3, 6, 1, 5, 4], [7, 2, 3, 6, 1, 5, 4]] (fun x => [.slice Ao (outL (gnT a L ms) L L.length).length co, .pointer (some ⟨w.heap.size, 0, none⟩), .agg #[.int .i64 W, .int .i64 H, .slice Am nm cm, .slice Ac nc cc], .slice (some ⟨w1.heap.size, 0, none⟩) L.length L.length, .slice Av L.length cv, .int .i64 (L.length : Int), (x 0), (x 1), .slice Ao (outL (gnT a L ms) L L.length).length co, (x 2)]) (fun jS x WN => match jS with | 0 => WN.cell? ⟨w.heap.size, 0, none⟩ = some (.int .i64 W) ∧ WN.cell? ⟨w.heap.size, 1, none⟩ = some (.int .i64 H) ∧ WN.cell? ⟨w.heap.size, 2, none⟩ = some (.slice Am nm cm) ∧ WN.cell? ⟨w.heap.size, 3, none⟩ = some (.slice Ac nc cc) ∧ Below wr.heap.size wr WN | 1 => WN.cell? ⟨w.heap.size, 0, none⟩ = some (.int .i64 W) ∧ WN.cell? ⟨w.heap.size, 1, none⟩ = some (.int .i64 H) ∧ WN.cell? ⟨w.heap.size, 2, none⟩ = some (.slice Am nm cm) ∧ WN.cell? ⟨w.heap.size, 3, none⟩ = some (.slice Ac nc cc) ∧ Below wr.heap.size wr WN ∧ ∃ g, Hid (x 0 = .slice (some ⟨g, 0, none⟩) L.length L.length) ∧ Hid (IB WN g (List.replicate L.length 0)) | 2 => Below wr.heap.size wr WN ∧ ∃ vs, Hid (RowsT WN wr.heap.size (x 1) (pcsL L (cutC L (gnT a L ms) hdY) (gnT a L ms) L.length) vs) | _ => Below wr.heap.size wr WN ∧ ∃ vs, Hid (RowsT WN wr.heap.size (x 2) (pcsL L (cutC L (gnT a L ms) hdY) (gnT a L ms) L.length) vs)) ?hf (by kernel_rfl) (by kernel_rfl) (fun _ => rfl) (by kernel_rfl) ?hv ⟨a0, a1, a2, a3, (Below.refl _ _).drew⟩ ?hA ?hT (fun x WN hst => ?he)
   case hf => intro x; simp only [putOps, Act.put, List.setIfInBounds_toArray, List.set_cons_succ, List.set_cons_zero]; exact rfl
   case hv =>
    intro x jS t v h
    cases jS with
    | zero => cases h; rfl
    | succ jS =>
     cases jS with
     | zero => cases h; rfl
     | succ jS =>
      cases jS with
      | zero => cases h; rfl
      | succ jS =>
       simp at h
   case hA =>
    intro jS x WN hj hst
    have hj : jS ≤ 3 := hj
    rcases (show jS = 0 ∨ jS = 1 ∨ jS = 2 ∨ jS = 3 by omega) with rfl | rfl | rfl | rfl
    ·have HST := Lib.hid hst
     obtain ⟨a0, a1, a2, a3, hbl⟩ := hst
     iterate 7 refine ⟨?_, fun K hK => ?_⟩
     ·trivial
     all_goals try (go_simp; exact hK _ HST.out; done)
    ·have HST := Lib.hid hst
     obtain ⟨a0, a1, a2, a3, hbl, gs, hx0, hz⟩ := hst
     iterate 5 refine ⟨?_, fun K hK => ?_⟩
     ·trivial
     all_goals try (go_simp; exact hK _ HST.out; done)
    ·have HST := Lib.hid hst
     obtain ⟨hbl, vs, hr⟩ := hst
     iterate 2 refine ⟨?_, fun K hK => ?_⟩
     ·trivial
     all_goals try (go_simp; exact hK _ HST.out; done)
    ·have HST := Lib.hid hst
     obtain ⟨hbl, vs, hr⟩ := hst
     iterate 2 refine ⟨?_, fun K hK => ?_⟩
     ·trivial
     all_goals try (go_simp; exact hK _ HST.out; done)
   case hT =>
    intro jS t x WN ht hst o ho K hK
    cases jS with
    | zero =>
     cases ht; cases ho
     obtain ⟨a0, a1, a2, a3, hbl⟩ := hst
     go_simp
     have hbn := below_new WN (.cells (Array.replicate L.length (.int .i64 0)) 3)
     exact hK (.slice (some ⟨WN.heap.size, 0, none⟩) L.length L.length) _ ⟨sd a0 hbn, sd a1 hbn, sd a2 hbn, sd a3 hbn, stay_b hbl hbn, WN.heap.size, Lib.hid rfl, Lib.hid (by unfold IB; rw [vis_rep]; exact heap_alloc_new WN _)⟩
    | succ jS =>
     cases jS with
     | zero =>
      cases ht; cases ho
      obtain ⟨a0, a1, a2, a3, hbl, gs, hx0, hz⟩ := hst
      have hx := hx0.out
      have hf2 := hI.out.ff.below hbl
      have cP := CP.out w1.heap.size gs (fillG L.length (fun j => !gnI a L ms j) false L.length) (List.replicate L.length 0) WN (stay_b HBF.out hbl) hf2 hz.out fillG_len (by simp) (cutI_hole HK4.out HND.out _ _ (fun i hi => fillG_at hi false) (fun i hi => by simp [hi])) (fun i t ht => by rw [fillG_at (List.getElem?_eq_some_iff.1 ht).1 false, Bool.not_not]; exact gnT_at HND.out ht)
      have CPF := Lib.hid cP
      rw [hx] at hK ⊢
      clear cP
      go_simp
      refine CPF.out.mono ?_
      rintro r w9 ⟨x9, vs9, rfl, hr9, hb9⟩
      exact hK _ _ ⟨stay_b hbl hb9, vs9, Lib.hid (hr9.mono2 hbl.size)⟩
     | succ jS =>
      cases jS with
      | zero =>
       cases ht; cases ho
       obtain ⟨hbl, vs, hr⟩ := hst
       go_simp
       exact hK _ _ ⟨hbl, vs, hr⟩
      | succ jS =>
       simp at ht
   case he =>
    obtain ⟨hbl, vs, hr⟩ := hst
    have hrF := hr.out.mono2 HBF.out.size
    have hoF := od (own_mono hI.out.own HBW.out.size) hbl
    have hbF := stay_b HBF.out hbl
    obtain ⟨xF, hxF⟩ : ∃ y, y = x 2 := ⟨_, rfl⟩
    rw [← hxF] at hrF ⊢
    have HRF := Lib.hid hrF
    have HOF := Lib.hid hoF
    have HBX := Lib.hid hbF
    clear hrF hoF hbF hr hbl hxF
    go_wp2
    exact bodyPost_ret (v := .tuple #[.slice Ao (outL (gnT a L ms) L L.length).length co, xF]) (by simp [results, Tryd.results9, go_sem]) rfl ⟨_, _, vs, rfl, HOF.out, HRF.out, HBX.out⟩
end
section
open Go.RowKit Go.Maps
def prjP : Nat → Value → Value
 | i, .tuple vs => vs.getD i undef
 | _, _ => undef
def CutPunchesRes (W H : Int) (a : T3) (mask : List Int) (cs : List C5) (ms : List V6) (sts : List Stk) (B : Nat) (o p : Value) (n : Int) (wr : World) : Prop :=
 (stateB W H mask cs ms sts = false ∧ o = .slice none 0 0 ∧ p = .slice none 0 0 ∧ n = 10) ∨ (stateB W H mask cs ms sts = true ∧ triMay3 a = false ∧ o = .slice none 0 0 ∧ p = .slice none 0 0 ∧ n = 3) ∨ (stateB W H mask cs ms sts = true ∧ triMay3 a = true ∧ n = 0 ∧ wr.ownsRow B 31 3 o (outL (gnT a (trisL W.toNat mask) ms) (trisL W.toNat mask) (trisL W.toNat mask).length).length (tcT (outL (gnT a (trisL W.toNat mask) ms) (trisL W.toNat mask) (trisL W.toNat mask).length)) ∧ ∃ vs, RowsT wr B p (pcsL (trisL W.toNat mask) (cutC (trisL W.toNat mask) (gnT a (trisL W.toNat mask) ms) hdY) (gnT a (trisL W.toNat mask) ms) (trisL W.toNat mask).length) vs)
set_option maxRecDepth 100000 in
set_option maxHeartbeats 12800000 in
theorem cutPunches_walk (W H : Int) (a : T3) (Am Ac Ap As : Option Addr) (nm cm nc cc np cp ns cS : Nat) (mask : List Int) (cs : List C5) (ms : List V6) (sts : List Stk) (w : World) (hs : Steps w) (hm : Rd w 1 Am nm (vis mask)) (hc : Rd w 5 Ac nc (ccs cs)) (hp : Rd w 6 Ap np (mcs ms)) (hst : StkR w As ns sts)
  (hAm : Am = none → cm = 0) (hAc : Ac = none → cc = 0) (hAp : Ap = none → cp = 0) (hnm : nm * 8 ≤ 140737488351232) (hnc : nc * 40 ≤ 140737488351232) (hnp : np * 48 ≤ 140737488351232) (hts : ∀ s ∈ sts, s.2.length * 24 ≤ 140737488351232) (hns : ns * 48 ≤ 140737488351232) :
  Calls Tryd.prog 3 #[.agg #[.int .i64 W, .int .i64 H, .slice Am nm cm, .slice Ac nc cc, .slice Ap np cp, .slice As ns cS], aggT3 a] w fun e w' => e = .returned (.bool true) ∧ Below w.heap.size w w' := by
 have kb0 := blk_alloc (heap_alloc_new w (.cells #[.int .i64 W, .int .i64 H, .slice Am nm cm, .slice Ac nc cc, .slice Ap np cp, .slice As ns cS] 29)) (.cells #[.int .i64 a.1, .int .i64 a.2.1, .int .i64 a.2.2] 31)
 have kb1 := heap_alloc_new (w.alloc (.cells #[.int .i64 W, .int .i64 H, .slice Am nm cm, .slice Ac nc cc, .slice Ap np cp, .slice As ns cS] 29)) (.cells #[.int .i64 a.1, .int .i64 a.2.1, .int .i64 a.2.2] 31)
 rw [World.size_alloc] at kb1
 have hb0 := ba (below_new w (.cells #[.int .i64 W, .int .i64 H, .slice Am nm cm, .slice Ac nc cc, .slice Ap np cp, .slice As ns cS] 29)) (.cells #[.int .i64 a.1, .int .i64 a.2.1, .int .i64 a.2.2] 31)
 have a0 := cell_of_blk kb0 0
 have a1 := cell_of_blk kb0 1
 have a2 := cell_of_blk kb0 2
 have a3 := cell_of_blk kb0 3
 have a4 := cell_of_blk kb0 4
 have a5 := cell_of_blk kb0 5
 have l0 := cell_of_blk kb1 0
 have l1 := cell_of_blk kb1 1
 have l2 := cell_of_blk kb1 2
 simp only [List.getElem?_toArray, List.getElem?_cons_zero, List.getElem?_cons_succ] at a0 a1 a2 a3 a4 a5 l0 l1 l2
 have cSo := fun (W' : World) (hb : Below w.heap.size w W') => stateOf_any W H Am Ac Ap As nm cm nc cc np cp ns cS mask cs ms sts W' (hm.below hb) (hc.below hb) (hp.below hb) (hst.below hb) hnm hnc hnp hAm hAc hAp hts hns
 have cSm := fun (W' : World) (hb : Below w.heap.size w W') => stateMay_any W H Am Ac Ap As nm cm nc cc np cp ns cS mask cs ms sts W' (hm.below hb) (hc.below hb) (hp.below hb) (hst.below hb) (by omega) (by omega) (by omega)
 have CSO := Lib.hid cSo
 have CSM := Lib.hid cSm
 have HB0 := Lib.hid hb0
 have HS := Lib.hid hs
 have HSH := Lib.hid (And.intro hm (And.intro hc hp))
 clear cSo cSm hb0 hs hm hc hp hst kb0 kb1 hAm hAc hAp hts
 go_enter Tryd.func3, Tryd.ntmps3
 go_wp2_with fail
 generalize (w.alloc (.cells #[.int .i64 W, .int .i64 H, .slice Am nm cm, .slice Ac nc cc, .slice Ap np cp, .slice As ns cS] 29)).alloc (.cells #[.int .i64 a.1, .int .i64 a.2.1, .int .i64 a.2.2] 31) = w0 at a0 a1 a2 a3 a4 a5 l0 l1 l2 HB0 ⊢
 refine rg_chn2 (fin := ?z2) [1, 3] [[true, false, true, false, false, false, false, false, false, false, false], [false, false, true, false, false, false, false, false, false, false, false], [false, false, false, false, true, true, true, true, true, true, true]] [[0], [1, 2, 0]] [[], [4, 5, 6, 7, 8, 9, 10]] (fun x => [.agg #[.int .i64 W, .int .i64 H, .slice Am nm cm, .slice Ac nc cc, .slice Ap np cp, .slice As ns cS], (x 0), .agg #[.int .i64 a.1, .int .i64 a.2.1, .int .i64 a.2.2], (x 1), (x 1), (prjP 0 (x 1)), (prjP 1 (x 1)), (prjP 2 (x 1)), (prjP 0 (x 1)), (prjP 1 (x 1)), (prjP 2 (x 1))]) (fun jS x WN => match jS with | 0 => WN.cell? ⟨w.heap.size, 0, none⟩ = some (.int .i64 W) ∧ WN.cell? ⟨w.heap.size, 1, none⟩ = some (.int .i64 H) ∧ WN.cell? ⟨w.heap.size, 2, none⟩ = some (.slice Am nm cm) ∧ WN.cell? ⟨w.heap.size, 3, none⟩ = some (.slice Ac nc cc) ∧ WN.cell? ⟨w.heap.size, 4, none⟩ = some (.slice Ap np cp) ∧ WN.cell? ⟨w.heap.size, 5, none⟩ = some (.slice As ns cS) ∧ WN.cell? ⟨w.heap.size + 1, 0, none⟩ = some (.int .i64 a.1) ∧ WN.cell? ⟨w.heap.size + 1, 1, none⟩ = some (.int .i64 a.2.1) ∧ WN.cell? ⟨w.heap.size + 1, 2, none⟩ = some (.int .i64 a.2.2) ∧ Below w.heap.size w WN | 1 => WN.cell? ⟨w.heap.size, 0, none⟩ = some (.int .i64 W) ∧ WN.cell? ⟨w.heap.size, 1, none⟩ = some (.int .i64 H) ∧ WN.cell? ⟨w.heap.size, 2, none⟩ = some (.slice Am nm cm) ∧ WN.cell? ⟨w.heap.size, 3, none⟩ = some (.slice Ac nc cc) ∧ WN.cell? ⟨w.heap.size, 4, none⟩ = some (.slice Ap np cp) ∧ WN.cell? ⟨w.heap.size, 5, none⟩ = some (.slice As ns cS) ∧ WN.cell? ⟨w.heap.size + 1, 0, none⟩ = some (.int .i64 a.1) ∧ WN.cell? ⟨w.heap.size + 1, 1, none⟩ = some (.int .i64 a.2.1) ∧ WN.cell? ⟨w.heap.size + 1, 2, none⟩ = some (.int .i64 a.2.2) ∧ Below w.heap.size w WN ∧ ∃ Bm cm2 Bc cc2 Bp cp2 Bs cS2, Hid (x 0 = .agg #[.int .i64 W, .int .i64 H, .slice Bm nm cm2, .slice Bc nc cc2, .slice Bp np cp2, .slice Bs ns cS2]) ∧ Hid (Rd WN 1 Bm nm (vis mask) ∧ Rd WN 5 Bc nc (ccs cs) ∧ Rd WN 6 Bp np (mcs ms) ∧ StkR WN Bs ns sts) | _ => WN.cell? ⟨w.heap.size, 0, none⟩ = some (.int .i64 W) ∧ WN.cell? ⟨w.heap.size, 1, none⟩ = some (.int .i64 H) ∧ WN.cell? ⟨w.heap.size, 2, none⟩ = some (.slice Am nm cm) ∧ WN.cell? ⟨w.heap.size, 3, none⟩ = some (.slice Ac nc cc) ∧ WN.cell? ⟨w.heap.size, 4, none⟩ = some (.slice Ap np cp) ∧ WN.cell? ⟨w.heap.size, 5, none⟩ = some (.slice As ns cS) ∧ WN.cell? ⟨w.heap.size + 1, 0, none⟩ = some (.int .i64 a.1) ∧ WN.cell? ⟨w.heap.size + 1, 1, none⟩ = some (.int .i64 a.2.1) ∧ WN.cell? ⟨w.heap.size + 1, 2, none⟩ = some (.int .i64 a.2.2) ∧ Below w.heap.size w WN ∧ ∃ (o p : Value) (n : Int), Hid (x 1 = .tuple #[o, p, .int .i64 n]) ∧ Hid (CutPunchesRes W H a mask cs ms sts w.heap.size (o) (p) (n) WN)) ?hf (by kernel_rfl) (by kernel_rfl) (fun _ => rfl) (by kernel_rfl) (by kernel_rfl) ?hv ⟨a0, a1, a2, a3, a4, a5, l0, l1, l2, HB0.out.drew⟩ ?hA ?hT (fun x WN hst => ?he)
 case hf => intro x; simp only [putOps, Act.put, List.setIfInBounds_toArray, List.set_cons_succ, List.set_cons_zero]; exact rfl
 case hv =>
  intro x jS t v h
  cases jS with
  | zero =>
   cases h
   iterate 11 (refine ⟨?_, ?_⟩; · first | exact rfl | exact trivial)
   exact trivial
  | succ jS =>
   cases jS with
   | zero =>
    cases h
    iterate 11 (refine ⟨?_, ?_⟩; · first | exact rfl | exact trivial)
    exact trivial
   | succ jS =>
    simp at h
 case hA =>
  intro jS x WN hj hst
  have hj : jS ≤ 2 := hj
  rcases (show jS = 0 ∨ jS = 1 ∨ jS = 2 by omega) with rfl | rfl | rfl
  ·have HST := Lib.hid hst
   obtain ⟨a0, a1, a2, a3, a4, a5, l0, l1, l2, hbl⟩ := hst
   iterate 2 refine ⟨?_, fun K hK => ?_⟩
   ·trivial
   all_goals try (go_simp; exact hK _ HST.out; done)
  ·have HST := Lib.hid hst
   obtain ⟨a0, a1, a2, a3, a4, a5, l0, l1, l2, hbl, Bm, cm2, Bc, cc2, Bp, cp2, Bs, cS2, hx0, hr⟩ := hst
   iterate 1 refine ⟨?_, fun K hK => ?_⟩
   ·trivial
   all_goals try (go_simp; exact hK _ HST.out; done)
  ·have HST := Lib.hid hst
   obtain ⟨a0, a1, a2, a3, a4, a5, l0, l1, l2, hbl, o, p, n, e1, hR⟩ := hst
   iterate 7 refine ⟨?_, fun K hK => ?_⟩
   ·trivial
   ·have hx := e1.out
    rw [hx] at hK HST ⊢
    go_simp
    exact hK _ HST.out
   ·have hx := e1.out
    rw [hx] at hK HST ⊢
    go_simp
    exact hK _ HST.out
   ·have hx := e1.out
    rw [hx] at hK HST ⊢
    go_simp
    exact hK _ HST.out
   ·have hx := e1.out
    rw [hx] at hK HST ⊢
    go_simp
    exact hK _ HST.out
   ·have hx := e1.out
    rw [hx] at hK HST ⊢
    go_simp
    exact hK _ HST.out
   ·have hx := e1.out
    rw [hx] at hK HST ⊢
    go_simp
    exact hK _ HST.out
   ·have hx := e1.out
    rw [hx] at hK HST ⊢
    go_simp
    exact hK _ HST.out
 case hT =>
  intro jS t x WN ht hst o ho K hK
  cases jS with
  | zero =>
   cases ht; cases ho
   obtain ⟨a0, a1, a2, a3, a4, a5, l0, l1, l2, hbl⟩ := hst
   go_simp
   refine (CSO.out WN hbl).mono ?_
   rintro e' wc ⟨Bm, cm2, Bc, cc2, Bp, cp2, Bs, cS2, he, h1, h2, h3, h4, hbc⟩
   subst he
   exact hK _ _ ⟨sd a0 hbc, sd a1 hbc, sd a2 hbc, sd a3 hbc, sd a4 hbc, sd a5 hbc, sd l0 hbc, sd l1 hbc, sd l2 hbc, stay_b hbl hbc, Bm, cm2, Bc, cc2, Bp, cp2, Bs, cS2, Lib.hid rfl, Lib.hid ⟨h1, h2, h3, h4⟩⟩
  | succ jS =>
   cases jS with
   | zero =>
    cases ht; cases ho
    obtain ⟨a0, a1, a2, a3, a4, a5, l0, l1, l2, hbl, Bm, cm2, Bc, cc2, Bp, cp2, Bs, cS2, hx0, hr⟩ := hst
    have hx := hx0.out
    have cP := cutPunch_any W H a Bm Bc Bp Bs nm cm2 nc cc2 np cp2 ns cS2 mask cs ms sts WN (HS.out.below hbl) hr.out.1 hr.out.2.1 hr.out.2.2.1 hr.out.2.2.2 (by omega) (by omega) (by omega)
    rw [hx] at hK ⊢
    have CPx := Lib.hid cP
    clear cP
    go_simp
    refine CPx.out.mono ?_
    rintro e' wc ⟨hbc, ⟨f1, he⟩ | ⟨f1, f2, he⟩ | ⟨f1, f2, o, p, vs, he, ho, hp⟩⟩
    all_goals subst he
    ·exact hK _ _ ⟨sd a0 hbc, sd a1 hbc, sd a2 hbc, sd a3 hbc, sd a4 hbc, sd a5 hbc, sd l0 hbc, sd l1 hbc, sd l2 hbc, stay_b hbl hbc, _, _, _, Lib.hid rfl, Lib.hid (.inl ⟨f1, rfl, rfl, rfl⟩)⟩
    ·exact hK _ _ ⟨sd a0 hbc, sd a1 hbc, sd a2 hbc, sd a3 hbc, sd a4 hbc, sd a5 hbc, sd l0 hbc, sd l1 hbc, sd l2 hbc, stay_b hbl hbc, _, _, _, Lib.hid rfl, Lib.hid (.inr (.inl ⟨f1, f2, rfl, rfl, rfl⟩))⟩
    ·exact hK _ _ ⟨sd a0 hbc, sd a1 hbc, sd a2 hbc, sd a3 hbc, sd a4 hbc, sd a5 hbc, sd l0 hbc, sd l1 hbc, sd l2 hbc, stay_b hbl hbc, _, _, _, Lib.hid rfl, Lib.hid (.inr (.inr ⟨f1, f2, rfl, own_mono ho hbl.size, vs, hp.mono2 hbl.size⟩))⟩
   | succ jS =>
    simp at ht
 case he =>
  obtain ⟨a0, a1, a2, a3, a4, a5, l0, l1, l2, hbl, o, p, n, e1, hR⟩ := hst
  have q1 := e1.out
  obtain ⟨x0, hx0⟩ : ∃ y, y = x 0 := ⟨_, rfl⟩
  rw [← hx0, q1]
  have HBL := Lib.hid hbl
  have HR := hR
  clear hx0 hbl hR e1 q1
  rw [show prjP 0 (.tuple #[o, p, .int .i64 n]) = o from rfl]
  rw [show prjP 1 (.tuple #[o, p, .int .i64 n]) = p from rfl]
  rw [show prjP 2 (.tuple #[o, p, .int .i64 n]) = .int .i64 n from rfl]
  obtain ⟨w2, hw2⟩ : ∃ y, y = WN := ⟨_, rfl⟩
  subst hw2
  rcases HR.out with ⟨f1, g0, g1, g2⟩ | ⟨f1, f2, g0, g1, g2⟩ | ⟨f1, f2, g2, ho, vs, hrr⟩
  ·have F1 := Lib.hid f1
   subst g2
   subst g1 g0
   have cM := fun (W' : World) (hb : Below w.heap.size w W') => CSM.out W' hb
   rw [f1] at cM
   have CM := Lib.hid cM
   clear cM f1
   go_wp2_with (first
    | (go_at_call 7; refine (CM.out _ HBL.out).mono ?_; rintro r w3 ⟨rfl, hb3⟩; have HB3 := Lib.hid (stay_b HBL.out hb3); replace a0 := sd a0 hb3; replace a1 := sd a1 hb3; replace a2 := sd a2 hb3; replace a3 := sd a3 hb3; replace a4 := sd a4 hb3; replace a5 := sd a5 hb3; replace l0 := sd l0 hb3; replace l1 := sd l1 hb3; replace l2 := sd l2 hb3; have HX3 := Lib.hid hb3; clear hb3))
   go_ret
   exact ⟨by first | rfl | simp, HB3.out⟩
  ·have F1 := Lib.hid f1
   have F2 := Lib.hid f2
   clear f2
   subst g2
   subst g1 g0
   have cM := fun (W' : World) (hb : Below w.heap.size w W') => CSM.out W' hb
   rw [f1] at cM
   have CM := Lib.hid cM
   clear cM f1
   have cL := fun (W' : World) => refTri_any a.1 a.2.1 a.2.2 W'
   rw [show triMayB a.1 a.2.1 a.2.2 = false from F2.out] at cL
   have CL := Lib.hid cL
   clear cL
   go_wp2_with (first
    | (go_at_call 7; refine (CM.out _ HBL.out).mono ?_; rintro r w3 ⟨rfl, hb3⟩; have HB3 := Lib.hid (stay_b HBL.out hb3); replace a0 := sd a0 hb3; replace a1 := sd a1 hb3; replace a2 := sd a2 hb3; replace a3 := sd a3 hb3; replace a4 := sd a4 hb3; replace a5 := sd a5 hb3; replace l0 := sd l0 hb3; replace l1 := sd l1 hb3; replace l2 := sd l2 hb3; have HX3 := Lib.hid hb3; clear hb3)
    | (go_at_call 8; refine (CL.out _).mono ?_; rintro r w4 ⟨rfl, hb4⟩; have HB4 := Lib.hid (stay_b HB3.out hb4); replace a0 := sd a0 hb4; replace a1 := sd a1 hb4; replace a2 := sd a2 hb4; replace a3 := sd a3 hb4; replace a4 := sd a4 hb4; replace a5 := sd a5 hb4; replace l0 := sd l0 hb4; replace l1 := sd l1 hb4; replace l2 := sd l2 hb4; have HX4 := Lib.hid hb4; clear hb4))
   go_ret
   exact ⟨by first | rfl | simp, HB4.out⟩
  ·have F1 := Lib.hid f1
   have F2 := Lib.hid f2
   clear f2
   subst g2
   have cM := fun (W' : World) (hb : Below w.heap.size w W') => CSM.out W' hb
   rw [f1] at cM
   have CM := Lib.hid cM
   clear cM f1
   have cL := fun (W' : World) => refTri_any a.1 a.2.1 a.2.2 W'
   rw [show triMayB a.1 a.2.1 a.2.2 = true from F2.out] at cL
   have CL := Lib.hid cL
   clear cL
   have hsp := stateB_iff.1 F1.out
   obtain ⟨Wn, Hn, rfl, rfl, d3, d4, d5⟩ := newB_dimS hsp.sheet
   have hWt : ((Wn : Int)).toNat = Wn := by omega
   rw [hWt] at hrr ho
   have hmp := hsp.maps
   rw [hWt] at hmp
   have hsh : ShM w Wn Hn Am nm mask Ac nc cs := ⟨d3, d4, d5, HSH.out.1, HSH.out.2.1, by omega⟩
   have HSHM := Lib.hid hsh
   have HMP := Lib.hid hmp
   have HRR := Lib.hid hrr
   clear hsp hWt hmp hsh hrr d3 d4 d5
   have HO := Lib.hid ho
   obtain ⟨Ao, co, hvo, _, hco⟩ := own_slice ho
   subst hvo
   clear ho
   have hol := Nat.le_trans (outL_len (gnT a (trisL Wn mask) ms) (trisL Wn mask) (trisL Wn mask).length) HSHM.out.tris_len
   obtain ⟨OO, hOO⟩ : ∃ y, y = outL (gnT a (trisL Wn mask) ms) (trisL Wn mask) (trisL Wn mask).length := ⟨_, rfl⟩
   have HOO := Lib.hid hOO
   rw [← hOO] at HO hol ⊢
   clear hOO
   go_wp2_with (first
    | (go_at_call 7; refine (CM.out _ HBL.out).mono ?_; rintro r w3 ⟨rfl, hb3⟩; have HB3 := Lib.hid (stay_b HBL.out hb3); replace a0 := sd a0 hb3; replace a1 := sd a1 hb3; replace a2 := sd a2 hb3; replace a3 := sd a3 hb3; replace a4 := sd a4 hb3; replace a5 := sd a5 hb3; replace l0 := sd l0 hb3; replace l1 := sd l1 hb3; replace l2 := sd l2 hb3; have HX3 := Lib.hid hb3; clear hb3)
    | (go_at_call 8; refine (CL.out _).mono ?_; rintro r w4 ⟨rfl, hb4⟩; have HB4 := Lib.hid (stay_b HB3.out hb4); replace a0 := sd a0 hb4; replace a1 := sd a1 hb4; replace a2 := sd a2 hb4; replace a3 := sd a3 hb4; replace a4 := sd a4 hb4; replace a5 := sd a5 hb4; replace l0 := sd l0 hb4; replace l1 := sd l1 hb4; replace l2 := sd l2 hb4; have HX4 := Lib.hid hb4; clear hb4)
    | (go_at_call 9; refine (punchOf_any Wn Hn Am Ac Ap As nm cm nc cc np cp ns cS a mask cs ms _ _ (HSHM.out.below HB4.out) (HSH.out.2.2.below HB4.out) HMP.out).mono ?_; rintro r w5 ⟨vo5, x5, vs5, rfl, ho5, hr5, hb5⟩; rw [← HOO.out] at ho5; obtain ⟨A5, c5, hv5, _, _⟩ := own_slice ho5; subst hv5; have HO5 := Lib.hid ho5; have HR5 := Lib.hid hr5; have HB5 := Lib.hid (stay_b HB4.out hb5); have HX5 := Lib.hid hb5; clear ho5 hr5 hb5)
    | (go_at_call 10; refine (sameTris_any Ao A5 OO.length OO.length co c5 OO OO w5 (Rd.of_own (od (own_below (own_below HO.out HX3.out (Nat.le_refl _)) HX4.out (Nat.le_refl _)) HX5.out)) (Rd.of_own HO5.out) (by omega) (by omega)).mono ?_; rintro r w6 ⟨rfl, hb6⟩; have HB6 := Lib.hid (stay_b HB5.out hb6); have HX6 := Lib.hid hb6; clear hb6)
    | (go_at_call 11; refine (samePieces_any _ _ _ _ _ _ vs vs5 w6 ((((HRR.out.below HX3.out).below HX4.out).below HX5.out).below HX6.out) (HR5.out.below HX6.out)).mono ?_; rintro r w7 ⟨rfl, hb7⟩; have HB7 := Lib.hid (stay_b HB6.out hb7); clear hb7))
   go_ret
   exact ⟨by first | rfl | simp, HB7.out⟩
end
end Go.Proofs.YtnndadhkedlohaaDoor
