/- cut.Pieces. The document's CutOf. -/
import Derived.Test.YtnndadhkedlohaaDoorK43
import Derived.Test.YtnndadhkedlohaaDoorK44
import Derived.Test.YtnndadhkedlohaaDoorK45
namespace Go.Proofs.YtnndadhkedlohaaDoor
set_option linter.unusedSimpArgs false
set_option linter.unusedVariables false
section
open Go.RowKit Go.Maps
theorem store_fn (w : World) (fn : Fn) (x y : Array Value) : (store ⟨w.heap.size, 0, none⟩ (.func fn x y)).run Tryd.prog (w.alloc (.cells #[.nilFunc] 80)) = .ok () (w.alloc (.cells #[.func fn x y] 80)) := by
 rw [run_store _ _ _ _ _ rfl]
 simp [stored, go_sem]
theorem fn_cell (w : World) (F : Value) (t : TypeId) : (w.alloc (.cells #[F] t)).cell? ⟨w.heap.size, 0, none⟩ = some F := by
 rw [cell_of_blk (heap_alloc_new w (.cells #[F] t)) 0]
 rfl
theorem goneR_nil (w : World) : GoneR w (.map none) noG := fun W' t hk _ => by
 obtain ⟨l, hl⟩ := kTB.key t hk
 exact Maps.look_nil false kTB.law kTB.ht (zeroBo W') hl
theorem pcs_line (lb qb fb : Nat) (v c : Int) (B xb pb nb kb Wn Hn mn mk : Nat) (vm vc vt va vp vl : Value) (mb : Nat) (L : List T3) (ms : List V6) (fk : E4 → Option Int) (C0 : E4 → Bool) (w : World) (hs : Steps w) (hq : OpnQ w B xb pb nb kb Wn Hn mn mk vm vc vt va vp vl mb L ms fk)
  (h0 : w.cell? ⟨lb, 0, none⟩ = some (.int .i64 v)) (h1 : w.cell? ⟨lb, 1, none⟩ = some (.int .i64 c)) (hp : w.cell? ⟨qb, 0, none⟩ = some (.pointer (some ⟨xb, 0, none⟩))) (hf : w.cell? ⟨fb, 0, none⟩ = some (.func (.func 29) #[] #[.pointer (some ⟨lb, 0, none⟩), .pointer (some ⟨qb, 0, none⟩)]))
  (hL : ∀ t ∈ L, SmT t) (hLl : L.length ≤ 1000) (hso : L.Pairwise triLt) (hM : MapsP L C0 ms) (hl : lineMayB v c = true) :
  Calls Tryd.prog 17 #[.pointer (some ⟨pb, 0, none⟩), .map none, .func (.func 31) #[] #[.pointer (some ⟨fb, 0, none⟩)]] w fun r w' => ∃ x vs, r = .returned x ∧ RowsT w' w.heap.size x (pcsL L (cutC L noG (hdL v c L ms)) noG L.length) vs ∧ Below w.heap.size w w' :=
 pieces_any pb nb kb Wn Hn B 31 vm vc vt (.map none) #[.pointer (some ⟨fb, 0, none⟩)] L mn mk fk (cutC L noG (hdL v c L ms)) noG (hdL v c L ms) w hq.pap hq.own hL hLl hso (cutE_any (fun t ht => (hL t ht).2.2) (hdL_sym v c L ms)) (goneR_nil w)
  (fun W' t i ht hi hn hb => side2_any lb qb fb v c B xb pb nb kb Wn Hn mn mk vm vc vt va vp vl mb L ms fk t (nT t i) W' (hs.below hb) (hq.below hb) (sd h0 hb) (sd h1 hb) (sd hp hb) (sd hf hb) ht (hL t ht).ok hn (hL _ hn).ok hl (fun i hi => (hM.may i hi).2)) side2_enter
set_option maxRecDepth 100000 in
set_option maxHeartbeats 6400000 in
theorem cutPieces_any (W H v c : Int) (Am Ac Ap As : Option Addr) (nm cm nc cc np cp ns cS : Nat) (mask : List Int) (cs : List C5) (ms : List V6) (sts : List Stk) (w : World) (hs : Steps w) (hm : Rd w 1 Am nm (vis mask)) (hc : Rd w 5 Ac nc (ccs cs)) (hp : Rd w 6 Ap np (mcs ms)) (hst : StkR w As ns sts)
    (hnm : nm ≤ 140737488351232) (hnc : nc ≤ 140737488351232) (hnp : np ≤ 140737488351232) :
    Calls Tryd.prog 12 #[.agg #[.int .i64 W, .int .i64 H, .slice Am nm cm, .slice Ac nc cc, .slice Ap np cp, .slice As ns cS], .agg #[.int .i64 v, .int .i64 c]] w fun e w' => Below w.heap.size w w' ∧
      ((stateB W H mask cs ms sts = false ∧ e = .returned (.tuple #[.slice none 0 0, .int .i64 10])) ∨ (stateB W H mask cs ms sts = true ∧ lineMayB v c = false ∧ e = .returned (.tuple #[.slice none 0 0, .int .i64 3])) ∨
       (stateB W H mask cs ms sts = true ∧ lineMayB v c = true ∧ ∃ x vs, e = .returned (.tuple #[x, .int .i64 0]) ∧ RowsT w' w.heap.size x (pcsL (trisL W.toNat mask) (cutC (trisL W.toNat mask) noG (hdL v c (trisL W.toNat mask) ms)) noG (trisL W.toNat mask).length) vs)) := by
  have hmf : ∀ (fn : Fn) (first cap : Array Value) (w : World), (Instr.makeFunc fn first cap).run Tryd.prog w = .ok (.func fn first cap) w := fun _ _ _ _ => rfl
  have hstf := store_fn
  have kb0 := blk_alloc (heap_alloc_new w (.cells #[.int .i64 W, .int .i64 H, .slice Am nm cm, .slice Ac nc cc, .slice Ap np cp, .slice As ns cS] 29)) (.cells #[.int .i64 v, .int .i64 c] 46)
  have kb1 := heap_alloc_new (w.alloc (.cells #[.int .i64 W, .int .i64 H, .slice Am nm cm, .slice Ac nc cc, .slice Ap np cp, .slice As ns cS] 29)) (.cells #[.int .i64 v, .int .i64 c] 46)
  rw [World.size_alloc] at kb1
  have hb0 := ba (below_new w (.cells #[.int .i64 W, .int .i64 H, .slice Am nm cm, .slice Ac nc cc, .slice Ap np cp, .slice As ns cS] 29)) (.cells #[.int .i64 v, .int .i64 c] 46)
  have a0 := cell_of_blk kb0 0
  have a1 := cell_of_blk kb0 1
  have a2 := cell_of_blk kb0 2
  have a3 := cell_of_blk kb0 3
  have a4 := cell_of_blk kb0 4
  have a5 := cell_of_blk kb0 5
  have l0 := cell_of_blk kb1 0
  have l1 := cell_of_blk kb1 1
  simp only [List.getElem?_toArray, List.getElem?_cons_zero, List.getElem?_cons_succ] at a0 a1 a2 a3 a4 a5 l0 l1
  have cO := open_any W H Am Ac Ap As nm cm nc cc np cp ns cS mask cs ms sts _ (hs.below hb0) (hm.below hb0) (hc.below hb0) (hp.below hb0) (hst.below hb0) hnm hnc hnp
  have hsz0 : w.heap.size + 1 < ((w.alloc (.cells #[.int .i64 W, .int .i64 H, .slice Am nm cm, .slice Ac nc cc, .slice Ap np cp, .slice As ns cS] 29)).alloc (.cells #[.int .i64 v, .int .i64 c] 46)).heap.size := blk_lt kb1
  have CO := Lib.hid cO
  have HB0 := Lib.hid hb0
  have HS := Lib.hid hs
  have HSH := Lib.hid (And.intro hm (And.intro hc hnc))
  obtain ⟨SB, hSB⟩ : ∃ b, b = stateB W H mask cs ms sts := ⟨_, rfl⟩
  have HSB := Lib.hid hSB
  clear cO hb0 hs hm hc hp hst kb0 kb1 hSB
  go_enter Tryd.func12, Tryd.ntmps12
  go_wp2_with fail
  generalize (w.alloc (.cells #[.int .i64 W, .int .i64 H, .slice Am nm cm, .slice Ac nc cc, .slice Ap np cp, .slice As ns cS] 29)).alloc (.cells #[.int .i64 v, .int .i64 c] 46) = w0 at a0 a1 a2 a3 a4 a5 l0 l1 CO HB0 hsz0 ⊢
  refine CO.out.mono ?_
  rintro e w1 ⟨hb1, ⟨hF, x, rfl⟩ | ⟨hT, xb, rfl, hO⟩⟩
  · have HBF := Lib.hid (ba (stay_b HB0.out hb1) (.cells #[.pointer x] 52))
    have HF := Lib.hid hF
    clear CO hb1 hF
    go_wp2_with fail
    exact bodyPost_ret (v := .tuple #[.slice none 0 0, .int .i64 10]) (by simp [results, Tryd.results12, go_sem]) rfl ⟨HBF.out, .inl ⟨HF.out, rfl⟩⟩
  · replace l0 := sd l0 hb1
    replace l1 := sd l1 hb1
    have hbw1 := stay_b HB0.out hb1
    have hsz1 : w.heap.size + 1 < w1.heap.size := Nat.lt_of_lt_of_le hsz0 hb1.size
    have kq := heap_alloc_new w1 (.cells #[.pointer (some ⟨xb, 0, none⟩)] 52)
    have hbq := below_new w1 (.cells #[.pointer (some ⟨xb, 0, none⟩)] 52)
    replace l0 := al_c l0 (.cells #[.pointer (some ⟨xb, 0, none⟩)] 52)
    replace l1 := al_c l1 (.cells #[.pointer (some ⟨xb, 0, none⟩)] 52)
    have q0 := cell_of_blk kq 0
    simp only [List.getElem?_toArray, List.getElem?_cons_zero] at q0
    have HBW2 := Lib.hid (ba hbw1 (.cells #[.pointer (some ⟨xb, 0, none⟩)] 52))
    have HOP := Lib.hid hO
    have HT := Lib.hid hT
    have HBQ := Lib.hid hbq
    clear CO hb1 hbw1 hO hT kq hbq a0 a1 a2 a3 a4 a5
    obtain ⟨Bl, hBl⟩ : ∃ b, b = lineMayB v c := ⟨_, rfl⟩
    have cL := fun (W : World) => lineMay_any v c W
    rw [← hBl] at cL
    have CL := Lib.hid cL
    have HBL := Lib.hid hBl
    obtain ⟨Wn, Hn, pb, nb, kb, mn, mb, vm, vc, vt, va, vp, vl, rfl, rfl, d3, d4, d5, hst1, hq1⟩ := HOP.out.q
    have hq2 := hq1.below HBQ.out
    have hsh : ShM w Wn Hn Am nm mask Ac nc cs := ⟨d3, d4, d5, HSH.out.1, HSH.out.2.1, HSH.out.2.2⟩
    have hWt : ((Wn : Int)).toNat = Wn := by omega
    have HW := Lib.hid hWt
    have x0 := hq2.pil.c0
    have HQ2 := Lib.hid hq2
    have HSH2 := Lib.hid hsh
    have HST1 := Lib.hid hst1
    clear hq1 hq2 hsh hWt hst1 d3 d4 d5
    clear cL hBl
    go_wp2_with (first
      | (go_at_call 28; refine (CL.out _).mono ?_; rintro r w3 ⟨rfl, hb3⟩; have hbF := below_new w3 (.cells #[.func (.func 29) #[] #[.pointer (some ⟨w.heap.size + 1, 0, none⟩), .pointer (some ⟨w1.heap.size, 0, none⟩)]] 80); have HB4 := Lib.hid (stay_b hb3 hbF); have HBX := Lib.hid hbF; have l2 := sd l0 (stay_b hb3 hbF); have l3 := sd l1 (stay_b hb3 hbF); have q1 := sd q0 (stay_b hb3 hbF); have x1 := sd x0 (stay_b hb3 hbF); have f1 := fn_cell w3 (.func (.func 29) #[] #[.pointer (some ⟨w.heap.size + 1, 0, none⟩), .pointer (some ⟨w1.heap.size, 0, none⟩)]) 80; have HB3 := Lib.hid (stay_b HBW2.out hb3); have CPF := Lib.hid (fun (hl : lineMayB v c = true) => pcs_line (w.heap.size + 1) w1.heap.size w3.heap.size v c _ xb pb nb kb Wn Hn mn _ vm vc vt va vp vl mb (trisL Wn mask) ms _ _ (w3.alloc (.cells #[.func (.func 29) #[] #[.pointer (some ⟨w.heap.size + 1, 0, none⟩), .pointer (some ⟨w1.heap.size, 0, none⟩)]] 80)) (HS.out.below (stay_b HBW2.out (stay_b hb3 hbF))) (HQ2.out.below (stay_b hb3 hbF)) l2 l3 q1 f1 (fun t ht => HSH2.out.tris_sm ht) HSH2.out.tris_len HSH2.out.tris_sorted HST1.out.maps hl); clear hb3 hbF CL)
      | (go_at_call 17; refine (CPF.out (HBL.out.symm.trans (by simpa using ‹(!Bl) = false›))).mono ?_; rintro r w9 ⟨x9, vs9, rfl, hr9, hb9⟩))
    · have hb : Bl = false := by simpa using ‹(!Bl) = true›
      have HF := Lib.hid (HBL.out.symm.trans hb)
      exact bodyPost_ret (v := .tuple #[.slice none 0 0, .int .i64 3]) (by simp [results, Tryd.results12, go_sem]) rfl ⟨HB3.out, .inr (.inl ⟨HT.out, HF.out, rfl⟩)⟩
    · have hb : Bl = true := by simpa using ‹(!Bl) = false›
      have HLT := Lib.hid (HBL.out.symm.trans hb)
      have HBF := Lib.hid (stay_b (stay_b HBW2.out HB4.out) hb9)
      have hr10 := hr9.mono2 (stay_b HBW2.out HB4.out).size
      exact bodyPost_ret (v := .tuple #[x9, .int .i64 0]) (by simp [results, Tryd.results12, go_sem]) rfl ⟨HBF.out, .inr (.inr ⟨HT.out, HLT.out, x9, vs9, rfl, by rw [HW.out]; exact hr10⟩)⟩
end
section
open Go.RowKit Go.Maps
set_option maxRecDepth 100000 in
set_option maxHeartbeats 12800000 in
theorem cutOf_any (W H : Nat) (Am Ac Ap As : Option Addr) (nm cm nc cc np cp ns cS : Nat) (v c : Int) (mask : List Int) (cs : List C5) (ms : List V6) (C0 : E4 → Bool) (w : World) (hS : ShM w W H Am nm mask Ac nc cs) (hp : Rd w 6 Ap np (mcs ms)) (hM : MapsP (trisL W mask) C0 ms) (hl : lineMayB v c = true) :
  Calls Tryd.prog 14 #[.agg #[.int .i64 W, .int .i64 H, .slice Am nm cm, .slice Ac nc cc, .slice Ap np cp, .slice As ns cS], .agg #[.int .i64 v, .int .i64 c]] w fun r w' => ∃ x vs, r = .returned x ∧ RowsT w' w.heap.size x (pcsL (trisL W mask) (cutC (trisL W mask) noG (hdL v c (trisL W mask) ms)) noG (trisL W mask).length) vs ∧ Below w.heap.size w w' := by
 have hsm : ∀ t ∈ trisL W mask, SmT t := fun t ht => hS.tris_sm ht
 have hnd := sorted_nodup hS.tris_sorted
 have hlen := hS.tris_len
 have hnp : np = ms.length := by have := hp.1; rw [mcs_len] at this; omega
 subst hnp
 have hb0 := below_new w (.cells #[.int .i64 W, .int .i64 H, .slice Am nm cm, .slice Ac nc cc, .slice Ap ms.length cp, .slice As ns cS] 29)
 have kb0 := blk_alloc (heap_alloc_new w (.cells #[.int .i64 W, .int .i64 H, .slice Am nm cm, .slice Ac nc cc, .slice Ap ms.length cp, .slice As ns cS] 29)) (.cells #[.int .i64 v, .int .i64 c] 46)
 have kb1 := heap_alloc_new (w.alloc (.cells #[.int .i64 W, .int .i64 H, .slice Am nm cm, .slice Ac nc cc, .slice Ap ms.length cp, .slice As ns cS] 29)) (.cells #[.int .i64 v, .int .i64 c] 46)
 rw [World.size_alloc] at kb1
 have hbw := ba hb0 (.cells #[.int .i64 v, .int .i64 c] 46)
 have a0 := cell_of_blk kb0 0
 have a1 := cell_of_blk kb0 1
 have a2 := cell_of_blk kb0 2
 have a3 := cell_of_blk kb0 3
 have a4 := cell_of_blk kb0 4
 have l0 := cell_of_blk kb1 0
 have l1 := cell_of_blk kb1 1
 simp only [List.getElem?_toArray, List.getElem?_cons_zero, List.getElem?_cons_succ] at a0 a1 a2 a3 a4 l0 l1
 have hz := blk_lt kb0
 have hz1 := blk_lt kb1
 have cT := trisOf_any W H Am Ac nm cm nc cc mask cs _ (hS.below hbw)
 have cP := fun (gt gs : Nat) (f : List Bool) (z : List Int) (w2 : World) (hb : Below w.heap.size w w2) => piecesOf_any W H Am Ac nm cm nc cc mask cs gt gs f z (cutC (trisL W mask) noG (hdL v c (trisL W mask) ms)) noG w2 (hS.below hb)
 obtain ⟨L, hL⟩ : ∃ L, L = trisL W mask := ⟨_, rfl⟩
 rw [← hL] at cT hsm hnd hlen hM cP ⊢
 have hK4 : ∀ t ∈ L, K4 t := fun t ht => (hsm t ht).2.2
 have hp1 := hp.below hbw
 have hmk := make_ints L.length hlen
 have hmb := make_bools L.length hlen
 have HLEN := Lib.hid hlen
 have CT := Lib.hid cT
 have CP := Lib.hid cP
 have HSM := Lib.hid hsm
 have HND := Lib.hid hnd
 have HK4 := Lib.hid hK4
 have HP1 := Lib.hid hp1
 have HM := Lib.hid hM
 have HL := Lib.hid hl
 clear cT cP hsm hnd hK4 hL hS hp hp1 hM hl kb0 kb1 hb0
 go_enter Tryd.func14, Tryd.ntmps14
 go_wp2_with (go_at_call 22; refine CT.out.mono ?_; rintro r w1 ⟨vT, rfl, ho1, hb1⟩; obtain ⟨Av, cv, hv, _, _⟩ := own_slice ho1; subst hv; have HB1 := Lib.hid hb1; have HO1 := Lib.hid ho1; clear hb1 ho1)
 generalize (w.alloc (.cells #[.int .i64 W, .int .i64 H, .slice Am nm cm, .slice Ac nc cc, .slice Ap ms.length cp, .slice As ns cS] 29)).alloc (.cells #[.int .i64 v, .int .i64 c] 46) = w0 at a0 a1 a2 a3 a4 l0 l1 hz hz1 hbw HB1 HO1 HP1
 have HBW := Lib.hid (stay_b hbw HB1.out)
 have hq0 : w.heap.size < w1.heap.size := Nat.lt_of_lt_of_le hz HB1.out.size
 have hq1 : w.heap.size + 1 < w1.heap.size := Nat.lt_of_lt_of_le hz1 HB1.out.size
 have HP2 := Lib.hid (HP1.out.below HB1.out)
 replace a0 := sd a0 HB1.out
 replace a1 := sd a1 HB1.out
 replace a2 := sd a2 HB1.out
 replace a3 := sd a3 HB1.out
 replace a4 := sd a4 HB1.out
 replace l0 := sd l0 HB1.out
 replace l1 := sd l1 HB1.out
 have hI0 : CoI w1 w1.heap.size (w1.heap.size + 1) (fillG L.length (fun _ => true) false 0) (fillG L.length (sdI v c L ms) 0 0) ((w1.alloc (.cells (bcs (List.replicate L.length false)).toArray 4)).alloc (.cells (Array.replicate L.length (.int .i64 0)) 3)) := by
  refine ⟨ba (below_new _ _) _, ?_, ?_, Nat.le_refl _, Nat.le_succ _⟩
  ·rw [fillG_zero]
   exact blk_alloc (heap_alloc_new w1 _) _
  ·have h := heap_alloc_new (w1.alloc (.cells (bcs (List.replicate L.length false)).toArray 4)) (.cells (Array.replicate L.length (.int .i64 0)) 3)
   rw [World.size_alloc] at h
   rw [fillG_zero]
   unfold IB
   rw [vis_rep]
   exact h
 have HI0 := Lib.hid hI0
 clear hI0 hz hz1 hbw HB1 HP1 hmk hmb CT
 generalize (w1.alloc (.cells (bcs (List.replicate L.length false)).toArray 4)).alloc (.cells (Array.replicate L.length (.int .i64 0)) 3) = wm at HI0 ⊢
 go_loopw [8] (fun x wr => ∃ i : Nat, i ≤ L.length ∧ x = .int .i64 i ∧ Hid (CoI w1 w1.heap.size (w1.heap.size + 1) (fillG L.length (fun _ => true) false i) (fillG L.length (sdI v c L ms) 0 i) wr)) (fun x _ => L.length - (intOf x).toNat)
 case atStart => exact ⟨0, by omega, rfl, HI0⟩
 case round =>
  clear HI0
  obtain ⟨i, hi, rfl, hI⟩ := hrel
  have hbw := hI.out.bel
  replace a0 := sd a0 hbw
  replace a1 := sd a1 hbw
  replace a2 := sd a2 hbw
  replace a3 := sd a3 hbw
  replace a4 := sd a4 hbw
  replace l0 := sd l0 hbw
  replace l1 := sd l1 hbw
  clear hbw
  by_cases hil : i < L.length
  ·have hii : (i : Int) < (L.length : Int) := by omega
   have hi0 : (0 : Int) ≤ (i : Int) := by omega
   obtain ⟨t, ht⟩ : ∃ t, L[i]? = some t := ⟨_, List.getElem?_eq_getElem hil⟩
   have him : i < ms.length := by rw [HM.out.len]; exact hil
   obtain ⟨gv, cpt, curt, hat, _, _, _, _⟩ := own_addr HO1.out (by omega)
   cases hat
   obtain ⟨t0, t1, t2⟩ := own_tri (od HO1.out hI.out.bel) ht
   obtain ⟨b, off, m, hA, hm, hqb, m0, m1, m2, m3, m4, m5⟩ := HP2.out.mp him
   subst hA
   have hqg := (own_lt_of (k := gv) HO1.out rfl).2
   replace m0 := sd m0 hI.out.bel
   replace m1 := sd m1 hI.out.bel
   replace m2 := sd m2 hI.out.bel
   replace m3 := sd m3 hI.out.bel
   replace m4 := sd m4 hI.out.bel
   replace m5 := sd m5 hI.out.bel
   obtain ⟨cM, hty⟩ := HM.out.call HSM.out ht hm
   have hnl : ((ms.length : Int)) = (L.length : Int) := by rw [HM.out.len]
   have hsd : sideOfB v c (atI L ms i).1 (atI L ms i).2.1 (atI L ms i).2.2 = sdI v c L ms i := (side_law v c _ _ _ HL.out hty).symm
   obtain ⟨⟨u1, u2⟩, ⟨u3, u4⟩, u5, u6⟩ := triMayB_bd (show triMayB (atI L ms i).1 (atI L ms i).2.1 (atI L ms i).2.2 = true from hty)
   obtain ⟨_, ⟨u7, u8⟩, _⟩ := lineMayB_bd HL.out
   have cS := fun (W : World) => sideOf_any v c (atI L ms i).1 (atI L ms i).2.1 (atI L ms i).2.2 W u7 u8 u1 u2 u3 u4 u5 u6
   rw [hsd] at cS
   clear u1 u2 u3 u4 u5 u6 u7 u8 hsd hty
   obtain ⟨U, hU⟩ : ∃ U, U = atI L ms i := ⟨_, rfl⟩
   rw [← hU] at cM cS
   obtain ⟨s, hs⟩ : ∃ s, s = sdI v c L ms i := ⟨_, rfl⟩
   rw [← hs] at cS
   have CM := Lib.hid cM
   have CS := Lib.hid cS
   have HS := Lib.hid hs
   clear cM cS hs hU ht hm
   have zb := hI.out.ff.getD (i := i) (by rw [fillG_len]; exact hil)
   have zf := hI.out.ff.fz i
   have zl := blk_lt (show wr.heap[w1.heap.size]? = _ from hI.out.ff)
   have hI2 := hI.out.setB i true
   rw [show (fillG L.length (fun _ => true) false i).set i true = fillG L.length (fun _ => true) false (i + 1) from fillG_set (fun _ => true) false] at hI2
   have HI2 := Lib.hid hI2
   clear hI2
   go_wp2_with fail
   replace l0 := set_far_c (g := w1.heap.size) (j := i) (u := .bool true) l0 hq1
   replace l1 := set_far_c (g := w1.heap.size) (j := i) (u := .bool true) l1 hq1
   replace a4 := set_far_c (g := w1.heap.size) (j := i) (u := .bool true) a4 hq0
   replace m0 := set_far_c (g := w1.heap.size) (j := i) (u := .bool true) m0 hqb
   replace m1 := set_far_c (g := w1.heap.size) (j := i) (u := .bool true) m1 hqb
   replace m2 := set_far_c (g := w1.heap.size) (j := i) (u := .bool true) m2 hqb
   replace m3 := set_far_c (g := w1.heap.size) (j := i) (u := .bool true) m3 hqb
   replace m4 := set_far_c (g := w1.heap.size) (j := i) (u := .bool true) m4 hqb
   replace m5 := set_far_c (g := w1.heap.size) (j := i) (u := .bool true) m5 hqb
   replace t0 := set_far_c (g := w1.heap.size) (j := i) (u := .bool true) t0 hqg
   replace t1 := set_far_c (g := w1.heap.size) (j := i) (u := .bool true) t1 hqg
   replace t2 := set_far_c (g := w1.heap.size) (j := i) (u := .bool true) t2 hqg
   generalize (wr.setCell ⟨w1.heap.size, i, none⟩ (.bool true)) = w2 at l0 l1 a4 m0 m1 m2 m3 m4 m5 t0 t1 t2 HI2 ⊢
   have zz := HI2.out.zz.getD (i := i) (by rw [fillG_len]; exact hil)
   have zg := HI2.out.zz.fz
   have zm := blk_lt (show w2.heap[w1.heap.size + 1]? = _ from HI2.out.zz)
   obtain ⟨zv, hzv⟩ : ∃ y, y = (fillG L.length (sdI v c L ms) 0 i).getD i 0 := ⟨_, rfl⟩
   rw [← hzv] at zz
   clear hzv
   refine rg_chain (fin := ?z1) [15] [14, 13, 0, 1, 2, 12, 7, 11, 6, 10, 4, 5, 8, 9, 3] [true, true, true, true, true, true, true, true, true, true, true, true, true, true, true, false] [false, false, false, false, false, false, false, false, false, false, false, false, false, false, false, false] (fun x => [.slice (some ⟨w1.heap.size + 1, 0, none⟩) L.length L.length, .int .i64 (i : Int), .agg #[.int .i64 v, .int .i64 c], .pointer (some ⟨w.heap.size, 4, none⟩), .slice (some ⟨b, off, none⟩) ms.length cp, .int .i64 (i : Int), .pointer (some ⟨b, off + i * 6, none⟩), .agg #[.int .i64 m.1, .int .i64 m.2.1, .int .i64 m.2.2.1, .int .i64 m.2.2.2.1, .int .i64 m.2.2.2.2.1, .int .i64 m.2.2.2.2.2], .slice (some ⟨gv, 0, none⟩) L.length cv, .int .i64 (i : Int), .pointer (some ⟨gv, i * 3, none⟩), .agg #[.int .i64 t.1, .int .i64 t.2.1, .int .i64 t.2.2], .agg #[.int .i64 U.1, .int .i64 U.2.1, .int .i64 U.2.2], .int .i64 s, .pointer (some ⟨w1.heap.size + 1, i, none⟩), (x 0)]) (fun j _ WN => match j with | 0 => WN.cell? ⟨w.heap.size + 1, 0, none⟩ = some (.int .i64 v) ∧ WN.cell? ⟨w.heap.size + 1, 1, none⟩ = some (.int .i64 c) ∧ WN.cell? ⟨w.heap.size, 4, none⟩ = some (.slice (some ⟨b, off, none⟩) ms.length cp) ∧ WN.cell? ⟨b, off + i * 6, none⟩ = some (.int .i64 m.1) ∧ WN.cell? ⟨b, off + i * 6 + 1, none⟩ = some (.int .i64 m.2.1) ∧ WN.cell? ⟨b, off + i * 6 + 2, none⟩ = some (.int .i64 m.2.2.1) ∧ WN.cell? ⟨b, off + i * 6 + 3, none⟩ = some (.int .i64 m.2.2.2.1) ∧ WN.cell? ⟨b, off + i * 6 + 4, none⟩ = some (.int .i64 m.2.2.2.2.1) ∧ WN.cell? ⟨b, off + i * 6 + 5, none⟩ = some (.int .i64 m.2.2.2.2.2) ∧ WN.cell? ⟨gv, i * 3, none⟩ = some (.int .i64 t.1) ∧ WN.cell? ⟨gv, i * 3 + 1, none⟩ = some (.int .i64 t.2.1) ∧ WN.cell? ⟨gv, i * 3 + 2, none⟩ = some (.int .i64 t.2.2) ∧ Below w2.heap.size w2 WN | _ => ∃ W0 : World, (W0.cell? ⟨w.heap.size + 1, 0, none⟩ = some (.int .i64 v) ∧ W0.cell? ⟨w.heap.size + 1, 1, none⟩ = some (.int .i64 c) ∧ W0.cell? ⟨w.heap.size, 4, none⟩ = some (.slice (some ⟨b, off, none⟩) ms.length cp) ∧ W0.cell? ⟨b, off + i * 6, none⟩ = some (.int .i64 m.1) ∧ W0.cell? ⟨b, off + i * 6 + 1, none⟩ = some (.int .i64 m.2.1) ∧ W0.cell? ⟨b, off + i * 6 + 2, none⟩ = some (.int .i64 m.2.2.1) ∧ W0.cell? ⟨b, off + i * 6 + 3, none⟩ = some (.int .i64 m.2.2.2.1) ∧ W0.cell? ⟨b, off + i * 6 + 4, none⟩ = some (.int .i64 m.2.2.2.2.1) ∧ W0.cell? ⟨b, off + i * 6 + 5, none⟩ = some (.int .i64 m.2.2.2.2.2) ∧ W0.cell? ⟨gv, i * 3, none⟩ = some (.int .i64 t.1) ∧ W0.cell? ⟨gv, i * 3 + 1, none⟩ = some (.int .i64 t.2.1) ∧ W0.cell? ⟨gv, i * 3 + 2, none⟩ = some (.int .i64 t.2.2) ∧ Below w2.heap.size w2 W0) ∧ WN = W0.setCell ⟨w1.heap.size + 1, i, none⟩ (.int .i64 s)) ?hf (by kernel_rfl) (by kernel_rfl) (fun _ => rfl) (by kernel_rfl) ?hv ⟨l0, l1, a4, m0, m1, m2, m3, m4, m5, t0, t1, t2, (Below.refl _ _).drew⟩ (fun x WN hst => ?hs) ?hB ?hT (fun x WN hst => ?he)
   case hf => intro x; simp only [putOps, Act.put, List.setIfInBounds_toArray, List.set_cons_succ, List.set_cons_zero]; exact rfl
   case hv =>
    intro x j t v h; cases j with
    | zero => cases h; rfl
    | succ j => simp at h
   case hs =>
    have HST := Lib.hid hst
    obtain ⟨l0, l1, a4, m0, m1, m2, m3, m4, m5, t0, t1, t2, hbl⟩ := hst
    iterate 15 refine ⟨?_, fun K hK => ?_⟩
    ·trivial
    all_goals try (go_simp; exact hK _ HST.out; done)
    ·go_simp
     refine (CS.out WN).mono ?_
     rintro e' wc ⟨he, hbc⟩
     subst he
     exact hK _ ⟨sd l0 hbc, sd l1 hbc, sd a4 hbc, sd m0 hbc, sd m1 hbc, sd m2 hbc, sd m3 hbc, sd m4 hbc, sd m5 hbc, sd t0 hbc, sd t1 hbc, sd t2 hbc, stay_b hbl hbc⟩
    ·go_simp
     refine (CM.out WN).mono ?_
     rintro e' wc ⟨he, hbc⟩
     subst he
     exact hK _ ⟨sd l0 hbc, sd l1 hbc, sd a4 hbc, sd m0 hbc, sd m1 hbc, sd m2 hbc, sd m3 hbc, sd m4 hbc, sd m5 hbc, sd t0 hbc, sd t1 hbc, sd t2 hbc, stay_b hbl hbc⟩
   case hB => intro j x WN _ _ _; trivial
   case hT =>
    intro j t x WN ht hst o ho K hK
    obtain rfl : j = 0 := by cases j with | zero => rfl | succ j => simp at ht
    cases ht; cases ho
    have HST := Lib.hid hst
    obtain ⟨l0, l1, a4, m0, m1, m2, m3, m4, m5, t0, t1, t2, hbl⟩ := hst
    have zz2 := sd zz hbl
    have zg2 := stay_f zg zm hbl
    have zm2 := Nat.lt_of_lt_of_le zm hbl.size
    go_simp
    exact hK undef _ ⟨_, HST.out, rfl⟩
   case he =>
    obtain ⟨W0, hst, hWN⟩ := hst
    obtain ⟨l0, l1, a4, m0, m1, m2, m3, m4, m5, t0, t1, t2, hbl⟩ := hst
    have hI3 := (HI2.out.below hbl).setI i s
    rw [HS.out, fillG_set (sdI v c L ms) 0, ← HS.out] at hI3
    rw [← hWN] at hI3
    have HI3 := Lib.hid hI3
    clear hI3 hWN hbl
    go_wp2
    go_roundw
    case rel => exact ⟨i + 1, by omega, by go_num, HI3⟩
    case measure => simp [intOf]; omega
  ·obtain rfl : i = L.length := by omega
   have hbF := stay_b HBW.out hI.out.bel
   have cP := CP.out w1.heap.size (w1.heap.size + 1) (fillG L.length (fun _ => true) false L.length) (fillG L.length (sdI v c L ms) 0 L.length) wr hbF hI.out.ff hI.out.zz fillG_len fillG_len (cutI_line HK4.out HND.out _ _ (fun i hi => fillG_at hi false) (fun i hi => fillG_at hi 0)) (fun i t ht => by rw [fillG_at (List.getElem?_eq_some_iff.1 ht).1 false]; rfl)
   have CPF := Lib.hid cP
   have HBF := Lib.hid hbF
   clear cP hbF
   go_wp2_with (go_at_call 27; refine CPF.out.mono ?_; rintro r w9 ⟨x9, vs9, rfl, hr9, hb9⟩)
   go_ret
   exact ⟨_, vs9, rfl, hr9.mono2 HBF.out.size, stay_b HBF.out hb9⟩
end
end Go.Proofs.YtnndadhkedlohaaDoor
