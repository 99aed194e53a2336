/- The document's pointsOf. Printed by gen_pt.py. -/
import Derived.Test.YtoienokpchbglaaDoorPts
import Derived.Test.YtoienokpchbglaaDoorEn
namespace Go.Proofs.YtoienokpchbglaaDoor
set_option linter.unusedSimpArgs false
set_option linter.unusedVariables false
open Go.RowKit Go.Maps

structure PtS (w1 : World) (S : P2 → Prop) (ps : List P2) (m : Nat) (v : Value) (wr : World) : Prop where
 inv : PtI S ps
 own : wr.ownsRow w1.heap.size 49 2 v ps.length (pcs ps)
 len : ps.length ≤ m
 bel : Below w1.heap.size w1 wr
theorem PtS.below {w1 wr w' : World} {S : P2 → Prop} {ps : List P2} {m : Nat} {v : Value} (h : PtS w1 S ps m v wr) (hb : Below wr.heap.size wr w') : PtS w1 S ps m v w' :=
 ⟨h.inv, own_below h.own hb (Nat.le_refl _), h.len, stay_b h.bel hb⟩
theorem PtS.re {w1 wr : World} {S S' : P2 → Prop} {ps : List P2} {m m' : Nat} {v : Value} (h : PtS w1 S ps m v wr) (hs : ∀ p, S p ↔ S' p) (hm : m ≤ m') : PtS w1 S' ps m' v wr :=
 ⟨h.inv.re hs, h.own, Nat.le_trans h.len hm, h.bel⟩
theorem ltP_of_less {p c : P2} {b : Bool} (h : b = lessB p.1 p.2 c.1 c.2) : b = true ↔ ltP p c := by rw [h, lessB_ltP]; simp
theorem eqL_pt (p c : P2) : eqL [(p.1, c.1), (p.2, c.2)] = decide (p = c) := by
 obtain ⟨p1, p2⟩ := p
 obtain ⟨c1, c2⟩ := c
 rw [Bool.eq_iff_iff]
 simp [eqL]
structure ShS (w1 : World) (ps : List P2) (g9 c9 gc : Nat) (t : T3) (j : Nat) (q : List P2) (wq : World) : Prop where
 inv : ShI ps j q
 own : wq.ownsRow w1.heap.size 49 2 (.slice (some ⟨g9, 0, none⟩) (ps.length + 1) c9) (ps.length + 1) (pcs q)
 cor : CoB wq gc t
 bel : Below w1.heap.size w1 wq
 ge : w1.heap.size ≤ g9
theorem ShS.step {w1 wq : World} {ps : List P2} {g9 c9 gc : Nat} {t : T3} {j : Nat} {q : List P2} {p : P2} (h : ShS w1 ps g9 c9 gc t (j + 1) q wq) (hj : j + 1 ≤ ps.length) (hp : q[j]? = some p) (hne : gc ≠ g9) :
  ShS w1 ps g9 c9 gc t j (q.set (j + 1) p) ((wq.setCell ⟨g9, (j + 1) * 2, none⟩ (.int .i64 p.1)).setCell ⟨g9, (j + 1) * 2 + 1, none⟩ (.int .i64 p.2)) :=
 ⟨h.inv.step hj hp, own_ptset h.own (j + 1) p, (h.cor.set hne).set hne, (h.bel.setCell (p := ⟨g9, (j + 1) * 2, none⟩) h.ge _).setCell (p := ⟨g9, (j + 1) * 2 + 1, none⟩) h.ge _, h.ge⟩
theorem ShS.step2 {w1 wq : World} {ps : List P2} {g9 c9 gc : Nat} {t : T3} {j i : Nat} {q : List P2} {p : P2} (h : ShS w1 ps g9 c9 gc t j q wq) (e : j = i + 1) (hj : j ≤ ps.length) (hp : q[i]? = some p) (hne : gc ≠ g9) :
  ShS w1 ps g9 c9 gc t i (q.set j p) ((wq.setCell ⟨g9, j * 2, none⟩ (.int .i64 p.1)).setCell ⟨g9, j * 2 + 1, none⟩ (.int .i64 p.2)) := by
 subst e
 exact h.step hj hp hne
theorem ShS.done {w1 wq : World} {S : P2 → Prop} {ps : List P2} {g9 c9 gc : Nat} {t : T3} {a m : Nat} {q : List P2} {c : P2} (h : ShS w1 ps g9 c9 gc t a q wq) (hi : PtI S ps) (hpa : PosAt ps c a) (hn : ps[a]? ≠ some c) (hm : ps.length ≤ m) (hne : gc ≠ g9) :
  PtS w1 (fun p => S p ∨ p = c) (ps.take a ++ c :: ps.drop a) (m + 1) (.slice (some ⟨g9, 0, none⟩) (ps.length + 1) c9) ((wq.setCell ⟨g9, a * 2, none⟩ (.int .i64 c.1)).setCell ⟨g9, a * 2 + 1, none⟩ (.int .i64 c.2)) ∧
   CoB ((wq.setCell ⟨g9, a * 2, none⟩ (.int .i64 c.1)).setCell ⟨g9, a * 2 + 1, none⟩ (.int .i64 c.2)) gc t := by
 have hle := hpa.le
 have hl : (ps.take a ++ c :: ps.drop a).length = ps.length + 1 := by simp; omega
 have h1 := own_ptset h.own a c
 rw [h.inv.done hpa.le c] at h1
 refine ⟨⟨PosAt.new hi hpa hn, by rw [hl]; exact h1, by omega, (h.bel.setCell (p := ⟨g9, a * 2, none⟩) h.ge _).setCell (p := ⟨g9, a * 2 + 1, none⟩) h.ge _⟩, (h.cor.set hne).set hne⟩
set_option maxRecDepth 100000 in
set_option maxHeartbeats 12800000 in
theorem pointsOf_any (W H : Nat) (Am Ac : Option Addr) (nm cm nc cc : Nat) (mask : List Int) (cs : List C5) (w : World) (hS : ShM w W H Am nm mask Ac nc cs) :
  Calls Tryd.prog 44 #[shV W H Am nm cm Ac nc cc] w fun r w' => ∃ v ps, r = .returned v ∧ PtI (fun p => p ∈ cornersA (trisL W mask)) ps ∧ ps.length ≤ 3000 ∧ w'.ownsRow w.heap.size 49 2 v ps.length (pcs ps) ∧ Below w.heap.size w w' := by
 have hsm : ∀ t ∈ trisL W mask, SmT t := fun t ht => hS.tris_sm ht
 have hlen := hS.tris_len
 have hbw : Below w.heap.size w (w.alloc (.cells #[.int .i64 W, .int .i64 H, .slice Am nm cm, .slice Ac nc cc] 25)) := below_new _ _
 have kb0 := heap_alloc_new w (.cells #[.int .i64 W, .int .i64 H, .slice Am nm cm, .slice Ac nc cc] 25)
 have a0 := cell_of_blk kb0 0
 have a1 := cell_of_blk kb0 1
 have a2 := cell_of_blk kb0 2
 have a3 := cell_of_blk kb0 3
 simp only [List.getElem?_toArray, List.getElem?_cons_zero, List.getElem?_cons_succ] at a0 a1 a2 a3
 have cT := trisOf_any W H Am Ac nm cm nc cc mask cs _ (hS.below hbw)
 have hz : w.heap.size < (w.alloc (.cells #[.int .i64 W, .int .i64 H, .slice Am nm cm, .slice Ac nc cc] 25)).heap.size := by simp
 obtain ⟨L, hL⟩ : ∃ L, L = trisL W mask := ⟨_, rfl⟩
 rw [← hL] at cT hsm hlen ⊢
 have CT := Lib.hid cT
 have HSM := Lib.hid hsm
 clear cT hsm hL hS kb0
 go_enter Tryd.func44, Tryd.ntmps44
 go_wp2_with (go_at_call 14; refine CT.out.mono ?_; rintro r w1 ⟨v, rfl, ho1, hb1⟩; obtain ⟨Av, cv, hv, _, _⟩ := own_slice ho1; subst hv; have HB1 := Lib.hid hb1; have HO1 := Lib.hid ho1; clear hb1 ho1)
 have hbw1 : Below w.heap.size w w1 := stay_b hbw HB1.out
 have HBW := Lib.hid hbw1
 clear a0 a1 a2 a3 CT hbw hbw1 HB1
 go_loopw [4, 5] (fun v x wr => ∃ (i : Nat) (ps : List P2), i ≤ L.length ∧ x = .int .i64 i ∧ Hid (PtS w1 (Crn L i 0) ps (3 * i) v wr)) (fun _ x _ => L.length - (intOf x).toNat)
 case atStart => exact ⟨0, [], by omega, rfl, Lib.hid ⟨⟨by simp, fun p => by simp [Crn.none]⟩, World.ownsRow_nil _ _ _ _, by simp, Below.refl _ _⟩⟩
 case round =>
  obtain ⟨i, ps, hi, rfl, hP⟩ := hrel
  obtain ⟨Ap, cp, hpv, _, _⟩ := own_slice hP.out.own
  subst hpv
  by_cases hil : i < L.length
  ·have hii : (i : Int) < (L.length : Int) := by omega
   obtain ⟨t, ht⟩ : ∃ t, L[i]? = some t := ⟨_, List.getElem?_eq_getElem hil⟩
   obtain ⟨gt, cpt, curt, hat, _, _, _, _⟩ := own_addr HO1.out (by omega)
   cases hat
   obtain ⟨t0, t1, t2⟩ := own_tri (own_below HO1.out hP.out.bel (Nat.le_refl _)) ht
   have hts := HSM.out t (List.mem_of_getElem? ht)
   have cE := cornersOf_new t.1 t.2.1 t.2.2 wr (by have := hts.1; omega) (by have := hts.1; omega) (by have := hts.2.1; omega) (by have := hts.2.1; omega) hts.2.2.1 hts.2.2.2
   have CE := Lib.hid cE
   have HT := Lib.hid ht
   clear cE ht hts
   go_wp2_with (go_at_call 46; refine CE.out.mono ?_; rintro r w2 ⟨⟨gc, rfl, hgc, hkc⟩, hb2⟩)
   have hCo : CoB w2 gc t := hkc
   have hoff : (Value.slice Ap ps.length cp).ownBlock ≠ some gc := by
    intro e
    have := (hP.out.own.lt gc e).2
    omega
   have hP2 := hP.out.below hb2
   have HP2 := Lib.hid (hP2.re (m' := 3 * i + 0) (fun _ => Iff.rfl) (by omega))
   have HCo := Lib.hid hCo
   clear hkc hCo hP2 hP t0 t1 t2 CE hgc hb2
   go_loopw [4, 7] (fun v x wz => ∃ (k : Nat) (ps : List P2), k ≤ 3 ∧ x = .int .i64 k ∧ v.ownBlock ≠ some gc ∧ Hid (CoB wz gc t) ∧ Hid (PtS w1 (Crn L i k) ps (3 * i + k) v wz)) (fun _ x _ => 3 - (intOf x).toNat)
   case atStart => exact ⟨0, ps, by omega, rfl, hoff, HCo, HP2⟩
   case round =>
    clear HP2 HCo hoff
    obtain ⟨k, ps, hk, rfl, hoff, hC, hP⟩ := hrel
    obtain ⟨Ap, cp, hpv, _, _⟩ := own_slice hP.out.own
    subst hpv
    by_cases hk3 : k < 3
    ·have hki : (k : Int) < 3 := by omega
     have hstep := fun p => Crn.step (l := L) (i := i) HT.out hk3 p
     obtain ⟨y0, y1⟩ := hC.out.at_ hk3
     have hplen := hP.out.len
     have hold := fun (a : Nat) (c : P2) (h : ps[a]? = some c) => PosAt.old hP.out.inv h
     obtain ⟨c, hc⟩ : ∃ c, c = crT t k := ⟨_, rfl⟩
     rw [← hc] at y0 y1 hstep
     have HSTEP := Lib.hid hstep
     have HOLD := Lib.hid hold
     have HCC := Lib.hid hc
     clear hstep hold hc
     go_wp2_with fail
     obtain ⟨wz, hwz⟩ : ∃ x, x = wr := ⟨_, rfl⟩
     subst hwz
     go_loopw [8] (fun x wy => ∃ a : Nat, a ≤ ps.length ∧ x = .int .i64 a ∧ Hid (∀ (j : Nat) p, j < a → ps[j]? = some p → ltP p c) ∧ Hid (Below wz.heap.size wz wy)) (fun x _ => ps.length - (intOf x).toNat)
     case atStart => exact ⟨0, by omega, rfl, Lib.hid (fun j p h => by omega), Lib.hid (Below.refl _ _)⟩
     case round =>
      obtain ⟨a, ha, rfl, hlt, hby⟩ := hrel
      have y0 := stay_c y0 hby.out (Nat.le_refl _)
      have y1 := stay_c y1 hby.out (Nat.le_refl _)
      by_cases han : a < ps.length
      ·have hai : (a : Int) < (ps.length : Int) := by omega
       obtain ⟨p, hp⟩ : ∃ p, ps[a]? = some p := ⟨_, List.getElem?_eq_getElem han⟩
       obtain ⟨gp, cpp, curp, hav, _, _, hge, _⟩ := own_addr hP.out.own (by omega)
       cases hav
       obtain ⟨p0, p1⟩ := own_pt (own_below hP.out.own hby.out (Nat.le_refl _)) hp
       have cL := fun (w3 : World) => less_any p.1 p.2 c.1 c.2 w3
       obtain ⟨B, hB⟩ : ∃ B, B = lessB p.1 p.2 c.1 c.2 := ⟨_, rfl⟩
       rw [← hB] at cL
       have CL := Lib.hid cL
       have HB := Lib.hid (ltP_of_less hB)
       have HPA := Lib.hid hp
       clear cL hB hp
       go_upto_region 15 with fail
       cases B with
       | true =>
        refine wp_region_inv (fun Lq aq WN => ∃ s : Nat → Value, aq = { tmps := #[shV W H Am nm cm Ac nc cc, .pointer (some ⟨w.heap.size, 0, none⟩), .slice none 0 0, .slice (some ⟨gt, 0, none⟩) L.length cv, .slice (some ⟨gp, 0, none⟩) ps.length cp, .int .i64 (i : Int), .slice (some ⟨gc, 0, none⟩) 3 3, .int .i64 (k : Int), .int .i64 (a : Int), u9, .agg #[.int .i64 W, .int .i64 H, .slice Am nm cm, .slice Ac nc cc], .slice (some ⟨gt, 0, none⟩) L.length cv, .int .i64 (i : Int), .slice (some ⟨gt, 0, none⟩) L.length cv, .int .i64 (L.length : Int), .bool true, u16, u17, .slice (some ⟨gt, 0, none⟩) L.length cv, .int .i64 (i : Int), .pointer (some ⟨gt, i * 3, none⟩), .agg #[.int .i64 t.1, .int .i64 t.2.1, .int .i64 t.2.2], .slice (some ⟨gc, 0, none⟩) 3 3, .int .i64 (k : Int), .bool true, u25, u26, (s 0), (s 1), (s 2), (s 3), (s 4), (s 5), (s 6), (s 7), (s 8), (s 9), (s 10), (s 11), (s 12), (s 13), (s 14), u42, u43, u44, u45, u46, u47, u48, u49, u50, u51, u52, u53, u54, u55, u56, u57, u58, u59, u60, u61, u62, u63, u64, u65, u66, u67, u68, u69, u70, u71, u72, u73, u74, u75, u76, u77, u78, u79, u80, u81, u82, u83, u84, u85, u86, u87, u88, undef], defers := [] } ∧ Sv 15 [some (.int .i64 (a : Int)), some (.slice (some ⟨gp, 0, none⟩) ps.length cp), some (.int .i64 (ps.length : Int)), some (.bool true), some (.bool true), some (.slice (some ⟨gp, 0, none⟩) ps.length cp), some (.int .i64 (a : Int)), some (.pointer (some ⟨gp, a * 2, none⟩)), some (.agg #[.int .i64 p.1, .int .i64 p.2]), some (.slice (some ⟨gc, 0, none⟩) 3 3), some (.int .i64 (k : Int)), some (.pointer (some ⟨gc, k * 2, none⟩)), some (.agg #[.int .i64 c.1, .int .i64 c.2]), some (.bool true), some (.bool true)] Lq s ∧ (WN.cell? ⟨gp, a * 2, none⟩ = some (.int .i64 p.1) ∧ WN.cell? ⟨gp, a * 2 + 1, none⟩ = some (.int .i64 p.2) ∧ WN.cell? ⟨gc, k * 2, none⟩ = some (.int .i64 c.1) ∧ WN.cell? ⟨gc, k * 2 + 1, none⟩ = some (.int .i64 c.2) ∧ Below wr.heap.size wr WN)) (by kernel_rfl) ?_ ?_ ?_
        ·exact ⟨listF [u27, u28, u29, u30, u31, u32, u33, u34, u35, u36, u37, u38, u39, u40, u41], rfl, Sv.start 15 _ _, ⟨p0, p1, y0, y1, (Below.refl _ _).drew⟩⟩
        ·intro Lq aq WN i0 hI hr
         obtain ⟨s, rfl, hv, hst⟩ := hI
         have hi0 : i0 < 15 := ready_lt hr
         have HV := Lib.hid hv
         have HST := Lib.hid hst
         clear hv hst
         have hii : i0 = 0 ∨ i0 = 1 ∨ i0 = 2 ∨ i0 = 3 ∨ i0 = 4 ∨ i0 = 5 ∨ i0 = 6 ∨ i0 = 7 ∨ i0 = 8 ∨ i0 = 9 ∨ i0 = 10 ∨ i0 = 11 ∨ i0 = 12 ∨ i0 = 13 ∨ i0 = 14 := by omega
         clear hi0
         rcases hii with rfl | rfl | rfl | rfl | rfl | rfl | rfl | rfl | rfl | rfl | rfl | rfl | rfl | rfl | rfl
         ·clear hr
          refine wpOp_step rfl (fun K hK => ?_)
          go_simp
          refine hK _ _ ?_
          exact ⟨upd s 0 (.int .i64 (a : Int)), rfl, Sv.put HV.out (fun u hu => by cases hu; rfl), HST.out⟩
         ·clear hr
          refine wpOp_step rfl (fun K hK => ?_)
          go_simp
          refine hK _ _ ?_
          exact ⟨upd s 1 (.slice (some ⟨gp, 0, none⟩) ps.length cp), rfl, Sv.put HV.out (fun u hu => by cases hu; rfl), HST.out⟩
         ·have d1 := ready_dep hr (k := 1) (by kernel_rfl)
          clear hr
          have e1 : s 1 = .slice (some ⟨gp, 0, none⟩) ps.length cp := HV.out.v d1 rfl
          refine wpOp_step rfl (fun K hK => ?_)
          go_simp
          refine hK _ _ ?_
          exact ⟨upd (upd s 1 (.slice (some ⟨gp, 0, none⟩) ps.length cp)) 2 (.int .i64 (ps.length : Int)), rfl, Sv.put (Sv.re (j := 1) (v := .slice (some ⟨gp, 0, none⟩) ps.length cp) HV.out e1) (fun u hu => by cases hu; rfl), HST.out⟩
         ·have d0 := ready_dep hr (k := 0) (by kernel_rfl)
          have d2 := ready_dep hr (k := 2) (by kernel_rfl)
          clear hr
          have e0 : s 0 = .int .i64 (a : Int) := HV.out.v d0 rfl
          have e2 : s 2 = .int .i64 (ps.length : Int) := HV.out.v d2 rfl
          refine wpOp_step rfl (fun K hK => ?_)
          go_simp
          refine hK _ _ ?_
          exact ⟨upd (upd (upd s 0 (.int .i64 (a : Int))) 2 (.int .i64 (ps.length : Int))) 3 (.bool true), rfl, Sv.put (Sv.re (j := 2) (v := .int .i64 (ps.length : Int)) (Sv.re (j := 0) (v := .int .i64 (a : Int)) HV.out e0) e2) (fun u hu => by cases hu; rfl), HST.out⟩
         ·have d3 := ready_dep hr (k := 3) (by kernel_rfl)
          clear hr
          have e3 : s 3 = .bool true := HV.out.v d3 rfl
          refine wpOp_step rfl (fun K hK => ?_)
          go_simp
          refine hK _ _ ?_
          exact ⟨upd (upd s 3 (.bool true)) 4 (.bool true), rfl, Sv.put (Sv.re (j := 3) (v := .bool true) HV.out e3) (fun u hu => by cases hu; rfl), HST.out⟩
         ·have d4 := ready_dep hr (k := 4) (by kernel_rfl)
          clear hr
          have e4 : s 4 = .bool true := HV.out.v d4 rfl
          refine wpOp_step rfl (fun K hK => ?_)
          go_simp
          refine hK _ _ ?_
          exact ⟨upd (upd s 4 (.bool true)) 5 (.slice (some ⟨gp, 0, none⟩) ps.length cp), rfl, Sv.put (Sv.re (j := 4) (v := .bool true) HV.out e4) (fun u hu => by cases hu; rfl), HST.out⟩
         ·have d4 := ready_dep hr (k := 4) (by kernel_rfl)
          clear hr
          have e4 : s 4 = .bool true := HV.out.v d4 rfl
          refine wpOp_step rfl (fun K hK => ?_)
          go_simp
          refine hK _ _ ?_
          exact ⟨upd (upd s 4 (.bool true)) 6 (.int .i64 (a : Int)), rfl, Sv.put (Sv.re (j := 4) (v := .bool true) HV.out e4) (fun u hu => by cases hu; rfl), HST.out⟩
         ·have d4 := ready_dep hr (k := 4) (by kernel_rfl)
          have d5 := ready_dep hr (k := 5) (by kernel_rfl)
          have d6 := ready_dep hr (k := 6) (by kernel_rfl)
          clear hr
          have e4 : s 4 = .bool true := HV.out.v d4 rfl
          have e5 : s 5 = .slice (some ⟨gp, 0, none⟩) ps.length cp := HV.out.v d5 rfl
          have e6 : s 6 = .int .i64 (a : Int) := HV.out.v d6 rfl
          refine wpOp_step rfl (fun K hK => ?_)
          go_simp
          refine hK _ _ ?_
          exact ⟨upd (upd (upd (upd s 4 (.bool true)) 5 (.slice (some ⟨gp, 0, none⟩) ps.length cp)) 6 (.int .i64 (a : Int))) 7 (.pointer (some ⟨gp, a * 2, none⟩)), rfl, Sv.put (Sv.re (j := 6) (v := .int .i64 (a : Int)) (Sv.re (j := 5) (v := .slice (some ⟨gp, 0, none⟩) ps.length cp) (Sv.re (j := 4) (v := .bool true) HV.out e4) e5) e6) (fun u hu => by cases hu; rfl), HST.out⟩
         ·have d4 := ready_dep hr (k := 4) (by kernel_rfl)
          have d7 := ready_dep hr (k := 7) (by kernel_rfl)
          clear hr
          have e4 : s 4 = .bool true := HV.out.v d4 rfl
          have e7 : s 7 = .pointer (some ⟨gp, a * 2, none⟩) := HV.out.v d7 rfl
          obtain ⟨q0, q1, q2, q3, hbl⟩ := HST.out
          refine wpOp_step rfl (fun K hK => ?_)
          go_simp
          refine hK _ _ ?_
          exact ⟨upd (upd (upd s 4 (.bool true)) 7 (.pointer (some ⟨gp, a * 2, none⟩))) 8 (.agg #[.int .i64 p.1, .int .i64 p.2]), rfl, Sv.put (Sv.re (j := 7) (v := .pointer (some ⟨gp, a * 2, none⟩)) (Sv.re (j := 4) (v := .bool true) HV.out e4) e7) (fun u hu => by cases hu; rfl), HST.out⟩
         ·have d4 := ready_dep hr (k := 4) (by kernel_rfl)
          clear hr
          have e4 : s 4 = .bool true := HV.out.v d4 rfl
          refine wpOp_step rfl (fun K hK => ?_)
          go_simp
          refine hK _ _ ?_
          exact ⟨upd (upd s 4 (.bool true)) 9 (.slice (some ⟨gc, 0, none⟩) 3 3), rfl, Sv.put (Sv.re (j := 4) (v := .bool true) HV.out e4) (fun u hu => by cases hu; rfl), HST.out⟩
         ·have d4 := ready_dep hr (k := 4) (by kernel_rfl)
          clear hr
          have e4 : s 4 = .bool true := HV.out.v d4 rfl
          refine wpOp_step rfl (fun K hK => ?_)
          go_simp
          refine hK _ _ ?_
          exact ⟨upd (upd s 4 (.bool true)) 10 (.int .i64 (k : Int)), rfl, Sv.put (Sv.re (j := 4) (v := .bool true) HV.out e4) (fun u hu => by cases hu; rfl), HST.out⟩
         ·have d4 := ready_dep hr (k := 4) (by kernel_rfl)
          have d9 := ready_dep hr (k := 9) (by kernel_rfl)
          have d10 := ready_dep hr (k := 10) (by kernel_rfl)
          clear hr
          have e4 : s 4 = .bool true := HV.out.v d4 rfl
          have e9 : s 9 = .slice (some ⟨gc, 0, none⟩) 3 3 := HV.out.v d9 rfl
          have e10 : s 10 = .int .i64 (k : Int) := HV.out.v d10 rfl
          refine wpOp_step rfl (fun K hK => ?_)
          go_simp
          refine hK _ _ ?_
          exact ⟨upd (upd (upd (upd s 4 (.bool true)) 9 (.slice (some ⟨gc, 0, none⟩) 3 3)) 10 (.int .i64 (k : Int))) 11 (.pointer (some ⟨gc, k * 2, none⟩)), rfl, Sv.put (Sv.re (j := 10) (v := .int .i64 (k : Int)) (Sv.re (j := 9) (v := .slice (some ⟨gc, 0, none⟩) 3 3) (Sv.re (j := 4) (v := .bool true) HV.out e4) e9) e10) (fun u hu => by cases hu; rfl), HST.out⟩
         ·have d4 := ready_dep hr (k := 4) (by kernel_rfl)
          have d11 := ready_dep hr (k := 11) (by kernel_rfl)
          clear hr
          have e4 : s 4 = .bool true := HV.out.v d4 rfl
          have e11 : s 11 = .pointer (some ⟨gc, k * 2, none⟩) := HV.out.v d11 rfl
          obtain ⟨q0, q1, q2, q3, hbl⟩ := HST.out
          refine wpOp_step rfl (fun K hK => ?_)
          go_simp
          refine hK _ _ ?_
          exact ⟨upd (upd (upd s 4 (.bool true)) 11 (.pointer (some ⟨gc, k * 2, none⟩))) 12 (.agg #[.int .i64 c.1, .int .i64 c.2]), rfl, Sv.put (Sv.re (j := 11) (v := .pointer (some ⟨gc, k * 2, none⟩)) (Sv.re (j := 4) (v := .bool true) HV.out e4) e11) (fun u hu => by cases hu; rfl), HST.out⟩
         ·have d4 := ready_dep hr (k := 4) (by kernel_rfl)
          have d8 := ready_dep hr (k := 8) (by kernel_rfl)
          have d12 := ready_dep hr (k := 12) (by kernel_rfl)
          clear hr
          have e4 : s 4 = .bool true := HV.out.v d4 rfl
          have e8 : s 8 = .agg #[.int .i64 p.1, .int .i64 p.2] := HV.out.v d8 rfl
          have e12 : s 12 = .agg #[.int .i64 c.1, .int .i64 c.2] := HV.out.v d12 rfl
          obtain ⟨q0, q1, q2, q3, hbl⟩ := HST.out
          refine wpOp_step rfl (fun K hK => ?_)
          go_simp
          refine (CL.out _).mono ?_
          rintro e' wc ⟨he, hbc⟩
          subst he
          refine hK _ _ ?_
          exact ⟨upd (upd (upd (upd s 4 (.bool true)) 8 (.agg #[.int .i64 p.1, .int .i64 p.2])) 12 (.agg #[.int .i64 c.1, .int .i64 c.2])) 13 (.bool true), rfl, Sv.put (Sv.re (j := 12) (v := .agg #[.int .i64 c.1, .int .i64 c.2]) (Sv.re (j := 8) (v := .agg #[.int .i64 p.1, .int .i64 p.2]) (Sv.re (j := 4) (v := .bool true) HV.out e4) e8) e12) (fun u hu => by cases hu; rfl), ⟨stay_c q0 hbc (Nat.le_refl _), stay_c q1 hbc (Nat.le_refl _), stay_c q2 hbc (Nat.le_refl _), stay_c q3 hbc (Nat.le_refl _), stay_b hbl hbc⟩⟩
         ·have d4 := ready_dep hr (k := 4) (by kernel_rfl)
          have d13 := ready_dep hr (k := 13) (by kernel_rfl)
          clear hr
          have e4 : s 4 = .bool true := HV.out.v d4 rfl
          have e13 : s 13 = .bool true := HV.out.v d13 rfl
          refine wpOp_step rfl (fun K hK => ?_)
          go_simp
          refine hK _ _ ?_
          exact ⟨upd (upd (upd s 4 (.bool true)) 13 (.bool true)) 14 (.bool true), rfl, Sv.put (Sv.re (j := 13) (v := .bool true) (Sv.re (j := 4) (v := .bool true) HV.out e4) e13) (fun u hu => by cases hu; rfl), HST.out⟩
        ·intro Lq aq WN hI hrd
         obtain ⟨s, ha, hv, hst⟩ := hI
         have hall := all_listedM hrd hv.sz (by kernel_rfl)
         clear hrd
         have e0 : s 0 = (.int .i64 (a : Int)) := hv.v (hall 0 (by decide)) rfl
         have e1 : s 1 = (.slice (some ⟨gp, 0, none⟩) ps.length cp) := hv.v (hall 1 (by decide)) rfl
         have e2 : s 2 = (.int .i64 (ps.length : Int)) := hv.v (hall 2 (by decide)) rfl
         have e3 : s 3 = (.bool true) := hv.v (hall 3 (by decide)) rfl
         have e4 : s 4 = (.bool true) := hv.v (hall 4 (by decide)) rfl
         have e5 : s 5 = (.slice (some ⟨gp, 0, none⟩) ps.length cp) := hv.v (hall 5 (by decide)) rfl
         have e6 : s 6 = (.int .i64 (a : Int)) := hv.v (hall 6 (by decide)) rfl
         have e7 : s 7 = (.pointer (some ⟨gp, a * 2, none⟩)) := hv.v (hall 7 (by decide)) rfl
         have e8 : s 8 = (.agg #[.int .i64 p.1, .int .i64 p.2]) := hv.v (hall 8 (by decide)) rfl
         have e9 : s 9 = (.slice (some ⟨gc, 0, none⟩) 3 3) := hv.v (hall 9 (by decide)) rfl
         have e10 : s 10 = (.int .i64 (k : Int)) := hv.v (hall 10 (by decide)) rfl
         have e11 : s 11 = (.pointer (some ⟨gc, k * 2, none⟩)) := hv.v (hall 11 (by decide)) rfl
         have e12 : s 12 = (.agg #[.int .i64 c.1, .int .i64 c.2]) := hv.v (hall 12 (by decide)) rfl
         have e13 : s 13 = (.bool true) := hv.v (hall 13 (by decide)) rfl
         have e14 : s 14 = (.bool true) := hv.v (hall 14 (by decide)) rfl
         simp only [e0, e1, e2, e3, e4, e5, e6, e7, e8, e9, e10, e11, e12, e13, e14] at ha
         subst ha
         clear hall hv e0 e1 e2 e3 e4 e5 e6 e7 e8 e9 e10 e11 e12 e13 e14
         obtain ⟨q0, q1, q2, q3, hbl⟩ := hst
         have hlt2 : ∀ (j : Nat) p', j < a + 1 → ps[j]? = some p' → ltP p' c := by
          intro j p' hj hp'
          by_cases e : j = a
          ·subst e
           rw [HPA.out] at hp'
           cases hp'
           exact HB.out.1 rfl
          ·exact hlt.out j p' (by omega) hp'
         have HLT2 := Lib.hid hlt2
         have HBY := Lib.hid (stay_b hby.out hbl)
         clear hlt2
         go_wp2
         go_roundw
         case rel => exact ⟨a + 1, by omega, by go_num, HLT2, HBY⟩
         case measure => simp [intOf]; omega
       | false =>
        refine wp_region_inv (fun Lq aq WN => ∃ s : Nat → Value, aq = { tmps := #[shV W H Am nm cm Ac nc cc, .pointer (some ⟨w.heap.size, 0, none⟩), .slice none 0 0, .slice (some ⟨gt, 0, none⟩) L.length cv, .slice (some ⟨gp, 0, none⟩) ps.length cp, .int .i64 (i : Int), .slice (some ⟨gc, 0, none⟩) 3 3, .int .i64 (k : Int), .int .i64 (a : Int), u9, .agg #[.int .i64 W, .int .i64 H, .slice Am nm cm, .slice Ac nc cc], .slice (some ⟨gt, 0, none⟩) L.length cv, .int .i64 (i : Int), .slice (some ⟨gt, 0, none⟩) L.length cv, .int .i64 (L.length : Int), .bool true, u16, u17, .slice (some ⟨gt, 0, none⟩) L.length cv, .int .i64 (i : Int), .pointer (some ⟨gt, i * 3, none⟩), .agg #[.int .i64 t.1, .int .i64 t.2.1, .int .i64 t.2.2], .slice (some ⟨gc, 0, none⟩) 3 3, .int .i64 (k : Int), .bool true, u25, u26, (s 0), (s 1), (s 2), (s 3), (s 4), (s 5), (s 6), (s 7), (s 8), (s 9), (s 10), (s 11), (s 12), (s 13), (s 14), u42, u43, u44, u45, u46, u47, u48, u49, u50, u51, u52, u53, u54, u55, u56, u57, u58, u59, u60, u61, u62, u63, u64, u65, u66, u67, u68, u69, u70, u71, u72, u73, u74, u75, u76, u77, u78, u79, u80, u81, u82, u83, u84, u85, u86, u87, u88, undef], defers := [] } ∧ Sv 15 [some (.int .i64 (a : Int)), some (.slice (some ⟨gp, 0, none⟩) ps.length cp), some (.int .i64 (ps.length : Int)), some (.bool true), some (.bool true), some (.slice (some ⟨gp, 0, none⟩) ps.length cp), some (.int .i64 (a : Int)), some (.pointer (some ⟨gp, a * 2, none⟩)), some (.agg #[.int .i64 p.1, .int .i64 p.2]), some (.slice (some ⟨gc, 0, none⟩) 3 3), some (.int .i64 (k : Int)), some (.pointer (some ⟨gc, k * 2, none⟩)), some (.agg #[.int .i64 c.1, .int .i64 c.2]), some (.bool false), some (.bool false)] Lq s ∧ (WN.cell? ⟨gp, a * 2, none⟩ = some (.int .i64 p.1) ∧ WN.cell? ⟨gp, a * 2 + 1, none⟩ = some (.int .i64 p.2) ∧ WN.cell? ⟨gc, k * 2, none⟩ = some (.int .i64 c.1) ∧ WN.cell? ⟨gc, k * 2 + 1, none⟩ = some (.int .i64 c.2) ∧ Below wr.heap.size wr WN)) (by kernel_rfl) ?_ ?_ ?_
        ·exact ⟨listF [u27, u28, u29, u30, u31, u32, u33, u34, u35, u36, u37, u38, u39, u40, u41], rfl, Sv.start 15 _ _, ⟨p0, p1, y0, y1, (Below.refl _ _).drew⟩⟩
        ·intro Lq aq WN i0 hI hr
         obtain ⟨s, rfl, hv, hst⟩ := hI
         have hi0 : i0 < 15 := ready_lt hr
         have HV := Lib.hid hv
         have HST := Lib.hid hst
         clear hv hst
         have hii : i0 = 0 ∨ i0 = 1 ∨ i0 = 2 ∨ i0 = 3 ∨ i0 = 4 ∨ i0 = 5 ∨ i0 = 6 ∨ i0 = 7 ∨ i0 = 8 ∨ i0 = 9 ∨ i0 = 10 ∨ i0 = 11 ∨ i0 = 12 ∨ i0 = 13 ∨ i0 = 14 := by omega
         clear hi0
         rcases hii with rfl | rfl | rfl | rfl | rfl | rfl | rfl | rfl | rfl | rfl | rfl | rfl | rfl | rfl | rfl
         ·clear hr
          refine wpOp_step rfl (fun K hK => ?_)
          go_simp
          refine hK _ _ ?_
          exact ⟨upd s 0 (.int .i64 (a : Int)), rfl, Sv.put HV.out (fun u hu => by cases hu; rfl), HST.out⟩
         ·clear hr
          refine wpOp_step rfl (fun K hK => ?_)
          go_simp
          refine hK _ _ ?_
          exact ⟨upd s 1 (.slice (some ⟨gp, 0, none⟩) ps.length cp), rfl, Sv.put HV.out (fun u hu => by cases hu; rfl), HST.out⟩
         ·have d1 := ready_dep hr (k := 1) (by kernel_rfl)
          clear hr
          have e1 : s 1 = .slice (some ⟨gp, 0, none⟩) ps.length cp := HV.out.v d1 rfl
          refine wpOp_step rfl (fun K hK => ?_)
          go_simp
          refine hK _ _ ?_
          exact ⟨upd (upd s 1 (.slice (some ⟨gp, 0, none⟩) ps.length cp)) 2 (.int .i64 (ps.length : Int)), rfl, Sv.put (Sv.re (j := 1) (v := .slice (some ⟨gp, 0, none⟩) ps.length cp) HV.out e1) (fun u hu => by cases hu; rfl), HST.out⟩
         ·have d0 := ready_dep hr (k := 0) (by kernel_rfl)
          have d2 := ready_dep hr (k := 2) (by kernel_rfl)
          clear hr
          have e0 : s 0 = .int .i64 (a : Int) := HV.out.v d0 rfl
          have e2 : s 2 = .int .i64 (ps.length : Int) := HV.out.v d2 rfl
          refine wpOp_step rfl (fun K hK => ?_)
          go_simp
          refine hK _ _ ?_
          exact ⟨upd (upd (upd s 0 (.int .i64 (a : Int))) 2 (.int .i64 (ps.length : Int))) 3 (.bool true), rfl, Sv.put (Sv.re (j := 2) (v := .int .i64 (ps.length : Int)) (Sv.re (j := 0) (v := .int .i64 (a : Int)) HV.out e0) e2) (fun u hu => by cases hu; rfl), HST.out⟩
         ·have d3 := ready_dep hr (k := 3) (by kernel_rfl)
          clear hr
          have e3 : s 3 = .bool true := HV.out.v d3 rfl
          refine wpOp_step rfl (fun K hK => ?_)
          go_simp
          refine hK _ _ ?_
          exact ⟨upd (upd s 3 (.bool true)) 4 (.bool true), rfl, Sv.put (Sv.re (j := 3) (v := .bool true) HV.out e3) (fun u hu => by cases hu; rfl), HST.out⟩
         ·have d4 := ready_dep hr (k := 4) (by kernel_rfl)
          clear hr
          have e4 : s 4 = .bool true := HV.out.v d4 rfl
          refine wpOp_step rfl (fun K hK => ?_)
          go_simp
          refine hK _ _ ?_
          exact ⟨upd (upd s 4 (.bool true)) 5 (.slice (some ⟨gp, 0, none⟩) ps.length cp), rfl, Sv.put (Sv.re (j := 4) (v := .bool true) HV.out e4) (fun u hu => by cases hu; rfl), HST.out⟩
         ·have d4 := ready_dep hr (k := 4) (by kernel_rfl)
          clear hr
          have e4 : s 4 = .bool true := HV.out.v d4 rfl
          refine wpOp_step rfl (fun K hK => ?_)
          go_simp
          refine hK _ _ ?_
          exact ⟨upd (upd s 4 (.bool true)) 6 (.int .i64 (a : Int)), rfl, Sv.put (Sv.re (j := 4) (v := .bool true) HV.out e4) (fun u hu => by cases hu; rfl), HST.out⟩
         ·have d4 := ready_dep hr (k := 4) (by kernel_rfl)
          have d5 := ready_dep hr (k := 5) (by kernel_rfl)
          have d6 := ready_dep hr (k := 6) (by kernel_rfl)
          clear hr
          have e4 : s 4 = .bool true := HV.out.v d4 rfl
          have e5 : s 5 = .slice (some ⟨gp, 0, none⟩) ps.length cp := HV.out.v d5 rfl
          have e6 : s 6 = .int .i64 (a : Int) := HV.out.v d6 rfl
          refine wpOp_step rfl (fun K hK => ?_)
          go_simp
          refine hK _ _ ?_
          exact ⟨upd (upd (upd (upd s 4 (.bool true)) 5 (.slice (some ⟨gp, 0, none⟩) ps.length cp)) 6 (.int .i64 (a : Int))) 7 (.pointer (some ⟨gp, a * 2, none⟩)), rfl, Sv.put (Sv.re (j := 6) (v := .int .i64 (a : Int)) (Sv.re (j := 5) (v := .slice (some ⟨gp, 0, none⟩) ps.length cp) (Sv.re (j := 4) (v := .bool true) HV.out e4) e5) e6) (fun u hu => by cases hu; rfl), HST.out⟩
         ·have d4 := ready_dep hr (k := 4) (by kernel_rfl)
          have d7 := ready_dep hr (k := 7) (by kernel_rfl)
          clear hr
          have e4 : s 4 = .bool true := HV.out.v d4 rfl
          have e7 : s 7 = .pointer (some ⟨gp, a * 2, none⟩) := HV.out.v d7 rfl
          obtain ⟨q0, q1, q2, q3, hbl⟩ := HST.out
          refine wpOp_step rfl (fun K hK => ?_)
          go_simp
          refine hK _ _ ?_
          exact ⟨upd (upd (upd s 4 (.bool true)) 7 (.pointer (some ⟨gp, a * 2, none⟩))) 8 (.agg #[.int .i64 p.1, .int .i64 p.2]), rfl, Sv.put (Sv.re (j := 7) (v := .pointer (some ⟨gp, a * 2, none⟩)) (Sv.re (j := 4) (v := .bool true) HV.out e4) e7) (fun u hu => by cases hu; rfl), HST.out⟩
         ·have d4 := ready_dep hr (k := 4) (by kernel_rfl)
          clear hr
          have e4 : s 4 = .bool true := HV.out.v d4 rfl
          refine wpOp_step rfl (fun K hK => ?_)
          go_simp
          refine hK _ _ ?_
          exact ⟨upd (upd s 4 (.bool true)) 9 (.slice (some ⟨gc, 0, none⟩) 3 3), rfl, Sv.put (Sv.re (j := 4) (v := .bool true) HV.out e4) (fun u hu => by cases hu; rfl), HST.out⟩
         ·have d4 := ready_dep hr (k := 4) (by kernel_rfl)
          clear hr
          have e4 : s 4 = .bool true := HV.out.v d4 rfl
          refine wpOp_step rfl (fun K hK => ?_)
          go_simp
          refine hK _ _ ?_
          exact ⟨upd (upd s 4 (.bool true)) 10 (.int .i64 (k : Int)), rfl, Sv.put (Sv.re (j := 4) (v := .bool true) HV.out e4) (fun u hu => by cases hu; rfl), HST.out⟩
         ·have d4 := ready_dep hr (k := 4) (by kernel_rfl)
          have d9 := ready_dep hr (k := 9) (by kernel_rfl)
          have d10 := ready_dep hr (k := 10) (by kernel_rfl)
          clear hr
          have e4 : s 4 = .bool true := HV.out.v d4 rfl
          have e9 : s 9 = .slice (some ⟨gc, 0, none⟩) 3 3 := HV.out.v d9 rfl
          have e10 : s 10 = .int .i64 (k : Int) := HV.out.v d10 rfl
          refine wpOp_step rfl (fun K hK => ?_)
          go_simp
          refine hK _ _ ?_
          exact ⟨upd (upd (upd (upd s 4 (.bool true)) 9 (.slice (some ⟨gc, 0, none⟩) 3 3)) 10 (.int .i64 (k : Int))) 11 (.pointer (some ⟨gc, k * 2, none⟩)), rfl, Sv.put (Sv.re (j := 10) (v := .int .i64 (k : Int)) (Sv.re (j := 9) (v := .slice (some ⟨gc, 0, none⟩) 3 3) (Sv.re (j := 4) (v := .bool true) HV.out e4) e9) e10) (fun u hu => by cases hu; rfl), HST.out⟩
         ·have d4 := ready_dep hr (k := 4) (by kernel_rfl)
          have d11 := ready_dep hr (k := 11) (by kernel_rfl)
          clear hr
          have e4 : s 4 = .bool true := HV.out.v d4 rfl
          have e11 : s 11 = .pointer (some ⟨gc, k * 2, none⟩) := HV.out.v d11 rfl
          obtain ⟨q0, q1, q2, q3, hbl⟩ := HST.out
          refine wpOp_step rfl (fun K hK => ?_)
          go_simp
          refine hK _ _ ?_
          exact ⟨upd (upd (upd s 4 (.bool true)) 11 (.pointer (some ⟨gc, k * 2, none⟩))) 12 (.agg #[.int .i64 c.1, .int .i64 c.2]), rfl, Sv.put (Sv.re (j := 11) (v := .pointer (some ⟨gc, k * 2, none⟩)) (Sv.re (j := 4) (v := .bool true) HV.out e4) e11) (fun u hu => by cases hu; rfl), HST.out⟩
         ·have d4 := ready_dep hr (k := 4) (by kernel_rfl)
          have d8 := ready_dep hr (k := 8) (by kernel_rfl)
          have d12 := ready_dep hr (k := 12) (by kernel_rfl)
          clear hr
          have e4 : s 4 = .bool true := HV.out.v d4 rfl
          have e8 : s 8 = .agg #[.int .i64 p.1, .int .i64 p.2] := HV.out.v d8 rfl
          have e12 : s 12 = .agg #[.int .i64 c.1, .int .i64 c.2] := HV.out.v d12 rfl
          obtain ⟨q0, q1, q2, q3, hbl⟩ := HST.out
          refine wpOp_step rfl (fun K hK => ?_)
          go_simp
          refine (CL.out _).mono ?_
          rintro e' wc ⟨he, hbc⟩
          subst he
          refine hK _ _ ?_
          exact ⟨upd (upd (upd (upd s 4 (.bool true)) 8 (.agg #[.int .i64 p.1, .int .i64 p.2])) 12 (.agg #[.int .i64 c.1, .int .i64 c.2])) 13 (.bool false), rfl, Sv.put (Sv.re (j := 12) (v := .agg #[.int .i64 c.1, .int .i64 c.2]) (Sv.re (j := 8) (v := .agg #[.int .i64 p.1, .int .i64 p.2]) (Sv.re (j := 4) (v := .bool true) HV.out e4) e8) e12) (fun u hu => by cases hu; rfl), ⟨stay_c q0 hbc (Nat.le_refl _), stay_c q1 hbc (Nat.le_refl _), stay_c q2 hbc (Nat.le_refl _), stay_c q3 hbc (Nat.le_refl _), stay_b hbl hbc⟩⟩
         ·have d4 := ready_dep hr (k := 4) (by kernel_rfl)
          have d13 := ready_dep hr (k := 13) (by kernel_rfl)
          clear hr
          have e4 : s 4 = .bool true := HV.out.v d4 rfl
          have e13 : s 13 = .bool false := HV.out.v d13 rfl
          refine wpOp_step rfl (fun K hK => ?_)
          go_simp
          refine hK _ _ ?_
          exact ⟨upd (upd (upd s 4 (.bool true)) 13 (.bool false)) 14 (.bool false), rfl, Sv.put (Sv.re (j := 13) (v := .bool false) (Sv.re (j := 4) (v := .bool true) HV.out e4) e13) (fun u hu => by cases hu; rfl), HST.out⟩
        ·intro Lq aq WN hI hrd
         obtain ⟨s, ha, hv, hst⟩ := hI
         have hall := all_listedM hrd hv.sz (by kernel_rfl)
         clear hrd
         have e0 : s 0 = (.int .i64 (a : Int)) := hv.v (hall 0 (by decide)) rfl
         have e1 : s 1 = (.slice (some ⟨gp, 0, none⟩) ps.length cp) := hv.v (hall 1 (by decide)) rfl
         have e2 : s 2 = (.int .i64 (ps.length : Int)) := hv.v (hall 2 (by decide)) rfl
         have e3 : s 3 = (.bool true) := hv.v (hall 3 (by decide)) rfl
         have e4 : s 4 = (.bool true) := hv.v (hall 4 (by decide)) rfl
         have e5 : s 5 = (.slice (some ⟨gp, 0, none⟩) ps.length cp) := hv.v (hall 5 (by decide)) rfl
         have e6 : s 6 = (.int .i64 (a : Int)) := hv.v (hall 6 (by decide)) rfl
         have e7 : s 7 = (.pointer (some ⟨gp, a * 2, none⟩)) := hv.v (hall 7 (by decide)) rfl
         have e8 : s 8 = (.agg #[.int .i64 p.1, .int .i64 p.2]) := hv.v (hall 8 (by decide)) rfl
         have e9 : s 9 = (.slice (some ⟨gc, 0, none⟩) 3 3) := hv.v (hall 9 (by decide)) rfl
         have e10 : s 10 = (.int .i64 (k : Int)) := hv.v (hall 10 (by decide)) rfl
         have e11 : s 11 = (.pointer (some ⟨gc, k * 2, none⟩)) := hv.v (hall 11 (by decide)) rfl
         have e12 : s 12 = (.agg #[.int .i64 c.1, .int .i64 c.2]) := hv.v (hall 12 (by decide)) rfl
         have e13 : s 13 = (.bool false) := hv.v (hall 13 (by decide)) rfl
         have e14 : s 14 = (.bool false) := hv.v (hall 14 (by decide)) rfl
         simp only [e0, e1, e2, e3, e4, e5, e6, e7, e8, e9, e10, e11, e12, e13, e14] at ha
         subst ha
         clear hall hv e0 e1 e2 e3 e4 e5 e6 e7 e8 e9 e10 e11 e12 e13 e14
         obtain ⟨q0, q1, q2, q3, hbl⟩ := hst
         have hpn : PosAt ps c a := ⟨ha, hlt.out, fun p' hp' hlt' => by
          rw [HPA.out] at hp'
          cases hp'
          have h9 := HB.out.2 hlt'
          cases h9⟩
         have HPN := Lib.hid hpn
         have HBY := Lib.hid (stay_b hby.out hbl)
         have q13 := eqP p.1 p.2 c.1 c.2
         rw [eqL_pt] at q13
         obtain ⟨E, hE⟩ : ∃ E, E = decide (p = c) := ⟨_, rfl⟩
         rw [← hE] at q13
         have HE := Lib.hid hE
         clear hpn hE
         go_wp2_with fail
         obtain ⟨wx, hwx⟩ : ∃ x, x = WN := ⟨_, rfl⟩
         subst hwx
         cases E with
         | true =>
          refine wp_region_inv (fun Lq aq WN => ∃ s : Nat → Value, aq = { tmps := #[shV W H Am nm cm Ac nc cc, .pointer (some ⟨w.heap.size, 0, none⟩), .slice none 0 0, .slice (some ⟨gt, 0, none⟩) L.length cv, .slice (some ⟨gp, 0, none⟩) ps.length cp, .int .i64 (i : Int), .slice (some ⟨gc, 0, none⟩) 3 3, .int .i64 (k : Int), .int .i64 (a : Int), u9, .agg #[.int .i64 W, .int .i64 H, .slice Am nm cm, .slice Ac nc cc], .slice (some ⟨gt, 0, none⟩) L.length cv, .int .i64 (i : Int), .slice (some ⟨gt, 0, none⟩) L.length cv, .int .i64 (L.length : Int), .bool true, u16, u17, .slice (some ⟨gt, 0, none⟩) L.length cv, .int .i64 (i : Int), .pointer (some ⟨gt, i * 3, none⟩), .agg #[.int .i64 t.1, .int .i64 t.2.1, .int .i64 t.2.2], .slice (some ⟨gc, 0, none⟩) 3 3, .int .i64 (k : Int), .bool true, u25, u26, .int .i64 (a : Int), .slice (some ⟨gp, 0, none⟩) ps.length cp, .int .i64 (ps.length : Int), .bool true, .bool true, .slice (some ⟨gp, 0, none⟩) ps.length cp, .int .i64 (a : Int), .pointer (some ⟨gp, a * 2, none⟩), .agg #[.int .i64 p.1, .int .i64 p.2], .slice (some ⟨gc, 0, none⟩) 3 3, .int .i64 (k : Int), .pointer (some ⟨gc, k * 2, none⟩), .agg #[.int .i64 c.1, .int .i64 c.2], .bool false, .bool false, u42, u43, (s 0), (s 1), (s 2), (s 3), (s 4), (s 5), (s 6), (s 7), (s 8), (s 9), (s 10), (s 11), (s 12), (s 13), (s 14), u59, u60, u61, u62, u63, u64, u65, u66, u67, u68, u69, u70, u71, u72, u73, u74, u75, u76, u77, u78, u79, u80, u81, u82, u83, u84, u85, u86, u87, u88, undef], defers := [] } ∧ Sv 15 [some (.int .i64 (a : Int)), some (.slice (some ⟨gp, 0, none⟩) ps.length cp), some (.int .i64 (ps.length : Int)), some (.bool true), some (.bool true), some (.slice (some ⟨gp, 0, none⟩) ps.length cp), some (.int .i64 (a : Int)), some (.pointer (some ⟨gp, a * 2, none⟩)), some (.agg #[.int .i64 p.1, .int .i64 p.2]), some (.slice (some ⟨gc, 0, none⟩) 3 3), some (.int .i64 (k : Int)), some (.pointer (some ⟨gc, k * 2, none⟩)), some (.agg #[.int .i64 c.1, .int .i64 c.2]), some (.bool true), some (.bool true)] Lq s ∧ (WN.cell? ⟨gp, a * 2, none⟩ = some (.int .i64 p.1) ∧ WN.cell? ⟨gp, a * 2 + 1, none⟩ = some (.int .i64 p.2) ∧ WN.cell? ⟨gc, k * 2, none⟩ = some (.int .i64 c.1) ∧ WN.cell? ⟨gc, k * 2 + 1, none⟩ = some (.int .i64 c.2) ∧ Below wx.heap.size wx WN)) (by kernel_rfl) ?_ ?_ ?_
          ·exact ⟨listF [u44, u45, u46, u47, u48, u49, u50, u51, u52, u53, u54, u55, u56, u57, u58], rfl, Sv.start 15 _ _, ⟨q0, q1, q2, q3, (Below.refl _ _).drew⟩⟩
          ·intro Lq aq WN i0 hI hr
           obtain ⟨s, rfl, hv, hst⟩ := hI
           have hi0 : i0 < 15 := ready_lt hr
           have HV := Lib.hid hv
           have HST := Lib.hid hst
           clear hv hst
           have hii : i0 = 0 ∨ i0 = 1 ∨ i0 = 2 ∨ i0 = 3 ∨ i0 = 4 ∨ i0 = 5 ∨ i0 = 6 ∨ i0 = 7 ∨ i0 = 8 ∨ i0 = 9 ∨ i0 = 10 ∨ i0 = 11 ∨ i0 = 12 ∨ i0 = 13 ∨ i0 = 14 := by omega
           clear hi0
           rcases hii with rfl | rfl | rfl | rfl | rfl | rfl | rfl | rfl | rfl | rfl | rfl | rfl | rfl | rfl | rfl
           ·clear hr
            refine wpOp_step rfl (fun K hK => ?_)
            go_simp
            refine hK _ _ ?_
            exact ⟨upd s 0 (.int .i64 (a : Int)), rfl, Sv.put HV.out (fun u hu => by cases hu; rfl), HST.out⟩
           ·clear hr
            refine wpOp_step rfl (fun K hK => ?_)
            go_simp
            refine hK _ _ ?_
            exact ⟨upd s 1 (.slice (some ⟨gp, 0, none⟩) ps.length cp), rfl, Sv.put HV.out (fun u hu => by cases hu; rfl), HST.out⟩
           ·have d1 := ready_dep hr (k := 1) (by kernel_rfl)
            clear hr
            have e1 : s 1 = .slice (some ⟨gp, 0, none⟩) ps.length cp := HV.out.v d1 rfl
            refine wpOp_step rfl (fun K hK => ?_)
            go_simp
            refine hK _ _ ?_
            exact ⟨upd (upd s 1 (.slice (some ⟨gp, 0, none⟩) ps.length cp)) 2 (.int .i64 (ps.length : Int)), rfl, Sv.put (Sv.re (j := 1) (v := .slice (some ⟨gp, 0, none⟩) ps.length cp) HV.out e1) (fun u hu => by cases hu; rfl), HST.out⟩
           ·have d0 := ready_dep hr (k := 0) (by kernel_rfl)
            have d2 := ready_dep hr (k := 2) (by kernel_rfl)
            clear hr
            have e0 : s 0 = .int .i64 (a : Int) := HV.out.v d0 rfl
            have e2 : s 2 = .int .i64 (ps.length : Int) := HV.out.v d2 rfl
            refine wpOp_step rfl (fun K hK => ?_)
            go_simp
            refine hK _ _ ?_
            exact ⟨upd (upd (upd s 0 (.int .i64 (a : Int))) 2 (.int .i64 (ps.length : Int))) 3 (.bool true), rfl, Sv.put (Sv.re (j := 2) (v := .int .i64 (ps.length : Int)) (Sv.re (j := 0) (v := .int .i64 (a : Int)) HV.out e0) e2) (fun u hu => by cases hu; rfl), HST.out⟩
           ·have d3 := ready_dep hr (k := 3) (by kernel_rfl)
            clear hr
            have e3 : s 3 = .bool true := HV.out.v d3 rfl
            refine wpOp_step rfl (fun K hK => ?_)
            go_simp
            refine hK _ _ ?_
            exact ⟨upd (upd s 3 (.bool true)) 4 (.bool true), rfl, Sv.put (Sv.re (j := 3) (v := .bool true) HV.out e3) (fun u hu => by cases hu; rfl), HST.out⟩
           ·have d4 := ready_dep hr (k := 4) (by kernel_rfl)
            clear hr
            have e4 : s 4 = .bool true := HV.out.v d4 rfl
            refine wpOp_step rfl (fun K hK => ?_)
            go_simp
            refine hK _ _ ?_
            exact ⟨upd (upd s 4 (.bool true)) 5 (.slice (some ⟨gp, 0, none⟩) ps.length cp), rfl, Sv.put (Sv.re (j := 4) (v := .bool true) HV.out e4) (fun u hu => by cases hu; rfl), HST.out⟩
           ·have d4 := ready_dep hr (k := 4) (by kernel_rfl)
            clear hr
            have e4 : s 4 = .bool true := HV.out.v d4 rfl
            refine wpOp_step rfl (fun K hK => ?_)
            go_simp
            refine hK _ _ ?_
            exact ⟨upd (upd s 4 (.bool true)) 6 (.int .i64 (a : Int)), rfl, Sv.put (Sv.re (j := 4) (v := .bool true) HV.out e4) (fun u hu => by cases hu; rfl), HST.out⟩
           ·have d4 := ready_dep hr (k := 4) (by kernel_rfl)
            have d5 := ready_dep hr (k := 5) (by kernel_rfl)
            have d6 := ready_dep hr (k := 6) (by kernel_rfl)
            clear hr
            have e4 : s 4 = .bool true := HV.out.v d4 rfl
            have e5 : s 5 = .slice (some ⟨gp, 0, none⟩) ps.length cp := HV.out.v d5 rfl
            have e6 : s 6 = .int .i64 (a : Int) := HV.out.v d6 rfl
            refine wpOp_step rfl (fun K hK => ?_)
            go_simp
            refine hK _ _ ?_
            exact ⟨upd (upd (upd (upd s 4 (.bool true)) 5 (.slice (some ⟨gp, 0, none⟩) ps.length cp)) 6 (.int .i64 (a : Int))) 7 (.pointer (some ⟨gp, a * 2, none⟩)), rfl, Sv.put (Sv.re (j := 6) (v := .int .i64 (a : Int)) (Sv.re (j := 5) (v := .slice (some ⟨gp, 0, none⟩) ps.length cp) (Sv.re (j := 4) (v := .bool true) HV.out e4) e5) e6) (fun u hu => by cases hu; rfl), HST.out⟩
           ·have d4 := ready_dep hr (k := 4) (by kernel_rfl)
            have d7 := ready_dep hr (k := 7) (by kernel_rfl)
            clear hr
            have e4 : s 4 = .bool true := HV.out.v d4 rfl
            have e7 : s 7 = .pointer (some ⟨gp, a * 2, none⟩) := HV.out.v d7 rfl
            obtain ⟨q0, q1, q2, q3, hbl⟩ := HST.out
            refine wpOp_step rfl (fun K hK => ?_)
            go_simp
            refine hK _ _ ?_
            exact ⟨upd (upd (upd s 4 (.bool true)) 7 (.pointer (some ⟨gp, a * 2, none⟩))) 8 (.agg #[.int .i64 p.1, .int .i64 p.2]), rfl, Sv.put (Sv.re (j := 7) (v := .pointer (some ⟨gp, a * 2, none⟩)) (Sv.re (j := 4) (v := .bool true) HV.out e4) e7) (fun u hu => by cases hu; rfl), HST.out⟩
           ·have d4 := ready_dep hr (k := 4) (by kernel_rfl)
            clear hr
            have e4 : s 4 = .bool true := HV.out.v d4 rfl
            refine wpOp_step rfl (fun K hK => ?_)
            go_simp
            refine hK _ _ ?_
            exact ⟨upd (upd s 4 (.bool true)) 9 (.slice (some ⟨gc, 0, none⟩) 3 3), rfl, Sv.put (Sv.re (j := 4) (v := .bool true) HV.out e4) (fun u hu => by cases hu; rfl), HST.out⟩
           ·have d4 := ready_dep hr (k := 4) (by kernel_rfl)
            clear hr
            have e4 : s 4 = .bool true := HV.out.v d4 rfl
            refine wpOp_step rfl (fun K hK => ?_)
            go_simp
            refine hK _ _ ?_
            exact ⟨upd (upd s 4 (.bool true)) 10 (.int .i64 (k : Int)), rfl, Sv.put (Sv.re (j := 4) (v := .bool true) HV.out e4) (fun u hu => by cases hu; rfl), HST.out⟩
           ·have d4 := ready_dep hr (k := 4) (by kernel_rfl)
            have d9 := ready_dep hr (k := 9) (by kernel_rfl)
            have d10 := ready_dep hr (k := 10) (by kernel_rfl)
            clear hr
            have e4 : s 4 = .bool true := HV.out.v d4 rfl
            have e9 : s 9 = .slice (some ⟨gc, 0, none⟩) 3 3 := HV.out.v d9 rfl
            have e10 : s 10 = .int .i64 (k : Int) := HV.out.v d10 rfl
            refine wpOp_step rfl (fun K hK => ?_)
            go_simp
            refine hK _ _ ?_
            exact ⟨upd (upd (upd (upd s 4 (.bool true)) 9 (.slice (some ⟨gc, 0, none⟩) 3 3)) 10 (.int .i64 (k : Int))) 11 (.pointer (some ⟨gc, k * 2, none⟩)), rfl, Sv.put (Sv.re (j := 10) (v := .int .i64 (k : Int)) (Sv.re (j := 9) (v := .slice (some ⟨gc, 0, none⟩) 3 3) (Sv.re (j := 4) (v := .bool true) HV.out e4) e9) e10) (fun u hu => by cases hu; rfl), HST.out⟩
           ·have d4 := ready_dep hr (k := 4) (by kernel_rfl)
            have d11 := ready_dep hr (k := 11) (by kernel_rfl)
            clear hr
            have e4 : s 4 = .bool true := HV.out.v d4 rfl
            have e11 : s 11 = .pointer (some ⟨gc, k * 2, none⟩) := HV.out.v d11 rfl
            obtain ⟨q0, q1, q2, q3, hbl⟩ := HST.out
            refine wpOp_step rfl (fun K hK => ?_)
            go_simp
            refine hK _ _ ?_
            exact ⟨upd (upd (upd s 4 (.bool true)) 11 (.pointer (some ⟨gc, k * 2, none⟩))) 12 (.agg #[.int .i64 c.1, .int .i64 c.2]), rfl, Sv.put (Sv.re (j := 11) (v := .pointer (some ⟨gc, k * 2, none⟩)) (Sv.re (j := 4) (v := .bool true) HV.out e4) e11) (fun u hu => by cases hu; rfl), HST.out⟩
           ·have d4 := ready_dep hr (k := 4) (by kernel_rfl)
            have d8 := ready_dep hr (k := 8) (by kernel_rfl)
            have d12 := ready_dep hr (k := 12) (by kernel_rfl)
            clear hr
            have e4 : s 4 = .bool true := HV.out.v d4 rfl
            have e8 : s 8 = .agg #[.int .i64 p.1, .int .i64 p.2] := HV.out.v d8 rfl
            have e12 : s 12 = .agg #[.int .i64 c.1, .int .i64 c.2] := HV.out.v d12 rfl
            refine wpOp_step rfl (fun K hK => ?_)
            go_simp
            refine hK _ _ ?_
            exact ⟨upd (upd (upd (upd s 4 (.bool true)) 8 (.agg #[.int .i64 p.1, .int .i64 p.2])) 12 (.agg #[.int .i64 c.1, .int .i64 c.2])) 13 (.bool true), rfl, Sv.put (Sv.re (j := 12) (v := .agg #[.int .i64 c.1, .int .i64 c.2]) (Sv.re (j := 8) (v := .agg #[.int .i64 p.1, .int .i64 p.2]) (Sv.re (j := 4) (v := .bool true) HV.out e4) e8) e12) (fun u hu => by cases hu; rfl), HST.out⟩
           ·have d4 := ready_dep hr (k := 4) (by kernel_rfl)
            have d13 := ready_dep hr (k := 13) (by kernel_rfl)
            clear hr
            have e4 : s 4 = .bool true := HV.out.v d4 rfl
            have e13 : s 13 = .bool true := HV.out.v d13 rfl
            refine wpOp_step rfl (fun K hK => ?_)
            go_simp
            refine hK _ _ ?_
            exact ⟨upd (upd (upd s 4 (.bool true)) 13 (.bool true)) 14 (.bool true), rfl, Sv.put (Sv.re (j := 13) (v := .bool true) (Sv.re (j := 4) (v := .bool true) HV.out e4) e13) (fun u hu => by cases hu; rfl), HST.out⟩
          ·intro Lq aq WN hI hrd
           obtain ⟨s, ha, hv, hst⟩ := hI
           have hall := all_listedM hrd hv.sz (by kernel_rfl)
           clear hrd
           have e0 : s 0 = (.int .i64 (a : Int)) := hv.v (hall 0 (by decide)) rfl
           have e1 : s 1 = (.slice (some ⟨gp, 0, none⟩) ps.length cp) := hv.v (hall 1 (by decide)) rfl
           have e2 : s 2 = (.int .i64 (ps.length : Int)) := hv.v (hall 2 (by decide)) rfl
           have e3 : s 3 = (.bool true) := hv.v (hall 3 (by decide)) rfl
           have e4 : s 4 = (.bool true) := hv.v (hall 4 (by decide)) rfl
           have e5 : s 5 = (.slice (some ⟨gp, 0, none⟩) ps.length cp) := hv.v (hall 5 (by decide)) rfl
           have e6 : s 6 = (.int .i64 (a : Int)) := hv.v (hall 6 (by decide)) rfl
           have e7 : s 7 = (.pointer (some ⟨gp, a * 2, none⟩)) := hv.v (hall 7 (by decide)) rfl
           have e8 : s 8 = (.agg #[.int .i64 p.1, .int .i64 p.2]) := hv.v (hall 8 (by decide)) rfl
           have e9 : s 9 = (.slice (some ⟨gc, 0, none⟩) 3 3) := hv.v (hall 9 (by decide)) rfl
           have e10 : s 10 = (.int .i64 (k : Int)) := hv.v (hall 10 (by decide)) rfl
           have e11 : s 11 = (.pointer (some ⟨gc, k * 2, none⟩)) := hv.v (hall 11 (by decide)) rfl
           have e12 : s 12 = (.agg #[.int .i64 c.1, .int .i64 c.2]) := hv.v (hall 12 (by decide)) rfl
           have e13 : s 13 = (.bool true) := hv.v (hall 13 (by decide)) rfl
           have e14 : s 14 = (.bool true) := hv.v (hall 14 (by decide)) rfl
           simp only [e0, e1, e2, e3, e4, e5, e6, e7, e8, e9, e10, e11, e12, e13, e14] at ha
           subst ha
           clear hall hv e0 e1 e2 e3 e4 e5 e6 e7 e8 e9 e10 e11 e12 e13 e14
           obtain ⟨q0, q1, q2, q3, hbl⟩ := hst
           have hpc : p = c := of_decide_eq_true HE.out.symm
           have ho := HOLD.out a c (by rw [HPA.out, hpc])
           have hwb := stay_b HBY.out hbl
           have hN : PtS w1 (Crn L i (k + 1)) ps (3 * i + (k + 1)) (.slice (some ⟨gp, 0, none⟩) ps.length cp) WN := ⟨ho.re fun p => (HSTEP.out p).symm, own_below hP.out.own hwb (Nat.le_refl _), by omega, stay_b hP.out.bel hwb⟩
           have HN := Lib.hid hN
           have HN2 := Lib.hid (hC.out.below hwb)
           clear hN ho hpc hwb
           go_wp2
           go_roundw
           case rel => exact ⟨k + 1, _, by omega, by go_num, hoff, HN2, HN⟩
           case measure => simp [intOf]; omega
         | false =>
          refine wp_region_inv (fun Lq aq WN => ∃ s : Nat → Value, aq = { tmps := #[shV W H Am nm cm Ac nc cc, .pointer (some ⟨w.heap.size, 0, none⟩), .slice none 0 0, .slice (some ⟨gt, 0, none⟩) L.length cv, .slice (some ⟨gp, 0, none⟩) ps.length cp, .int .i64 (i : Int), .slice (some ⟨gc, 0, none⟩) 3 3, .int .i64 (k : Int), .int .i64 (a : Int), u9, .agg #[.int .i64 W, .int .i64 H, .slice Am nm cm, .slice Ac nc cc], .slice (some ⟨gt, 0, none⟩) L.length cv, .int .i64 (i : Int), .slice (some ⟨gt, 0, none⟩) L.length cv, .int .i64 (L.length : Int), .bool true, u16, u17, .slice (some ⟨gt, 0, none⟩) L.length cv, .int .i64 (i : Int), .pointer (some ⟨gt, i * 3, none⟩), .agg #[.int .i64 t.1, .int .i64 t.2.1, .int .i64 t.2.2], .slice (some ⟨gc, 0, none⟩) 3 3, .int .i64 (k : Int), .bool true, u25, u26, .int .i64 (a : Int), .slice (some ⟨gp, 0, none⟩) ps.length cp, .int .i64 (ps.length : Int), .bool true, .bool true, .slice (some ⟨gp, 0, none⟩) ps.length cp, .int .i64 (a : Int), .pointer (some ⟨gp, a * 2, none⟩), .agg #[.int .i64 p.1, .int .i64 p.2], .slice (some ⟨gc, 0, none⟩) 3 3, .int .i64 (k : Int), .pointer (some ⟨gc, k * 2, none⟩), .agg #[.int .i64 c.1, .int .i64 c.2], .bool false, .bool false, u42, u43, (s 0), (s 1), (s 2), (s 3), (s 4), (s 5), (s 6), (s 7), (s 8), (s 9), (s 10), (s 11), (s 12), (s 13), (s 14), u59, u60, u61, u62, u63, u64, u65, u66, u67, u68, u69, u70, u71, u72, u73, u74, u75, u76, u77, u78, u79, u80, u81, u82, u83, u84, u85, u86, u87, u88, undef], defers := [] } ∧ Sv 15 [some (.int .i64 (a : Int)), some (.slice (some ⟨gp, 0, none⟩) ps.length cp), some (.int .i64 (ps.length : Int)), some (.bool true), some (.bool true), some (.slice (some ⟨gp, 0, none⟩) ps.length cp), some (.int .i64 (a : Int)), some (.pointer (some ⟨gp, a * 2, none⟩)), some (.agg #[.int .i64 p.1, .int .i64 p.2]), some (.slice (some ⟨gc, 0, none⟩) 3 3), some (.int .i64 (k : Int)), some (.pointer (some ⟨gc, k * 2, none⟩)), some (.agg #[.int .i64 c.1, .int .i64 c.2]), some (.bool false), some (.bool false)] Lq s ∧ (WN.cell? ⟨gp, a * 2, none⟩ = some (.int .i64 p.1) ∧ WN.cell? ⟨gp, a * 2 + 1, none⟩ = some (.int .i64 p.2) ∧ WN.cell? ⟨gc, k * 2, none⟩ = some (.int .i64 c.1) ∧ WN.cell? ⟨gc, k * 2 + 1, none⟩ = some (.int .i64 c.2) ∧ Below wx.heap.size wx WN)) (by kernel_rfl) ?_ ?_ ?_
          ·exact ⟨listF [u44, u45, u46, u47, u48, u49, u50, u51, u52, u53, u54, u55, u56, u57, u58], rfl, Sv.start 15 _ _, ⟨q0, q1, q2, q3, (Below.refl _ _).drew⟩⟩
          ·intro Lq aq WN i0 hI hr
           obtain ⟨s, rfl, hv, hst⟩ := hI
           have hi0 : i0 < 15 := ready_lt hr
           have HV := Lib.hid hv
           have HST := Lib.hid hst
           clear hv hst
           have hii : i0 = 0 ∨ i0 = 1 ∨ i0 = 2 ∨ i0 = 3 ∨ i0 = 4 ∨ i0 = 5 ∨ i0 = 6 ∨ i0 = 7 ∨ i0 = 8 ∨ i0 = 9 ∨ i0 = 10 ∨ i0 = 11 ∨ i0 = 12 ∨ i0 = 13 ∨ i0 = 14 := by omega
           clear hi0
           rcases hii with rfl | rfl | rfl | rfl | rfl | rfl | rfl | rfl | rfl | rfl | rfl | rfl | rfl | rfl | rfl
           ·clear hr
            refine wpOp_step rfl (fun K hK => ?_)
            go_simp
            refine hK _ _ ?_
            exact ⟨upd s 0 (.int .i64 (a : Int)), rfl, Sv.put HV.out (fun u hu => by cases hu; rfl), HST.out⟩
           ·clear hr
            refine wpOp_step rfl (fun K hK => ?_)
            go_simp
            refine hK _ _ ?_
            exact ⟨upd s 1 (.slice (some ⟨gp, 0, none⟩) ps.length cp), rfl, Sv.put HV.out (fun u hu => by cases hu; rfl), HST.out⟩
           ·have d1 := ready_dep hr (k := 1) (by kernel_rfl)
            clear hr
            have e1 : s 1 = .slice (some ⟨gp, 0, none⟩) ps.length cp := HV.out.v d1 rfl
            refine wpOp_step rfl (fun K hK => ?_)
            go_simp
            refine hK _ _ ?_
            exact ⟨upd (upd s 1 (.slice (some ⟨gp, 0, none⟩) ps.length cp)) 2 (.int .i64 (ps.length : Int)), rfl, Sv.put (Sv.re (j := 1) (v := .slice (some ⟨gp, 0, none⟩) ps.length cp) HV.out e1) (fun u hu => by cases hu; rfl), HST.out⟩
           ·have d0 := ready_dep hr (k := 0) (by kernel_rfl)
            have d2 := ready_dep hr (k := 2) (by kernel_rfl)
            clear hr
            have e0 : s 0 = .int .i64 (a : Int) := HV.out.v d0 rfl
            have e2 : s 2 = .int .i64 (ps.length : Int) := HV.out.v d2 rfl
            refine wpOp_step rfl (fun K hK => ?_)
            go_simp
            refine hK _ _ ?_
            exact ⟨upd (upd (upd s 0 (.int .i64 (a : Int))) 2 (.int .i64 (ps.length : Int))) 3 (.bool true), rfl, Sv.put (Sv.re (j := 2) (v := .int .i64 (ps.length : Int)) (Sv.re (j := 0) (v := .int .i64 (a : Int)) HV.out e0) e2) (fun u hu => by cases hu; rfl), HST.out⟩
           ·have d3 := ready_dep hr (k := 3) (by kernel_rfl)
            clear hr
            have e3 : s 3 = .bool true := HV.out.v d3 rfl
            refine wpOp_step rfl (fun K hK => ?_)
            go_simp
            refine hK _ _ ?_
            exact ⟨upd (upd s 3 (.bool true)) 4 (.bool true), rfl, Sv.put (Sv.re (j := 3) (v := .bool true) HV.out e3) (fun u hu => by cases hu; rfl), HST.out⟩
           ·have d4 := ready_dep hr (k := 4) (by kernel_rfl)
            clear hr
            have e4 : s 4 = .bool true := HV.out.v d4 rfl
            refine wpOp_step rfl (fun K hK => ?_)
            go_simp
            refine hK _ _ ?_
            exact ⟨upd (upd s 4 (.bool true)) 5 (.slice (some ⟨gp, 0, none⟩) ps.length cp), rfl, Sv.put (Sv.re (j := 4) (v := .bool true) HV.out e4) (fun u hu => by cases hu; rfl), HST.out⟩
           ·have d4 := ready_dep hr (k := 4) (by kernel_rfl)
            clear hr
            have e4 : s 4 = .bool true := HV.out.v d4 rfl
            refine wpOp_step rfl (fun K hK => ?_)
            go_simp
            refine hK _ _ ?_
            exact ⟨upd (upd s 4 (.bool true)) 6 (.int .i64 (a : Int)), rfl, Sv.put (Sv.re (j := 4) (v := .bool true) HV.out e4) (fun u hu => by cases hu; rfl), HST.out⟩
           ·have d4 := ready_dep hr (k := 4) (by kernel_rfl)
            have d5 := ready_dep hr (k := 5) (by kernel_rfl)
            have d6 := ready_dep hr (k := 6) (by kernel_rfl)
            clear hr
            have e4 : s 4 = .bool true := HV.out.v d4 rfl
            have e5 : s 5 = .slice (some ⟨gp, 0, none⟩) ps.length cp := HV.out.v d5 rfl
            have e6 : s 6 = .int .i64 (a : Int) := HV.out.v d6 rfl
            refine wpOp_step rfl (fun K hK => ?_)
            go_simp
            refine hK _ _ ?_
            exact ⟨upd (upd (upd (upd s 4 (.bool true)) 5 (.slice (some ⟨gp, 0, none⟩) ps.length cp)) 6 (.int .i64 (a : Int))) 7 (.pointer (some ⟨gp, a * 2, none⟩)), rfl, Sv.put (Sv.re (j := 6) (v := .int .i64 (a : Int)) (Sv.re (j := 5) (v := .slice (some ⟨gp, 0, none⟩) ps.length cp) (Sv.re (j := 4) (v := .bool true) HV.out e4) e5) e6) (fun u hu => by cases hu; rfl), HST.out⟩
           ·have d4 := ready_dep hr (k := 4) (by kernel_rfl)
            have d7 := ready_dep hr (k := 7) (by kernel_rfl)
            clear hr
            have e4 : s 4 = .bool true := HV.out.v d4 rfl
            have e7 : s 7 = .pointer (some ⟨gp, a * 2, none⟩) := HV.out.v d7 rfl
            obtain ⟨q0, q1, q2, q3, hbl⟩ := HST.out
            refine wpOp_step rfl (fun K hK => ?_)
            go_simp
            refine hK _ _ ?_
            exact ⟨upd (upd (upd s 4 (.bool true)) 7 (.pointer (some ⟨gp, a * 2, none⟩))) 8 (.agg #[.int .i64 p.1, .int .i64 p.2]), rfl, Sv.put (Sv.re (j := 7) (v := .pointer (some ⟨gp, a * 2, none⟩)) (Sv.re (j := 4) (v := .bool true) HV.out e4) e7) (fun u hu => by cases hu; rfl), HST.out⟩
           ·have d4 := ready_dep hr (k := 4) (by kernel_rfl)
            clear hr
            have e4 : s 4 = .bool true := HV.out.v d4 rfl
            refine wpOp_step rfl (fun K hK => ?_)
            go_simp
            refine hK _ _ ?_
            exact ⟨upd (upd s 4 (.bool true)) 9 (.slice (some ⟨gc, 0, none⟩) 3 3), rfl, Sv.put (Sv.re (j := 4) (v := .bool true) HV.out e4) (fun u hu => by cases hu; rfl), HST.out⟩
           ·have d4 := ready_dep hr (k := 4) (by kernel_rfl)
            clear hr
            have e4 : s 4 = .bool true := HV.out.v d4 rfl
            refine wpOp_step rfl (fun K hK => ?_)
            go_simp
            refine hK _ _ ?_
            exact ⟨upd (upd s 4 (.bool true)) 10 (.int .i64 (k : Int)), rfl, Sv.put (Sv.re (j := 4) (v := .bool true) HV.out e4) (fun u hu => by cases hu; rfl), HST.out⟩
           ·have d4 := ready_dep hr (k := 4) (by kernel_rfl)
            have d9 := ready_dep hr (k := 9) (by kernel_rfl)
            have d10 := ready_dep hr (k := 10) (by kernel_rfl)
            clear hr
            have e4 : s 4 = .bool true := HV.out.v d4 rfl
            have e9 : s 9 = .slice (some ⟨gc, 0, none⟩) 3 3 := HV.out.v d9 rfl
            have e10 : s 10 = .int .i64 (k : Int) := HV.out.v d10 rfl
            refine wpOp_step rfl (fun K hK => ?_)
            go_simp
            refine hK _ _ ?_
            exact ⟨upd (upd (upd (upd s 4 (.bool true)) 9 (.slice (some ⟨gc, 0, none⟩) 3 3)) 10 (.int .i64 (k : Int))) 11 (.pointer (some ⟨gc, k * 2, none⟩)), rfl, Sv.put (Sv.re (j := 10) (v := .int .i64 (k : Int)) (Sv.re (j := 9) (v := .slice (some ⟨gc, 0, none⟩) 3 3) (Sv.re (j := 4) (v := .bool true) HV.out e4) e9) e10) (fun u hu => by cases hu; rfl), HST.out⟩
           ·have d4 := ready_dep hr (k := 4) (by kernel_rfl)
            have d11 := ready_dep hr (k := 11) (by kernel_rfl)
            clear hr
            have e4 : s 4 = .bool true := HV.out.v d4 rfl
            have e11 : s 11 = .pointer (some ⟨gc, k * 2, none⟩) := HV.out.v d11 rfl
            obtain ⟨q0, q1, q2, q3, hbl⟩ := HST.out
            refine wpOp_step rfl (fun K hK => ?_)
            go_simp
            refine hK _ _ ?_
            exact ⟨upd (upd (upd s 4 (.bool true)) 11 (.pointer (some ⟨gc, k * 2, none⟩))) 12 (.agg #[.int .i64 c.1, .int .i64 c.2]), rfl, Sv.put (Sv.re (j := 11) (v := .pointer (some ⟨gc, k * 2, none⟩)) (Sv.re (j := 4) (v := .bool true) HV.out e4) e11) (fun u hu => by cases hu; rfl), HST.out⟩
           ·have d4 := ready_dep hr (k := 4) (by kernel_rfl)
            have d8 := ready_dep hr (k := 8) (by kernel_rfl)
            have d12 := ready_dep hr (k := 12) (by kernel_rfl)
            clear hr
            have e4 : s 4 = .bool true := HV.out.v d4 rfl
            have e8 : s 8 = .agg #[.int .i64 p.1, .int .i64 p.2] := HV.out.v d8 rfl
            have e12 : s 12 = .agg #[.int .i64 c.1, .int .i64 c.2] := HV.out.v d12 rfl
            refine wpOp_step rfl (fun K hK => ?_)
            go_simp
            refine hK _ _ ?_
            exact ⟨upd (upd (upd (upd s 4 (.bool true)) 8 (.agg #[.int .i64 p.1, .int .i64 p.2])) 12 (.agg #[.int .i64 c.1, .int .i64 c.2])) 13 (.bool false), rfl, Sv.put (Sv.re (j := 12) (v := .agg #[.int .i64 c.1, .int .i64 c.2]) (Sv.re (j := 8) (v := .agg #[.int .i64 p.1, .int .i64 p.2]) (Sv.re (j := 4) (v := .bool true) HV.out e4) e8) e12) (fun u hu => by cases hu; rfl), HST.out⟩
           ·have d4 := ready_dep hr (k := 4) (by kernel_rfl)
            have d13 := ready_dep hr (k := 13) (by kernel_rfl)
            clear hr
            have e4 : s 4 = .bool true := HV.out.v d4 rfl
            have e13 : s 13 = .bool false := HV.out.v d13 rfl
            refine wpOp_step rfl (fun K hK => ?_)
            go_simp
            refine hK _ _ ?_
            exact ⟨upd (upd (upd s 4 (.bool true)) 13 (.bool false)) 14 (.bool false), rfl, Sv.put (Sv.re (j := 13) (v := .bool false) (Sv.re (j := 4) (v := .bool true) HV.out e4) e13) (fun u hu => by cases hu; rfl), HST.out⟩
          ·intro Lq aq WN hI hrd
           obtain ⟨s, ha, hv, hst⟩ := hI
           have hall := all_listedM hrd hv.sz (by kernel_rfl)
           clear hrd
           have e0 : s 0 = (.int .i64 (a : Int)) := hv.v (hall 0 (by decide)) rfl
           have e1 : s 1 = (.slice (some ⟨gp, 0, none⟩) ps.length cp) := hv.v (hall 1 (by decide)) rfl
           have e2 : s 2 = (.int .i64 (ps.length : Int)) := hv.v (hall 2 (by decide)) rfl
           have e3 : s 3 = (.bool true) := hv.v (hall 3 (by decide)) rfl
           have e4 : s 4 = (.bool true) := hv.v (hall 4 (by decide)) rfl
           have e5 : s 5 = (.slice (some ⟨gp, 0, none⟩) ps.length cp) := hv.v (hall 5 (by decide)) rfl
           have e6 : s 6 = (.int .i64 (a : Int)) := hv.v (hall 6 (by decide)) rfl
           have e7 : s 7 = (.pointer (some ⟨gp, a * 2, none⟩)) := hv.v (hall 7 (by decide)) rfl
           have e8 : s 8 = (.agg #[.int .i64 p.1, .int .i64 p.2]) := hv.v (hall 8 (by decide)) rfl
           have e9 : s 9 = (.slice (some ⟨gc, 0, none⟩) 3 3) := hv.v (hall 9 (by decide)) rfl
           have e10 : s 10 = (.int .i64 (k : Int)) := hv.v (hall 10 (by decide)) rfl
           have e11 : s 11 = (.pointer (some ⟨gc, k * 2, none⟩)) := hv.v (hall 11 (by decide)) rfl
           have e12 : s 12 = (.agg #[.int .i64 c.1, .int .i64 c.2]) := hv.v (hall 12 (by decide)) rfl
           have e13 : s 13 = (.bool false) := hv.v (hall 13 (by decide)) rfl
           have e14 : s 14 = (.bool false) := hv.v (hall 14 (by decide)) rfl
           simp only [e0, e1, e2, e3, e4, e5, e6, e7, e8, e9, e10, e11, e12, e13, e14] at ha
           subst ha
           clear hall hv e0 e1 e2 e3 e4 e5 e6 e7 e8 e9 e10 e11 e12 e13 e14
           obtain ⟨q0, q1, q2, q3, hbl⟩ := hst
           have hne : ps[a]? ≠ some c := by
            rw [HPA.out]
            intro e
            have e2 := Option.some.inj e
            have := HE.out
            rw [e2] at this
            simp at this
           have HNE := Lib.hid hne
           have hwx := stay_b HBY.out hbl
           clear hne
           have ho := own_below hP.out.own hwx (Nat.le_refl _)
           have hsz := (stay_b hP.out.bel hwx).size
           have hCx := hC.out.below hwx
           have hbx := stay_b hP.out.bel hwx
           have HO := Lib.hid ho
           have HCX := Lib.hid hCx
           have HBX := Lib.hid hbx
           have hgl := blk_lt hCx
           have hw1 : IntKind.i64.wrap (ps.length : Int) = (ps.length : Int) := IntWalk.i64_in _ (by omega)
           have hw2 : IntKind.i64.wrap (((ps.length + 1 : Nat) : Int) - 1) = (ps.length : Int) := by rw [IntWalk.i64_in _ (by omega)]; omega
           clear ho hCx hbx
           go_wp2_with (at_builtin; go_loud (refine app_gen Tryd.underlying104 pt_info rfl (by decide) (by decide) rfl (.tmp 59) (.tmp 64) rfl w1.heap.size _ ps.length (pcs ps) [.int .i64 c.1, .int .i64 c.2] rfl HO.out hsz 1 _ rfl rfl rfl (pt_one _ _) (by omega) ?_); intro v' w' hown' hb' hgr'; obtain ⟨g9, c9, cur9, hv9, _, _, hge9, _⟩ := own_addr hown' (Nat.succ_pos _); subst hv9)
           have hof9 := off_grow hoff hgl hgr'
           have hne9 : gc ≠ g9 := fun e => hof9 (by rw [e]; rfl)
           have hs0 : ShS w1 ps g9 c9 gc t ps.length (ps ++ [c]) w' := ⟨ShI.start _ _, by rw [pcs_app]; exact hown', HCX.out.grow hgr' hoff, HBX.out.trans hb', hge9⟩
           have HS0 := Lib.hid hs0
           clear hs0 hown' hb' hgr' hgl
           go_loopw [9] (fun x wq => ∃ (j : Nat) (q : List P2), a ≤ j ∧ j ≤ ps.length ∧ x = .int .i64 j ∧ Hid (ShS w1 ps g9 c9 gc t j q wq)) (fun x _ => (intOf x).toNat)
           case atStart => exact ⟨ps.length, ps ++ [c], (by omega : a ≤ ps.length), Nat.le_refl _, rfl, HS0⟩
           case round =>
            clear HS0
            obtain ⟨j, q, haj, hjn, rfl, hS⟩ := hrel
            by_cases hj : a < j
            ·obtain ⟨i', hi'⟩ : ∃ i', j = i' + 1 := ⟨j - 1, by omega⟩
             have hji : ((a : Nat) : Int) < (j : Int) := by omega
             have hsub : IntKind.i64.wrap ((j : Int) - 1) = (i' : Int) := by rw [IntWalk.i64_in _ (by omega)]; omega
             have hql := hS.out.inv.len
             obtain ⟨x, hx⟩ : ∃ x, q[i']? = some x := ⟨_, List.getElem?_eq_getElem (by omega)⟩
             obtain ⟨y, hy⟩ : ∃ y, q[j]? = some y := ⟨_, List.getElem?_eq_getElem (by omega)⟩
             obtain ⟨x0, x1⟩ := own_pt hS.out.own hx
             obtain ⟨z0, z1⟩ := own_pt hS.out.own hy
             have f0 := hS.out.own.frozenAt (j * 2)
             have f1 := hS.out.own.frozenAt (j * 2 + 1)
             have hi0 : (0 : Int) ≤ (i' : Int) := by omega
             have hil2 : i' < ps.length + 1 := by omega
             have hjl2 : j < ps.length + 1 := by omega
             have hN := hS.out.step2 hi' hjn hx hne9
             have HN := Lib.hid hN
             have HI := Lib.hid hi'
             clear hN hx hy hi' hql
             go_wp2
             go_roundw
             case rel => exact ⟨i', _, by have := HI.out; omega, by have := HI.out; omega, rfl, HN⟩
             case measure => have := HI.out; simp [intOf]; omega
            ·have hja : a = j := by omega
             subst hja
             have hji : ¬ ((a : Nat) : Int) < ((a : Nat) : Int) := by omega
             obtain ⟨y, hy⟩ : ∃ y, q[a]? = some y := ⟨_, List.getElem?_eq_getElem (by have := hS.out.inv.len; omega)⟩
             obtain ⟨z0, z1⟩ := own_pt hS.out.own hy
             obtain ⟨x0, x1⟩ := hS.out.cor.at_ hk3
             rw [← HCC.out] at x0 x1
             have f0 := hS.out.own.frozenAt (a * 2)
             have f1 := hS.out.own.frozenAt (a * 2 + 1)
             have hjl2 : a < ps.length + 1 := by omega
             obtain ⟨hN, hN2⟩ := hS.out.done hP.out.inv HPN.out HNE.out hP.out.len hne9
             have HN := Lib.hid (hN.re (fun p => (HSTEP.out p).symm) (Nat.le_refl _))
             have HN2 := Lib.hid hN2
             clear hN hN2 hy
             go_wp2
             go_roundw
             case rel => exact ⟨k + 1, _, by omega, by go_num, hof9, HN2, HN⟩
             case measure => simp [intOf]; omega
      ·obtain rfl : a = ps.length := by omega
       have hnn : decide ((ps.length : Int) < (ps.length : Int)) = false := by simp
       have hpn : PosAt ps c ps.length := ⟨Nat.le_refl _, hlt.out, fun p' hp' => by rw [List.getElem?_eq_none (Nat.le_refl _)] at hp'; cases hp'⟩
       have hne : ps[ps.length]? ≠ some c := by rw [List.getElem?_eq_none (Nat.le_refl _)]; intro e; cases e
       have HPN := Lib.hid hpn
       have HNE := Lib.hid hne
       clear hpn hne
       go_upto_region 15 with fail
       refine wp_region_inv (fun Lq aq WN => ∃ s : Nat → Value, aq = { tmps := #[shV W H Am nm cm Ac nc cc, .pointer (some ⟨w.heap.size, 0, none⟩), .slice none 0 0, .slice (some ⟨gt, 0, none⟩) L.length cv, .slice Ap ps.length cp, .int .i64 (i : Int), .slice (some ⟨gc, 0, none⟩) 3 3, .int .i64 (k : Int), .int .i64 (ps.length : Int), u9, .agg #[.int .i64 W, .int .i64 H, .slice Am nm cm, .slice Ac nc cc], .slice (some ⟨gt, 0, none⟩) L.length cv, .int .i64 (i : Int), .slice (some ⟨gt, 0, none⟩) L.length cv, .int .i64 (L.length : Int), .bool true, u16, u17, .slice (some ⟨gt, 0, none⟩) L.length cv, .int .i64 (i : Int), .pointer (some ⟨gt, i * 3, none⟩), .agg #[.int .i64 t.1, .int .i64 t.2.1, .int .i64 t.2.2], .slice (some ⟨gc, 0, none⟩) 3 3, .int .i64 (k : Int), .bool true, u25, u26, (s 0), (s 1), (s 2), (s 3), (s 4), (s 5), (s 6), (s 7), (s 8), (s 9), (s 10), (s 11), (s 12), (s 13), (s 14), u42, u43, u44, u45, u46, u47, u48, u49, u50, u51, u52, u53, u54, u55, u56, u57, u58, u59, u60, u61, u62, u63, u64, u65, u66, u67, u68, u69, u70, u71, u72, u73, u74, u75, u76, u77, u78, u79, u80, u81, u82, u83, u84, u85, u86, u87, u88, undef], defers := [] } ∧ Sv 15 [some (.int .i64 (ps.length : Int)), some (.slice Ap ps.length cp), some (.int .i64 (ps.length : Int)), some (.bool false), some (.bool false), some (undef), some (undef), some (undef), some (undef), some (undef), some (undef), some (undef), some (undef), some (undef), some (.bool false)] Lq s ∧ (WN.cell? ⟨gc, k * 2, none⟩ = some (.int .i64 c.1) ∧ WN.cell? ⟨gc, k * 2 + 1, none⟩ = some (.int .i64 c.2) ∧ Below wr.heap.size wr WN)) (by kernel_rfl) ?_ ?_ ?_
       ·exact ⟨listF [u27, u28, u29, u30, u31, u32, u33, u34, u35, u36, u37, u38, u39, u40, u41], rfl, Sv.start 15 _ _, ⟨y0, y1, (Below.refl _ _).drew⟩⟩
       ·intro Lq aq WN i0 hI hr
        obtain ⟨s, rfl, hv, hst⟩ := hI
        have hi0 : i0 < 15 := ready_lt hr
        have HV := Lib.hid hv
        have HST := Lib.hid hst
        clear hv hst
        have hii : i0 = 0 ∨ i0 = 1 ∨ i0 = 2 ∨ i0 = 3 ∨ i0 = 4 ∨ i0 = 5 ∨ i0 = 6 ∨ i0 = 7 ∨ i0 = 8 ∨ i0 = 9 ∨ i0 = 10 ∨ i0 = 11 ∨ i0 = 12 ∨ i0 = 13 ∨ i0 = 14 := by omega
        clear hi0
        rcases hii with rfl | rfl | rfl | rfl | rfl | rfl | rfl | rfl | rfl | rfl | rfl | rfl | rfl | rfl | rfl
        ·clear hr
         refine wpOp_step rfl (fun K hK => ?_)
         go_simp
         refine hK _ _ ?_
         exact ⟨upd s 0 (.int .i64 (ps.length : Int)), rfl, Sv.put HV.out (fun u hu => by cases hu; rfl), HST.out⟩
        ·clear hr
         refine wpOp_step rfl (fun K hK => ?_)
         go_simp
         refine hK _ _ ?_
         exact ⟨upd s 1 (.slice Ap ps.length cp), rfl, Sv.put HV.out (fun u hu => by cases hu; rfl), HST.out⟩
        ·have d1 := ready_dep hr (k := 1) (by kernel_rfl)
         clear hr
         have e1 : s 1 = .slice Ap ps.length cp := HV.out.v d1 rfl
         refine wpOp_step rfl (fun K hK => ?_)
         go_simp
         refine hK _ _ ?_
         exact ⟨upd (upd s 1 (.slice Ap ps.length cp)) 2 (.int .i64 (ps.length : Int)), rfl, Sv.put (Sv.re (j := 1) (v := .slice Ap ps.length cp) HV.out e1) (fun u hu => by cases hu; rfl), HST.out⟩
        ·have d0 := ready_dep hr (k := 0) (by kernel_rfl)
         have d2 := ready_dep hr (k := 2) (by kernel_rfl)
         clear hr
         have e0 : s 0 = .int .i64 (ps.length : Int) := HV.out.v d0 rfl
         have e2 : s 2 = .int .i64 (ps.length : Int) := HV.out.v d2 rfl
         refine wpOp_step rfl (fun K hK => ?_)
         go_simp
         refine hK _ _ ?_
         exact ⟨upd (upd (upd s 0 (.int .i64 (ps.length : Int))) 2 (.int .i64 (ps.length : Int))) 3 (.bool false), rfl, Sv.put (Sv.re (j := 2) (v := .int .i64 (ps.length : Int)) (Sv.re (j := 0) (v := .int .i64 (ps.length : Int)) HV.out e0) e2) (fun u hu => by cases hu; rfl), HST.out⟩
        ·have d3 := ready_dep hr (k := 3) (by kernel_rfl)
         clear hr
         have e3 : s 3 = .bool false := HV.out.v d3 rfl
         refine wpOp_step rfl (fun K hK => ?_)
         go_simp
         refine hK _ _ ?_
         exact ⟨upd (upd s 3 (.bool false)) 4 (.bool false), rfl, Sv.put (Sv.re (j := 3) (v := .bool false) HV.out e3) (fun u hu => by cases hu; rfl), HST.out⟩
        ·have d4 := ready_dep hr (k := 4) (by kernel_rfl)
         clear hr
         have e4 : s 4 = .bool false := HV.out.v d4 rfl
         refine wpOp_step rfl (fun K hK => ?_)
         go_simp
         refine hK _ _ ?_
         exact ⟨upd (upd s 4 (.bool false)) 5 (undef), rfl, Sv.put (Sv.re (j := 4) (v := .bool false) HV.out e4) (fun u hu => by cases hu; rfl), HST.out⟩
        ·have d4 := ready_dep hr (k := 4) (by kernel_rfl)
         clear hr
         have e4 : s 4 = .bool false := HV.out.v d4 rfl
         refine wpOp_step rfl (fun K hK => ?_)
         go_simp
         refine hK _ _ ?_
         exact ⟨upd (upd s 4 (.bool false)) 6 (undef), rfl, Sv.put (Sv.re (j := 4) (v := .bool false) HV.out e4) (fun u hu => by cases hu; rfl), HST.out⟩
        ·have d4 := ready_dep hr (k := 4) (by kernel_rfl)
         clear hr
         have e4 : s 4 = .bool false := HV.out.v d4 rfl
         refine wpOp_step rfl (fun K hK => ?_)
         go_simp
         refine hK _ _ ?_
         exact ⟨upd (upd s 4 (.bool false)) 7 (undef), rfl, Sv.put (Sv.re (j := 4) (v := .bool false) HV.out e4) (fun u hu => by cases hu; rfl), HST.out⟩
        ·have d4 := ready_dep hr (k := 4) (by kernel_rfl)
         clear hr
         have e4 : s 4 = .bool false := HV.out.v d4 rfl
         refine wpOp_step rfl (fun K hK => ?_)
         go_simp
         refine hK _ _ ?_
         exact ⟨upd (upd s 4 (.bool false)) 8 (undef), rfl, Sv.put (Sv.re (j := 4) (v := .bool false) HV.out e4) (fun u hu => by cases hu; rfl), HST.out⟩
        ·have d4 := ready_dep hr (k := 4) (by kernel_rfl)
         clear hr
         have e4 : s 4 = .bool false := HV.out.v d4 rfl
         refine wpOp_step rfl (fun K hK => ?_)
         go_simp
         refine hK _ _ ?_
         exact ⟨upd (upd s 4 (.bool false)) 9 (undef), rfl, Sv.put (Sv.re (j := 4) (v := .bool false) HV.out e4) (fun u hu => by cases hu; rfl), HST.out⟩
        ·have d4 := ready_dep hr (k := 4) (by kernel_rfl)
         clear hr
         have e4 : s 4 = .bool false := HV.out.v d4 rfl
         refine wpOp_step rfl (fun K hK => ?_)
         go_simp
         refine hK _ _ ?_
         exact ⟨upd (upd s 4 (.bool false)) 10 (undef), rfl, Sv.put (Sv.re (j := 4) (v := .bool false) HV.out e4) (fun u hu => by cases hu; rfl), HST.out⟩
        ·have d4 := ready_dep hr (k := 4) (by kernel_rfl)
         clear hr
         have e4 : s 4 = .bool false := HV.out.v d4 rfl
         refine wpOp_step rfl (fun K hK => ?_)
         go_simp
         refine hK _ _ ?_
         exact ⟨upd (upd s 4 (.bool false)) 11 (undef), rfl, Sv.put (Sv.re (j := 4) (v := .bool false) HV.out e4) (fun u hu => by cases hu; rfl), HST.out⟩
        ·have d4 := ready_dep hr (k := 4) (by kernel_rfl)
         clear hr
         have e4 : s 4 = .bool false := HV.out.v d4 rfl
         refine wpOp_step rfl (fun K hK => ?_)
         go_simp
         refine hK _ _ ?_
         exact ⟨upd (upd s 4 (.bool false)) 12 (undef), rfl, Sv.put (Sv.re (j := 4) (v := .bool false) HV.out e4) (fun u hu => by cases hu; rfl), HST.out⟩
        ·have d4 := ready_dep hr (k := 4) (by kernel_rfl)
         clear hr
         have e4 : s 4 = .bool false := HV.out.v d4 rfl
         refine wpOp_step rfl (fun K hK => ?_)
         go_simp
         refine hK _ _ ?_
         exact ⟨upd (upd s 4 (.bool false)) 13 (undef), rfl, Sv.put (Sv.re (j := 4) (v := .bool false) HV.out e4) (fun u hu => by cases hu; rfl), HST.out⟩
        ·have d4 := ready_dep hr (k := 4) (by kernel_rfl)
         have d13 := ready_dep hr (k := 13) (by kernel_rfl)
         clear hr
         have e4 : s 4 = .bool false := HV.out.v d4 rfl
         have e13 : s 13 = undef := HV.out.v d13 rfl
         refine wpOp_step rfl (fun K hK => ?_)
         go_simp
         refine hK _ _ ?_
         exact ⟨upd (upd (upd s 4 (.bool false)) 13 (undef)) 14 (.bool false), rfl, Sv.put (Sv.re (j := 13) (v := undef) (Sv.re (j := 4) (v := .bool false) HV.out e4) e13) (fun u hu => by cases hu; rfl), HST.out⟩
       ·intro Lq aq WN hI hrd
        obtain ⟨s, ha, hv, hst⟩ := hI
        have hall := all_listedM hrd hv.sz (by kernel_rfl)
        clear hrd
        have e0 : s 0 = (.int .i64 (ps.length : Int)) := hv.v (hall 0 (by decide)) rfl
        have e1 : s 1 = (.slice Ap ps.length cp) := hv.v (hall 1 (by decide)) rfl
        have e2 : s 2 = (.int .i64 (ps.length : Int)) := hv.v (hall 2 (by decide)) rfl
        have e3 : s 3 = (.bool false) := hv.v (hall 3 (by decide)) rfl
        have e4 : s 4 = (.bool false) := hv.v (hall 4 (by decide)) rfl
        have e5 : s 5 = (undef) := hv.v (hall 5 (by decide)) rfl
        have e6 : s 6 = (undef) := hv.v (hall 6 (by decide)) rfl
        have e7 : s 7 = (undef) := hv.v (hall 7 (by decide)) rfl
        have e8 : s 8 = (undef) := hv.v (hall 8 (by decide)) rfl
        have e9 : s 9 = (undef) := hv.v (hall 9 (by decide)) rfl
        have e10 : s 10 = (undef) := hv.v (hall 10 (by decide)) rfl
        have e11 : s 11 = (undef) := hv.v (hall 11 (by decide)) rfl
        have e12 : s 12 = (undef) := hv.v (hall 12 (by decide)) rfl
        have e13 : s 13 = (undef) := hv.v (hall 13 (by decide)) rfl
        have e14 : s 14 = (.bool false) := hv.v (hall 14 (by decide)) rfl
        simp only [e0, e1, e2, e3, e4, e5, e6, e7, e8, e9, e10, e11, e12, e13, e14] at ha
        subst ha
        clear hall hv e0 e1 e2 e3 e4 e5 e6 e7 e8 e9 e10 e11 e12 e13 e14
        obtain ⟨q0, q1, hbl⟩ := hst
        have HBY := Lib.hid (stay_b hby.out hbl)
        go_wp2_with fail
        obtain ⟨wx, hwx⟩ : ∃ x, x = WN := ⟨_, rfl⟩
        subst hwx
        refine wp_region_inv (fun Lq aq WN => ∃ s : Nat → Value, aq = { tmps := #[shV W H Am nm cm Ac nc cc, .pointer (some ⟨w.heap.size, 0, none⟩), .slice none 0 0, .slice (some ⟨gt, 0, none⟩) L.length cv, .slice Ap ps.length cp, .int .i64 (i : Int), .slice (some ⟨gc, 0, none⟩) 3 3, .int .i64 (k : Int), .int .i64 (ps.length : Int), u9, .agg #[.int .i64 W, .int .i64 H, .slice Am nm cm, .slice Ac nc cc], .slice (some ⟨gt, 0, none⟩) L.length cv, .int .i64 (i : Int), .slice (some ⟨gt, 0, none⟩) L.length cv, .int .i64 (L.length : Int), .bool true, u16, u17, .slice (some ⟨gt, 0, none⟩) L.length cv, .int .i64 (i : Int), .pointer (some ⟨gt, i * 3, none⟩), .agg #[.int .i64 t.1, .int .i64 t.2.1, .int .i64 t.2.2], .slice (some ⟨gc, 0, none⟩) 3 3, .int .i64 (k : Int), .bool true, u25, u26, .int .i64 (ps.length : Int), .slice Ap ps.length cp, .int .i64 (ps.length : Int), .bool false, .bool false, undef, undef, undef, undef, undef, undef, undef, undef, undef, .bool false, u42, u43, (s 0), (s 1), (s 2), (s 3), (s 4), (s 5), (s 6), (s 7), (s 8), (s 9), (s 10), (s 11), (s 12), (s 13), (s 14), u59, u60, u61, u62, u63, u64, u65, u66, u67, u68, u69, u70, u71, u72, u73, u74, u75, u76, u77, u78, u79, u80, u81, u82, u83, u84, u85, u86, u87, u88, undef], defers := [] } ∧ Sv 15 [some (.int .i64 (ps.length : Int)), some (.slice Ap ps.length cp), some (.int .i64 (ps.length : Int)), some (.bool false), some (.bool false), some (undef), some (undef), some (undef), some (undef), some (undef), some (undef), some (undef), some (undef), some (undef), some (.bool false)] Lq s ∧ (WN.cell? ⟨gc, k * 2, none⟩ = some (.int .i64 c.1) ∧ WN.cell? ⟨gc, k * 2 + 1, none⟩ = some (.int .i64 c.2) ∧ Below wx.heap.size wx WN)) (by kernel_rfl) ?_ ?_ ?_
        ·exact ⟨listF [u44, u45, u46, u47, u48, u49, u50, u51, u52, u53, u54, u55, u56, u57, u58], rfl, Sv.start 15 _ _, ⟨q0, q1, (Below.refl _ _).drew⟩⟩
        ·intro Lq aq WN i0 hI hr
         obtain ⟨s, rfl, hv, hst⟩ := hI
         have hi0 : i0 < 15 := ready_lt hr
         have HV := Lib.hid hv
         have HST := Lib.hid hst
         clear hv hst
         have hii : i0 = 0 ∨ i0 = 1 ∨ i0 = 2 ∨ i0 = 3 ∨ i0 = 4 ∨ i0 = 5 ∨ i0 = 6 ∨ i0 = 7 ∨ i0 = 8 ∨ i0 = 9 ∨ i0 = 10 ∨ i0 = 11 ∨ i0 = 12 ∨ i0 = 13 ∨ i0 = 14 := by omega
         clear hi0
         rcases hii with rfl | rfl | rfl | rfl | rfl | rfl | rfl | rfl | rfl | rfl | rfl | rfl | rfl | rfl | rfl
         ·clear hr
          refine wpOp_step rfl (fun K hK => ?_)
          go_simp
          refine hK _ _ ?_
          exact ⟨upd s 0 (.int .i64 (ps.length : Int)), rfl, Sv.put HV.out (fun u hu => by cases hu; rfl), HST.out⟩
         ·clear hr
          refine wpOp_step rfl (fun K hK => ?_)
          go_simp
          refine hK _ _ ?_
          exact ⟨upd s 1 (.slice Ap ps.length cp), rfl, Sv.put HV.out (fun u hu => by cases hu; rfl), HST.out⟩
         ·have d1 := ready_dep hr (k := 1) (by kernel_rfl)
          clear hr
          have e1 : s 1 = .slice Ap ps.length cp := HV.out.v d1 rfl
          refine wpOp_step rfl (fun K hK => ?_)
          go_simp
          refine hK _ _ ?_
          exact ⟨upd (upd s 1 (.slice Ap ps.length cp)) 2 (.int .i64 (ps.length : Int)), rfl, Sv.put (Sv.re (j := 1) (v := .slice Ap ps.length cp) HV.out e1) (fun u hu => by cases hu; rfl), HST.out⟩
         ·have d0 := ready_dep hr (k := 0) (by kernel_rfl)
          have d2 := ready_dep hr (k := 2) (by kernel_rfl)
          clear hr
          have e0 : s 0 = .int .i64 (ps.length : Int) := HV.out.v d0 rfl
          have e2 : s 2 = .int .i64 (ps.length : Int) := HV.out.v d2 rfl
          refine wpOp_step rfl (fun K hK => ?_)
          go_simp
          refine hK _ _ ?_
          exact ⟨upd (upd (upd s 0 (.int .i64 (ps.length : Int))) 2 (.int .i64 (ps.length : Int))) 3 (.bool false), rfl, Sv.put (Sv.re (j := 2) (v := .int .i64 (ps.length : Int)) (Sv.re (j := 0) (v := .int .i64 (ps.length : Int)) HV.out e0) e2) (fun u hu => by cases hu; rfl), HST.out⟩
         ·have d3 := ready_dep hr (k := 3) (by kernel_rfl)
          clear hr
          have e3 : s 3 = .bool false := HV.out.v d3 rfl
          refine wpOp_step rfl (fun K hK => ?_)
          go_simp
          refine hK _ _ ?_
          exact ⟨upd (upd s 3 (.bool false)) 4 (.bool false), rfl, Sv.put (Sv.re (j := 3) (v := .bool false) HV.out e3) (fun u hu => by cases hu; rfl), HST.out⟩
         ·have d4 := ready_dep hr (k := 4) (by kernel_rfl)
          clear hr
          have e4 : s 4 = .bool false := HV.out.v d4 rfl
          refine wpOp_step rfl (fun K hK => ?_)
          go_simp
          refine hK _ _ ?_
          exact ⟨upd (upd s 4 (.bool false)) 5 (undef), rfl, Sv.put (Sv.re (j := 4) (v := .bool false) HV.out e4) (fun u hu => by cases hu; rfl), HST.out⟩
         ·have d4 := ready_dep hr (k := 4) (by kernel_rfl)
          clear hr
          have e4 : s 4 = .bool false := HV.out.v d4 rfl
          refine wpOp_step rfl (fun K hK => ?_)
          go_simp
          refine hK _ _ ?_
          exact ⟨upd (upd s 4 (.bool false)) 6 (undef), rfl, Sv.put (Sv.re (j := 4) (v := .bool false) HV.out e4) (fun u hu => by cases hu; rfl), HST.out⟩
         ·have d4 := ready_dep hr (k := 4) (by kernel_rfl)
          clear hr
          have e4 : s 4 = .bool false := HV.out.v d4 rfl
          refine wpOp_step rfl (fun K hK => ?_)
          go_simp
          refine hK _ _ ?_
          exact ⟨upd (upd s 4 (.bool false)) 7 (undef), rfl, Sv.put (Sv.re (j := 4) (v := .bool false) HV.out e4) (fun u hu => by cases hu; rfl), HST.out⟩
         ·have d4 := ready_dep hr (k := 4) (by kernel_rfl)
          clear hr
          have e4 : s 4 = .bool false := HV.out.v d4 rfl
          refine wpOp_step rfl (fun K hK => ?_)
          go_simp
          refine hK _ _ ?_
          exact ⟨upd (upd s 4 (.bool false)) 8 (undef), rfl, Sv.put (Sv.re (j := 4) (v := .bool false) HV.out e4) (fun u hu => by cases hu; rfl), HST.out⟩
         ·have d4 := ready_dep hr (k := 4) (by kernel_rfl)
          clear hr
          have e4 : s 4 = .bool false := HV.out.v d4 rfl
          refine wpOp_step rfl (fun K hK => ?_)
          go_simp
          refine hK _ _ ?_
          exact ⟨upd (upd s 4 (.bool false)) 9 (undef), rfl, Sv.put (Sv.re (j := 4) (v := .bool false) HV.out e4) (fun u hu => by cases hu; rfl), HST.out⟩
         ·have d4 := ready_dep hr (k := 4) (by kernel_rfl)
          clear hr
          have e4 : s 4 = .bool false := HV.out.v d4 rfl
          refine wpOp_step rfl (fun K hK => ?_)
          go_simp
          refine hK _ _ ?_
          exact ⟨upd (upd s 4 (.bool false)) 10 (undef), rfl, Sv.put (Sv.re (j := 4) (v := .bool false) HV.out e4) (fun u hu => by cases hu; rfl), HST.out⟩
         ·have d4 := ready_dep hr (k := 4) (by kernel_rfl)
          clear hr
          have e4 : s 4 = .bool false := HV.out.v d4 rfl
          refine wpOp_step rfl (fun K hK => ?_)
          go_simp
          refine hK _ _ ?_
          exact ⟨upd (upd s 4 (.bool false)) 11 (undef), rfl, Sv.put (Sv.re (j := 4) (v := .bool false) HV.out e4) (fun u hu => by cases hu; rfl), HST.out⟩
         ·have d4 := ready_dep hr (k := 4) (by kernel_rfl)
          clear hr
          have e4 : s 4 = .bool false := HV.out.v d4 rfl
          refine wpOp_step rfl (fun K hK => ?_)
          go_simp
          refine hK _ _ ?_
          exact ⟨upd (upd s 4 (.bool false)) 12 (undef), rfl, Sv.put (Sv.re (j := 4) (v := .bool false) HV.out e4) (fun u hu => by cases hu; rfl), HST.out⟩
         ·have d4 := ready_dep hr (k := 4) (by kernel_rfl)
          clear hr
          have e4 : s 4 = .bool false := HV.out.v d4 rfl
          refine wpOp_step rfl (fun K hK => ?_)
          go_simp
          refine hK _ _ ?_
          exact ⟨upd (upd s 4 (.bool false)) 13 (undef), rfl, Sv.put (Sv.re (j := 4) (v := .bool false) HV.out e4) (fun u hu => by cases hu; rfl), HST.out⟩
         ·have d4 := ready_dep hr (k := 4) (by kernel_rfl)
          have d13 := ready_dep hr (k := 13) (by kernel_rfl)
          clear hr
          have e4 : s 4 = .bool false := HV.out.v d4 rfl
          have e13 : s 13 = undef := HV.out.v d13 rfl
          refine wpOp_step rfl (fun K hK => ?_)
          go_simp
          refine hK _ _ ?_
          exact ⟨upd (upd (upd s 4 (.bool false)) 13 (undef)) 14 (.bool false), rfl, Sv.put (Sv.re (j := 13) (v := undef) (Sv.re (j := 4) (v := .bool false) HV.out e4) e13) (fun u hu => by cases hu; rfl), HST.out⟩
        ·intro Lq aq WN hI hrd
         obtain ⟨s, ha, hv, hst⟩ := hI
         have hall := all_listedM hrd hv.sz (by kernel_rfl)
         clear hrd
         have e0 : s 0 = (.int .i64 (ps.length : Int)) := hv.v (hall 0 (by decide)) rfl
         have e1 : s 1 = (.slice Ap ps.length cp) := hv.v (hall 1 (by decide)) rfl
         have e2 : s 2 = (.int .i64 (ps.length : Int)) := hv.v (hall 2 (by decide)) rfl
         have e3 : s 3 = (.bool false) := hv.v (hall 3 (by decide)) rfl
         have e4 : s 4 = (.bool false) := hv.v (hall 4 (by decide)) rfl
         have e5 : s 5 = (undef) := hv.v (hall 5 (by decide)) rfl
         have e6 : s 6 = (undef) := hv.v (hall 6 (by decide)) rfl
         have e7 : s 7 = (undef) := hv.v (hall 7 (by decide)) rfl
         have e8 : s 8 = (undef) := hv.v (hall 8 (by decide)) rfl
         have e9 : s 9 = (undef) := hv.v (hall 9 (by decide)) rfl
         have e10 : s 10 = (undef) := hv.v (hall 10 (by decide)) rfl
         have e11 : s 11 = (undef) := hv.v (hall 11 (by decide)) rfl
         have e12 : s 12 = (undef) := hv.v (hall 12 (by decide)) rfl
         have e13 : s 13 = (undef) := hv.v (hall 13 (by decide)) rfl
         have e14 : s 14 = (.bool false) := hv.v (hall 14 (by decide)) rfl
         simp only [e0, e1, e2, e3, e4, e5, e6, e7, e8, e9, e10, e11, e12, e13, e14] at ha
         subst ha
         clear hall hv e0 e1 e2 e3 e4 e5 e6 e7 e8 e9 e10 e11 e12 e13 e14
         obtain ⟨q0, q1, hbl⟩ := hst
         have hwx := stay_b HBY.out hbl
         have ho := own_below hP.out.own hwx (Nat.le_refl _)
         have hsz := (stay_b hP.out.bel hwx).size
         have hCx := hC.out.below hwx
         have hbx := stay_b hP.out.bel hwx
         have HO := Lib.hid ho
         have HCX := Lib.hid hCx
         have HBX := Lib.hid hbx
         have hgl := blk_lt hCx
         have hw1 : IntKind.i64.wrap (ps.length : Int) = (ps.length : Int) := IntWalk.i64_in _ (by omega)
         have hw2 : IntKind.i64.wrap (((ps.length + 1 : Nat) : Int) - 1) = (ps.length : Int) := by rw [IntWalk.i64_in _ (by omega)]; omega
         clear ho hCx hbx
         go_wp2_with (at_builtin; go_loud (refine app_gen Tryd.underlying104 pt_info rfl (by decide) (by decide) rfl (.tmp 59) (.tmp 64) rfl w1.heap.size _ ps.length (pcs ps) [.int .i64 c.1, .int .i64 c.2] rfl HO.out hsz 1 _ rfl rfl rfl (pt_one _ _) (by omega) ?_); intro v' w' hown' hb' hgr'; obtain ⟨g9, c9, cur9, hv9, _, _, hge9, _⟩ := own_addr hown' (Nat.succ_pos _); subst hv9)
         have hof9 := off_grow hoff hgl hgr'
         have hne9 : gc ≠ g9 := fun e => hof9 (by rw [e]; rfl)
         have hs0 : ShS w1 ps g9 c9 gc t ps.length (ps ++ [c]) w' := ⟨ShI.start _ _, by rw [pcs_app]; exact hown', HCX.out.grow hgr' hoff, HBX.out.trans hb', hge9⟩
         have HS0 := Lib.hid hs0
         clear hs0 hown' hb' hgr' hgl
         go_loopw [9] (fun x wq => ∃ (j : Nat) (q : List P2), ps.length ≤ j ∧ j ≤ ps.length ∧ x = .int .i64 j ∧ Hid (ShS w1 ps g9 c9 gc t j q wq)) (fun x _ => (intOf x).toNat)
         case atStart => exact ⟨ps.length, ps ++ [c], (by omega : ps.length ≤ ps.length), Nat.le_refl _, rfl, HS0⟩
         case round =>
          clear HS0
          obtain ⟨j, q, haj, hjn, rfl, hS⟩ := hrel
          by_cases hj : ps.length < j
          ·exact absurd hj (by omega)
          ·have hja : ps.length = j := by omega
           subst hja
           have hji : ¬ ((ps.length : Nat) : Int) < ((ps.length : Nat) : Int) := by omega
           obtain ⟨y, hy⟩ : ∃ y, q[ps.length]? = some y := ⟨_, List.getElem?_eq_getElem (by have := hS.out.inv.len; omega)⟩
           obtain ⟨z0, z1⟩ := own_pt hS.out.own hy
           obtain ⟨x0, x1⟩ := hS.out.cor.at_ hk3
           rw [← HCC.out] at x0 x1
           have f0 := hS.out.own.frozenAt (ps.length * 2)
           have f1 := hS.out.own.frozenAt (ps.length * 2 + 1)
           have hjl2 : ps.length < ps.length + 1 := by omega
           obtain ⟨hN, hN2⟩ := hS.out.done hP.out.inv HPN.out HNE.out hP.out.len hne9
           have HN := Lib.hid (hN.re (fun p => (HSTEP.out p).symm) (Nat.le_refl _))
           have HN2 := Lib.hid hN2
           clear hN hN2 hy
           go_wp2
           go_roundw
           case rel => exact ⟨k + 1, _, by omega, by go_num, hof9, HN2, HN⟩
           case measure => simp [intOf]; omega
    ·obtain rfl : k = 3 := by omega
     have hN := hP.out.re (m' := 3 * (i + 1)) (fun p => Crn.row (l := L) (i := i) p) (by omega)
     have HN := Lib.hid hN
     clear hN
     go_wp2
     go_roundw
     case rel => exact ⟨i + 1, _, by omega, by go_num, HN⟩
     case measure => simp [intOf]; omega
  ·obtain rfl : i = L.length := by omega
   have hpi := hP.out.inv.re (fun p => Crn.all (Nat.le_refl L.length) p)
   have HPI := Lib.hid hpi
   clear hpi
   go_wp2
   go_ret
   exact ⟨_, ps, rfl, HPI.out, by have := hP.out.len; omega, own_mono hP.out.own HBW.out.size, HBW.out.trans (hP.out.bel.mono HBW.out.size)⟩
end Go.Proofs.YtoienokpchbglaaDoor
