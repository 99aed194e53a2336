/- faces.StarsOf. Printed by gen_sr.py. faces.Stars. -/
import Derived.Test.YtoienokpchbglaaDoorSw
import Derived.Test.YtoienokpchbglaaDoorFcl
import Derived.Test.YtoienokpchbglaaDoorNew
namespace Go.Proofs.YtoienokpchbglaaDoor
set_option linter.unusedSimpArgs false
set_option linter.unusedVariables false
section
open Go.RowKit Go.Maps

set_option pp.deepTerms true in
set_option pp.maxSteps 10000000 in
set_option maxRecDepth 100000 in
set_option maxHeartbeats 12800000 in
theorem starsOf_any (pb nb kb W H B : Nat) (vm vt : Value) (Ac : Option Addr) (nc cc : Nat) (L : List T3) (mn mk : Nat) (fk : E4 → Option Int) (cs : List C5) (w : World) (hs : Steps w) (hp : PapI w pb nb kb W H vm (.slice Ac nc cc) vt L mn mk fk) (ho : w.ownsRow B 93 3 vt L.length (tcT L)) (hc : Rd w 5 Ac nc (ccs cs))
  (hL : ∀ t ∈ L, SmT t) (hLl : L.length ≤ 1000) (hci : CrI L cs) (hcd : cs.Pairwise fun a b => a.1 ≠ b.1) (hcl : cs.length ≤ 3000) :
  Calls Tryd.prog 45 #[.pointer (some ⟨pb, 0, none⟩)] w fun r w' => ∃ v zs ks, r = .returned v ∧ PtI (EndP cs) ks ∧ StarsW w' w.heap.size v (starsC L cs ks) zs ∧ Below w.heap.size w w' := by
 have hmm := @run_makeMap Tryd.prog
 have hcn := hc.creases_len
 subst hcn
 obtain ⟨At, ct, hvt, _, _⟩ := own_slice ho
 subst hvt
 have c4 := al_c hp.c4 (.map #[] 0)
 have hS0 : CntX (w.alloc (.map #[] 0)) w.heap.size 0 (crsU L 0 0) := by rw [crsU_nil]; exact CntX.made w
 have hB0 := below_new w (.map #[] 0)
 have HP := Lib.hid hp
 have HO := Lib.hid ho
 have HC := Lib.hid hc
 have HS := Lib.hid hs
 have HL := Lib.hid hL
 have HCI := Lib.hid hci
 have HCD := Lib.hid hcd
 have HS0 := Lib.hid hS0
 have HB0 := Lib.hid hB0
 clear hp ho hc hs hL hci hcd hS0 hB0
 go_enter Tryd.func45, Tryd.ntmps45
 go_wp2_with fail
 generalize w.alloc (.map #[] 0) = wm at c4 HS0 HB0 ⊢
 go_loopw [27] (fun x wr => ∃ i : Nat, i ≤ L.length ∧ x = .int .i64 i ∧ Hid (CntX wr w.heap.size (3 * i) (crsU L i 0)) ∧ Hid (Below w.heap.size w wr)) (fun x _ => L.length - (intOf x).toNat)
 case atStart => exact ⟨0, by omega, rfl, HS0, HB0⟩
 case round =>
  clear HS0 HB0
  obtain ⟨i, hi, rfl, hS, hB⟩ := hrel
  by_cases hil : i < L.length
  ·have hii : (i : Int) < (L.length : Int) := by omega
   obtain ⟨t, ht⟩ : ∃ t, L[i]? = some t := ⟨_, List.getElem?_eq_getElem hil⟩
   obtain ⟨gt, cpt, curt, hat, _, _, _, _⟩ := own_addr HO.out (by omega)
   cases hat
   obtain ⟨t0, t1, t2⟩ := own_tri (own_below HO.out hB.out (Nat.le_refl _)) ht
   have hts := HL.out t (List.mem_of_getElem? ht)
   have hb6 := below_new wr (.cells #[.int .i64 t.1, .int .i64 t.2.1, .int .i64 t.2.2] 93)
   have cC := corners_any t.1 t.2.1 t.2.2 (wr.alloc (.cells #[.int .i64 t.1, .int .i64 t.2.1, .int .i64 t.2.2] 93)) (HS.out.below (stay_b hB.out hb6)) (by have := hts.1; omega) (by have := hts.1; omega) (by have := hts.2.1; omega) (by have := hts.2.1; omega) hts.2.2.1 hts.2.2.2
   have CC := Lib.hid cC
   have HTT := Lib.hid ht
   have HTS := Lib.hid hts
   have HB6 := Lib.hid hb6
   clear cC ht hts hb6
   obtain ⟨wo, hwo⟩ : ∃ x, x = wr := ⟨_, rfl⟩
   subst hwo
   go_wp2_with (go_at_call 41; refine CC.out.mono ?_; rintro r w3 ⟨rfl, hb3⟩)
   have HS3 := Lib.hid ((hS.out.stay HB6.out).stay hb3)
   have HB3 := Lib.hid (stay_b (stay_b hB.out HB6.out) hb3)
   have hrow : crsU L i 3 = crsU L (i + 1) 0 := crsU_row HTT.out
   have HROW := Lib.hid hrow
   clear hrow hS hB HB6 hb3 CC t0 t1 t2
   go_loopw [33] (fun x wr => ∃ k : Nat, k ≤ 3 ∧ x = .int .i64 k ∧ Hid (CntX wr w.heap.size (3 * i + k) (crsU L i k)) ∧ Hid (Below w.heap.size w wr)) (fun x _ => 3 - (intOf x).toNat)
   case atStart => exact ⟨0, by omega, rfl, HS3, HB3⟩
   case round =>
    clear HS3 HB3
    obtain ⟨k, hk, rfl, hS, hB⟩ := hrel
    by_cases hk3 : k < 3
    ·have hki : (k : Int) < 3 := by omega
     have hiy : ∀ w, (Instr.index 99 (agg3P t) (.int .i64 k)).run Tryd.prog w = .ok (aggP (crT t k).1 (crT t k).2) w := fun w => idxP t k hk3 w
     obtain ⟨hok2, _⟩ := HTS.out.corner hk3
     have hsp := crsU_step HTT.out hk3
     obtain ⟨c, hcc⟩ : ∃ c, c = crT t k := ⟨_, rfl⟩
     rw [← hcc] at hiy hok2 hsp
     obtain ⟨f, hm, hf⟩ := hS.out.map
     have hmE := (hm.alloc (.cells #[.int .i64 c.1, .int .i64 c.2] 49)).drew
     have hfc := hf c
     have hle := List.count_le_length (a := c) (l := crsU L i k)
     have hln := crsU_len L (i := i) (k := k) (by omega) (by omega)
     have hinc := fun (w' : World) (hm' : MapI kP w' w.heap.size (3 * i + k + 1) (setF f c ((f c).getD 0 + 1))) => CntX.inc hf hm'
     obtain ⟨V, hV⟩ : ∃ V, V = (f c).getD 0 := ⟨_, rfl⟩
     rw [← hV] at hfc hinc
     rw [← hsp] at hinc
     have kE0 := heap_alloc_new wr (.cells #[.int .i64 c.1, .int .i64 c.2] 49)
     have hmb : wr.heap.size ≠ w.heap.size := by have := hm.lt; omega
     have hb7 := below_new wr (.cells #[.int .i64 c.1, .int .i64 c.2] 49)
     have hnm2 : 3 * i + k < maxLen := by unfold maxLen; omega
     have hw1 : IntKind.i64.wrap (V + 1) = V + 1 := IntWalk.i64_in _ (by omega)
     have hzw : (Lit.int .i64 (V + 1)).wf = true := wf_of (by unfold inR; omega)
     have x0 := cell_of_blk kE0 0
     have x1 := cell_of_blk kE0 1
     simp only [List.getElem?_toArray, List.getElem?_cons_zero, List.getElem?_cons_succ] at x0 x1
     have HM2 := Lib.hid hmE
     have HVE := Lib.hid hV
     have HOK2 := Lib.hid hok2
     have HINC := Lib.hid hinc
     have HZW := Lib.hid hzw
     have HNM := Lib.hid hnm2
     have HBI := Lib.hid (stay_b hB.out hb7)
     clear hmE hV hok2 hsp hinc hzw hnm2 hb7 hcc hm hf kE0 hfc hle hln hB hS
     obtain ⟨wi, hwi⟩ : ∃ x, x = wr := ⟨_, rfl⟩
     subst hwi
     go_wp2_with fail
     generalize wi.alloc (.cells #[.int .i64 c.1, .int .i64 c.2] 49) = w8 at x0 x1 HM2 HBI ⊢
     have x0 : w8.drew.cell? ⟨wi.heap.size, 0, none⟩ = some (.int .i64 c.1) := x0
     have x1 : w8.drew.cell? ⟨wi.heap.size, 1, none⟩ = some (.int .i64 c.2) := x1
     refine wp_region_inv (fun Lq aq WN => ∃ s : Nat → Value, aq = { tmps := #[.pointer (some ⟨pb, 0, none⟩), undef, .slice none 0 0, .map (some w.heap.size), undef, .pointer (some ⟨wo.heap.size, 0, none⟩), undef, .pointer (some ⟨wi.heap.size, 0, none⟩), undef, undef, undef, undef, undef, undef, undef, undef, undef, undef, undef, undef, undef, .map (some w.heap.size), .pointer (some ⟨pb, 0, none⟩), .pointer (some ⟨pb, 0, none⟩), .pointer (some ⟨pb, 4, none⟩), .slice (some ⟨gt, 0, none⟩) L.length ct, .int .i64 (L.length : Int), .int .i64 (i : Int), .bool true, .pointer (some ⟨gt, i * 3, none⟩), .agg #[.int .i64 t.1, .int .i64 t.2.1, .int .i64 t.2.2], .agg #[.int .i64 t.1, .int .i64 t.2.1, .int .i64 t.2.2], .agg #[.int .i64 (2 * t.1 + 1), .int .i64 (2 * t.2.1 + 1), .int .i64 (cornX t.1 t.2.2), .int .i64 (cornY t.2.1 t.2.2), .int .i64 (cornX t.1 (t.2.2 + 1)), .int .i64 (cornY t.2.1 (t.2.2 + 1))], .int .i64 (k : Int), .bool true, aggP c.1 c.2, (s 0), (s 1), (s 2), (s 3), (s 4), (s 5), u42, u43, undef, undef, undef, undef, undef, undef, undef, undef, undef, undef, undef, undef, undef, undef, undef, undef, undef, undef, undef, undef, undef, undef, undef, undef, undef, undef, undef, undef, undef, undef, undef, undef, undef, undef, undef, undef, undef, undef, undef, undef, undef, undef, undef, undef, undef, undef, undef, undef, undef, undef, undef, undef, undef, undef, undef, undef, undef, undef, undef, undef, undef, undef, undef, undef, undef, undef, undef, undef, undef, undef, undef, undef, undef, undef, undef, undef, undef, undef, undef, undef, undef, undef, undef, undef, undef, undef, undef, undef, undef, undef, undef, undef, undef, undef], defers := [] } ∧ Sv 7 [some (.map (some w.heap.size)), some (aggP c.1 c.2), some (.int .i64 V), some (.int .i64 (V + 1)), none, none, some (undef)] Lq s ∧ Cl [(6, 0), (6, 1), (6, 2), (6, 3), (6, 4), (6, 5), (5, 4)] Lq ∧ (Lq.getD 5 false = true → ∃ v0, s 4 = .tuple #[v0, s 5]) ∧ EnS kP (w8.drew) (w.heap.size) (3 * i + k) (f) (c) (V + 1) (Lq.getD 4 false) (Lq.getD 6 false) (s 4) WN) (by kernel_rfl) ?_ ?_ ?_
     ·refine ⟨listF [u36, u37, u38, u39, u40, u41, undef], rfl, Sv.start 7 _ _, Cl.start _ _, fun h => (by rw [getD_replicate_false] at h; cases h), ?_⟩
      rw [getD_replicate_false, getD_replicate_false]
      exact Below.refl _ _
     ·intro Lq aq WN i0 hI hr
      obtain ⟨s, rfl, hv, hcl, hx, hst⟩ := hI
      have hi0 : i0 < 7 := ready_lt hr
      have hno := (mem_ready.1 hr).1
      have hsz := hv.sz
      have HV := Lib.hid hv
      have HST := Lib.hid hst
      have HX := Lib.hid hx
      have HCL := Lib.hid hcl
      clear hv hst hx hcl
      have hii : i0 = 0 ∨ i0 = 1 ∨ i0 = 2 ∨ i0 = 3 ∨ i0 = 4 ∨ i0 = 5 ∨ i0 = 6 := by omega
      clear hi0
      rcases hii with rfl | rfl | rfl | rfl | rfl | rfl | rfl
      ·clear hr
       have hs0 : Lq.getD 6 false = false := HCL.out.no (i := 0) (by decide) hno
       refine wpOp_step rfl (fun K hK => ?_)
       go_simp
       refine hK _ _ ?_
       exact ⟨upd s 0 (.map (some w.heap.size)), rfl, Sv.put HV.out (fun u hu => by cases hu; rfl), Cl.set HCL.out (by simp only [List.mem_cons, List.not_mem_nil, or_false]; rintro p (rfl | rfl | rfl | rfl | rfl | rfl | rfl) hp <;> first | assumption | (simp at hp; done)), (fun hh => HX.out (by rwa [set_other (show (0 : Nat) ≠ 5 by decide)] at hh)), EnS.keep HST.out (by decide) (by decide) rfl⟩
      ·clear hr
       have hs0 : Lq.getD 6 false = false := HCL.out.no (i := 1) (by decide) hno
       have hgw := HST.out.grown
       have q0 := grow_c hgw hmb x0
       have q1 := grow_c hgw hmb x1
       clear hgw
       refine wpOp_step rfl (fun K hK => ?_)
       go_simp
       refine hK _ _ ?_
       exact ⟨upd s 1 (aggP c.1 c.2), rfl, Sv.put HV.out (fun u hu => by cases hu; rfl), Cl.set HCL.out (by simp only [List.mem_cons, List.not_mem_nil, or_false]; rintro p (rfl | rfl | rfl | rfl | rfl | rfl | rfl) hp <;> first | assumption | (simp at hp; done)), (fun hh => HX.out (by rwa [set_other (show (1 : Nat) ≠ 5 by decide)] at hh)), EnS.keep HST.out (by decide) (by decide) rfl⟩
      ·have d0 := ready_dep hr (k := 0) (by kernel_rfl)
       have d1 := ready_dep hr (k := 1) (by kernel_rfl)
       clear hr
       have hs0 : Lq.getD 6 false = false := HCL.out.no (i := 2) (by decide) hno
       have e0 : s 0 = .map (some w.heap.size) := HV.out.v d0 rfl
       have e1 : s 1 = aggP c.1 c.2 := HV.out.v d1 rfl
       have hst0 := HST.out
       rw [hs0] at hst0
       have hlk0 := hst0.look HM2.out HOK2.out
       rw [← HVE.out] at hlk0
       have hlk : (Instr.lookup (kP).T (.map (some (w.heap.size))) ((kP).enc (c)) false).run Tryd.prog WN = .ok (.int .i64 V) WN := hlk0
       clear hst0 hlk0
       simp only [kP] at hlk
       refine wpOp_step rfl (fun K hK => ?_)
       go_simp
       refine hK _ _ ?_
       exact ⟨upd (upd (upd s 0 (.map (some w.heap.size))) 1 (aggP c.1 c.2)) 2 (.int .i64 V), rfl, Sv.put (Sv.re (j := 1) (v := aggP c.1 c.2) (Sv.re (j := 0) (v := .map (some w.heap.size)) HV.out e0) e1) (fun u hu => by cases hu; rfl), Cl.set HCL.out (by simp only [List.mem_cons, List.not_mem_nil, or_false]; rintro p (rfl | rfl | rfl | rfl | rfl | rfl | rfl) hp <;> first | assumption | (simp at hp; done)), (fun hh => HX.out (by rwa [set_other (show (2 : Nat) ≠ 5 by decide)] at hh)), EnS.keep HST.out (by decide) (by decide) rfl⟩
      ·have d2 := ready_dep hr (k := 2) (by kernel_rfl)
       clear hr
       have hs0 : Lq.getD 6 false = false := HCL.out.no (i := 3) (by decide) hno
       have e2 : s 2 = .int .i64 V := HV.out.v d2 rfl
       refine wpOp_step rfl (fun K hK => ?_)
       go_simp
       refine hK _ _ ?_
       exact ⟨upd (upd s 2 (.int .i64 V)) 3 (.int .i64 (V + 1)), rfl, Sv.put (Sv.re (j := 2) (v := .int .i64 V) HV.out e2) (fun u hu => by cases hu; rfl), Cl.set HCL.out (by simp only [List.mem_cons, List.not_mem_nil, or_false]; rintro p (rfl | rfl | rfl | rfl | rfl | rfl | rfl) hp <;> first | assumption | (simp at hp; done)), (fun hh => HX.out (by rwa [set_other (show (3 : Nat) ≠ 5 by decide)] at hh)), EnS.keep HST.out (by decide) (by decide) rfl⟩
      ·have d0 := ready_dep hr (k := 0) (by kernel_rfl)
       have d1 := ready_dep hr (k := 1) (by kernel_rfl)
       clear hr
       have hs0 : Lq.getD 6 false = false := HCL.out.no (i := 4) (by decide) hno
       have he0 : Lq.getD 4 false = false := getD_both hno
       have e0 : s 0 = .map (some w.heap.size) := HV.out.v d0 rfl
       have e1 : s 1 = aggP c.1 c.2 := HV.out.v d1 rfl
       obtain ⟨v0, st, wE1, hrun, hent, hgr⟩ := (MapI.stay HM2.out (HST.out.atA he0 hs0)).enter lawP HNM.out HOK2.out
       have HENT := Lib.hid hent
       have HGR := Lib.hid hgr
       clear hent hgr
       simp only [kP] at hrun
       refine wpOp_step rfl (fun K hK => ?_)
       go_simp
       refine hK _ _ ?_
       exact ⟨upd (upd (upd s 0 (.map (some w.heap.size))) 1 (aggP c.1 c.2)) 4 (.tuple #[v0, st]), rfl, Sv.put (Sv.re (j := 1) (v := aggP c.1 c.2) (Sv.re (j := 0) (v := .map (some w.heap.size)) HV.out e0) e1) (fun u hu => by cases hu), Cl.set HCL.out (by simp only [List.mem_cons, List.not_mem_nil, or_false]; rintro p (rfl | rfl | rfl | rfl | rfl | rfl | rfl) hp <;> first | assumption | (simp at hp; done)), (fun hh => absurd (HCL.out (5, 4) (by decide) (by rwa [set_other (show (4 : Nat) ≠ 5 by decide)] at hh)) (by rw [he0]; decide)), EnS.entered HST.out he0 hs0 hsz (by decide) (by decide) HENT.out HGR.out⟩
      ·have d4 := ready_dep hr (k := 4) (by kernel_rfl)
       clear hr
       have hs0 : Lq.getD 6 false = false := HCL.out.no (i := 5) (by decide) hno
       obtain ⟨v0, st, e4, hent, hgr⟩ := HST.out.atB d4 hs0
       refine wpOp_step rfl (fun K hK => ?_)
       go_simp
       refine hK _ _ ?_
       exact ⟨upd (upd s 4 (.tuple #[v0, st])) 5 st, rfl, Sv.put (Sv.re (j := 4) (v := .tuple #[v0, st]) HV.out e4) (fun u hu => by cases hu), Cl.set HCL.out (by simp only [List.mem_cons, List.not_mem_nil, or_false]; rintro p (rfl | rfl | rfl | rfl | rfl | rfl | rfl) hp <;> first | assumption | (simp at hp; done)), (fun _ => ⟨v0, rfl⟩), EnS.keep HST.out (by decide) (by decide) e4.symm⟩
      ·have d0 := ready_dep hr (k := 0) (by kernel_rfl)
       have d1 := ready_dep hr (k := 1) (by kernel_rfl)
       have d2 := ready_dep hr (k := 2) (by kernel_rfl)
       have d3 := ready_dep hr (k := 3) (by kernel_rfl)
       have d4 := ready_dep hr (k := 4) (by kernel_rfl)
       have d5 := ready_dep hr (k := 5) (by kernel_rfl)
       clear hr
       have hs0 : Lq.getD 6 false = false := getD_both hno
       have e0 : s 0 = .map (some w.heap.size) := HV.out.v d0 rfl
       obtain ⟨v0, st, ee, hent, hgr⟩ := HST.out.atB d4 hs0
       obtain ⟨v1, ex⟩ := HX.out d5
       have e5 : s 5 = st := by
        have h1 := ee.symm.trans ex
        simp only [Value.tuple.injEq, Array.mk.injEq, List.cons.injEq, and_true] at h1
        exact h1.2.symm
       have e3 : s 3 = .int .i64 (V + 1) := HV.out.v d3 rfl
       obtain ⟨wE2, hrun, hm2, hg2⟩ := hent.store (V + 1) HZW.out
       have HM2 := Lib.hid hm2
       have HG2 := Lib.hid hg2
       have EX := Lib.hid ex
       clear hm2 hg2 hent hgr ee ex
       simp only [kP] at hrun
       refine wpOp_step rfl (fun K hK => ?_)
       go_simp
       refine hK _ _ ?_
       exact ⟨upd (upd (upd (upd s 0 (.map (some w.heap.size))) 5 st) 3 (.int .i64 (V + 1))) 6 undef, rfl, Sv.put (Sv.re (j := 3) (v := .int .i64 (V + 1)) (Sv.re (j := 5) (v := st) (Sv.re (j := 0) (v := .map (some w.heap.size)) HV.out e0) e5) e3) (fun u hu => by cases hu; rfl), Cl.set HCL.out (by simp only [List.mem_cons, List.not_mem_nil, or_false]; rintro p (rfl | rfl | rfl | rfl | rfl | rfl | rfl) hp <;> first | assumption | (simp at hp; done)), (fun _ => ⟨v1, by rw [show upd (upd (upd (upd s 0 (.map (some w.heap.size))) 5 st) 3 (.int .i64 (V + 1))) 6 undef 4 = s 4 from rfl, EX.out]; exact congrArg (fun q => Value.tuple #[v1, q]) e5⟩), EnS.stored HST.out hsz (by decide) HM2.out HG2.out⟩
     ·intro Lq aq WN hI hrd
      obtain ⟨s, ha, hv, hcl, hx, hst⟩ := hI
      have hall := all_listedM hrd hv.sz (by kernel_rfl)
      clear hrd
      obtain ⟨v1, ex⟩ := hx (hall 5 (by decide))
      obtain ⟨v2, hv2⟩ : ∃ v, v = s 5 := ⟨_, rfl⟩
      rw [← hv2] at ex
      have e0 : s 0 = (.map (some w.heap.size)) := hv.v (hall 0 (by decide)) rfl
      have e1 : s 1 = (aggP c.1 c.2) := hv.v (hall 1 (by decide)) rfl
      have e2 : s 2 = (.int .i64 V) := hv.v (hall 2 (by decide)) rfl
      have e3 : s 3 = (.int .i64 (V + 1)) := hv.v (hall 3 (by decide)) rfl
      have e4 := ex
      have e5 := hv2.symm
      simp only [e0, e1, e2, e3, e4, e5] at ha
      subst ha
      have hend := hst.atC (hall 6 (by decide))
      clear hall hv hcl hx hst hv2 ex e0 e1 e2 e3 e4 e5
      have HS9 := Lib.hid (HINC.out WN hend.map)
      have HB9 := Lib.hid (HBI.out.drew.trans (below_of_grown hend.grown (Nat.le_refl _) (by have := HBI.out.size; simpa using this)) : Below w.heap.size w WN)
      clear hend HBI HINC HM2
      go_wp2
      go_roundw
      case rel => exact ⟨k + 1, by omega, by go_num, HS9, HB9⟩
      case measure => simp [intOf]; omega
    ·obtain rfl : k = 3 := by omega
     have HS9 : Hid (CntX wr w.heap.size (3 * (i + 1)) (crsU L (i + 1) 0)) := by rw [← HROW.out]; exact hS
     go_wp2
     go_roundw
     case rel => exact ⟨i + 1, by omega, by go_num, HS9, hB⟩
     case measure => simp [intOf]; omega
  ·obtain rfl : i = L.length := by omega
   have hii : ¬ (L.length : Int) < (L.length : Int) := by omega
   have HS1 : Hid (CntX wr w.heap.size (3 * L.length) (cornersA L)) := by rw [← crsU_all]; exact hS
   clear hS
   obtain ⟨w4, hw4⟩ : ∃ x, x = wr := ⟨_, rfl⟩
   subst hw4
   have hp2 := HP.out.below hB.out
   have c3 := al_c ((cell_of_blk hp2.blk 3).trans rfl : w4.cell? ⟨pb, 3, none⟩ = some (.slice Ac cs.length cc)) (.map #[] 0)
   have hS2 : SrO w w4.heap.size (2 * 0) (3 * L.length) L (fun _ => none) (w4.alloc (.map #[] 0)) := ⟨HS1.out.stay (below_new _ _), MapV.made kvP w4, hB.out.alloc hB.out.size _, HS1.out.lt⟩
   have hO2 : OutI (fun _ => none) (cs.take 0) := by rw [List.take_zero]; exact OutI.nil
   have HS2 := Lib.hid hS2
   have HO2 := Lib.hid hO2
   clear hp2 hS2 hO2 HS1 hB c4
   go_wp2_with fail
   generalize w4.alloc (.map #[] 0) = wm2 at c3 HS2 ⊢
   obtain ⟨mb2, hmb2⟩ : ∃ x, x = w4.heap.size := ⟨_, rfl⟩
   rw [← hmb2] at HS2 ⊢
   clear hmb2
   go_loopw [51] (fun x wr => ∃ (i : Nat) (f : P2 → Option (List Int)), i ≤ cs.length ∧ x = .int .i64 i ∧ Hid (OutI f (cs.take i)) ∧ Hid (SrO w mb2 (2 * i) (3 * L.length) L f wr)) (fun x _ => cs.length - (intOf x).toNat)
   case atStart => exact ⟨0, _, by omega, rfl, HO2, HS2⟩
   case round =>
    clear HO2 HS2
    obtain ⟨i, f, hi, rfl, hO, hS⟩ := hrel
    by_cases hil : i < cs.length
    ·have hii : (i : Int) < (cs.length : Int) := by omega
     obtain ⟨c, hc⟩ : ∃ c, cs[i]? = some c := ⟨_, List.getElem?_eq_getElem hil⟩
     have hcm := List.mem_of_getElem? hc
     obtain ⟨bc, oc, hAe, _, _⟩ := HC.out.at_ (by omega)
     subst hAe
     obtain ⟨q0, q1, q2, q3, q4⟩ := (HC.out.below hS.out.bel).crease hc
     have kb := heap_alloc_new wr (.cells #[.int .i64 c.1.1, .int .i64 c.1.2.1, .int .i64 c.1.2.2.1, .int .i64 c.1.2.2.2, .int .i64 c.2] 88)
     have b0 := cell_of_blk kb 0
     have b1 := cell_of_blk kb 1
     have b2 := cell_of_blk kb 2
     have b3 := cell_of_blk kb 3
     simp only [List.getElem?_toArray, List.getElem?_cons_zero, List.getElem?_cons_succ] at b0 b1 b2 b3
     have htk : cs.take (i + 1) = cs.take i ++ [c] := by rw [List.take_add_one, hc]; rfl
     have hsh := HCI.out.sh (fun t ht => (HL.out t ht).2.2) hcm
     have hO2 := putJ_two hO.out hsh (crease_new HCD.out hc)
     rw [← htk] at hO2
     have hpl := putJ_len hO.out.len c
     have HO2 := Lib.hid hO2
     have HPL := Lib.hid hpl
     have HSH := Lib.hid hsh
     have HCM := Lib.hid hcm
     have HS6 := Lib.hid (hS.out.below (below_new wr (.cells #[.int .i64 c.1.1, .int .i64 c.1.2.1, .int .i64 c.1.2.2.1, .int .i64 c.1.2.2.2, .int .i64 c.2] 88)))
     have HKB := Lib.hid kb
     clear hO2 hpl hsh hcm hS hO kb htk hc
     obtain ⟨wo, hwo⟩ : ∃ x, x = wr := ⟨_, rfl⟩
     subst hwo
     go_wp2_with fail
     clear q0 q1 q2 q3 q4 b0 b1 b2 b3
     generalize wo.alloc (.cells #[.int .i64 c.1.1, .int .i64 c.1.2.1, .int .i64 c.1.2.2.1, .int .i64 c.1.2.2.2, .int .i64 c.2] 88) = w6 at HS6 HKB ⊢
     go_loopw [70] (fun x wr => ∃ j : Nat, j ≤ 2 ∧ x = .int .i64 j ∧ Hid (SrO w mb2 (2 * i + j) (3 * L.length) L (putJ f c j) wr) ∧ Hid (wr.heap[wo.heap.size]? = some (.cells #[.int .i64 c.1.1, .int .i64 c.1.2.1, .int .i64 c.1.2.2.1, .int .i64 c.1.2.2.2, .int .i64 c.2] 88 (0, 0)))) (fun x _ => 2 - (intOf x).toNat)
     case atStart => exact ⟨0, by omega, rfl, HS6, HKB⟩
     case round =>
      clear HS6 HKB
      obtain ⟨j, hj, rfl, hS, hK⟩ := hrel
      by_cases hj2 : j < 2
      ·have hji : (j : Int) < 2 := by omega
       have hix := idx22 c.1 j hj2
       have hokx := HCI.out.end_ok HL.out HCM.out j
       have hoky := HCI.out.end_ok HL.out HCM.out (1 - j)
       rw [← edY_edX c.1 hj2] at hoky
       have hdl := edD_lt c.1 j
       have hdir := edD_dir HSH.out j
       have hput : putJ f c (j + 1) = putH (putJ f c j) (edX c.1 j) (edD c.1 j) c.2 := rfl
       obtain ⟨X, hX⟩ : ∃ X, X = edX c.1 j := ⟨_, rfl⟩
       obtain ⟨Y, hY⟩ : ∃ Y, Y = edY c.1 j := ⟨_, rfl⟩
       obtain ⟨d, hd⟩ : ∃ d, d = edD c.1 j := ⟨_, rfl⟩
       rw [← hX] at hix hokx hdir hput
       rw [← hY] at hix hoky hdir
       rw [← hd] at hdl hdir hput
       have hcd : ∀ W : World, Calls Tryd.prog 73 #[.agg #[.int .i64 X.1, .int .i64 X.2], .agg #[.int .i64 Y.1, .int .i64 Y.2]] W fun e w' => e = .returned (.int .i64 ((d : Nat) : Int)) ∧ Below W.heap.size W w' := by
        intro W
        have h := direction_any X.1 X.2 Y.1 Y.2 W (by omega) (by omega) (by omega) (by omega)
        unfold dirP at hdir
        rw [hdir] at h
        exact h
       have hl8 : ((putJ f c j X).getD (List.replicate 8 0)).length = 8 := by
        cases hf : putJ f c j X with
        | none => rfl
        | some l => exact HPL.out j X l hf
       obtain ⟨l0, l1, l2, l3, l4, l5, l6, l7, hle⟩ := eight hl8
       have hm8 : (((putJ f c j X).getD (List.replicate 8 0)).set d c.2).length = 8 := by rw [List.length_set]; exact hl8
       obtain ⟨m0, m1, m2, m3, m4, m5, m6, m7, hme⟩ := eight hm8
       have hput2 : putJ f c (j + 1) = setV (putJ f c j) X [m0, m1, m2, m3, m4, m5, m6, m7] := by rw [hput, putH_setV, hme]
       have hvs : (vis [l0, l1, l2, l3, l4, l5, l6, l7]).toArray.setIfInBounds d (.int .i64 c.2) = (vis [m0, m1, m2, m3, m4, m5, m6, m7]).toArray := by rw [vis_set, ← hle, hme]
       have hlk : (Instr.lookup 134 (.map (some mb2)) (.agg #[.int .i64 X.1, .int .i64 X.2]) false).run Tryd.prog (wr.alloc (.cells #[.int .i64 X.1, .int .i64 X.2, .int .i64 Y.1, .int .i64 Y.2] 135)) = .ok (.agg #[.int .i64 l0, .int .i64 l1, .int .i64 l2, .int .i64 l3, .int .i64 l4, .int .i64 l5, .int .i64 l6, .int .i64 l7]) (wr.alloc (.cells #[.int .i64 X.1, .int .i64 X.2, .int .i64 Y.1, .int .i64 Y.2] 135)) := by
        have h := (hS.out.map.alloc (.cells #[.int .i64 X.1, .int .i64 X.2, .int .i64 Y.1, .int .i64 Y.2] 135)).look1 (a := X) hokx.1
        rw [show (putJ f c j X).getD kvP.z = [l0, l1, l2, l3, l4, l5, l6, l7] from hle] at h
        exact h
       have ld : ∃ z : Int, [l0, l1, l2, l3, l4, l5, l6, l7][d]? = some z := ⟨_, List.getElem?_eq_getElem (by simpa using hdl)⟩
       have k12 := blk_alloc (heap_alloc_new wr (.cells #[.int .i64 X.1, .int .i64 X.2, .int .i64 Y.1, .int .i64 Y.2] 135)) (.cells #[.int .i64 l0, .int .i64 l1, .int .i64 l2, .int .i64 l3, .int .i64 l4, .int .i64 l5, .int .i64 l6, .int .i64 l7] 137)
       have k13 := heap_alloc_new (wr.alloc (.cells #[.int .i64 X.1, .int .i64 X.2, .int .i64 Y.1, .int .i64 Y.2] 135)) (.cells #[.int .i64 l0, .int .i64 l1, .int .i64 l2, .int .i64 l3, .int .i64 l4, .int .i64 l5, .int .i64 l6, .int .i64 l7] 137)
       rw [World.size_alloc] at k13
       have hb7 : Below wr.heap.size wr ((wr.alloc (.cells #[.int .i64 X.1, .int .i64 X.2, .int .i64 Y.1, .int .i64 Y.2] 135)).alloc (.cells #[.int .i64 l0, .int .i64 l1, .int .i64 l2, .int .i64 l3, .int .i64 l4, .int .i64 l5, .int .i64 l6, .int .i64 l7] 137)) := ba (below_new _ _) _
       have x0 := cell_of_blk (heap_alloc_new wr (.cells #[.int .i64 X.1, .int .i64 X.2, .int .i64 Y.1, .int .i64 Y.2] 135)) 0
       have x1 := cell_of_blk (heap_alloc_new wr (.cells #[.int .i64 X.1, .int .i64 X.2, .int .i64 Y.1, .int .i64 Y.2] 135)) 1
       simp only [List.getElem?_toArray, List.getElem?_cons_zero, List.getElem?_cons_succ] at x0 x1
       have hwo : wo.heap.size < wr.heap.size := blk_lt hK.out
       have K12 := Lib.hid k12
       have K13 := Lib.hid k13
       have HS7 := Lib.hid (hS.out.below hb7)
       have K10 := Lib.hid (blk_below hK.out hb7 (blk_lt hK.out))
       have HOX := Lib.hid hokx.1
       have HCDI := Lib.hid hcd
       have HLD := Lib.hid ld
       have HVS := Lib.hid hvs
       have HPUT := Lib.hid hput2
       have hge : w.heap.size ≤ wr.heap.size := hS.out.bel.size
       clear k12 k13 hb7 hokx hoky hcd ld hvs hput2 hput hm8 hme hle hl8 hdir hX hY hd hS hK
       obtain ⟨wi, hwi⟩ : ∃ x, x = wr := ⟨_, rfl⟩
       subst hwi
       go_wp2_with fail
       have hdi : ((d : Nat) : Int) < 8 := by omega
       have c10 := cell_of_blk K10.out 4
       have y0 := cell_of_blk K12.out 0
       have y1 := cell_of_blk K12.out 1
       have y2 := cell_of_blk K12.out 2
       have y3 := cell_of_blk K12.out 3
       simp only [List.getElem?_toArray, List.getElem?_cons_zero, List.getElem?_cons_succ] at c10 y0 y1 y2 y3
       clear x0 x1
       generalize (wi.alloc (.cells #[.int .i64 X.1, .int .i64 X.2, .int .i64 Y.1, .int .i64 Y.2] 135)).alloc (.cells #[.int .i64 l0, .int .i64 l1, .int .i64 l2, .int .i64 l3, .int .i64 l4, .int .i64 l5, .int .i64 l6, .int .i64 l7] 137) = w8 at HS7 K10 K12 K13 c10 y0 y1 y2 y3 ⊢
       refine wp_region_inv (fun Lq aq WN => ∃ s : Nat → Value, aq = { tmps := #[.pointer (some ⟨pb, 0, none⟩), undef, .slice none 0 0, .map (some w.heap.size), undef, u5, undef, u7, .map (some mb2), undef, .pointer (some ⟨wo.heap.size, 0, none⟩), undef, .pointer (some ⟨wi.heap.size, 0, none⟩), .pointer (some ⟨wi.heap.size + 1, 0, none⟩), undef, undef, undef, undef, undef, undef, undef, .map (some w.heap.size), .pointer (some ⟨pb, 0, none⟩), .pointer (some ⟨pb, 0, none⟩), .pointer (some ⟨pb, 4, none⟩), .slice At L.length ct, .int .i64 ((L.length : Nat) : Int), .int .i64 ((L.length : Nat) : Int), .bool false, u29, u30, u31, u32, u33, u34, u35, u36, u37, u38, u39, u40, u41, u42, u43, .map (some mb2), .pointer (some ⟨pb, 0, none⟩), .pointer (some ⟨pb, 0, none⟩), .pointer (some ⟨pb, 0, none⟩), .pointer (some ⟨pb, 3, none⟩), .slice (some ⟨bc, oc, none⟩) cs.length cc, .int .i64 ((cs.length : Nat) : Int), .int .i64 ((i : Nat) : Int), .bool true, .pointer (some ⟨bc, oc + i * 5, none⟩), .agg #[.int .i64 c.1.1, .int .i64 c.1.2.1, .int .i64 c.1.2.2.1, .int .i64 c.1.2.2.2, .int .i64 c.2], .pointer (some ⟨wo.heap.size, 0, none⟩), .pointer (some ⟨wo.heap.size, 0, none⟩), .agg #[.int .i64 c.1.1, .int .i64 c.1.2.1], .pointer (some ⟨wo.heap.size, 0, none⟩), .pointer (some ⟨wo.heap.size, 2, none⟩), .agg #[.int .i64 c.1.2.2.1, .int .i64 c.1.2.2.2], .agg #[.int .i64 c.1.1, .int .i64 c.1.2.1, .int .i64 c.1.2.2.1, .int .i64 c.1.2.2.2], .pointer (some ⟨wo.heap.size, 0, none⟩), .pointer (some ⟨wo.heap.size, 2, none⟩), .agg #[.int .i64 c.1.2.2.1, .int .i64 c.1.2.2.2], .pointer (some ⟨wo.heap.size, 0, none⟩), .pointer (some ⟨wo.heap.size, 0, none⟩), .agg #[.int .i64 c.1.1, .int .i64 c.1.2.1], .agg #[.int .i64 c.1.2.2.1, .int .i64 c.1.2.2.2, .int .i64 c.1.1, .int .i64 c.1.2.1], .agg #[.int .i64 c.1.1, .int .i64 c.1.2.1, .int .i64 c.1.2.2.1, .int .i64 c.1.2.2.2, .int .i64 c.1.2.2.1, .int .i64 c.1.2.2.2, .int .i64 c.1.1, .int .i64 c.1.2.1], .int .i64 ((j : Nat) : Int), .bool true, .agg #[.int .i64 X.1, .int .i64 X.2, .int .i64 Y.1, .int .i64 Y.2], .map (some mb2), .pointer (some ⟨wi.heap.size, 0, none⟩), .agg #[.int .i64 X.1, .int .i64 X.2], .agg #[.int .i64 l0, .int .i64 l1, .int .i64 l2, .int .i64 l3, .int .i64 l4, .int .i64 l5, .int .i64 l6, .int .i64 l7], (s 0), (s 1), (s 2), (s 3), (s 4), (s 5), (s 6), (s 7), u85, u86, u87, u88, u89, u90, undef, undef, undef, undef, undef, undef, undef, undef, undef, undef, undef, undef, undef, undef, undef, undef, undef, undef, undef, undef, undef, undef, undef, undef, undef, undef, undef, undef, undef, undef, undef, undef, undef, undef, undef, undef, undef, undef, undef, undef, undef, undef, undef, undef, undef, undef, undef], defers := [] } ∧ Sv 9 [some (.pointer (some ⟨wi.heap.size, 0, none⟩)), some (.agg #[.int .i64 X.1, .int .i64 X.2]), some (.pointer (some ⟨wi.heap.size, 2, none⟩)), some (.agg #[.int .i64 Y.1, .int .i64 Y.2]), some (.int .i64 ((d : Nat) : Int)), some (.pointer (some ⟨wo.heap.size, 4, none⟩)), some (.int .i64 c.2), some (.pointer (some ⟨wi.heap.size + 1, d, none⟩)), some (undef)] Lq s ∧ Cl [(8, 0), (8, 1), (8, 2), (8, 3), (8, 4), (8, 5), (8, 6), (8, 7)] Lq ∧ (Lq.getD 8 false = false → WN.cell? ⟨wi.heap.size, 0, none⟩ = some (.int .i64 X.1) ∧ WN.cell? ⟨wi.heap.size, 1, none⟩ = some (.int .i64 X.2) ∧ WN.cell? ⟨wi.heap.size, 2, none⟩ = some (.int .i64 Y.1) ∧ WN.cell? ⟨wi.heap.size, 3, none⟩ = some (.int .i64 Y.2) ∧ WN.cell? ⟨wo.heap.size, 4, none⟩ = some (.int .i64 c.2) ∧ WN.heap[wi.heap.size + 1]? = some (.cells #[.int .i64 l0, .int .i64 l1, .int .i64 l2, .int .i64 l3, .int .i64 l4, .int .i64 l5, .int .i64 l6, .int .i64 l7] 137 (0, 0)) ∧ Below w8.heap.size w8 WN) ∧ (Lq.getD 8 false = true → ∃ W0 : World, (W0.cell? ⟨wi.heap.size, 0, none⟩ = some (.int .i64 X.1) ∧ W0.cell? ⟨wi.heap.size, 1, none⟩ = some (.int .i64 X.2) ∧ W0.cell? ⟨wi.heap.size, 2, none⟩ = some (.int .i64 Y.1) ∧ W0.cell? ⟨wi.heap.size, 3, none⟩ = some (.int .i64 Y.2) ∧ W0.cell? ⟨wo.heap.size, 4, none⟩ = some (.int .i64 c.2) ∧ W0.heap[wi.heap.size + 1]? = some (.cells #[.int .i64 l0, .int .i64 l1, .int .i64 l2, .int .i64 l3, .int .i64 l4, .int .i64 l5, .int .i64 l6, .int .i64 l7] 137 (0, 0)) ∧ Below w8.heap.size w8 W0) ∧ WN = W0.setCell ⟨wi.heap.size + 1, d, none⟩ (.int .i64 c.2))) (by kernel_rfl) ?_ ?_ ?_
       ·exact ⟨listF [u77, u78, u79, u80, u81, u82, u83, u84, undef], rfl, Sv.start 9 _ _, Cl.start _ _, fun _ => ⟨y0, y1, y2, y3, c10, K13.out, (Below.refl _ _).drew⟩, fun h => (by rw [getD_replicate_false] at h; cases h)⟩
       ·intro Lq aq WN i0 hI hr
        obtain ⟨s, rfl, hv, hcl, hst, _⟩ := hI
        have hi0 : i0 < 9 := ready_lt hr
        have hno := (mem_ready.1 hr).1
        have hsz := hv.sz
        have HV := Lib.hid hv
        have HST := Lib.hid hst
        have HCL := Lib.hid hcl
        clear hv hst hcl
        have hii : i0 = 0 ∨ i0 = 1 ∨ i0 = 2 ∨ i0 = 3 ∨ i0 = 4 ∨ i0 = 5 ∨ i0 = 6 ∨ i0 = 7 ∨ i0 = 8 := by omega
        clear hi0
        rcases hii with rfl | rfl | rfl | rfl | rfl | rfl | rfl | rfl | rfl
        ·clear hr
         have hs0 : Lq.getD 8 false = false := HCL.out.no (i := 0) (by decide) hno
         refine wpOp_step rfl (fun K hK => ?_)
         go_simp
         refine hK _ _ ?_
         exact ⟨upd s 0 (.pointer (some ⟨wi.heap.size, 0, none⟩)), rfl, Sv.put HV.out (fun u hu => by cases hu; rfl), Cl.set HCL.out (by simp only [List.mem_cons, List.not_mem_nil, or_false]; rintro p (rfl | rfl | rfl | rfl | rfl | rfl | rfl | rfl) hp <;> first | assumption | (simp at hp; done)), fun _ => HST.out hs0, (fun hh => by rw [set_other (show (0 : Nat) ≠ 8 by decide), hs0] at hh; cases hh)⟩
        ·have d0 := ready_dep hr (k := 0) (by kernel_rfl)
         clear hr
         have hs0 : Lq.getD 8 false = false := HCL.out.no (i := 1) (by decide) hno
         have e0 : s 0 = .pointer (some ⟨wi.heap.size, 0, none⟩) := HV.out.v d0 rfl
         obtain ⟨q0, q1, q2, q3, q4, hk13, hbl⟩ := HST.out hs0
         refine wpOp_step rfl (fun K hK => ?_)
         go_simp
         refine hK _ _ ?_
         exact ⟨upd (upd s 0 (.pointer (some ⟨wi.heap.size, 0, none⟩))) 1 (.agg #[.int .i64 X.1, .int .i64 X.2]), rfl, Sv.put (Sv.re (j := 0) (v := .pointer (some ⟨wi.heap.size, 0, none⟩)) HV.out e0) (fun u hu => by cases hu; rfl), Cl.set HCL.out (by simp only [List.mem_cons, List.not_mem_nil, or_false]; rintro p (rfl | rfl | rfl | rfl | rfl | rfl | rfl | rfl) hp <;> first | assumption | (simp at hp; done)), fun _ => HST.out hs0, (fun hh => by rw [set_other (show (1 : Nat) ≠ 8 by decide), hs0] at hh; cases hh)⟩
        ·clear hr
         have hs0 : Lq.getD 8 false = false := HCL.out.no (i := 2) (by decide) hno
         refine wpOp_step rfl (fun K hK => ?_)
         go_simp
         refine hK _ _ ?_
         exact ⟨upd s 2 (.pointer (some ⟨wi.heap.size, 2, none⟩)), rfl, Sv.put HV.out (fun u hu => by cases hu; rfl), Cl.set HCL.out (by simp only [List.mem_cons, List.not_mem_nil, or_false]; rintro p (rfl | rfl | rfl | rfl | rfl | rfl | rfl | rfl) hp <;> first | assumption | (simp at hp; done)), fun _ => HST.out hs0, (fun hh => by rw [set_other (show (2 : Nat) ≠ 8 by decide), hs0] at hh; cases hh)⟩
        ·have d2 := ready_dep hr (k := 2) (by kernel_rfl)
         clear hr
         have hs0 : Lq.getD 8 false = false := HCL.out.no (i := 3) (by decide) hno
         have e2 : s 2 = .pointer (some ⟨wi.heap.size, 2, none⟩) := HV.out.v d2 rfl
         obtain ⟨q0, q1, q2, q3, q4, hk13, hbl⟩ := HST.out hs0
         refine wpOp_step rfl (fun K hK => ?_)
         go_simp
         refine hK _ _ ?_
         exact ⟨upd (upd s 2 (.pointer (some ⟨wi.heap.size, 2, none⟩))) 3 (.agg #[.int .i64 Y.1, .int .i64 Y.2]), rfl, Sv.put (Sv.re (j := 2) (v := .pointer (some ⟨wi.heap.size, 2, none⟩)) HV.out e2) (fun u hu => by cases hu; rfl), Cl.set HCL.out (by simp only [List.mem_cons, List.not_mem_nil, or_false]; rintro p (rfl | rfl | rfl | rfl | rfl | rfl | rfl | rfl) hp <;> first | assumption | (simp at hp; done)), fun _ => HST.out hs0, (fun hh => by rw [set_other (show (3 : Nat) ≠ 8 by decide), hs0] at hh; cases hh)⟩
        ·have d1 := ready_dep hr (k := 1) (by kernel_rfl)
         have d3 := ready_dep hr (k := 3) (by kernel_rfl)
         clear hr
         have hs0 : Lq.getD 8 false = false := HCL.out.no (i := 4) (by decide) hno
         have e1 : s 1 = .agg #[.int .i64 X.1, .int .i64 X.2] := HV.out.v d1 rfl
         have e3 : s 3 = .agg #[.int .i64 Y.1, .int .i64 Y.2] := HV.out.v d3 rfl
         obtain ⟨q0, q1, q2, q3, q4, hk13, hbl⟩ := HST.out hs0
         refine wpOp_step rfl (fun K hK => ?_)
         go_simp
         refine (HCDI.out _).mono ?_
         rintro e' wc ⟨he, hbc⟩
         subst he
         refine hK _ _ ?_
         exact ⟨upd (upd (upd s 1 (.agg #[.int .i64 X.1, .int .i64 X.2])) 3 (.agg #[.int .i64 Y.1, .int .i64 Y.2])) 4 (.int .i64 ((d : Nat) : Int)), rfl, Sv.put (Sv.re (j := 3) (v := .agg #[.int .i64 Y.1, .int .i64 Y.2]) (Sv.re (j := 1) (v := .agg #[.int .i64 X.1, .int .i64 X.2]) HV.out e1) e3) (fun u hu => by cases hu; rfl), Cl.set HCL.out (by simp only [List.mem_cons, List.not_mem_nil, or_false]; rintro p (rfl | rfl | rfl | rfl | rfl | rfl | rfl | rfl) hp <;> first | assumption | (simp at hp; done)), fun _ => ⟨stay_c q0 hbc (Nat.le_refl _), stay_c q1 hbc (Nat.le_refl _), stay_c q2 hbc (Nat.le_refl _), stay_c q3 hbc (Nat.le_refl _), stay_c q4 hbc (Nat.le_refl _), blk_below hk13 hbc (blk_lt hk13), stay_b hbl hbc⟩, (fun hh => by rw [set_other (show (4 : Nat) ≠ 8 by decide), hs0] at hh; cases hh)⟩
        ·clear hr
         have hs0 : Lq.getD 8 false = false := HCL.out.no (i := 5) (by decide) hno
         refine wpOp_step rfl (fun K hK => ?_)
         go_simp
         refine hK _ _ ?_
         exact ⟨upd s 5 (.pointer (some ⟨wo.heap.size, 4, none⟩)), rfl, Sv.put HV.out (fun u hu => by cases hu; rfl), Cl.set HCL.out (by simp only [List.mem_cons, List.not_mem_nil, or_false]; rintro p (rfl | rfl | rfl | rfl | rfl | rfl | rfl | rfl) hp <;> first | assumption | (simp at hp; done)), fun _ => HST.out hs0, (fun hh => by rw [set_other (show (5 : Nat) ≠ 8 by decide), hs0] at hh; cases hh)⟩
        ·have d5 := ready_dep hr (k := 5) (by kernel_rfl)
         clear hr
         have hs0 : Lq.getD 8 false = false := HCL.out.no (i := 6) (by decide) hno
         have e5 : s 5 = .pointer (some ⟨wo.heap.size, 4, none⟩) := HV.out.v d5 rfl
         obtain ⟨q0, q1, q2, q3, q4, hk13, hbl⟩ := HST.out hs0
         refine wpOp_step rfl (fun K hK => ?_)
         go_simp
         refine hK _ _ ?_
         exact ⟨upd (upd s 5 (.pointer (some ⟨wo.heap.size, 4, none⟩))) 6 (.int .i64 c.2), rfl, Sv.put (Sv.re (j := 5) (v := .pointer (some ⟨wo.heap.size, 4, none⟩)) HV.out e5) (fun u hu => by cases hu; rfl), Cl.set HCL.out (by simp only [List.mem_cons, List.not_mem_nil, or_false]; rintro p (rfl | rfl | rfl | rfl | rfl | rfl | rfl | rfl) hp <;> first | assumption | (simp at hp; done)), fun _ => HST.out hs0, (fun hh => by rw [set_other (show (6 : Nat) ≠ 8 by decide), hs0] at hh; cases hh)⟩
        ·have d4 := ready_dep hr (k := 4) (by kernel_rfl)
         clear hr
         have hs0 : Lq.getD 8 false = false := HCL.out.no (i := 7) (by decide) hno
         have e4 : s 4 = .int .i64 ((d : Nat) : Int) := HV.out.v d4 rfl
         refine wpOp_step rfl (fun K hK => ?_)
         go_simp
         refine hK _ _ ?_
         exact ⟨upd (upd s 4 (.int .i64 ((d : Nat) : Int))) 7 (.pointer (some ⟨wi.heap.size + 1, d, none⟩)), rfl, Sv.put (Sv.re (j := 4) (v := .int .i64 ((d : Nat) : Int)) HV.out e4) (fun u hu => by cases hu; rfl), Cl.set HCL.out (by simp only [List.mem_cons, List.not_mem_nil, or_false]; rintro p (rfl | rfl | rfl | rfl | rfl | rfl | rfl | rfl) hp <;> first | assumption | (simp at hp; done)), fun _ => HST.out hs0, (fun hh => by rw [set_other (show (7 : Nat) ≠ 8 by decide), hs0] at hh; cases hh)⟩
        ·have d0 := ready_dep hr (k := 0) (by kernel_rfl)
         have d1 := ready_dep hr (k := 1) (by kernel_rfl)
         have d2 := ready_dep hr (k := 2) (by kernel_rfl)
         have d3 := ready_dep hr (k := 3) (by kernel_rfl)
         have d4 := ready_dep hr (k := 4) (by kernel_rfl)
         have d5 := ready_dep hr (k := 5) (by kernel_rfl)
         have d6 := ready_dep hr (k := 6) (by kernel_rfl)
         have d7 := ready_dep hr (k := 7) (by kernel_rfl)
         clear hr
         have hs0 : Lq.getD 8 false = false := getD_both hno
         have e7 : s 7 = .pointer (some ⟨wi.heap.size + 1, d, none⟩) := HV.out.v d7 rfl
         have e6 : s 6 = .int .i64 c.2 := HV.out.v d6 rfl
         obtain ⟨q0, q1, q2, q3, q4, hk13, hbl⟩ := HST.out hs0
         have fz := frozen_of_blk hk13
         have lt13 := blk_lt hk13
         obtain ⟨zd, hzd⟩ := HLD.out
         have z13 := (cell_of_blk hk13 d).trans (at8 hzd)
         refine wpOp_step rfl (fun K hK => ?_)
         go_simp
         refine hK _ _ ?_
         exact ⟨upd (upd (upd s 7 (.pointer (some ⟨wi.heap.size + 1, d, none⟩))) 6 (.int .i64 c.2)) 8 undef, rfl, Sv.put (Sv.re (j := 6) (v := .int .i64 c.2) (Sv.re (j := 7) (v := .pointer (some ⟨wi.heap.size + 1, d, none⟩)) HV.out e7) e6) (fun u hu => by cases hu; rfl), Cl.set HCL.out (by simp only [List.mem_cons, List.not_mem_nil, or_false]; rintro p (rfl | rfl | rfl | rfl | rfl | rfl | rfl | rfl) hp <;> first | assumption | (simp at hp; done)), (fun hh => by rw [set_self hsz (by decide)] at hh; cases hh), fun _ => ⟨WN, HST.out hs0, rfl⟩⟩
       ·intro Lq aq WN hI hrd
        obtain ⟨s, ha, hv, _, _, hst⟩ := hI
        have hall := all_listedM hrd hv.sz (by kernel_rfl)
        clear hrd
        have e0 : s 0 = (.pointer (some ⟨wi.heap.size, 0, none⟩)) := hv.v (hall 0 (by decide)) rfl
        have e1 : s 1 = (.agg #[.int .i64 X.1, .int .i64 X.2]) := hv.v (hall 1 (by decide)) rfl
        have e2 : s 2 = (.pointer (some ⟨wi.heap.size, 2, none⟩)) := hv.v (hall 2 (by decide)) rfl
        have e3 : s 3 = (.agg #[.int .i64 Y.1, .int .i64 Y.2]) := hv.v (hall 3 (by decide)) rfl
        have e4 : s 4 = (.int .i64 ((d : Nat) : Int)) := hv.v (hall 4 (by decide)) rfl
        have e5 : s 5 = (.pointer (some ⟨wo.heap.size, 4, none⟩)) := hv.v (hall 5 (by decide)) rfl
        have e6 : s 6 = (.int .i64 c.2) := hv.v (hall 6 (by decide)) rfl
        have e7 : s 7 = (.pointer (some ⟨wi.heap.size + 1, d, none⟩)) := hv.v (hall 7 (by decide)) rfl
        simp only [e0, e1, e2, e3, e4, e5, e6, e7] at ha
        subst ha
        obtain ⟨W0, hst0, hWN⟩ := hst (hall 8 (by decide))
        clear hall hv hst e0 e1 e2 e3 e4 e5 e6 e7
        obtain ⟨q0, q1, q2, q3, q4, hk13, hbl⟩ := hst0
        have hs9 := (HS7.out.below hbl).setC hk13 (by omega) d (.int .i64 c.2)
        have k13 := blk_set hk13 d (.int .i64 c.2)
        have k12 : (W0.setCell ⟨wi.heap.size + 1, d, none⟩ (.int .i64 c.2)).heap[wi.heap.size]? = _ := blk_far (blk_below K12.out hbl (blk_lt K12.out)) (p := ⟨wi.heap.size + 1, d, none⟩) (by simp) (.int .i64 c.2)
        have k10 : (W0.setCell ⟨wi.heap.size + 1, d, none⟩ (.int .i64 c.2)).heap[wo.heap.size]? = _ := blk_far (blk_below K10.out hbl (blk_lt K10.out)) (p := ⟨wi.heap.size + 1, d, none⟩) (by simp; omega) (.int .i64 c.2)
        rw [← hWN] at hs9 k13 k12 k10
        have e13 := k13
        rw [show (#[Value.int .i64 l0, .int .i64 l1, .int .i64 l2, .int .i64 l3, .int .i64 l4, .int .i64 l5, .int .i64 l6, .int .i64 l7] : Array Value).setIfInBounds d (.int .i64 c.2) = #[.int .i64 m0, .int .i64 m1, .int .i64 m2, .int .i64 m3, .int .i64 m4, .int .i64 m5, .int .i64 m6, .int .i64 m7] from HVS.out] at e13
        have x0 := cell_of_blk k12 0
        have x1 := cell_of_blk k12 1
        have z0 := cell_of_blk e13 0
        have z1 := cell_of_blk e13 1
        have z2 := cell_of_blk e13 2
        have z3 := cell_of_blk e13 3
        have z4 := cell_of_blk e13 4
        have z5 := cell_of_blk e13 5
        have z6 := cell_of_blk e13 6
        have z7 := cell_of_blk e13 7
        simp only [List.getElem?_toArray, List.getElem?_cons_zero, List.getElem?_cons_succ] at x0 x1 z0 z1 z2 z3 z4 z5 z6 z7
        have HS9 := Lib.hid hs9
        have K10' := Lib.hid k10
        clear hs9 k13 k12 k10 e13 hWN hk13 hbl q0 q1 q2 q3 q4 HS7 K10 K12 K13 c10 y0 y1 y2 y3
        go_wp2_with (at_mapUpdate; go_loud (refine wpList_putV (k := kvP) rfl _ _ _ rfl HS9.out.map rfl (by unfold maxLen; omega) X HOX.out [m0, m1, m2, m3, m4, m5, m6, m7] rfl rfl ?_); intro w6 hm6 hg6)
        have hs10 := HS9.out.put hm6 hg6
        rw [← HPUT.out] at hs10
        have k10 := (hg6.block _ (blk_lt K10'.out) (fun e => mapV_ne HS9.out.map K10'.out (Option.some.inj e).symm)).trans K10'.out
        have HS10 := Lib.hid hs10
        have HK10 := Lib.hid k10
        clear hs10 k10 hm6 hg6 HS9 K10' x0 x1 z0 z1 z2 z3 z4 z5 z6 z7
        go_wp2
        go_roundw
        case rel => exact ⟨j + 1, by omega, by go_num, HS10, HK10⟩
        case measure => simp [intOf]; omega
      ·obtain rfl : j = 2 := by omega
       go_wp2
       go_roundw
       case rel => exact ⟨i + 1, putJ f c 2, by omega, by go_num, HO2, hS⟩
       case measure => simp [intOf]; omega
    ·obtain rfl : i = cs.length := by omega
     have hii : ¬ (cs.length : Int) < (cs.length : Int) := by omega
     have hO3 := hO.out
     rw [List.take_length] at hO3
     have HO3 := Lib.hid hO3
     clear hO3 hO
     obtain ⟨w5, hw5⟩ : ∃ x, x = wr := ⟨_, rfl⟩
     subst hw5
     obtain ⟨D, hown, hdat, ks0, hk1, hk2, hk3, hk4⟩ := hS.out.map
     have hkd := hdat.keys
     have hksz := hown.size_le
     rw [hk4] at hksz
     have hN : ∀ ss : List P2, ss.Nodup → (∀ a ∈ ss, kdP.ok a ∧ (f a).isSome = true) → ss.length ≤ ks0.length := fun ss hn ha => nodup_sub_len hn (fun x hx => (hk2 x).1 (ha x hx).2)
     have hkc : (w5.alloc (.cells #[.map (some mb2)] 134)).cell? ⟨w5.heap.size, 0, none⟩ = some (.map (some mb2)) := (cell_of_blk (heap_alloc_new w5 (.cells #[.map (some mb2)] 134)) 0).trans rfl
     have cK := (callsIn_wide (n := 6)).1 (keysP_in Fence.wide 6 trivial rfl (some mb2) w5)
     have cS := (callsIn_wide (n := 6)).1 (sortedP_in 6 96 #[.pointer (some ⟨w5.heap.size, 0, none⟩)] (enters_of Tryd.func96 (by kernel_rfl) rfl) _ ks0.length (w5.alloc (.cells #[.map (some mb2)] 134)) (by omega) (by omega) (keysP_gives Fence.wide 3 trivial rfl (by omega) w5.heap.size mb2 (2 * cs.length) ks0.length D _ hkd hN (w5.alloc (.cells #[.map (some mb2)] 134)) (by simp) hkc (hown.alloc _)))
     have hend : ∀ ss : List P2, KeyL kdP (fun a => (f a).isSome = true) ss → PtI (fun p => ∃ c ∈ cs, p = eP c.1 ∨ p = eQ c.1) (srtP ss) := fun ss h => ⟨srtP_sorted h.nodup, fun p => by
      rw [(srtP_perm ss).mem_iff, h.mem, HO3.out.some_]
      exact ⟨fun h => h.2, fun h => ⟨hk3 p ((hk2 p).1 ((HO3.out.some_ p).2 h)), h⟩⟩⟩
     have CK := Lib.hid cK
     have CS := Lib.hid cS
     have HEND := Lib.hid hend
     have HBW5 := Lib.hid hS.out.bel
     clear cK cS hend hown hdat hk1 hk2 hk3 hk4 hkd hN hkc
     go_wp2_with (first
      | (go_at_call 75; refine CK.out.mono ?_; rintro r w6 ⟨rfl, rfl⟩)
      | (go_at_call 74; refine CS.out.mono ?_; rintro r w9 ⟨vK, ss, rfl, hKL, hlen, hoK, hb9⟩; obtain ⟨K, hK⟩ : ∃ K, K = srtP ss := ⟨_, rfl⟩; have hKl : ss.length = K.length := (by rw [hK]; exact (srtP_perm ss).length_eq.symm); rw [← hK, hKl] at hoK; have HK := Lib.hid hK; have HKE := Lib.hid hKl; clear hK hKl; obtain ⟨AK, cK, hvK, _, _⟩ := own_slice hoK; subst hvK))
     have hbx : Below w5.heap.size w5 w9 := stay_b (below_new w5 (.cells #[.map (some mb2)] 134)) hb9
     have hPK := HEND.out ss hKL
     rw [← HK.out] at hPK
     have hKl := HKE.out
     have HPK := Lib.hid hPK
     have HOK := Lib.hid hoK
     have HS9 := Lib.hid (hS.out.below hbx)
     have hKn : K.length ≤ 6000 := by omega
     have hB9 : w5.heap.size ≤ w9.heap.size := hbx.size
     clear hbx hPK hKL hb9 hoK CK CS HEND hS HK HKE hKl
     go_loopw [14, 95] (fun v x wr => ∃ (i : Nat) (zs : List Z3), i ≤ K.length ∧ x = .int .i64 i ∧ Hid (StarsW wr w9.heap.size v (starsC L cs (K.take i)) zs) ∧ Hid (Below w9.heap.size w9 wr)) (fun _ x _ => K.length - (intOf x).toNat)
     case atStart => exact ⟨0, [], by omega, rfl, Lib.hid (by rw [List.take_zero]; exact StarsW.nil _ _), Lib.hid (Below.refl _ _)⟩
     case round =>
      obtain ⟨i, zs, hi, rfl, hW, hB⟩ := hrel
      obtain ⟨Av, cv, hvv, hcv, _⟩ := own_slice hW.out.own
      subst hvv
      by_cases hil : i < K.length
      ·have hii : (i : Int) < (K.length : Int) := by omega
       obtain ⟨p, hp⟩ : ∃ p, K[i]? = some p := ⟨_, List.getElem?_eq_getElem hil⟩
       obtain ⟨gk, cpk, curk, hak, _, _, _, _⟩ := own_addr HOK.out (by omega)
       cases hak
       obtain ⟨p0, p1⟩ := own_pt (own_below HOK.out hB.out (Nat.le_refl _)) hp
       have hpe := (HPK.out.mem p).1 (List.mem_of_getElem? hp)
       have hpi := (HO3.out.some_ p).2 hpe
       have hpc := HCI.out.point (fun t ht => (HL.out t ht).2.2) hpe
       obtain ⟨t, ht, m, hm, hcr⟩ := cornersA_mem.1 hpc
       have hpk := (HL.out t ht).corner hm
       rw [hcr] at hpk
       have htk : K.take (i + 1) = K.take i ++ [p] := by rw [List.take_add_one, hp]; rfl
       have hsn := starsC_snoc L cs (K.take i) p
       rw [← htk] at hsn
       have hsl := starsC_len L cs (K.take i)
       have htl : (K.take i).length ≤ i := by simp; omega
       obtain ⟨Bp, hBp⟩ : ∃ B, B = p.1 % 2 := ⟨_, rfl⟩
       have hand := and1P p.1
       rw [← hBp] at hand
       have hfl : (fullP p : Int) = if Bp = 1 then 4 else 8 := by rw [hBp]; unfold fullP; split <;> simp_all
       have hB01 : Bp = 0 ∨ Bp = 1 := by omega
       obtain ⟨FP, hFP⟩ : ∃ F : Int, F = (fullP p : Int) := ⟨_, rfl⟩
       rw [← hFP] at hfl
       have kp := heap_alloc_new wr (.cells #[.int .i64 p.1, .int .i64 p.2] 49)
       have x0 := cell_of_blk kp 0
       have x1 := cell_of_blk kp 1
       simp only [List.getElem?_toArray, List.getElem?_cons_zero, List.getElem?_cons_succ] at x0 x1
       have hbA := ba hB.out (.cells #[.int .i64 p.1, .int .i64 p.2] 49)
       obtain ⟨g, hg, hgc⟩ := HS9.out.cnt.map
       have hlk : (Instr.lookup 96 (.map (some w.heap.size)) (.agg #[.int .i64 p.1, .int .i64 p.2]) false).run Tryd.prog (wr.alloc (.cells #[.int .i64 p.1, .int .i64 p.2] 49)) = .ok (.int .i64 ((cornersA L).count p : Nat)) (wr.alloc (.cells #[.int .i64 p.1, .int .i64 p.2] 49)) := by
        have h := (hg.below hbA hg.lt).look1 (a := p) hpk.1
        rw [hgc p] at h
        exact h
       obtain ⟨l, hfl8⟩ := Option.isSome_iff_exists.1 hpi
       have hl8 := HO3.out.len p l hfl8
       have hld := HO3.out.at_ p l hfl8
       have hma := HS9.out.map.below hbA HS9.out.map.lt
       have HWA := Lib.hid (hW.out.below (below_new wr (.cells #[.int .i64 p.1, .int .i64 p.2] 49)) (Nat.le_refl _))
       have HMA := Lib.hid hma
       have HLD := Lib.hid hld
       have HF8 := Lib.hid hfl8
       have HPKK := Lib.hid hpk.1
       have HSN := Lib.hid hsn
       have HBA := Lib.hid hbA
       have HBP := Lib.hid hBp
       have HFL := Lib.hid hfl
       have HFP := Lib.hid hFP
       clear hpe hpi hpc ht hm hcr hpk htk hsn kp hbA hg hgc hld hma hW hB hp hfl8 hBp hfl hFP
       obtain ⟨wo, hwo⟩ : ∃ x, x = wr := ⟨_, rfl⟩
       subst hwo
       go_upto_if 102 with fail
       clear p0 p1
       have hwoA : wo.heap.size < (wo.alloc (.cells #[.int .i64 p.1, .int .i64 p.2] 49)).heap.size := by simp
       generalize wo.alloc (.cells #[.int .i64 p.1, .int .i64 p.2] 49) = wA at x0 x1 hlk HWA HMA HBA hwoA ⊢
       go_cut [17] from 96 to 136 (fun s17 wx => s17 = .int .i64 FP ∧ wx = wA)
       case first =>
        rcases hB01 with rfl | rfl
        ·go_wp2_with fail
         go_meet
         case rel => exact ⟨by rw [HFL.out]; rfl, rfl⟩
        ·go_wp2_with fail
         go_meet
         case rel => exact ⟨by rw [HFL.out]; rfl, rfl⟩
       case rest =>
        obtain ⟨rfl, hwc⟩ := hcut
        subst hwc
        by_cases hlt : (((cornersA L).count p : Nat) : Int) < FP
        ·have hsn := HSN.out
         rw [if_pos (by have := HFP.out; omega), List.append_nil] at hsn
         have HW2 : Hid (StarsW wc w9.heap.size (.slice Av (starsC L cs (K.take i)).length cv) (starsC L cs (K.take (i + 1))) zs) := by rw [hsn]; exact HWA
         clear hsn HWA HSN
         go_wp2
         go_roundw
         case rel => exact ⟨i + 1, zs, by omega, by go_num, HW2, HBA⟩
         case measure => simp [intOf]; omega
        ·have hsn := HSN.out
         rw [if_neg (by have := HFP.out; omega)] at hsn
         obtain ⟨l0, l1, l2, l3, l4, l5, l6, l7, hle⟩ := eight hl8
         subst hle
         have hlk2 : (Instr.lookup 134 (.map (some mb2)) (.agg #[.int .i64 p.1, .int .i64 p.2]) false).run Tryd.prog (wc.alloc (.cells #[.int .i64 p.1, .int .i64 p.2, .slice none 0 0, .slice none 0 0] 51)) = .ok (.agg #[.int .i64 l0, .int .i64 l1, .int .i64 l2, .int .i64 l3, .int .i64 l4, .int .i64 l5, .int .i64 l6, .int .i64 l7]) (wc.alloc (.cells #[.int .i64 p.1, .int .i64 p.2, .slice none 0 0, .slice none 0 0] 51)) := by
          have h := (HMA.out.alloc (.cells #[.int .i64 p.1, .int .i64 p.2, .slice none 0 0, .slice none 0 0] 51)).look1 (a := p) HPKK.out
          rw [HF8.out] at h
          exact h
         have kb := heap_alloc_new wc (.cells #[.int .i64 p.1, .int .i64 p.2, .slice none 0 0, .slice none 0 0] 51)
         have y0 := al_c x0 (.cells #[.int .i64 p.1, .int .i64 p.2, .slice none 0 0, .slice none 0 0] 51)
         have y1 := al_c x1 (.cells #[.int .i64 p.1, .int .i64 p.2, .slice none 0 0, .slice none 0 0] 51)
         have hwo : wo.heap.size < wc.heap.size := hwoA
         have HSN2 := Lib.hid hsn
         have HKB := Lib.hid kb
         clear hsn kb HSN hl8 HF8
         go_wp2_with fail
         clear y0 y1 x0 x1 hlk2
         have hB0 := below_new wc (.cells #[.int .i64 p.1, .int .i64 p.2, .slice none 0 0, .slice none 0 0] 51)
         have HB0 := Lib.hid hB0
         clear hB0
         generalize wc.alloc (.cells #[.int .i64 p.1, .int .i64 p.2, .slice none 0 0, .slice none 0 0] 51) = w7 at HKB HB0 ⊢
         go_loopw [113] (fun x wr => ∃ (d : Nat) (dv kv : Value), d ≤ 8 ∧ x = .int .i64 d ∧ Hid (Below wc.heap.size wc wr) ∧ Hid (wr.heap[wc.heap.size]? = some (.cells #[.int .i64 p.1, .int .i64 p.2, dv, kv] 51 (0, 0))) ∧ Hid (wr.ownsRow wc.heap.size 3 1 dv (dsK (kfP cs p) d).length (vis (dsK (kfP cs p) d))) ∧ Hid (wr.ownsRow wc.heap.size 3 1 kv (dsK (kfP cs p) d).length (vis (ksK (kfP cs p) d))) ∧ Hid (ApB dv kv)) (fun x _ => 8 - (intOf x).toNat)
         case atStart => exact ⟨0, .slice none 0 0, .slice none 0 0, by omega, rfl, HB0, HKB, Lib.hid (World.ownsRow_nil _ _ _ _), Lib.hid (World.ownsRow_nil _ _ _ _), Lib.hid (.inl rfl)⟩
         case round =>
          clear HB0 HKB
          obtain ⟨d, dv, kv, hd, rfl, hB, hK, hD, hV, hA⟩ := hrel
          by_cases hd8 : d < 8
          ·have hdi : (d : Int) < 8 := by omega
           have hix := fun W => idx8 hd8 (HLD.out d hd8) W
           have hyes := fun h => dsK_yes (kf := kfP cs p) (j := d) h
           have hno := fun h => dsK_no (kf := kfP cs p) (j := d) h
           have hkf : kindD cs (edP p d) = kfP cs p d := rfl
           rw [hkf] at hix
           obtain ⟨Kd, hKd⟩ : ∃ z, z = kfP cs p d := ⟨_, rfl⟩
           rw [← hKd] at hix hyes hno
           have hdl := (dsK_len (kfP cs p) d).2
           have HYES := Lib.hid hyes
           have HNO := Lib.hid hno
           clear hyes hno hkf hKd
           by_cases hpos : 0 < Kd
           ·have hpb : decide (0 < Kd) = true := decide_eq_true hpos
            obtain ⟨hy1, hy2⟩ := HYES.out hpos
            obtain ⟨n, hn⟩ : ∃ n, n = (dsK (kfP cs p) d).length := ⟨_, rfl⟩
            rw [← hn] at hD hV hdl
            obtain ⟨ds, hds⟩ : ∃ l, l = dsK (kfP cs p) d := ⟨_, rfl⟩
            obtain ⟨ks, hks⟩ : ∃ l, l = ksK (kfP cs p) d := ⟨_, rfl⟩
            rw [← hds] at hD hn hy1
            rw [← hks] at hV hy2
            have HY1 := Lib.hid hy1
            have HY2 := Lib.hid hy2
            have HN := Lib.hid hn
            have hrs0 := fun v3 v4 v8 v9 => RS.start (d := ((d : Nat) : Int)) (k := Kd) (v3 := v3) (v4 := v4) (v8 := v8) (v9 := v9) (Nat.le_refl _) hB.out.drew hK.out hD.out hV.out hA.out
            have HRS0 := Lib.hid hrs0
            clear hy1 hy2 hn hds hks hrs0 hpos HYES HNO hB hK hD hV hA
            obtain ⟨wi, hwi⟩ : ∃ x, x = wr := ⟨_, rfl⟩
            subst hwi
            go_wp2_with fail
            refine wp_region_inv (fun Lq aq WN => ∃ s : Nat → Value, aq = { tmps := #[.pointer (some ⟨pb, 0, none⟩), undef, .slice none 0 0, .map (some w.heap.size), undef, u5, undef, u7, .map (some mb2), undef, u10, undef, u12, u13, .slice Av (starsC L cs (List.take i K)).length cv, undef, .pointer (some ⟨wo.heap.size, 0, none⟩), .int .i64 FP, .pointer (some ⟨wc.heap.size, 0, none⟩), .int .i64 ((d : Nat) : Int), .int .i64 Kd, .map (some w.heap.size), .pointer (some ⟨pb, 0, none⟩), .pointer (some ⟨pb, 0, none⟩), .pointer (some ⟨pb, 4, none⟩), .slice At L.length ct, .int .i64 ((L.length : Nat) : Int), .int .i64 ((L.length : Nat) : Int), .bool false, u29, u30, u31, u32, u33, u34, u35, u36, u37, u38, u39, u40, u41, u42, u43, .map (some mb2), .pointer (some ⟨pb, 0, none⟩), .pointer (some ⟨pb, 0, none⟩), .pointer (some ⟨pb, 0, none⟩), .pointer (some ⟨pb, 3, none⟩), .slice Ac cs.length cc, .int .i64 ((cs.length : Nat) : Int), .int .i64 ((cs.length : Nat) : Int), .bool false, u53, u54, u55, u56, u57, u58, u59, u60, u61, u62, u63, u64, u65, u66, u67, u68, u69, u70, u71, u72, u73, u74, u75, u76, u77, u78, u79, u80, u81, u82, u83, u84, u85, u86, u87, u88, u89, u90, .map (some mb2), .func (.func 96) #[] #[.pointer (some ⟨w5.heap.size, 0, none⟩)], .slice (some ⟨gk, 0, none⟩) K.length cK, .int .i64 ((K.length : Nat) : Int), .int .i64 ((i : Nat) : Int), u96, u97, u98, u99, u100, u101, u102, .map (some w.heap.size), .agg #[.int .i64 p.1, .int .i64 p.2], .int .i64 ((List.count p (cornersA L) : Nat) : Int), .int .i64 FP, .bool false, .agg #[.int .i64 p.1, .int .i64 p.2], .agg #[.int .i64 p.1, .int .i64 p.2, .slice none 0 0, .slice none 0 0], .map (some mb2), .agg #[.int .i64 p.1, .int .i64 p.2], .agg #[.int .i64 l0, .int .i64 l1, .int .i64 l2, .int .i64 l3, .int .i64 l4, .int .i64 l5, .int .i64 l6, .int .i64 l7], .int .i64 ((d : Nat) : Int), .bool true, .int .i64 ((d : Nat) : Int), .int .i64 Kd, .int .i64 Kd, .bool true, (s 0), (s 1), (s 2), (s 3), (s 4), (s 5), (s 6), (s 7), (s 8), (s 9), (s 10), (s 12), u131, u132, u133, u134, u135, u136, undef], defers := [] } ∧ Sv 14 [some (.pointer (some ⟨wc.heap.size, 2, none⟩)), some (dv), some (.int .i64 ((d : Nat) : Int)), none, none, some (.pointer (some ⟨wc.heap.size, 3, none⟩)), some (kv), some (.int .i64 Kd), none, none, some (.pointer (some ⟨wc.heap.size, 2, none⟩)), some (undef), some (.pointer (some ⟨wc.heap.size, 3, none⟩)), some (undef)] Lq s ∧ Cl [(4, 3), (9, 3), (9, 4), (9, 8), (11, 1), (11, 3), (11, 4), (11, 6), (11, 8), (11, 9), (13, 1), (13, 3), (13, 4), (13, 6), (13, 8), (13, 9), (13, 11)] Lq ∧ RS wc.heap.size wc wc.heap.size p dv kv n ds ks ((d : Nat) : Int) Kd (Lq.getD 3 false) (Lq.getD 4 false) (Lq.getD 8 false) (Lq.getD 9 false) (Lq.getD 11 false) (Lq.getD 13 false) (s 3) (s 4) (s 8) (s 9) WN) (by kernel_rfl) ?_ ?_ ?_
            ·refine ⟨listF [u119, u120, u121, u122, u123, u124, u125, u126, u127, u128, u129, undef, u130, undef], rfl, Sv.start 14 _ _, Cl.start _ _, ?_⟩
             simp only [getD_replicate_false]
             exact HRS0.out _ _ _ _
            ·intro Lq aq WN i0 hI hr
             obtain ⟨s, rfl, hv, hcl, hst⟩ := hI
             have hi0 : i0 < 14 := ready_lt hr
             have hno := (mem_ready.1 hr).1
             have hsz := hv.sz
             have HV := Lib.hid hv
             have HST := Lib.hid hst
             have HCL := Lib.hid hcl
             clear hv hst hcl
             have hii : i0 = 0 ∨ i0 = 1 ∨ i0 = 2 ∨ i0 = 3 ∨ i0 = 4 ∨ i0 = 5 ∨ i0 = 6 ∨ i0 = 7 ∨ i0 = 8 ∨ i0 = 9 ∨ i0 = 10 ∨ i0 = 11 ∨ i0 = 12 ∨ i0 = 13 := by omega
             clear hi0
             rcases hii with rfl | rfl | rfl | rfl | rfl | rfl | rfl | rfl | rfl | rfl | rfl | rfl | rfl | rfl
             ·clear hr
              refine wpOp_step rfl (fun K hK => ?_)
              go_simp
              refine hK _ _ ?_
              refine ⟨upd s 0 (.pointer (some ⟨wc.heap.size, 2, none⟩)), rfl, Sv.put HV.out (fun u hu => by cases hu; rfl), Cl.set HCL.out (by simp only [List.mem_cons, List.not_mem_nil, or_false]; rintro q (rfl | rfl | rfl | rfl | rfl | rfl | rfl | rfl | rfl | rfl | rfl | rfl | rfl | rfl | rfl | rfl | rfl) hq <;> first | assumption | (simp at hq; done)), ?_⟩
              rw [set_other (show (0 : Nat) ≠ 3 by decide), set_other (show (0 : Nat) ≠ 4 by decide), set_other (show (0 : Nat) ≠ 8 by decide), set_other (show (0 : Nat) ≠ 9 by decide), set_other (show (0 : Nat) ≠ 11 by decide), set_other (show (0 : Nat) ≠ 13 by decide)]
              exact HST.out
             ·have d0 := ready_dep hr (k := 0) (by kernel_rfl)
              clear hr
              have e0 : s 0 = .pointer (some ⟨wc.heap.size, 2, none⟩) := HV.out.v d0 rfl
              have o11 : Lq.getD 11 false = false := HCL.out.no (i := 1) (by decide) hno
              have o13 : Lq.getD 13 false = false := HCL.out.no (i := 1) (by decide) hno
              have hrs := HST.out
              rw [o11, o13] at hrs
              have z1 : WN.cell? ⟨wc.heap.size, 2, none⟩ = some dv := (cell_of_blk hrs.box 2).trans rfl
              clear hrs
              refine wpOp_step rfl (fun K hK => ?_)
              go_simp
              refine hK _ _ ?_
              refine ⟨upd (upd s 0 (.pointer (some ⟨wc.heap.size, 2, none⟩))) 1 (dv), rfl, Sv.put (Sv.re (j := 0) (v := .pointer (some ⟨wc.heap.size, 2, none⟩)) HV.out e0) (fun u hu => by cases hu; rfl), Cl.set HCL.out (by simp only [List.mem_cons, List.not_mem_nil, or_false]; rintro q (rfl | rfl | rfl | rfl | rfl | rfl | rfl | rfl | rfl | rfl | rfl | rfl | rfl | rfl | rfl | rfl | rfl) hq <;> first | assumption | (simp at hq; done)), ?_⟩
              rw [set_other (show (1 : Nat) ≠ 3 by decide), set_other (show (1 : Nat) ≠ 4 by decide), set_other (show (1 : Nat) ≠ 8 by decide), set_other (show (1 : Nat) ≠ 9 by decide), set_other (show (1 : Nat) ≠ 11 by decide), set_other (show (1 : Nat) ≠ 13 by decide)]
              exact HST.out
             ·clear hr
              refine wpOp_step rfl (fun K hK => ?_)
              go_simp
              refine hK _ _ ?_
              refine ⟨upd s 2 (.int .i64 ((d : Nat) : Int)), rfl, Sv.put HV.out (fun u hu => by cases hu; rfl), Cl.set HCL.out (by simp only [List.mem_cons, List.not_mem_nil, or_false]; rintro q (rfl | rfl | rfl | rfl | rfl | rfl | rfl | rfl | rfl | rfl | rfl | rfl | rfl | rfl | rfl | rfl | rfl) hq <;> first | assumption | (simp at hq; done)), ?_⟩
              rw [set_other (show (2 : Nat) ≠ 3 by decide), set_other (show (2 : Nat) ≠ 4 by decide), set_other (show (2 : Nat) ≠ 8 by decide), set_other (show (2 : Nat) ≠ 9 by decide), set_other (show (2 : Nat) ≠ 11 by decide), set_other (show (2 : Nat) ≠ 13 by decide)]
              exact HST.out
             ·have d2 := ready_dep hr (k := 2) (by kernel_rfl)
              clear hr
              have e2 : s 2 = .int .i64 ((d : Nat) : Int) := HV.out.v d2 rfl
              have o4 : Lq.getD 4 false = false := HCL.out.no (i := 3) (by decide) hno
              have o9 : Lq.getD 9 false = false := HCL.out.no (i := 3) (by decide) hno
              have o11 : Lq.getD 11 false = false := HCL.out.no (i := 3) (by decide) hno
              have o13 : Lq.getD 13 false = false := HCL.out.no (i := 3) (by decide) hno
              have o3 : Lq.getD 3 false = false := getD_both hno
              have hrs := HST.out
              rw [o3, o4, o9, o11, o13] at hrs
              have HRS := Lib.hid hrs
              clear hrs
              refine wpOp_step rfl (fun K hK => ?_)
              go_simp
              refine hK _ _ ?_
              refine ⟨upd (upd s 2 (.int .i64 ((d : Nat) : Int))) 3 _, rfl, Sv.put (Sv.re (j := 2) (v := .int .i64 ((d : Nat) : Int)) HV.out e2) (fun u hu => by cases hu), Cl.set HCL.out (by simp only [List.mem_cons, List.not_mem_nil, or_false]; rintro q (rfl | rfl | rfl | rfl | rfl | rfl | rfl | rfl | rfl | rfl | rfl | rfl | rfl | rfl | rfl | rfl | rfl) hq <;> first | assumption | (simp at hq; done)), ?_⟩
              rw [set_self hsz (by decide : 3 < 14), set_other (show (3 : Nat) ≠ 4 by decide), set_other (show (3 : Nat) ≠ 8 by decide), set_other (show (3 : Nat) ≠ 9 by decide), set_other (show (3 : Nat) ≠ 11 by decide), set_other (show (3 : Nat) ≠ 13 by decide)]
              rw [o4, o9, o11, o13]
              exact RS.a3 (Nat.le_refl _) HRS.out
             ·have d1 := ready_dep hr (k := 1) (by kernel_rfl)
              have d3 := ready_dep hr (k := 3) (by kernel_rfl)
              clear hr
              have e1 : s 1 = dv := HV.out.v d1 rfl
              have o9 : Lq.getD 9 false = false := HCL.out.no (i := 4) (by decide) hno
              have o11 : Lq.getD 11 false = false := HCL.out.no (i := 4) (by decide) hno
              have o13 : Lq.getD 13 false = false := HCL.out.no (i := 4) (by decide) hno
              have o4 : Lq.getD 4 false = false := getD_both hno
              have hrs := HST.out
              rw [d3, o4, o9, o11, o13] at hrs
              obtain ⟨gq, ev, hbq, _, _⟩ := (hrs.p1 rfl rfl).at_
              rw [ev] at hrs
              have HRS := Lib.hid hrs
              clear hrs
              refine wpOp_step rfl (fun K hK => ?_)
              rw [e1, ev]
              refine step_app Tryd.underlying22 int_info rfl (by decide) (by decide) rfl (.tmp 120) (.tmp 122) rfl wc.heap.size dv n (vis ds) [.int .i64 ((d : Nat) : Int)] (by rfl) HRS.out.r1 HRS.out.bel.size 1 gq (by rfl) hbq rfl (fun u hu => by simp only [List.mem_cons, List.not_mem_nil, or_false] at hu; subst hu; rfl) (by omega) ?_
              intro v2 w2 hown3 hb2 hgr2
              refine hK _ _ ?_
              refine ⟨upd (upd (upd s 1 (dv)) 3 (.slice (some ⟨gq, 0, none⟩) 1 1)) 4 v2, rfl, Sv.put (Sv.re (j := 3) (v := .slice (some ⟨gq, 0, none⟩) 1 1) (Sv.re (j := 1) (v := dv) HV.out e1) ev) (fun u hu => by cases hu), Cl.set HCL.out (by simp only [List.mem_cons, List.not_mem_nil, or_false]; rintro q (rfl | rfl | rfl | rfl | rfl | rfl | rfl | rfl | rfl | rfl | rfl | rfl | rfl | rfl | rfl | rfl | rfl) hq <;> first | assumption | (simp at hq; done)), ?_⟩
              rw [set_other (show (4 : Nat) ≠ 3 by decide), set_self hsz (by decide : 4 < 14), set_other (show (4 : Nat) ≠ 8 by decide), set_other (show (4 : Nat) ≠ 9 by decide), set_other (show (4 : Nat) ≠ 11 by decide), set_other (show (4 : Nat) ≠ 13 by decide)]
              rw [d3, o9, o11, o13]
              exact RS.g4 HRS.out (by rw [show vis (ds ++ [((d : Nat) : Int)]) = vis ds ++ [.int .i64 ((d : Nat) : Int)] by simp [vis]]; exact hown3) hb2 hgr2
             ·clear hr
              refine wpOp_step rfl (fun K hK => ?_)
              go_simp
              refine hK _ _ ?_
              refine ⟨upd s 5 (.pointer (some ⟨wc.heap.size, 3, none⟩)), rfl, Sv.put HV.out (fun u hu => by cases hu; rfl), Cl.set HCL.out (by simp only [List.mem_cons, List.not_mem_nil, or_false]; rintro q (rfl | rfl | rfl | rfl | rfl | rfl | rfl | rfl | rfl | rfl | rfl | rfl | rfl | rfl | rfl | rfl | rfl) hq <;> first | assumption | (simp at hq; done)), ?_⟩
              rw [set_other (show (5 : Nat) ≠ 3 by decide), set_other (show (5 : Nat) ≠ 4 by decide), set_other (show (5 : Nat) ≠ 8 by decide), set_other (show (5 : Nat) ≠ 9 by decide), set_other (show (5 : Nat) ≠ 11 by decide), set_other (show (5 : Nat) ≠ 13 by decide)]
              exact HST.out
             ·have d5 := ready_dep hr (k := 5) (by kernel_rfl)
              clear hr
              have e5 : s 5 = .pointer (some ⟨wc.heap.size, 3, none⟩) := HV.out.v d5 rfl
              have o11 : Lq.getD 11 false = false := HCL.out.no (i := 6) (by decide) hno
              have o13 : Lq.getD 13 false = false := HCL.out.no (i := 6) (by decide) hno
              have hrs := HST.out
              rw [o11, o13] at hrs
              have z6 : WN.cell? ⟨wc.heap.size, 3, none⟩ = some kv := (cell_of_blk hrs.box 3).trans rfl
              clear hrs
              refine wpOp_step rfl (fun K hK => ?_)
              go_simp
              refine hK _ _ ?_
              refine ⟨upd (upd s 5 (.pointer (some ⟨wc.heap.size, 3, none⟩))) 6 (kv), rfl, Sv.put (Sv.re (j := 5) (v := .pointer (some ⟨wc.heap.size, 3, none⟩)) HV.out e5) (fun u hu => by cases hu; rfl), Cl.set HCL.out (by simp only [List.mem_cons, List.not_mem_nil, or_false]; rintro q (rfl | rfl | rfl | rfl | rfl | rfl | rfl | rfl | rfl | rfl | rfl | rfl | rfl | rfl | rfl | rfl | rfl) hq <;> first | assumption | (simp at hq; done)), ?_⟩
              rw [set_other (show (6 : Nat) ≠ 3 by decide), set_other (show (6 : Nat) ≠ 4 by decide), set_other (show (6 : Nat) ≠ 8 by decide), set_other (show (6 : Nat) ≠ 9 by decide), set_other (show (6 : Nat) ≠ 11 by decide), set_other (show (6 : Nat) ≠ 13 by decide)]
              exact HST.out
             ·clear hr
              refine wpOp_step rfl (fun K hK => ?_)
              go_simp
              refine hK _ _ ?_
              refine ⟨upd s 7 (.int .i64 Kd), rfl, Sv.put HV.out (fun u hu => by cases hu; rfl), Cl.set HCL.out (by simp only [List.mem_cons, List.not_mem_nil, or_false]; rintro q (rfl | rfl | rfl | rfl | rfl | rfl | rfl | rfl | rfl | rfl | rfl | rfl | rfl | rfl | rfl | rfl | rfl) hq <;> first | assumption | (simp at hq; done)), ?_⟩
              rw [set_other (show (7 : Nat) ≠ 3 by decide), set_other (show (7 : Nat) ≠ 4 by decide), set_other (show (7 : Nat) ≠ 8 by decide), set_other (show (7 : Nat) ≠ 9 by decide), set_other (show (7 : Nat) ≠ 11 by decide), set_other (show (7 : Nat) ≠ 13 by decide)]
              exact HST.out
             ·have d7 := ready_dep hr (k := 7) (by kernel_rfl)
              clear hr
              have e7 : s 7 = .int .i64 Kd := HV.out.v d7 rfl
              have o9 : Lq.getD 9 false = false := HCL.out.no (i := 8) (by decide) hno
              have o11 : Lq.getD 11 false = false := HCL.out.no (i := 8) (by decide) hno
              have o13 : Lq.getD 13 false = false := HCL.out.no (i := 8) (by decide) hno
              have o8 : Lq.getD 8 false = false := getD_both hno
              have hrs := HST.out
              rw [o8, o9, o11, o13] at hrs
              have HRS := Lib.hid hrs
              clear hrs
              refine wpOp_step rfl (fun K hK => ?_)
              go_simp
              refine hK _ _ ?_
              refine ⟨upd (upd s 7 (.int .i64 Kd)) 8 _, rfl, Sv.put (Sv.re (j := 7) (v := .int .i64 Kd) HV.out e7) (fun u hu => by cases hu), Cl.set HCL.out (by simp only [List.mem_cons, List.not_mem_nil, or_false]; rintro q (rfl | rfl | rfl | rfl | rfl | rfl | rfl | rfl | rfl | rfl | rfl | rfl | rfl | rfl | rfl | rfl | rfl) hq <;> first | assumption | (simp at hq; done)), ?_⟩
              rw [set_other (show (8 : Nat) ≠ 3 by decide), set_other (show (8 : Nat) ≠ 4 by decide), set_self hsz (by decide : 8 < 14), set_other (show (8 : Nat) ≠ 9 by decide), set_other (show (8 : Nat) ≠ 11 by decide), set_other (show (8 : Nat) ≠ 13 by decide)]
              rw [o9, o11, o13]
              exact RS.a8 (Nat.le_refl _) HRS.out
             ·have d6 := ready_dep hr (k := 6) (by kernel_rfl)
              have d8 := ready_dep hr (k := 8) (by kernel_rfl)
              have d4 := ready_dep hr (k := 4) (by kernel_rfl)
              have d3 := HCL.out (4, 3) (by decide) d4
              clear hr
              have e6 : s 6 = kv := HV.out.v d6 rfl
              have o11 : Lq.getD 11 false = false := HCL.out.no (i := 9) (by decide) hno
              have o13 : Lq.getD 13 false = false := HCL.out.no (i := 9) (by decide) hno
              have o9 : Lq.getD 9 false = false := getD_both hno
              have hrs := HST.out
              rw [d3, d4, d8, o9, o11, o13] at hrs
              obtain ⟨gq, ev, hbq, _, _⟩ := (hrs.p2 rfl rfl).at_
              rw [ev] at hrs
              have HRS := Lib.hid hrs
              clear hrs
              refine wpOp_step rfl (fun K hK => ?_)
              rw [e6, ev]
              refine step_app Tryd.underlying22 int_info rfl (by decide) (by decide) rfl (.tmp 125) (.tmp 127) rfl wc.heap.size kv n (vis ks) [.int .i64 Kd] (by rfl) HRS.out.r2 HRS.out.bel.size 1 gq (by rfl) hbq rfl (fun u hu => by simp only [List.mem_cons, List.not_mem_nil, or_false] at hu; subst hu; rfl) (by omega) ?_
              intro v2 w2 hown3 hb2 hgr2
              refine hK _ _ ?_
              refine ⟨upd (upd (upd s 6 (kv)) 8 (.slice (some ⟨gq, 0, none⟩) 1 1)) 9 v2, rfl, Sv.put (Sv.re (j := 8) (v := .slice (some ⟨gq, 0, none⟩) 1 1) (Sv.re (j := 6) (v := kv) HV.out e6) ev) (fun u hu => by cases hu), Cl.set HCL.out (by simp only [List.mem_cons, List.not_mem_nil, or_false]; rintro q (rfl | rfl | rfl | rfl | rfl | rfl | rfl | rfl | rfl | rfl | rfl | rfl | rfl | rfl | rfl | rfl | rfl) hq <;> first | assumption | (simp at hq; done)), ?_⟩
              rw [set_other (show (9 : Nat) ≠ 3 by decide), set_other (show (9 : Nat) ≠ 4 by decide), set_other (show (9 : Nat) ≠ 8 by decide), set_self hsz (by decide : 9 < 14), set_other (show (9 : Nat) ≠ 11 by decide), set_other (show (9 : Nat) ≠ 13 by decide)]
              rw [d3, d4, d8, o11, o13]
              exact RS.g9 HRS.out (by rw [show vis (ks ++ [Kd]) = vis ks ++ [.int .i64 Kd] by simp [vis]]; exact hown3) hb2 hgr2
             ·clear hr
              refine wpOp_step rfl (fun K hK => ?_)
              go_simp
              refine hK _ _ ?_
              refine ⟨upd s 10 (.pointer (some ⟨wc.heap.size, 2, none⟩)), rfl, Sv.put HV.out (fun u hu => by cases hu; rfl), Cl.set HCL.out (by simp only [List.mem_cons, List.not_mem_nil, or_false]; rintro q (rfl | rfl | rfl | rfl | rfl | rfl | rfl | rfl | rfl | rfl | rfl | rfl | rfl | rfl | rfl | rfl | rfl) hq <;> first | assumption | (simp at hq; done)), ?_⟩
              rw [set_other (show (10 : Nat) ≠ 3 by decide), set_other (show (10 : Nat) ≠ 4 by decide), set_other (show (10 : Nat) ≠ 8 by decide), set_other (show (10 : Nat) ≠ 9 by decide), set_other (show (10 : Nat) ≠ 11 by decide), set_other (show (10 : Nat) ≠ 13 by decide)]
              exact HST.out
             ·have d10 := ready_dep hr (k := 10) (by kernel_rfl)
              have d4 := ready_dep hr (k := 4) (by kernel_rfl)
              have d9 := ready_dep hr (k := 9) (by kernel_rfl)
              have d1 := ready_dep hr (k := 1) (by kernel_rfl)
              have d6 := ready_dep hr (k := 6) (by kernel_rfl)
              have d3 := HCL.out (4, 3) (by decide) d4
              have d8 := HCL.out (9, 8) (by decide) d9
              clear hr
              have e10 : s 10 = .pointer (some ⟨wc.heap.size, 2, none⟩) := HV.out.v d10 rfl
              have o13 : Lq.getD 13 false = false := HCL.out.no (i := 11) (by decide) hno
              have o11 : Lq.getD 11 false = false := getD_both hno
              have hrs := HST.out
              rw [d3, d4, d8, d9, o11, o13] at hrs
              obtain ⟨gq, cq, _, ev, _, _, _, _⟩ := own_addr hrs.r1 (Nat.succ_pos n)
              have ev : s 4 = .slice (some ⟨gq, 0, none⟩) (n + 1) cq := ev
              rw [ev] at hrs
              have zc : WN.cell? ⟨wc.heap.size, 2, none⟩ = some dv := (cell_of_blk hrs.box 2).trans rfl
              have zf := frozen_of_blk hrs.box
              have zl := blk_lt hrs.box
              have HRS := Lib.hid hrs
              clear hrs
              refine wpOp_step rfl (fun K hK => ?_)
              go_simp
              refine hK _ _ ?_
              refine ⟨upd (upd (upd s 10 (.pointer (some ⟨wc.heap.size, 2, none⟩))) 4 (.slice (some ⟨gq, 0, none⟩) (n + 1) cq)) 11 undef, rfl, Sv.put (Sv.re (j := 4) (v := .slice (some ⟨gq, 0, none⟩) (n + 1) cq) (Sv.re (j := 10) (v := .pointer (some ⟨wc.heap.size, 2, none⟩)) HV.out e10) ev) (fun u hu => by cases hu; rfl), Cl.set HCL.out (by simp only [List.mem_cons, List.not_mem_nil, or_false]; rintro q (rfl | rfl | rfl | rfl | rfl | rfl | rfl | rfl | rfl | rfl | rfl | rfl | rfl | rfl | rfl | rfl | rfl) hq <;> first | assumption | (simp at hq; done)), ?_⟩
              rw [set_other (show (11 : Nat) ≠ 3 by decide), set_other (show (11 : Nat) ≠ 4 by decide), set_other (show (11 : Nat) ≠ 8 by decide), set_other (show (11 : Nat) ≠ 9 by decide), set_self hsz (by decide : 11 < 14), set_other (show (11 : Nat) ≠ 13 by decide)]
              rw [d3, d4, d8, d9, o13]
              exact RS.s11 (Nat.le_refl _) HRS.out
             ·clear hr
              refine wpOp_step rfl (fun K hK => ?_)
              go_simp
              refine hK _ _ ?_
              refine ⟨upd s 12 (.pointer (some ⟨wc.heap.size, 3, none⟩)), rfl, Sv.put HV.out (fun u hu => by cases hu; rfl), Cl.set HCL.out (by simp only [List.mem_cons, List.not_mem_nil, or_false]; rintro q (rfl | rfl | rfl | rfl | rfl | rfl | rfl | rfl | rfl | rfl | rfl | rfl | rfl | rfl | rfl | rfl | rfl) hq <;> first | assumption | (simp at hq; done)), ?_⟩
              rw [set_other (show (12 : Nat) ≠ 3 by decide), set_other (show (12 : Nat) ≠ 4 by decide), set_other (show (12 : Nat) ≠ 8 by decide), set_other (show (12 : Nat) ≠ 9 by decide), set_other (show (12 : Nat) ≠ 11 by decide), set_other (show (12 : Nat) ≠ 13 by decide)]
              exact HST.out
             ·have d12 := ready_dep hr (k := 12) (by kernel_rfl)
              have d9 := ready_dep hr (k := 9) (by kernel_rfl)
              have d11 := ready_dep hr (k := 11) (by kernel_rfl)
              have d4 := HCL.out (9, 4) (by decide) d9
              have d3 := HCL.out (4, 3) (by decide) d4
              have d8 := HCL.out (9, 8) (by decide) d9
              have d1 := HCL.out (11, 1) (by decide) d11
              have d6 := HCL.out (11, 6) (by decide) d11
              clear hr
              have e12 : s 12 = .pointer (some ⟨wc.heap.size, 3, none⟩) := HV.out.v d12 rfl
              have o13 : Lq.getD 13 false = false := getD_both hno
              have hrs := HST.out
              rw [d3, d4, d8, d9, d11, o13] at hrs
              obtain ⟨gq, cq, _, ev, _, _, _, _⟩ := own_addr hrs.r2 (Nat.succ_pos n)
              have ev : s 9 = .slice (some ⟨gq, 0, none⟩) (n + 1) cq := ev
              rw [ev] at hrs
              have zc : WN.cell? ⟨wc.heap.size, 3, none⟩ = some kv := (cell_of_blk hrs.box 3).trans rfl
              have zf := frozen_of_blk hrs.box
              have zl := blk_lt hrs.box
              have HRS := Lib.hid hrs
              clear hrs
              refine wpOp_step rfl (fun K hK => ?_)
              go_simp
              refine hK _ _ ?_
              refine ⟨upd (upd (upd s 12 (.pointer (some ⟨wc.heap.size, 3, none⟩))) 9 (.slice (some ⟨gq, 0, none⟩) (n + 1) cq)) 13 undef, rfl, Sv.put (Sv.re (j := 9) (v := .slice (some ⟨gq, 0, none⟩) (n + 1) cq) (Sv.re (j := 12) (v := .pointer (some ⟨wc.heap.size, 3, none⟩)) HV.out e12) ev) (fun u hu => by cases hu; rfl), Cl.set HCL.out (by simp only [List.mem_cons, List.not_mem_nil, or_false]; rintro q (rfl | rfl | rfl | rfl | rfl | rfl | rfl | rfl | rfl | rfl | rfl | rfl | rfl | rfl | rfl | rfl | rfl) hq <;> first | assumption | (simp at hq; done)), ?_⟩
              rw [set_other (show (13 : Nat) ≠ 3 by decide), set_other (show (13 : Nat) ≠ 4 by decide), set_other (show (13 : Nat) ≠ 8 by decide), set_other (show (13 : Nat) ≠ 9 by decide), set_other (show (13 : Nat) ≠ 11 by decide), set_self hsz (by decide : 13 < 14)]
              rw [d3, d4, d8, d9, d11]
              exact RS.s13 (Nat.le_refl _) HRS.out
            ·intro Lq aq WN hI hrd
             obtain ⟨s, ha, hv, hcl, hst⟩ := hI
             have hall := all_listedM hrd hv.sz (by kernel_rfl)
             clear hrd
             rw [hall 3 (by decide), hall 4 (by decide), hall 8 (by decide), hall 9 (by decide), hall 11 (by decide), hall 13 (by decide)] at hst
             have e0 : s 0 = (.pointer (some ⟨wc.heap.size, 2, none⟩)) := hv.v (hall 0 (by decide)) rfl
             have e1 : s 1 = (dv) := hv.v (hall 1 (by decide)) rfl
             have e2 : s 2 = (.int .i64 ((d : Nat) : Int)) := hv.v (hall 2 (by decide)) rfl
             have e5 : s 5 = (.pointer (some ⟨wc.heap.size, 3, none⟩)) := hv.v (hall 5 (by decide)) rfl
             have e6 : s 6 = (kv) := hv.v (hall 6 (by decide)) rfl
             have e7 : s 7 = (.int .i64 Kd) := hv.v (hall 7 (by decide)) rfl
             have e10 : s 10 = (.pointer (some ⟨wc.heap.size, 2, none⟩)) := hv.v (hall 10 (by decide)) rfl
             have e12 : s 12 = (.pointer (some ⟨wc.heap.size, 3, none⟩)) := hv.v (hall 12 (by decide)) rfl
             simp only [e0, e1, e2, e5, e6, e7, e10, e12] at ha
             subst ha
             clear hall hv hcl e0 e1 e2 e5 e6 e7 e10 e12
             have hd2 : WN.ownsRow wc.heap.size 3 1 (s 4) (dsK (kfP cs p) (d + 1)).length (vis (dsK (kfP cs p) (d + 1))) := by
              rw [HY1.out, List.length_append, ← HN.out]
              exact hst.r1
             have hv2 : WN.ownsRow wc.heap.size 3 1 (s 9) (dsK (kfP cs p) (d + 1)).length (vis (ksK (kfP cs p) (d + 1))) := by
              rw [HY1.out, HY2.out, List.length_append, ← HN.out]
              exact hst.r2
             have HD2 := Lib.hid hd2
             have HV2 := Lib.hid hv2
             have HB2 := Lib.hid hst.bel
             have HK2 : Hid (WN.heap[wc.heap.size]? = some (.cells #[.int .i64 p.1, .int .i64 p.2, (s 4), (s 9)] 51 (0, 0))) := hst.box
             have HA2 := Lib.hid hst.ap
             obtain ⟨dv2, hdv2⟩ : ∃ x, x = s 4 := ⟨_, rfl⟩
             obtain ⟨kv2, hkv2⟩ : ∃ x, x = s 9 := ⟨_, rfl⟩
             clear hd2 hv2 hst
             go_wp2
             go_roundw
             case rel => exact ⟨d + 1, s 4, s 9, by omega, by go_num, HB2, HK2, HD2, HV2, HA2⟩
             case measure => simp [intOf]; omega
           ·have hpb : decide (0 < Kd) = false := decide_eq_false hpos
            obtain ⟨hy1, hy2⟩ := HNO.out hpos
            rw [← hy1] at hD hV
            rw [← hy2] at hV
            clear hy1 hy2 HYES HNO hpos
            go_wp2_with fail
            go_roundw
            case rel => exact ⟨d + 1, dv, kv, by omega, by go_num, hB, hK, hD, hV, hA⟩
            case measure => simp [intOf]; omega
          ·obtain rfl : d = 8 := by omega
           have y0 := cell_of_blk hK.out 0
           have y1 := cell_of_blk hK.out 1
           have y2 := cell_of_blk hK.out 2
           have y3 := cell_of_blk hK.out 3
           simp only [List.getElem?_toArray, List.getElem?_cons_zero, List.getElem?_cons_succ] at y0 y1 y2 y3
           have hone : ∀ u ∈ [Value.int .i64 p.1, .int .i64 p.2, dv, kv], u.oneCell' = true := by
            intro u hu
            simp only [List.mem_cons, List.not_mem_nil, or_false] at hu
            rcases hu with rfl | rfl | rfl | rfl
            ·rfl
            ·rfl
            ·exact own_one hD.out
            ·exact own_one hV.out
           obtain ⟨Ad, cd, hdv, _, _⟩ := own_slice hD.out
           obtain ⟨Ak, ck, hkv, _, _⟩ := own_slice hV.out
           have hW8 := HWA.out.below hB.out (Nat.le_refl _)
           have hsz2 : w9.heap.size ≤ wr.heap.size := Nat.le_trans HBA.out.size hB.out.size
           have HW8 := Lib.hid hW8
           have HONE := Lib.hid hone
           have HDV := Lib.hid hdv
           have HKV := Lib.hid hkv
           obtain ⟨dv', hdv'⟩ : ∃ x, x = dv := ⟨_, rfl⟩
           obtain ⟨kv', hkv'⟩ : ∃ x, x = kv := ⟨_, rfl⟩
           clear hW8 hone hdv hkv hK
           obtain ⟨wz, hwz⟩ : ∃ x, x = wr := ⟨_, rfl⟩
           subst hwz
           go_wp2_with (at_builtin; go_loud (refine app_gen Tryd.underlying44 star_info rfl (by decide) (by decide) rfl (.tmp 132) (.tmp 134) rfl w9.heap.size _ (starsC L cs (K.take i)).length (zcs zs) [.int .i64 p.1, .int .i64 p.2, dv, kv] rfl HW8.out.own hsz2 1 _ rfl rfl rfl HONE.out (by omega) ?_); intro v' w' hown' hb' hgr')
           have hdl := dsK_len (kfP cs p) 8
           have hge : w9.heap.size ≤ wc.heap.size := HBA.out.size
           have hkk : wz.ownsRow wc.heap.size 3 1 kv (ksK (kfP cs p) 8).length (vis (ksK (kfP cs p) 8)) := by rw [← hdl.1]; exact hV.out
           have hW9 := StarsW.app (s := starP cs p) HW8.out (own_mono hD.out hge) (own_mono hkk hge) hown' hgr'
           rw [← HSN2.out] at hW9
           have HW9 := Lib.hid hW9
           have HB9 := Lib.hid ((HBA.out.trans (hB.out.mono hge)).trans hb')
           clear hW9 hkk hown' hb' hgr' HW8 hD hV hB hA HWA HBA
           go_roundw
           case rel => exact ⟨i + 1, zs ++ [(p, dv, kv)], by omega, by go_num, HW9, HB9⟩
           case measure => simp [intOf]; omega
      ·obtain rfl : i = K.length := by omega
       have hii : ¬ (K.length : Int) < (K.length : Int) := by omega
       have hW2 := hW.out
       rw [List.take_length] at hW2
       have HW2 := Lib.hid (hW2.monoD (Nat.le_trans HBW5.out.size hB9))
       have HBF := Lib.hid (HS9.out.bel.trans (hB.out.mono (Nat.le_trans HBW5.out.size hB9)))
       clear hW2 hW hB
       go_wp2
       refine bodyPost_ret (v := .slice Av (starsC L cs K).length cv) (by simp [results, Tryd.results45, go_sem]) rfl ⟨.slice Av (starsC L cs K).length cv, rfl, zs, K, HPK.out, HW2.out, HBF.out⟩
end
section
open Go.RowKit Go.Maps

theorem crI_of {l : List T3} {cs : List C5} (h : creasesB l none cs = true) : CrI l cs ∧ cs.Pairwise fun a b => a.1 ≠ b.1 := by
 obtain ⟨h1, _, h2⟩ := creasesB_sorted h
 refine ⟨⟨fun c hc => (h2 c hc).1, fun c hc => ?_⟩, ?_⟩
 ·obtain ⟨t, ht, i, hi, e, _⟩ := innerB_iff.1 (h2 c hc).2
  exact ⟨t, ht, i, hi, e⟩
 ·refine h1.imp fun {a b} h e => ?_
  rw [e] at h
  exact lessE_irrefl _ h
theorem crI_few {l : List T3} {cs : List C5} (h : CrI l cs) (hd : cs.Pairwise fun a b => a.1 ≠ b.1) (hl : l.length ≤ 1000) : cs.length ≤ 3000 := by
 have h1 : (cs.map fun c => c.1).Nodup := List.pairwise_map.2 hd
 have h2 := nodup_sub_len h1 (l := edgesA l) (fun e he => by
  obtain ⟨c, hc, rfl⟩ := List.mem_map.1 he
  obtain ⟨t, ht, i, hi, e⟩ := h.edge c hc
  exact edgesA_mem.2 ⟨t, ht, hT_iff.2 ⟨i, hi, e⟩⟩)
 have h3 : (edgesA l).length = 3 * l.length := by
  simp [edgesA, List.length_flatMap, Function.comp_def, List.map_const', List.sum_replicate_nat]
  omega
 rw [List.length_map] at h2
 omega
set_option maxRecDepth 100000 in
set_option maxHeartbeats 3200000 in
theorem stars_any (W H : Int) (Am Ac : Option Addr) (nm cm nc cc : Nat) (mask : List Int) (cs : List C5) (w : World) (hs : Steps w) (hm : Rd w 1 Am nm (vis mask)) (hc : Rd w 5 Ac nc (ccs cs)) (hnm : nm ≤ 140737488351232) (hnc : nc ≤ 140737488351232) :
  Calls Tryd.prog 20 #[.agg #[.int .i64 W, .int .i64 H, .slice Am nm cm, .slice Ac nc cc]] w fun e w' => Below w.heap.size w w' ∧
   ((newB W H mask cs = false ∧ e = .returned (.tuple #[.slice none 0 0, .int .i64 10])) ∨ (newB W H mask cs = true ∧ ∃ v zs ks, PtI (EndP cs) ks ∧ StarsW w' w.heap.size v (starsC (trisL W.toNat mask) cs ks) zs ∧ e = .returned (.tuple #[v, .int .i64 0]))) := by
 have kb0 := heap_alloc_new w (.cells #[.int .i64 W, .int .i64 H, .slice Am nm cm, .slice Ac nc cc] 25)
 have hb0 := below_new w (.cells #[.int .i64 W, .int .i64 H, .slice Am nm cm, .slice Ac nc cc] 25)
 have a0 := cell_of_blk kb0 0
 have a1 := cell_of_blk kb0 1
 have a2 := cell_of_blk kb0 2
 have a3 := cell_of_blk kb0 3
 simp only [List.getElem?_toArray, List.getElem?_cons_zero, List.getElem?_cons_succ] at a0 a1 a2 a3
 have cN := new_any W H Am Ac nm cm nc cc mask cs (w.alloc (.cells #[.int .i64 W, .int .i64 H, .slice Am nm cm, .slice Ac nc cc] 25)) (hs.below hb0) (hm.below hb0) (hc.below hb0) hnm hnc
 have hfc := fun (h : newB W H mask cs = true) => crI_of (newB_creases h)
 obtain ⟨NB, hNB⟩ : ∃ NB, NB = newB W H mask cs := ⟨_, rfl⟩
 rw [← hNB] at cN hfc ⊢
 obtain ⟨L, hLe⟩ : ∃ L, L = trisL W.toNat mask := ⟨_, rfl⟩
 rw [← hLe] at hfc ⊢
 have HLE := Lib.hid hLe
 have CN := Lib.hid cN
 have HS := Lib.hid hs
 have HFC := Lib.hid hfc
 have HB0 := Lib.hid hb0
 have HCB := Lib.hid (hc.below hb0)
 have hcn := hc.creases_len
 clear cN hs hm hc hNB kb0 hLe hfc hb0
 go_enter Tryd.func20, Tryd.ntmps20
 go_wp2_with fail
 refine CN.out.mono ?_
 rintro e w1 ⟨hb1, ⟨hF, v, rfl⟩ | ⟨hT, Wn, Hn, pb, b0, nb, kb, mn, vt, rfl, rfl, hW, hH, hml, rfl, hN⟩⟩
 ·have hbf := stay_b HB0.out hb1
  have HBF := Lib.hid hbf
  have HF := Lib.hid hF
  clear hbf hb1 hF CN a0 a1 a2 a3
  go_wp2
  exact bodyPost_ret (v := .tuple #[.slice none 0 0, .int .i64 10]) (by simp [results, Tryd.results20, go_sem]) rfl ⟨HBF.out, .inl ⟨HF.out, rfl⟩⟩
 ·have hLe : L = trisL Wn mask := HLE.out
  have hb1w := stay_b HB0.out hb1
  have hL : ∀ t ∈ trisL Wn mask, SmT t := fun t ht => by
   have := trisL_in (by omega) hml ht
   exact ⟨by omega, by omega, this.2.2.2.2⟩
  have hlen : (trisL Wn mask).length ≤ 1000 := by
   have h1 := trisL_len Wn mask
   have h2 : Wn * Hn ≤ 8 * 8 := Nat.mul_le_mul hW.2 hH.2
   omega
  rw [← hLe] at hN hL hlen
  obtain ⟨hci, hcd⟩ := HFC.out hT
  have cO := starsOf_any pb nb kb Wn Hn _ _ _ Ac nc cc L mn _ _ cs w1 (HS.out.below hb1w) hN.pap hN.own (HCB.out.below hb1) hL hlen hci hcd (crI_few hci hcd hlen)
  have CO := Lib.hid cO
  have HB1 := Lib.hid hb1w
  have HT := Lib.hid hT
  clear hb1 hb1w hT hL hN CN hLe HLE HS a0 a1 a2 a3 hml hW hH cO hlen hci hcd HCB
  go_wp2_with (go_at_call 45; refine CO.out.mono ?_; rintro r w3 ⟨v, zs, ks, rfl, hpk, hr3, hb3⟩; have HPK := Lib.hid hpk; have HR3 := Lib.hid hr3; have HB3 := Lib.hid hb3; clear hpk hr3 hb3)
  exact bodyPost_ret (v := .tuple #[v, .int .i64 0]) (by simp [results, Tryd.results20, go_sem]) rfl ⟨stay_b HB1.out HB3.out, .inr ⟨HT.out, v, zs, ks, HPK.out, HR3.out.monoD HB1.out.size, rfl⟩⟩
end
end Go.Proofs.YtoienokpchbglaaDoor
