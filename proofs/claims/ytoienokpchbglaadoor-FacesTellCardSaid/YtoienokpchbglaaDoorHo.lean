/- faces.Holes. Printed by gen_ho2.py. -/
import Derived.Test.YtoienokpchbglaaDoorHo0
import Derived.Test.YtoienokpchbglaaDoorNew
namespace Go.Proofs.YtoienokpchbglaaDoor
set_option linter.unusedSimpArgs false
set_option linter.unusedVariables false
open Go.RowKit Go.Maps

def HolesN (L : List T3) (N : Int) : Prop := ∃ (ks : List P2) (es : List E4), ks.Nodup ∧ (∀ p, p ∈ ks ↔ p ∈ cornersA L) ∧ es.Nodup ∧ (∀ e, e ∈ es ↔ e ∈ edgesA L) ∧ N = 1 - (ks.length : Int) + (es.length : Int) - (L.length : Int)
set_option maxRecDepth 100000 in
set_option maxHeartbeats 12800000 in
theorem holes_any (W H : Int) (Am Ac : Option Addr) (nm cm nc cc : Nat) (mask : List Int) (cs : List C5) (w : World) (hs : Steps w) (hm : Rd w 1 Am nm (vis mask)) (hc : Rd w 5 Ac nc (ccs cs)) (hnm : nm ≤ 140737488351232) (hnc : nc ≤ 140737488351232) :
    Calls Tryd.prog 17 #[.agg #[.int .i64 W, .int .i64 H, .slice Am nm cm, .slice Ac nc cc]] w fun e w' => Below w.heap.size w w' ∧
      ((newB W H mask cs = false ∧ e = .returned (.tuple #[.int .i64 0, .int .i64 10])) ∨ (newB W H mask cs = true ∧ ∃ N, HolesN (trisL W.toNat mask) N ∧ e = .returned (.tuple #[.int .i64 N, .int .i64 0]))) := by
  have hmm := @run_makeMap Tryd.prog
  have kb0 := heap_alloc_new w (.cells #[.int .i64 W, .int .i64 H, .slice Am nm cm, .slice Ac nc cc] 25)
  have hb0 := below_new w (.cells #[.int .i64 W, .int .i64 H, .slice Am nm cm, .slice Ac nc cc] 25)
  have a0 := cell_of_blk kb0 0
  have a1 := cell_of_blk kb0 1
  have a2 := cell_of_blk kb0 2
  have a3 := cell_of_blk kb0 3
  simp only [List.getElem?_toArray, List.getElem?_cons_zero, List.getElem?_cons_succ] at a0 a1 a2 a3
  have cN := new_any W H Am Ac nm cm nc cc mask cs (w.alloc (.cells #[.int .i64 W, .int .i64 H, .slice Am nm cm, .slice Ac nc cc] 25)) (hs.below hb0) (hm.below hb0) (hc.below hb0) hnm hnc
  obtain ⟨NB, hNB⟩ : ∃ NB, NB = newB W H mask cs := ⟨_, rfl⟩
  rw [← hNB] at cN ⊢
  obtain ⟨L, hLe⟩ : ∃ L, L = trisL W.toNat mask := ⟨_, rfl⟩
  rw [← hLe]
  have HLE := Lib.hid hLe
  have CN := Lib.hid cN
  have HS := Lib.hid hs
  have HNB := Lib.hid hNB
  clear cN hs hm hc hNB kb0 hLe
  go_enter Tryd.func17, Tryd.ntmps17
  go_wp2_with fail
  refine CN.out.mono ?_
  rintro e w1 ⟨hb1, ⟨hF, v, rfl⟩ | ⟨hT, Wn, Hn, pb, b0, nb, kb, mn, vt, rfl, rfl, hW, hH, hml, rfl, hN⟩⟩
  · have hbf := stay_b hb0 hb1
    have HBF := Lib.hid hbf
    have HF := Lib.hid hF
    clear hbf hb1 hF CN a0 a1 a2 a3 hb0
    go_wp2
    exact bodyPost_ret (v := .tuple #[.int .i64 0, .int .i64 10]) (by simp [results, Tryd.results17, go_sem]) rfl ⟨HBF.out, .inl ⟨HF.out, rfl⟩⟩
  · have hLe : L = trisL Wn mask := HLE.out
    have hb1w := stay_b hb0 hb1
    have hpin := fun t (ht : t ∈ trisL Wn mask) => trisL_in (by omega) hml ht
    have hL : ∀ t ∈ trisL Wn mask, SmT t := fun t ht => by
      have := hpin t ht
      exact ⟨by omega, by omega, this.2.2.2.2⟩
    have hlen : (trisL Wn mask).length ≤ 1000 := by
      have h1 := trisL_len Wn mask
      have h2 : Wn * Hn ≤ 8 * 8 := Nat.mul_le_mul hW.2 hH.2
      omega
    rw [← hLe] at hN hL hlen
    have hpap := hN.pap
    have hown := hN.own
    obtain ⟨At, ct, hvt, _, _⟩ := own_slice hown
    subst hvt
    have c4 := hpap.c4
    have HC4 := Lib.hid c4
    have HB1 := Lib.hid hb1w
    have HT := Lib.hid hT
    have HL := Lib.hid hL
    have HO := Lib.hid hown
    have HS1 := Lib.hid (HS.out.below hb1w)
    clear hb1 hb1w hT hL hN hpap hown CN hpin hLe HLE HS HNB a0 a1 a2 a3 hb0 hml hW hH
    have hs0 : Cnt kP ((w1.alloc (.map #[] 0)).alloc (.map #[] 0)) w1.heap.size (3 * 0) (Crn L 0 0) := ((Cnt.made kP w1).stay (below_new _ _)).re fun p => by simp [Crn.none]
    have hs1 : Cnt kE ((w1.alloc (.map #[] 0)).alloc (.map #[] 0)) (w1.heap.size + 1) (3 * 0) (Edn L 0 0) := by
      have h := Cnt.made kE (w1.alloc (.map #[] 0))
      rw [World.size_alloc] at h
      exact h.re fun p => by simp [Edn.none]
    have hbb : Below w1.heap.size w1 ((w1.alloc (.map #[] 0)).alloc (.map #[] 0)) := ba (below_new _ _) _
    have c4 := al_c (al_c c4 (.map #[] 0)) (.map #[] 0)
    have HS0 := Lib.hid hs0
    have HS1' := Lib.hid hs1
    have HBB := Lib.hid hbb
    clear hs0 hs1 hbb
    go_wp2_with fail
    generalize (w1.alloc (.map #[] 0)).alloc (.map #[] 0) = wm at c4 HS0 HS1' HBB ⊢
    go_loopw [26] (fun x wr => ∃ i : Nat, i ≤ L.length ∧ x = .int .i64 i ∧ Hid (Cnt kP wr w1.heap.size (3 * i) (Crn L i 0)) ∧ Hid (Cnt kE wr (w1.heap.size + 1) (3 * i) (Edn L i 0)) ∧ Hid (Below w1.heap.size w1 wr)) (fun x _ => L.length - (intOf x).toNat)
    case atStart => exact ⟨0, by omega, rfl, HS0, HS1', HBB⟩
    case round =>
      obtain ⟨i, hi, rfl, hP, hE, hB⟩ := hrel
      by_cases hil : i < L.length
      · have hii : (i : Int) < (L.length : Int) := by omega
        obtain ⟨t, ht⟩ : ∃ t, L[i]? = some t := ⟨_, List.getElem?_eq_getElem hil⟩
        obtain ⟨gt, cpt, curt, hat, _, _, _, _⟩ := own_addr HO.out (by omega)
        cases hat
        obtain ⟨t0, t1, t2⟩ := own_tri (own_below HO.out hB.out (Nat.le_refl _)) ht
        have hts := HL.out t (List.mem_of_getElem? ht)
        have kT0 := heap_alloc_new wr (.cells #[.int .i64 t.1, .int .i64 t.2.1, .int .i64 t.2.2] 93)
        have hb6 := below_new wr (.cells #[.int .i64 t.1, .int .i64 t.2.1, .int .i64 t.2.2] 93)
        have cE := edges_any t.1 t.2.1 t.2.2 _ (HS1.out.below (stay_b hB.out hb6)) (by have := hts.1; omega) (by have := hts.1; omega) (by have := hts.2.1; omega) (by have := hts.2.1; omega) hts.2.2.1 hts.2.2.2
        have CE := Lib.hid cE
        have HTT := Lib.hid ht
        have HTS := Lib.hid hts
        have KT0 := Lib.hid kT0
        have HB6 := Lib.hid hb6
        clear cE ht hts kT0 hb6
        obtain ⟨wo, hwo⟩ : ∃ x, x = wr := ⟨_, rfl⟩
        subst hwo
        go_wp2_with (go_at_call 40; refine CE.out.mono ?_; rintro r w3 ⟨rfl, hb3⟩)
        have hP3 := (hP.out.stay HB6.out).stay hb3
        have hE3 := (hE.out.stay HB6.out).stay hb3
        have hB3 := stay_b (stay_b hB.out HB6.out) hb3
        have kT3 := blk_below KT0.out hb3 (blk_lt KT0.out)
        have HP3 := Lib.hid hP3
        have HE3 := Lib.hid hE3
        have HB3 := Lib.hid hB3
        have KT3 := Lib.hid kT3
        have hgo : w1.heap.size + 1 < wo.heap.size := hE.out.lt
        clear hP3 hE3 hB3 kT3 hP hE hB KT0 HB6 hb3 CE t0 t1 t2
        go_loopw [32] (fun x wr => ∃ k : Nat, k ≤ 3 ∧ x = .int .i64 k ∧ Hid (Cnt kP wr w1.heap.size (3 * i + k) (Crn L i k)) ∧ Hid (Cnt kE wr (w1.heap.size + 1) (3 * i + k) (Edn L i k)) ∧ Hid (Below w1.heap.size w1 wr) ∧ Hid (wr.heap[wo.heap.size]? = some (.cells #[.int .i64 t.1, .int .i64 t.2.1, .int .i64 t.2.2] 93 (0, 0)))) (fun x _ => 3 - (intOf x).toNat)
        case atStart => exact ⟨0, by omega, rfl, HP3, HE3, HB3, KT3⟩
        case round =>
          clear HP3 HE3 HB3 KT3
          obtain ⟨k, hk, rfl, hP, hE, hB, hK⟩ := hrel
          by_cases hk3 : k < 3
          · have hki : (k : Int) < 3 := by omega
            have hix : ∀ w, (Instr.index 97 (agg3E (edgeT t.1 t.2.1 t.2.2 0) (edgeT t.1 t.2.1 t.2.2 1) (edgeT t.1 t.2.1 t.2.2 2)) (.int .i64 k)).run Tryd.prog w = .ok (aggE (eT t k)) w := fun w => idx3 t k hk3 w
            have hiy : ∀ w, (Instr.index 99 (agg3P t) (.int .i64 k)).run Tryd.prog w = .ok (aggP (crT t k).1 (crT t k).2) w := fun w => idxP t k hk3 w
            have hok := HTS.out.edge hk3
            obtain ⟨hok2, _⟩ := HTS.out.corner hk3
            have hse := fun p => Edn.step HTT.out hk3 p
            have hsp := fun p => (Crn.step (l := L) HTT.out hk3 p).symm
            obtain ⟨E, hEE⟩ : ∃ E, E = eT t k := ⟨_, rfl⟩
            obtain ⟨c, hcc⟩ : ∃ c, c = crT t k := ⟨_, rfl⟩
            rw [← hEE] at hix hok hse
            rw [← hcc] at hiy hok2 hsp
            obtain ⟨f, hm, hf1, hf2, hf3⟩ := hE.out.map
            have hmE := (hm.alloc (.cells #[.int .i64 E.1, .int .i64 E.2.1, .int .i64 E.2.2.1, .int .i64 E.2.2.2] 86)).drew
            have hV0 := hf2 E
            have hV1 := hf3 E
            have hinc := fun (w' : World) (hm' : MapI kE w' (w1.heap.size + 1) (3 * i + k + 1) (setF f E ((f E).getD 0 + 1))) => (Cnt.inc hf1 hf2 hf3 hm').re hse
            obtain ⟨V, hV⟩ : ∃ V, V = (f E).getD 0 := ⟨_, rfl⟩
            rw [← hV] at hV0 hV1 hinc
            have kE0 := heap_alloc_new wr (.cells #[.int .i64 E.1, .int .i64 E.2.1, .int .i64 E.2.2.1, .int .i64 E.2.2.2] 86)
            have hmb : wr.heap.size ≠ w1.heap.size + 1 := by have := hm.lt; omega
            have hb7 := below_new wr (.cells #[.int .i64 E.1, .int .i64 E.2.1, .int .i64 E.2.2.1, .int .i64 E.2.2.2] 86)
            have hnm2 : 3 * i + k < maxLen := by unfold maxLen; omega
            have hw1 : IntKind.i64.wrap (V + 1) = V + 1 := IntWalk.i64_in _ (by omega)
            have hzw : (Lit.int .i64 (V + 1)).wf = true := wf_of (by unfold inR; omega)
            have x0 := cell_of_blk kE0 0
            have x1 := cell_of_blk kE0 1
            have x2 := cell_of_blk kE0 2
            have x3 := cell_of_blk kE0 3
            simp only [List.getElem?_toArray, List.getElem?_cons_zero, List.getElem?_cons_succ] at x0 x1 x2 x3
            have HM2 := Lib.hid hmE
            have HVE := Lib.hid hV
            have HOK := Lib.hid hok
            have HOK2 := Lib.hid hok2
            have HINC := Lib.hid hinc
            have HSP := Lib.hid hsp
            have HZW := Lib.hid hzw
            have HNM := Lib.hid hnm2
            have HB7 := Lib.hid hb7
            have HCC := Lib.hid hcc
            clear hmE hV hok hok2 hse hsp hinc hzw hnm2 hb7 hEE hcc hm hf1 hf2 hf3 hV1 kE0
            obtain ⟨wi, hwi⟩ : ∃ x, x = wr := ⟨_, rfl⟩
            subst hwi
            go_wp2_with fail
            have hP7 := hP.out.stay HB7.out
            have hB7 := stay_b hB.out HB7.out
            have hK7 := blk_below hK.out HB7.out (blk_lt hK.out)
            have HP7 := Lib.hid hP7
            have HB7' := Lib.hid hB7
            have HK7 := Lib.hid hK7
            clear hP7 hB7 hK7 HB7
            generalize wi.alloc (.cells #[.int .i64 E.1, .int .i64 E.2.1, .int .i64 E.2.2.1, .int .i64 E.2.2.2] 86) = w8 at x0 x1 x2 x3 HM2 HP7 HB7' HK7 ⊢
            have x0 : w8.drew.cell? ⟨wi.heap.size, 0, none⟩ = some (.int .i64 E.1) := x0
            have x1 : w8.drew.cell? ⟨wi.heap.size, 1, none⟩ = some (.int .i64 E.2.1) := x1
            have x2 : w8.drew.cell? ⟨wi.heap.size, 2, none⟩ = some (.int .i64 E.2.2.1) := x2
            have x3 : w8.drew.cell? ⟨wi.heap.size, 3, none⟩ = some (.int .i64 E.2.2.2) := x3
            refine wp_region_inv (fun Lq aq WN => ∃ s : Nat → Value, aq = { tmps := #[.agg #[.int .i64 (Wn : Int), .int .i64 (Hn : Int), .slice Am nm cm, .slice Ac nc cc], .pointer (some ⟨w.heap.size, 0, none⟩), .int .i64 0, .int .i64 0, .pointer (some ⟨pb, 0, none⟩), .bool true, .map (some (w1.heap.size)), .map (some (w1.heap.size + 1)), undef, .pointer (some ⟨wo.heap.size, 0, none⟩), .int .i64 (k : Int), .pointer (some ⟨wi.heap.size, 0, none⟩), .tuple #[.pointer (some ⟨pb, 0, none⟩), .bool true], .agg #[.int .i64 (Wn : Int), .int .i64 (Hn : Int), .slice Am nm cm, .slice Ac nc cc], .tuple #[.pointer (some ⟨pb, 0, none⟩), .bool true], .pointer (some ⟨pb, 0, none⟩), .bool true, .bool true, .bool false, .map (some (w1.heap.size)), .map (some (w1.heap.size + 1)), .pointer (some ⟨pb, 0, none⟩), .pointer (some ⟨pb, 0, none⟩), .pointer (some ⟨pb, 4, none⟩), .slice (some ⟨gt, 0, none⟩) L.length ct, .int .i64 (L.length : Int), .int .i64 (i : Int), .bool true, .pointer (some ⟨gt, i * 3, none⟩), .agg #[.int .i64 t.1, .int .i64 t.2.1, .int .i64 t.2.2], .agg #[.int .i64 t.1, .int .i64 t.2.1, .int .i64 t.2.2], agg3E (edgeT t.1 t.2.1 t.2.2 0) (edgeT t.1 t.2.1 t.2.2 1) (edgeT t.1 t.2.1 t.2.2 2), .int .i64 (k : Int), .bool true, .int .i64 (k : Int), aggE E, (s 0), (s 1), (s 2), (s 3), (s 4), (s 5), u42, u43, u44, u45, u46, u47, u48, u49, u50, u51, u52, undef, undef, undef, undef, undef, undef, undef, undef, undef, undef, undef, undef], defers := [] } ∧ Sv 7 [some (.map (some (w1.heap.size + 1))), some (aggE E), some (.int .i64 V), some (.int .i64 (V + 1)), none, none, some (undef)] Lq s ∧ Cl [(6, 0), (6, 1), (6, 2), (6, 3), (6, 4), (6, 5), (5, 4)] Lq ∧ (Lq.getD 5 false = true → ∃ v0, s 4 = .tuple #[v0, s 5]) ∧ EnS kE (w8.drew) (w1.heap.size + 1) (3 * i + k) (f) (E) (V + 1) (Lq.getD 4 false) (Lq.getD 6 false) (s 4) WN) (by kernel_rfl) ?_ ?_ ?_
            · refine ⟨listF [u36, u37, u38, u39, u40, u41, undef], rfl, Sv.start 7 _ _, Cl.start _ _, fun h => (by rw [getD_replicate_false] at h; cases h), ?_⟩
              rw [getD_replicate_false, getD_replicate_false]
              exact Below.refl _ _
            · intro Lq aq WN i0 hI hr
              obtain ⟨s, rfl, hv, hcl, hx, hst⟩ := hI
              have hi0 : i0 < 7 := ready_lt hr
              have hno := (mem_ready.1 hr).1
              have hsz := hv.sz
              have HV := Lib.hid hv
              have HST := Lib.hid hst
              have HX := Lib.hid hx
              have HCL := Lib.hid hcl
              clear hv hst hx hcl
              have hii : i0 = 0 ∨ i0 = 1 ∨ i0 = 2 ∨ i0 = 3 ∨ i0 = 4 ∨ i0 = 5 ∨ i0 = 6 := by omega
              clear hi0
              rcases hii with rfl | rfl | rfl | rfl | rfl | rfl | rfl
              · clear hr
                have hs0 : Lq.getD 6 false = false := HCL.out.no (i := 0) (by decide) hno
                refine wpOp_step rfl (fun K hK => ?_)
                go_simp
                refine hK _ _ ?_
                exact ⟨upd s 0 (.map (some (w1.heap.size + 1))), rfl, Sv.put HV.out (fun u hu => by cases hu; rfl), Cl.set HCL.out (by simp only [List.mem_cons, List.not_mem_nil, or_false]; rintro p (rfl | rfl | rfl | rfl | rfl | rfl | rfl) hp <;> first | assumption | (simp at hp; done)), (fun hh => HX.out (by rwa [set_other (show (0 : Nat) ≠ 5 by decide)] at hh)), EnS.keep HST.out (by decide) (by decide) rfl⟩
              · clear hr
                have hs0 : Lq.getD 6 false = false := HCL.out.no (i := 1) (by decide) hno
                have hgw := HST.out.grown
                have q0 := grow_c hgw hmb x0
                have q1 := grow_c hgw hmb x1
                have q2 := grow_c hgw hmb x2
                have q3 := grow_c hgw hmb x3
                clear hgw
                refine wpOp_step rfl (fun K hK => ?_)
                go_simp
                refine hK _ _ ?_
                exact ⟨upd s 1 (aggE E), rfl, Sv.put HV.out (fun u hu => by cases hu; rfl), Cl.set HCL.out (by simp only [List.mem_cons, List.not_mem_nil, or_false]; rintro p (rfl | rfl | rfl | rfl | rfl | rfl | rfl) hp <;> first | assumption | (simp at hp; done)), (fun hh => HX.out (by rwa [set_other (show (1 : Nat) ≠ 5 by decide)] at hh)), EnS.keep HST.out (by decide) (by decide) rfl⟩
              · have d0 := ready_dep hr (k := 0) (by kernel_rfl)
                have d1 := ready_dep hr (k := 1) (by kernel_rfl)
                clear hr
                have hs0 : Lq.getD 6 false = false := HCL.out.no (i := 2) (by decide) hno
                have e0 : s 0 = .map (some (w1.heap.size + 1)) := HV.out.v d0 rfl
                have e1 : s 1 = aggE E := HV.out.v d1 rfl
                have hst0 := HST.out
                rw [hs0] at hst0
                have hlk0 := hst0.look HM2.out HOK.out
                rw [← HVE.out] at hlk0
                have hlk : (Instr.lookup (kE).T (.map (some (w1.heap.size + 1))) ((kE).enc (E)) false).run Tryd.prog WN = .ok (.int .i64 V) WN := hlk0
                clear hst0 hlk0
                simp only [kE] at hlk
                refine wpOp_step rfl (fun K hK => ?_)
                go_simp
                refine hK _ _ ?_
                exact ⟨upd (upd (upd s 0 (.map (some (w1.heap.size + 1)))) 1 (aggE E)) 2 (.int .i64 V), rfl, Sv.put (Sv.re (j := 1) (v := aggE E) (Sv.re (j := 0) (v := .map (some (w1.heap.size + 1))) HV.out e0) e1) (fun u hu => by cases hu; rfl), Cl.set HCL.out (by simp only [List.mem_cons, List.not_mem_nil, or_false]; rintro p (rfl | rfl | rfl | rfl | rfl | rfl | rfl) hp <;> first | assumption | (simp at hp; done)), (fun hh => HX.out (by rwa [set_other (show (2 : Nat) ≠ 5 by decide)] at hh)), EnS.keep HST.out (by decide) (by decide) rfl⟩
              · have d2 := ready_dep hr (k := 2) (by kernel_rfl)
                clear hr
                have hs0 : Lq.getD 6 false = false := HCL.out.no (i := 3) (by decide) hno
                have e2 : s 2 = .int .i64 V := HV.out.v d2 rfl
                refine wpOp_step rfl (fun K hK => ?_)
                go_simp
                refine hK _ _ ?_
                exact ⟨upd (upd s 2 (.int .i64 V)) 3 (.int .i64 (V + 1)), rfl, Sv.put (Sv.re (j := 2) (v := .int .i64 V) HV.out e2) (fun u hu => by cases hu; rfl), Cl.set HCL.out (by simp only [List.mem_cons, List.not_mem_nil, or_false]; rintro p (rfl | rfl | rfl | rfl | rfl | rfl | rfl) hp <;> first | assumption | (simp at hp; done)), (fun hh => HX.out (by rwa [set_other (show (3 : Nat) ≠ 5 by decide)] at hh)), EnS.keep HST.out (by decide) (by decide) rfl⟩
              · have d0 := ready_dep hr (k := 0) (by kernel_rfl)
                have d1 := ready_dep hr (k := 1) (by kernel_rfl)
                clear hr
                have hs0 : Lq.getD 6 false = false := HCL.out.no (i := 4) (by decide) hno
                have he0 : Lq.getD 4 false = false := getD_both hno
                have e0 : s 0 = .map (some (w1.heap.size + 1)) := HV.out.v d0 rfl
                have e1 : s 1 = aggE E := HV.out.v d1 rfl
                obtain ⟨v0, st, wE1, hrun, hent, hgr⟩ := (MapI.stay HM2.out (HST.out.atA he0 hs0)).enter lawE HNM.out HOK.out
                have HENT := Lib.hid hent
                have HGR := Lib.hid hgr
                clear hent hgr
                simp only [kE] at hrun
                refine wpOp_step rfl (fun K hK => ?_)
                go_simp
                refine hK _ _ ?_
                exact ⟨upd (upd (upd s 0 (.map (some (w1.heap.size + 1)))) 1 (aggE E)) 4 (.tuple #[v0, st]), rfl, Sv.put (Sv.re (j := 1) (v := aggE E) (Sv.re (j := 0) (v := .map (some (w1.heap.size + 1))) HV.out e0) e1) (fun u hu => by cases hu), Cl.set HCL.out (by simp only [List.mem_cons, List.not_mem_nil, or_false]; rintro p (rfl | rfl | rfl | rfl | rfl | rfl | rfl) hp <;> first | assumption | (simp at hp; done)), (fun hh => absurd (HCL.out (5, 4) (by decide) (by rwa [set_other (show (4 : Nat) ≠ 5 by decide)] at hh)) (by rw [he0]; decide)), EnS.entered HST.out he0 hs0 hsz (by decide) (by decide) HENT.out HGR.out⟩
              · have d4 := ready_dep hr (k := 4) (by kernel_rfl)
                clear hr
                have hs0 : Lq.getD 6 false = false := HCL.out.no (i := 5) (by decide) hno
                obtain ⟨v0, st, e4, hent, hgr⟩ := HST.out.atB d4 hs0
                refine wpOp_step rfl (fun K hK => ?_)
                go_simp
                refine hK _ _ ?_
                exact ⟨upd (upd s 4 (.tuple #[v0, st])) 5 st, rfl, Sv.put (Sv.re (j := 4) (v := .tuple #[v0, st]) HV.out e4) (fun u hu => by cases hu), Cl.set HCL.out (by simp only [List.mem_cons, List.not_mem_nil, or_false]; rintro p (rfl | rfl | rfl | rfl | rfl | rfl | rfl) hp <;> first | assumption | (simp at hp; done)), (fun _ => ⟨v0, rfl⟩), EnS.keep HST.out (by decide) (by decide) e4.symm⟩
              · have d0 := ready_dep hr (k := 0) (by kernel_rfl)
                have d1 := ready_dep hr (k := 1) (by kernel_rfl)
                have d2 := ready_dep hr (k := 2) (by kernel_rfl)
                have d3 := ready_dep hr (k := 3) (by kernel_rfl)
                have d4 := ready_dep hr (k := 4) (by kernel_rfl)
                have d5 := ready_dep hr (k := 5) (by kernel_rfl)
                clear hr
                have hs0 : Lq.getD 6 false = false := getD_both hno
                have e0 : s 0 = .map (some (w1.heap.size + 1)) := HV.out.v d0 rfl
                obtain ⟨v0, st, ee, hent, hgr⟩ := HST.out.atB d4 hs0
                obtain ⟨v1, ex⟩ := HX.out d5
                have e5 : s 5 = st := by
                  have h1 := ee.symm.trans ex
                  simp only [Value.tuple.injEq, Array.mk.injEq, List.cons.injEq, and_true] at h1
                  exact h1.2.symm
                have e3 : s 3 = .int .i64 (V + 1) := HV.out.v d3 rfl
                obtain ⟨wE2, hrun, hm2, hg2⟩ := hent.store (V + 1) HZW.out
                have HM2 := Lib.hid hm2
                have HG2 := Lib.hid hg2
                have EX := Lib.hid ex
                clear hm2 hg2 hent hgr ee ex
                simp only [kE] at hrun
                refine wpOp_step rfl (fun K hK => ?_)
                go_simp
                refine hK _ _ ?_
                exact ⟨upd (upd (upd (upd s 0 (.map (some (w1.heap.size + 1)))) 5 st) 3 (.int .i64 (V + 1))) 6 undef, rfl, Sv.put (Sv.re (j := 3) (v := .int .i64 (V + 1)) (Sv.re (j := 5) (v := st) (Sv.re (j := 0) (v := .map (some (w1.heap.size + 1))) HV.out e0) e5) e3) (fun u hu => by cases hu; rfl), Cl.set HCL.out (by simp only [List.mem_cons, List.not_mem_nil, or_false]; rintro p (rfl | rfl | rfl | rfl | rfl | rfl | rfl) hp <;> first | assumption | (simp at hp; done)), (fun _ => ⟨v1, by rw [show upd (upd (upd (upd s 0 (.map (some (w1.heap.size + 1)))) 5 st) 3 (.int .i64 (V + 1))) 6 undef 4 = s 4 from rfl, EX.out]; exact congrArg (fun q => Value.tuple #[v1, q]) e5⟩), EnS.stored HST.out hsz (by decide) HM2.out HG2.out⟩
            · intro Lq aq WN hI hrd
              obtain ⟨s, ha, hv, hcl, hx, hst⟩ := hI
              have hall := all_listedM hrd hv.sz (by kernel_rfl)
              clear hrd
              obtain ⟨v1, ex⟩ := hx (hall 5 (by decide))
              obtain ⟨v2, hv2⟩ : ∃ v, v = s 5 := ⟨_, rfl⟩
              rw [← hv2] at ex
              have e0 : s 0 = (.map (some (w1.heap.size + 1))) := hv.v (hall 0 (by decide)) rfl
              have e1 : s 1 = (aggE E) := hv.v (hall 1 (by decide)) rfl
              have e2 : s 2 = (.int .i64 V) := hv.v (hall 2 (by decide)) rfl
              have e3 : s 3 = (.int .i64 (V + 1)) := hv.v (hall 3 (by decide)) rfl
              have e4 := ex
              have e5 := hv2.symm
              simp only [e0, e1, e2, e3, e4, e5] at ha
              subst ha
              have hend := hst.atC (hall 6 (by decide))
              clear hall hv hcl hx hst hv2 ex e0 e1 e2 e3 e4 e5
              have hE8 := HINC.out WN hend.map
              have hP8 := (HP7.out.stay (Below.refl _ _).drew).grown hend.grown (by omega)
              have hB8 : Below w1.heap.size w1 WN := HB7'.out.drew.trans (below_of_grown hend.grown (by omega) (by have := HB7'.out.size; simpa using this))
              have hK8 : WN.heap[wo.heap.size]? = some (.cells #[.int .i64 t.1, .int .i64 t.2.1, .int .i64 t.2.2] 93 (0, 0)) := (hend.grown.block wo.heap.size (by have := blk_lt HK7.out; simpa using this) (fun e => by have := Option.some.inj e; omega)).trans HK7.out
              obtain ⟨wy, hwy⟩ : ∃ x, x = WN := ⟨_, rfl⟩
              subst hwy
              obtain ⟨f2, hm3, hg1, hg2, hg3⟩ := hP8.map
              have hU0 := hg2 c
              have hU1 := hg3 c
              have hinc2 := fun (w' : World) (hm' : MapI kP w' (w1.heap.size) (3 * i + k + 1) (setF f2 c ((f2 c).getD 0 + 1))) => (Cnt.inc hg1 hg2 hg3 hm').re HSP.out
              obtain ⟨U, hU⟩ : ∃ V, V = (f2 c).getD 0 := ⟨_, rfl⟩
              rw [← hU] at hU0 hU1 hinc2
              have hw2 : IntKind.i64.wrap (U + 1) = U + 1 := IntWalk.i64_in _ (by omega)
              have hzw2 : (Lit.int .i64 (U + 1)).wf = true := wf_of (by unfold inR; omega)
              have hm4 := hm3.drew
              have t0 : wy.drew.cell? ⟨wo.heap.size, 0, none⟩ = some (.int .i64 t.1) := (cell_of_blk hK8 0).trans rfl
              have t1 : wy.drew.cell? ⟨wo.heap.size, 1, none⟩ = some (.int .i64 t.2.1) := (cell_of_blk hK8 1).trans rfl
              have t2 : wy.drew.cell? ⟨wo.heap.size, 2, none⟩ = some (.int .i64 t.2.2) := (cell_of_blk hK8 2).trans rfl
              have hmp : wo.heap.size ≠ w1.heap.size := by omega
              have hsy := HS1.out.below hB8.drew
              have cC := fun (w' : World) (hb : Below wy.drew.heap.size wy.drew w') => corners_any t.1 t.2.1 t.2.2 w' (hsy.below hb) (by have := HTS.out.1; omega) (by have := HTS.out.1; omega) (by have := HTS.out.2.1; omega) (by have := HTS.out.2.1; omega) HTS.out.2.2.1 HTS.out.2.2.2
              have CC := Lib.hid cC
              have HM4 := Lib.hid hm4
              have HUE := Lib.hid hU
              have HINC2 := Lib.hid hinc2
              have HZW2 := Lib.hid hzw2
              have HE8 := Lib.hid hE8
              have HB8 := Lib.hid hB8
              have HK8 := Lib.hid hK8
              clear hend hE8 hP8 hB8 hK8 hm3 hm4 hg1 hg2 hg3 hU hU1 hinc2 hzw2 hsy cC x0 x1 x2 x3
              go_wp2_with fail
              refine wp_region_inv (fun Lq aq WN => ∃ s : Nat → Value, aq = { tmps := #[.agg #[.int .i64 (Wn : Int), .int .i64 (Hn : Int), .slice Am nm cm, .slice Ac nc cc], .pointer (some ⟨w.heap.size, 0, none⟩), .int .i64 0, .int .i64 0, .pointer (some ⟨pb, 0, none⟩), .bool true, .map (some (w1.heap.size)), .map (some (w1.heap.size + 1)), undef, .pointer (some ⟨wo.heap.size, 0, none⟩), .int .i64 (k : Int), .pointer (some ⟨wi.heap.size, 0, none⟩), .tuple #[.pointer (some ⟨pb, 0, none⟩), .bool true], .agg #[.int .i64 (Wn : Int), .int .i64 (Hn : Int), .slice Am nm cm, .slice Ac nc cc], .tuple #[.pointer (some ⟨pb, 0, none⟩), .bool true], .pointer (some ⟨pb, 0, none⟩), .bool true, .bool true, .bool false, .map (some (w1.heap.size)), .map (some (w1.heap.size + 1)), .pointer (some ⟨pb, 0, none⟩), .pointer (some ⟨pb, 0, none⟩), .pointer (some ⟨pb, 4, none⟩), .slice (some ⟨gt, 0, none⟩) L.length ct, .int .i64 (L.length : Int), .int .i64 (i : Int), .bool true, .pointer (some ⟨gt, i * 3, none⟩), .agg #[.int .i64 t.1, .int .i64 t.2.1, .int .i64 t.2.2], .agg #[.int .i64 t.1, .int .i64 t.2.1, .int .i64 t.2.2], agg3E (edgeT t.1 t.2.1 t.2.2 0) (edgeT t.1 t.2.1 t.2.2 1) (edgeT t.1 t.2.1 t.2.2 2), .int .i64 (k : Int), .bool true, .int .i64 (k : Int), aggE E, .map (some (w1.heap.size + 1)), aggE E, .int .i64 V, .int .i64 (V + 1), .tuple #[v1, v2], v2, (s 0), (s 1), (s 2), (s 3), (s 4), (s 5), (s 6), (s 7), (s 8), u51, u52, undef, undef, undef, undef, undef, undef, undef, undef, undef, undef, undef, undef], defers := [] } ∧ Sv 10 [some (.map (some (w1.heap.size))), some (.agg #[.int .i64 t.1, .int .i64 t.2.1, .int .i64 t.2.2]), some (agg3P t), some (.int .i64 (k : Int)), some (aggP c.1 c.2), some (.int .i64 U), some (.int .i64 (U + 1)), none, none, some (undef)] Lq s ∧ Cl [(9, 0), (9, 1), (9, 2), (9, 3), (9, 4), (9, 5), (9, 6), (9, 7), (9, 8), (7, 2), (8, 7)] Lq ∧ (Lq.getD 8 false = true → ∃ v0, s 7 = .tuple #[v0, s 8]) ∧ EnS kP (wy.drew) (w1.heap.size) (3 * i + k) (f2) (c) (U + 1) (Lq.getD 7 false) (Lq.getD 9 false) (s 7) WN) (by kernel_rfl) ?_ ?_ ?_
              · refine ⟨listF [u42, u43, u44, u45, u46, u47, u48, u49, u50, undef], rfl, Sv.start 10 _ _, Cl.start _ _, fun h => (by rw [getD_replicate_false] at h; cases h), ?_⟩
                rw [getD_replicate_false, getD_replicate_false]
                exact Below.refl _ _
              · intro Lq aq WN i0 hI hr
                obtain ⟨s, rfl, hv, hcl, hx, hst⟩ := hI
                have hi0 : i0 < 10 := ready_lt hr
                have hno := (mem_ready.1 hr).1
                have hsz := hv.sz
                have HV := Lib.hid hv
                have HST := Lib.hid hst
                have HX := Lib.hid hx
                have HCL := Lib.hid hcl
                clear hv hst hx hcl
                have hii : i0 = 0 ∨ i0 = 1 ∨ i0 = 2 ∨ i0 = 3 ∨ i0 = 4 ∨ i0 = 5 ∨ i0 = 6 ∨ i0 = 7 ∨ i0 = 8 ∨ i0 = 9 := by omega
                clear hi0
                rcases hii with rfl | rfl | rfl | rfl | rfl | rfl | rfl | rfl | rfl | rfl
                · clear hr
                  have hs0 : Lq.getD 9 false = false := HCL.out.no (i := 0) (by decide) hno
                  refine wpOp_step rfl (fun K hK => ?_)
                  go_simp
                  refine hK _ _ ?_
                  exact ⟨upd s 0 (.map (some (w1.heap.size))), rfl, Sv.put HV.out (fun u hu => by cases hu; rfl), Cl.set HCL.out (by simp only [List.mem_cons, List.not_mem_nil, or_false]; rintro p (rfl | rfl | rfl | rfl | rfl | rfl | rfl | rfl | rfl | rfl | rfl) hp <;> first | assumption | (simp at hp; done)), (fun hh => HX.out (by rwa [set_other (show (0 : Nat) ≠ 8 by decide)] at hh)), EnS.keep HST.out (by decide) (by decide) rfl⟩
                · clear hr
                  have hs0 : Lq.getD 9 false = false := HCL.out.no (i := 1) (by decide) hno
                  have hgw := HST.out.grown
                  have q0 := grow_c hgw hmp t0
                  have q1 := grow_c hgw hmp t1
                  have q2 := grow_c hgw hmp t2
                  clear hgw
                  refine wpOp_step rfl (fun K hK => ?_)
                  go_simp
                  refine hK _ _ ?_
                  exact ⟨upd s 1 (.agg #[.int .i64 t.1, .int .i64 t.2.1, .int .i64 t.2.2]), rfl, Sv.put HV.out (fun u hu => by cases hu; rfl), Cl.set HCL.out (by simp only [List.mem_cons, List.not_mem_nil, or_false]; rintro p (rfl | rfl | rfl | rfl | rfl | rfl | rfl | rfl | rfl | rfl | rfl) hp <;> first | assumption | (simp at hp; done)), (fun hh => HX.out (by rwa [set_other (show (1 : Nat) ≠ 8 by decide)] at hh)), EnS.keep HST.out (by decide) (by decide) rfl⟩
                · have d1 := ready_dep hr (k := 1) (by kernel_rfl)
                  clear hr
                  have hs0 : Lq.getD 9 false = false := HCL.out.no (i := 2) (by decide) hno
                  have he0 : Lq.getD 7 false = false := HCL.out.no (i := 2) (by decide) hno
                  have e1 : s 1 = .agg #[.int .i64 t.1, .int .i64 t.2.1, .int .i64 t.2.2] := HV.out.v d1 rfl
                  have hbl := HST.out.atA he0 hs0
                  refine wpOp_step rfl (fun K hK => ?_)
                  go_simp
                  refine (CC.out _ hbl).mono ?_
                  rintro e' wc ⟨he, hbc⟩
                  subst he
                  refine hK _ _ ?_
                  exact ⟨upd (upd s 1 (.agg #[.int .i64 t.1, .int .i64 t.2.1, .int .i64 t.2.2])) 2 (agg3P t), rfl, Sv.put (Sv.re (j := 1) (v := .agg #[.int .i64 t.1, .int .i64 t.2.1, .int .i64 t.2.2]) HV.out e1) (fun u hu => by cases hu; rfl), Cl.set HCL.out (by simp only [List.mem_cons, List.not_mem_nil, or_false]; rintro p (rfl | rfl | rfl | rfl | rfl | rfl | rfl | rfl | rfl | rfl | rfl) hp <;> first | assumption | (simp at hp; done)), (fun hh => HX.out (by rwa [set_other (show (2 : Nat) ≠ 8 by decide)] at hh)), EnS.call HST.out he0 hs0 (by decide) (by decide) hbc⟩
                · clear hr
                  have hs0 : Lq.getD 9 false = false := HCL.out.no (i := 3) (by decide) hno
                  refine wpOp_step rfl (fun K hK => ?_)
                  go_simp
                  refine hK _ _ ?_
                  exact ⟨upd s 3 (.int .i64 (k : Int)), rfl, Sv.put HV.out (fun u hu => by cases hu; rfl), Cl.set HCL.out (by simp only [List.mem_cons, List.not_mem_nil, or_false]; rintro p (rfl | rfl | rfl | rfl | rfl | rfl | rfl | rfl | rfl | rfl | rfl) hp <;> first | assumption | (simp at hp; done)), (fun hh => HX.out (by rwa [set_other (show (3 : Nat) ≠ 8 by decide)] at hh)), EnS.keep HST.out (by decide) (by decide) rfl⟩
                · have d2 := ready_dep hr (k := 2) (by kernel_rfl)
                  have d3 := ready_dep hr (k := 3) (by kernel_rfl)
                  clear hr
                  have hs0 : Lq.getD 9 false = false := HCL.out.no (i := 4) (by decide) hno
                  have e2 : s 2 = agg3P t := HV.out.v d2 rfl
                  have e3 : s 3 = .int .i64 (k : Int) := HV.out.v d3 rfl
                  refine wpOp_step rfl (fun K hK => ?_)
                  go_simp
                  refine hK _ _ ?_
                  exact ⟨upd (upd (upd s 2 (agg3P t)) 3 (.int .i64 (k : Int))) 4 (aggP c.1 c.2), rfl, Sv.put (Sv.re (j := 3) (v := .int .i64 (k : Int)) (Sv.re (j := 2) (v := agg3P t) HV.out e2) e3) (fun u hu => by cases hu; rfl), Cl.set HCL.out (by simp only [List.mem_cons, List.not_mem_nil, or_false]; rintro p (rfl | rfl | rfl | rfl | rfl | rfl | rfl | rfl | rfl | rfl | rfl) hp <;> first | assumption | (simp at hp; done)), (fun hh => HX.out (by rwa [set_other (show (4 : Nat) ≠ 8 by decide)] at hh)), EnS.keep HST.out (by decide) (by decide) rfl⟩
                · have d0 := ready_dep hr (k := 0) (by kernel_rfl)
                  have d4 := ready_dep hr (k := 4) (by kernel_rfl)
                  clear hr
                  have hs0 : Lq.getD 9 false = false := HCL.out.no (i := 5) (by decide) hno
                  have e0 : s 0 = .map (some (w1.heap.size)) := HV.out.v d0 rfl
                  have e4 : s 4 = aggP c.1 c.2 := HV.out.v d4 rfl
                  have hst0 := HST.out
                  rw [hs0] at hst0
                  have hlk0 := hst0.look HM4.out HOK2.out
                  rw [← HUE.out] at hlk0
                  have hlk : (Instr.lookup (kP).T (.map (some (w1.heap.size))) ((kP).enc (c)) false).run Tryd.prog WN = .ok (.int .i64 U) WN := hlk0
                  clear hst0 hlk0
                  simp only [kP] at hlk
                  refine wpOp_step rfl (fun K hK => ?_)
                  go_simp
                  refine hK _ _ ?_
                  exact ⟨upd (upd (upd s 0 (.map (some (w1.heap.size)))) 4 (aggP c.1 c.2)) 5 (.int .i64 U), rfl, Sv.put (Sv.re (j := 4) (v := aggP c.1 c.2) (Sv.re (j := 0) (v := .map (some (w1.heap.size))) HV.out e0) e4) (fun u hu => by cases hu; rfl), Cl.set HCL.out (by simp only [List.mem_cons, List.not_mem_nil, or_false]; rintro p (rfl | rfl | rfl | rfl | rfl | rfl | rfl | rfl | rfl | rfl | rfl) hp <;> first | assumption | (simp at hp; done)), (fun hh => HX.out (by rwa [set_other (show (5 : Nat) ≠ 8 by decide)] at hh)), EnS.keep HST.out (by decide) (by decide) rfl⟩
                · have d5 := ready_dep hr (k := 5) (by kernel_rfl)
                  clear hr
                  have hs0 : Lq.getD 9 false = false := HCL.out.no (i := 6) (by decide) hno
                  have e5 : s 5 = .int .i64 U := HV.out.v d5 rfl
                  refine wpOp_step rfl (fun K hK => ?_)
                  go_simp
                  refine hK _ _ ?_
                  exact ⟨upd (upd s 5 (.int .i64 U)) 6 (.int .i64 (U + 1)), rfl, Sv.put (Sv.re (j := 5) (v := .int .i64 U) HV.out e5) (fun u hu => by cases hu; rfl), Cl.set HCL.out (by simp only [List.mem_cons, List.not_mem_nil, or_false]; rintro p (rfl | rfl | rfl | rfl | rfl | rfl | rfl | rfl | rfl | rfl | rfl) hp <;> first | assumption | (simp at hp; done)), (fun hh => HX.out (by rwa [set_other (show (6 : Nat) ≠ 8 by decide)] at hh)), EnS.keep HST.out (by decide) (by decide) rfl⟩
                · have d0 := ready_dep hr (k := 0) (by kernel_rfl)
                  have d2 := ready_dep hr (k := 2) (by kernel_rfl)
                  have d4 := ready_dep hr (k := 4) (by kernel_rfl)
                  clear hr
                  have hs0 : Lq.getD 9 false = false := HCL.out.no (i := 7) (by decide) hno
                  have he0 : Lq.getD 7 false = false := getD_both hno
                  have e0 : s 0 = .map (some (w1.heap.size)) := HV.out.v d0 rfl
                  have e4 : s 4 = aggP c.1 c.2 := HV.out.v d4 rfl
                  obtain ⟨v0, st, wE1, hrun, hent, hgr⟩ := (MapI.stay HM4.out (HST.out.atA he0 hs0)).enter lawP HNM.out HOK2.out
                  have HENT := Lib.hid hent
                  have HGR := Lib.hid hgr
                  clear hent hgr
                  simp only [kP] at hrun
                  refine wpOp_step rfl (fun K hK => ?_)
                  go_simp
                  refine hK _ _ ?_
                  exact ⟨upd (upd (upd s 0 (.map (some (w1.heap.size)))) 4 (aggP c.1 c.2)) 7 (.tuple #[v0, st]), rfl, Sv.put (Sv.re (j := 4) (v := aggP c.1 c.2) (Sv.re (j := 0) (v := .map (some (w1.heap.size))) HV.out e0) e4) (fun u hu => by cases hu), Cl.set HCL.out (by simp only [List.mem_cons, List.not_mem_nil, or_false]; rintro p (rfl | rfl | rfl | rfl | rfl | rfl | rfl | rfl | rfl | rfl | rfl) hp <;> first | assumption | (simp at hp; done)), (fun hh => absurd (HCL.out (8, 7) (by decide) (by rwa [set_other (show (7 : Nat) ≠ 8 by decide)] at hh)) (by rw [he0]; decide)), EnS.entered HST.out he0 hs0 hsz (by decide) (by decide) HENT.out HGR.out⟩
                · have d7 := ready_dep hr (k := 7) (by kernel_rfl)
                  clear hr
                  have hs0 : Lq.getD 9 false = false := HCL.out.no (i := 8) (by decide) hno
                  obtain ⟨v0, st, e7, hent, hgr⟩ := HST.out.atB d7 hs0
                  refine wpOp_step rfl (fun K hK => ?_)
                  go_simp
                  refine hK _ _ ?_
                  exact ⟨upd (upd s 7 (.tuple #[v0, st])) 8 st, rfl, Sv.put (Sv.re (j := 7) (v := .tuple #[v0, st]) HV.out e7) (fun u hu => by cases hu), Cl.set HCL.out (by simp only [List.mem_cons, List.not_mem_nil, or_false]; rintro p (rfl | rfl | rfl | rfl | rfl | rfl | rfl | rfl | rfl | rfl | rfl) hp <;> first | assumption | (simp at hp; done)), (fun _ => ⟨v0, rfl⟩), EnS.keep HST.out (by decide) (by decide) e7.symm⟩
                · have d0 := ready_dep hr (k := 0) (by kernel_rfl)
                  have d1 := ready_dep hr (k := 1) (by kernel_rfl)
                  have d2 := ready_dep hr (k := 2) (by kernel_rfl)
                  have d3 := ready_dep hr (k := 3) (by kernel_rfl)
                  have d4 := ready_dep hr (k := 4) (by kernel_rfl)
                  have d5 := ready_dep hr (k := 5) (by kernel_rfl)
                  have d6 := ready_dep hr (k := 6) (by kernel_rfl)
                  have d7 := ready_dep hr (k := 7) (by kernel_rfl)
                  have d8 := ready_dep hr (k := 8) (by kernel_rfl)
                  clear hr
                  have hs0 : Lq.getD 9 false = false := getD_both hno
                  have e0 : s 0 = .map (some (w1.heap.size)) := HV.out.v d0 rfl
                  obtain ⟨v0, st, ee, hent, hgr⟩ := HST.out.atB d7 hs0
                  obtain ⟨v1, ex⟩ := HX.out d8
                  have e8 : s 8 = st := by
                    have h1 := ee.symm.trans ex
                    simp only [Value.tuple.injEq, Array.mk.injEq, List.cons.injEq, and_true] at h1
                    exact h1.2.symm
                  have e6 : s 6 = .int .i64 (U + 1) := HV.out.v d6 rfl
                  obtain ⟨wE2, hrun, hm2, hg2⟩ := hent.store (U + 1) HZW2.out
                  have HM2 := Lib.hid hm2
                  have HG2 := Lib.hid hg2
                  have EX := Lib.hid ex
                  clear hm2 hg2 hent hgr ee ex
                  simp only [kP] at hrun
                  refine wpOp_step rfl (fun K hK => ?_)
                  go_simp
                  refine hK _ _ ?_
                  exact ⟨upd (upd (upd (upd s 0 (.map (some (w1.heap.size)))) 8 st) 6 (.int .i64 (U + 1))) 9 undef, rfl, Sv.put (Sv.re (j := 6) (v := .int .i64 (U + 1)) (Sv.re (j := 8) (v := st) (Sv.re (j := 0) (v := .map (some (w1.heap.size))) HV.out e0) e8) e6) (fun u hu => by cases hu; rfl), Cl.set HCL.out (by simp only [List.mem_cons, List.not_mem_nil, or_false]; rintro p (rfl | rfl | rfl | rfl | rfl | rfl | rfl | rfl | rfl | rfl | rfl) hp <;> first | assumption | (simp at hp; done)), (fun _ => ⟨v1, by rw [show upd (upd (upd (upd s 0 (.map (some (w1.heap.size)))) 8 st) 6 (.int .i64 (U + 1))) 9 undef 7 = s 7 from rfl, EX.out]; exact congrArg (fun q => Value.tuple #[v1, q]) e8⟩), EnS.stored HST.out hsz (by decide) HM2.out HG2.out⟩
              · intro Lq aq WN hI hrd
                obtain ⟨s, ha, hv, hcl, hx, hst⟩ := hI
                have hall := all_listedM hrd hv.sz (by kernel_rfl)
                clear hrd
                obtain ⟨v1, ex⟩ := hx (hall 8 (by decide))
                obtain ⟨v2, hv2⟩ : ∃ v, v = s 8 := ⟨_, rfl⟩
                rw [← hv2] at ex
                have e0 : s 0 = (.map (some (w1.heap.size))) := hv.v (hall 0 (by decide)) rfl
                have e1 : s 1 = (.agg #[.int .i64 t.1, .int .i64 t.2.1, .int .i64 t.2.2]) := hv.v (hall 1 (by decide)) rfl
                have e2 : s 2 = (agg3P t) := hv.v (hall 2 (by decide)) rfl
                have e3 : s 3 = (.int .i64 (k : Int)) := hv.v (hall 3 (by decide)) rfl
                have e4 : s 4 = (aggP c.1 c.2) := hv.v (hall 4 (by decide)) rfl
                have e5 : s 5 = (.int .i64 U) := hv.v (hall 5 (by decide)) rfl
                have e6 : s 6 = (.int .i64 (U + 1)) := hv.v (hall 6 (by decide)) rfl
                have e7 := ex
                have e8 := hv2.symm
                simp only [e0, e1, e2, e3, e4, e5, e6, e7, e8] at ha
                subst ha
                have hend := hst.atC (hall 9 (by decide))
                clear hall hv hcl hx hst hv2 ex e0 e1 e2 e3 e4 e5 e6 e7 e8
                have hP9 := HINC2.out WN hend.map
                have hE9 := (HE8.out.stay (Below.refl _ _).drew).grown hend.grown (by omega)
                have hB9 : Below w1.heap.size w1 WN := HB8.out.drew.trans (below_of_grown hend.grown (Nat.le_refl _) (by have := HB8.out.size; simpa using this))
                have hK9 : WN.heap[wo.heap.size]? = some (.cells #[.int .i64 t.1, .int .i64 t.2.1, .int .i64 t.2.2] 93 (0, 0)) := (hend.grown.block wo.heap.size (by have := blk_lt HK8.out; simpa using this) (fun e => by have := Option.some.inj e; omega)).trans HK8.out
                have HP9 := Lib.hid hP9
                have HE9 := Lib.hid hE9
                have HB9 := Lib.hid hB9
                have HK9 := Lib.hid hK9
                clear hend hP9 hE9 hB9 hK9 HE8 HB8 HK8 t0 t1 t2
                go_wp2
                go_roundw
                case rel => exact ⟨k + 1, by omega, by go_num, HP9, HE9, HB9, HK9⟩
                case measure => simp [intOf]; omega
          · obtain rfl : k = 3 := by omega
            have hP9 := hP.out.re (fun p => Crn.row (l := L) (i := i) p)
            have hE9 := hE.out.re (fun p => Edn.row (l := L) (i := i) p)
            have HP9 := Lib.hid hP9
            have HE9 := Lib.hid hE9
            clear hP9 hE9
            go_wp2
            go_roundw
            case rel => exact ⟨i + 1, by omega, by go_num, HP9, HE9, hB⟩
            case measure => simp [intOf]; omega
      · obtain rfl : i = L.length := by omega
        have hii : ¬ (L.length : Int) < (L.length : Int) := by omega
        obtain ⟨ks, hk1, hk2, hk3⟩ := (hP.out.re (fun p => Crn.all (Nat.le_refl L.length) p)).len
        obtain ⟨es, he1, he2, he3⟩ := (hE.out.re (fun p => Edn.all (Nat.le_refl L.length) p)).len
        have lP := fun ty => hk3 ty wr.drew rfl
        have lE := fun ty => he3 ty wr.drew rfl
        have c9 : wr.drew.cell? ⟨pb, 4, none⟩ = some (.slice At L.length ct) := stay_c HC4.out hB.out.drew (Nat.le_refl _)
        have hHN : HolesN L (1 - (ks.length : Int) + (es.length : Int) - (L.length : Int)) := ⟨ks, es, hk1, hk2, he1, he2, rfl⟩
        have HHN := Lib.hid hHN
        have HBF := Lib.hid (stay_b HB1.out hB.out.drew)
        simp only [kP] at lP
        simp only [kE] at lE
        have hkl : ks.length ≤ 3000 := by
          have h1 := nodup_sub_len hk1 (fun x hx => (hk2 x).1 hx)
          have h2 : (cornersA L).length = 3 * L.length := by simp [cornersA, List.length_flatMap, Function.comp_def, List.map_const', List.sum_replicate_nat]; omega
          omega
        have hel : es.length ≤ 3000 := by
          have h1 := nodup_sub_len he1 (fun x hx => (he2 x).1 hx)
          have h2 : (edgesA L).length = 3 * L.length := by simp [edgesA, List.length_flatMap, Function.comp_def, List.map_const', List.sum_replicate_nat]; omega
          omega
        have hw1 : IntKind.i64.wrap (1 - (ks.length : Int)) = 1 - (ks.length : Int) := IntWalk.i64_in _ (by omega)
        have hw2 : IntKind.i64.wrap (1 - (ks.length : Int) + (es.length : Int)) = 1 - (ks.length : Int) + (es.length : Int) := IntWalk.i64_in _ (by omega)
        have hw3 : IntKind.i64.wrap (1 - (ks.length : Int) + (es.length : Int) - (L.length : Int)) = 1 - (ks.length : Int) + (es.length : Int) - (L.length : Int) := IntWalk.i64_in _ (by omega)
        clear hHN hk1 hk2 hk3 he1 he2 he3
        go_wp2_with fail
        have hSS : wr.drew.cell? ⟨pb, 4, none⟩ = some (.slice At L.length ct) ∧ wr.drew = wr.drew := ⟨c9, rfl⟩
        go_region_held3 (fun w' => w'.cell? ⟨pb, 4, none⟩ = some (.slice At L.length ct) ∧ w' = wr.drew)
          (first
            | with_reducible exact hSS
            | with_reducible assumption)
          (first
            | fail)
        go_wp2
        exact bodyPost_ret (v := .tuple #[.int .i64 (1 - (ks.length : Int) + (es.length : Int) - (L.length : Int)), .int .i64 0]) (by simp [results, Tryd.results17, go_sem]) rfl ⟨HBF.out, .inr ⟨HT.out, _, HHN.out, rfl⟩⟩
end Go.Proofs.YtoienokpchbglaaDoor
