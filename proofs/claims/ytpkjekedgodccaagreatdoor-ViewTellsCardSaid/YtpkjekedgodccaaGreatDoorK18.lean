/- New: paper of a sheet. -/
import Derived.Test.YtpkjekedgodccaaGreatDoorK13
namespace Go.Proofs.YtpkjekedgodccaaGreatDoor
set_option linter.unusedSimpArgs false
set_option linter.unusedVariables false
section
open Go.RowKit Go.Maps
set_option maxRecDepth 100000 in
set_option maxHeartbeats 12800000 in
theorem new_any (W H : Int) (Am Ac : Option Addr) (nm cm nc cc : Nat) (mask : List Int) (cs : List C5) (w : World) (hs : Steps w) (hm : Rd w 1 Am nm (vis mask)) (hc : Rd w 5 Ac nc (ccs cs)) (hnm : nm ≤ 140737488351232) (hnc : nc ≤ 140737488351232) :
    Calls Tryz.prog 24 #[.agg #[.int .i64 W, .int .i64 H, .slice Am nm cm, .slice Ac nc cc]] w fun e w' => Below w.heap.size w w' ∧
      ((newB W H mask cs = false ∧ ∃ v, e = .returned (.tuple #[v, .bool false])) ∨
       (newB W H mask cs = true ∧ ∃ Wn Hn pb b0 nb kb mn vt, W = ((Wn : Nat) : Int) ∧ H = ((Hn : Nat) : Int) ∧ (1 ≤ Wn ∧ Wn ≤ 8) ∧ (1 ≤ Hn ∧ Hn ≤ 8) ∧ mask.length = Wn * Hn ∧ e = .returned (.tuple #[.pointer (some ⟨pb, 0, none⟩), .bool true]) ∧ NewS w b0 pb nb kb Wn Hn (.slice Am nm cm) (.slice Ac nc cc) vt (trisL Wn mask) mn cs cs.length w')) := by
  have kb0 := heap_alloc_new w (.cells #[.int .i64 W, .int .i64 H, .slice Am nm cm, .slice Ac nc cc] 25)
  have hb0 := below_new w (.cells #[.int .i64 W, .int .i64 H, .slice Am nm cm, .slice Ac nc cc] 25)
  have e0 := cell_of_blk kb0 0
  have e1 := cell_of_blk kb0 1
  have e2 := cell_of_blk kb0 2
  have e3 := cell_of_blk kb0 3
  simp only [List.getElem?_toArray, List.getElem?_cons_zero, List.getElem?_cons_succ] at e0 e1 e2 e3
  have cL := lay_any Am nm cm (.slice Ac nc cc) W H mask _ (hm.alloc (.cells #[.int .i64 W, .int .i64 H, .slice Am nm cm, .slice Ac nc cc] 25)) hnm
  obtain ⟨NB, hNB⟩ : ∃ NB, NB = newB W H mask cs := ⟨_, rfl⟩
  rw [← hNB]
  have HNB := Lib.hid hNB
  have HS := Lib.hid hs
  have HC := Lib.hid hc
  have CL := Lib.hid cL
  clear cL hNB hs hc hm
  go_enter Tryz.func24, Tryz.ntmps24
  go_upto_region 1 with fail
  go_wp2_with (go_at_call 53; refine CL.out.mono ?_; rintro r w1 ⟨hb1, hor⟩; have f3 := sd e3 hb1; rcases hor with ⟨hcb, rfl⟩ | ⟨hcb, rfl, Wn, Hn, m, vt, rfl, rfl, hW, hH, hml, hL1⟩)
  · have hNBf : NB = false := by rw [HNB.out]; unfold newB; rw [hcb]; rfl
    have HNBF := Lib.hid hNBf
    clear hcb hNBf
    have hbf := stay_b hb0 hb1
    go_wp2
    go_ret2
    exact ⟨hbf, .inl ⟨HNBF.out, _, rfl⟩⟩
  · have hz : (w.alloc (.cells #[.int .i64 (Wn : Int), .int .i64 (Hn : Int), .slice Am nm cm, .slice Ac nc cc] 25)).heap.size = w.heap.size + 1 := by simp
    have hb1 := stay_b hb0 hL1.bel
    have hS1 : NewS w w.heap.size (w.heap.size + 1 + 1 + 1 + 1) (w.heap.size + 1 + 1) (w.heap.size + 1 + 1 + 1) Wn Hn (.slice Am nm cm) (.slice Ac nc cc) vt (trisL Wn mask) m cs 0 w1 := by
      have hp := hL1.pap
      rw [hz] at hp
      exact ⟨hp, own_mono hL1.own (by rw [hz]; omega), hb1, blk_below kb0 hL1.bel (blk_lt kb0), by omega, by omega⟩
    have hbx := hS1.box
    have hcl := HC.out.creases_len
    have hnb2 : NB = (creasesB (trisL Wn mask) none cs && joinB (trisL Wn mask)) := by rw [HNB.out]; unfold newB; rw [hcb]; rfl
    have htr : ∀ t ∈ trisL Wn mask, 0 ≤ t.1 ∧ t.1 < Wn ∧ 0 ≤ t.2.1 ∧ t.2.1 < Hn ∧ K4 t := fun t ht => trisL_in (by omega) hml ht
    have hso := partT_sorted (show 0 < Wn by omega) mask mask.length
    have hln : (trisL Wn mask).length ≤ 1000 := by
      have := part_len Wn mask mask.length 0
      rw [List.length_append] at this
      have h2 : Wn * Hn ≤ 8 * 8 := Nat.mul_le_mul hW.2 hH.2
      have h3 : trisL Wn mask = partT Wn mask mask.length := rfl
      rw [h3]
      omega
    have hso2 : (trisL Wn mask).Pairwise triLt := hso
    obtain ⟨L, hLe⟩ : ∃ L, L = trisL Wn mask := ⟨_, rfl⟩
    rw [← hLe] at hS1 hnb2 htr hln hso2
    have HNB2 := Lib.hid hnb2
    have HS1 := Lib.hid hS1
    have HTR := Lib.hid htr
    have HLN := Lib.hid hln
    have HSO := Lib.hid hso2
    have HCB := Lib.hid hcb
    have HLE := Lib.hid hLe
    clear hnb2 hS1 htr hln hso hso2 hcb hL1 hbx HNB hLe kb0 hb0 e0 e1 e2 e3 hz
    go_loopw [18] (fun x wr => ∃ i : Nat, i ≤ nc ∧ x = .int .i64 i ∧ Hid (creasesB L none (cs.take i) = true) ∧ Hid (NewS w w.heap.size (w.heap.size + 1 + 1 + 1 + 1) (w.heap.size + 1 + 1) (w.heap.size + 1 + 1 + 1) Wn Hn (.slice Am nm cm) (.slice Ac nc cc) vt L m cs i wr)) (fun x _ => nc - (intOf x).toNat)
    case atStart => exact ⟨0, by omega, rfl, Lib.hid rfl, HS1⟩
    case round =>
      obtain ⟨i, hi, rfl, hcr, hS⟩ := hrel
      by_cases hin : i < nc
      · obtain ⟨c, hci⟩ : ∃ c, cs[i]? = some c := ⟨_, List.getElem?_eq_getElem (by omega)⟩
        obtain ⟨bC, oC, hA, hbC, _⟩ := HC.out.2 (by omega)
        subst hA
        have hCr := HC.out.below hS.out.bel
        obtain ⟨x0, x1, x2, x3, x4⟩ := hCr.crease hci
        have HCI := Lib.hid hci
        have hfail := fun h => creases_fail (l := L) hci h
        have hstep := fun h => creases_take (l := L) hci hcr.out h
        have HF := Lib.hid hfail
        have HST := Lib.hid hstep
        have hib : (i : Int) < 140737488351232 := by omega
        have hii : (i : Int) < (nc : Int) := by omega
        clear hci hfail hstep
        obtain ⟨e, kd⟩ := c
        simp only at x0 x1 x2 x3 x4
        have hprev : ∀ j, i = j + 1 → ∃ pc, cs[j]? = some pc := fun j hj => ⟨_, List.getElem?_eq_getElem (by omega)⟩
        go_wp2_with fail
        have kc := heap_alloc_new wr (.cells #[.int .i64 e.1, .int .i64 e.2.1, .int .i64 e.2.2.1, .int .i64 e.2.2.2, .int .i64 kd] 102)
        have hS2 := hS.out.below (below_new wr (.cells #[.int .i64 e.1, .int .i64 e.2.1, .int .i64 e.2.2.1, .int .i64 e.2.2.2, .int .i64 kd] 102))
        have hC2 := hCr.alloc (.cells #[.int .i64 e.1, .int .i64 e.2.1, .int .i64 e.2.2.1, .int .i64 e.2.2.2, .int .i64 kd] 102)
        have hbw : Below wr.heap.size wr (wr.alloc (.cells #[.int .i64 e.1, .int .i64 e.2.1, .int .i64 e.2.2.1, .int .i64 e.2.2.2, .int .i64 kd] 102)) := below_new wr (.cells #[.int .i64 e.1, .int .i64 e.2.1, .int .i64 e.2.2.1, .int .i64 e.2.2.2, .int .i64 kd] 102)
        clear x0 x1 x2 x3 x4 hCr
        generalize wr.alloc (.cells #[.int .i64 e.1, .int .i64 e.2.1, .int .i64 e.2.2.1, .int .i64 e.2.2.2, .int .i64 kd] 102) = w2 at kc hS2 hC2 hbw ⊢
        have g0 := cell_of_blk kc 0
        have g1 := cell_of_blk kc 1
        have g2 := cell_of_blk kc 2
        have g3 := cell_of_blk kc 3
        have g4 := cell_of_blk kc 4
        have b3 := cell_of_blk hS2.box 3
        simp only [List.getElem?_toArray, List.getElem?_cons_zero, List.getElem?_cons_succ] at g0 g1 g2 g3 g4 b3
        have cI := fun (w3 : World) (hb : Below w2.heap.size w2 w3) => inner_any (w.heap.size + 1 + 1 + 1 + 1) (w.heap.size + 1 + 1) (w.heap.size + 1 + 1 + 1) Wn Hn (.slice Am nm cm) (.slice (some ⟨bC, oC, none⟩) nc cc) vt L m i (kindF (cs.take i)) e w3 (HS.out.below (hS2.bel.trans (hb.mono hS2.bel.size))) (hS2.pap.below hb) hW.2 hH.2 HTR.out
        obtain ⟨IB, hIB⟩ : ∃ IB, IB = innerB L e := ⟨_, rfl⟩
        rw [← hIB] at cI
        have CI := Lib.hid cI
        have HIB := Lib.hid hIB
        have HS2 := Lib.hid hS2
        have HC2 := Lib.hid hC2
        have hsm : ∀ t ∈ L, SmT t := fun t ht => by have := HTR.out t ht; exact ⟨by omega, by omega, this.2.2.2.2⟩
        have HSM := Lib.hid hsm
        clear cI hIB kc hS2 hC2 hS hsm
        have hnb : creasesB L none cs = false → NB = false := fun h => by rw [HNB2.out, h]; rfl
        have HNF := Lib.hid hnb
        clear hnb
        by_cases hi0 : i = 0
        · have hp0 : decide (0 < i) = false := decide_eq_false (by omega)
          have hp1 : decide ((0:Int) < (i : Int)) = false := decide_eq_false (by omega)
          have hpv : prevOk (prevC cs i) e = true := by unfold prevC; rw [if_pos hi0]; rfl
          have HPV := Lib.hid hpv
          clear hpv hi0 hprev
          by_cases hk1 : kd = 1
          · subst hk1
            have hkk : ((1:Int) != 1) = false := by decide
            refine rg_plain (fin := ?z1) [.int .i64 i, .bool false, .bool false, undef, undef, undef, undef, undef, undef, undef, undef, undef, undef, undef, .bool false, .bool false, .pointer (some ⟨wr.heap.size, 4, none⟩), .int .i64 1, .bool false, .bool false, undef, undef, undef, .bool false, .bool false, .bool false, .pointer (some ⟨w.heap.size + 1 + 1 + 1 + 1, 0, none⟩), .pointer (some ⟨wr.heap.size, 0, none⟩), .agg #[.int .i64 e.1, .int .i64 e.2.1, .int .i64 e.2.2.1, .int .i64 e.2.2.2], .bool IB, .bool (!IB), .bool (!IB)] (fun WN => WN.cell? ⟨w.heap.size, 3, none⟩ = some (.slice (some ⟨bC, oC, none⟩) nc cc) ∧ WN.cell? ⟨wr.heap.size, 0, none⟩ = some (.int .i64 e.1) ∧ WN.cell? ⟨wr.heap.size, 1, none⟩ = some (.int .i64 e.2.1) ∧ WN.cell? ⟨wr.heap.size, 2, none⟩ = some (.int .i64 e.2.2.1) ∧ WN.cell? ⟨wr.heap.size, 3, none⟩ = some (.int .i64 e.2.2.2) ∧ WN.cell? ⟨wr.heap.size, 4, none⟩ = some (.int .i64 1) ∧ Below w2.heap.size w2 WN) ?hf (by kernel_rfl) (by kernel_rfl) rfl ⟨b3, g0, g1, g2, g3, g4, (Below.refl _ _).drew⟩ (fun WN hst => ?hs) (fun WN hst => ?he)
            case hf => simp only [putOps, Act.put, List.setIfInBounds_toArray, List.set_cons_succ, List.set_cons_zero]; exact rfl
            case hs =>
              have HST := Lib.hid hst
              obtain ⟨q0, q1, q2, q3, q4, q5, hbl⟩ := hst
              iterate 32 refine ⟨?_, fun K hK => ?_⟩
              · trivial
              all_goals try (go_simp; exact hK _ HST.out; done)
              · go_simp
                refine (CI.out _ hbl).mono ?_
                rintro e' wc ⟨he, hbc⟩
                subst he
                exact hK _ ⟨sd q0 hbc, sd q1 hbc, sd q2 hbc, sd q3 hbc, sd q4 hbc, sd q5 hbc, stay_b hbl hbc⟩
            case he =>
              obtain ⟨q0, q1, q2, q3, q4, q5, hbl⟩ := hst
              cases IB with
              | false =>
                simp only [Bool.not_false]
                have hkd : creaseB L (prevC cs i) (e, 1) = false := by rw [creaseB_eq]; simp only; rw [← HIB.out, Bool.and_false]
                have HKD := Lib.hid hkd
                clear hkd
                have hbfin := HS2.out.bel.trans (hbl.mono HS2.out.bel.size)
                have HBF := Lib.hid hbfin
                clear hbfin
                go_wp2
                go_ret2
                exact ⟨HBF.out, .inl ⟨HNF.out (HF.out HKD.out), _, rfl⟩⟩
              | true =>
                simp only [Bool.not_true]
                have hkd : creaseB L (prevC cs i) (e, 1) = true := by rw [creaseB_eq]; simp only; rw [← HIB.out, HPV.out]; decide
                have HKD := Lib.hid hkd
                have hS3 := HS2.out.below hbl
                have z6 := hS3.pap.c6
                have hok := inner_ok HSM.out HIB.out.symm
                have HOK := Lib.hid hok
                have HS3 := Lib.hid hS3
                clear hkd hok hS3
                go_wp2_with fail
                go_still_tail 8, (by kernel_rfl)
                change wpList _ _ _ _ _ WN.drew
                go_wp2_with (at_mapUpdate; go_loud (refine wpList_putI (k := kE) rfl _ _ _ rfl HS3.out.pap.kin.drew rfl (by unfold maxLen; omega) e HOK.out 1 rfl rfl (by decide) ?_); intro w6 hm6 hg6)
                have HN := Lib.hid ((HS3.out.below (Below.refl _ _).drew).put HCI.out hg6 hm6)
                go_roundw
                case rel => exact ⟨i + 1, by omega, by go_num, Lib.hid (HST.out HKD.out), HN⟩
                case measure => simp [intOf]; omega
          · by_cases hk2 : kd = 2
            · subst hk2
              have hkk : ((2:Int) != 1) = true := by decide
              have hkk2 : ((2:Int) != 2) = false := by decide
              clear hk1
              refine rg_plain (fin := ?z2) [.int .i64 i, .bool false, .bool false, undef, undef, undef, undef, undef, undef, undef, undef, undef, undef, undef, .bool false, .bool false, .pointer (some ⟨wr.heap.size, 4, none⟩), .int .i64 2, .bool true, .bool true, .pointer (some ⟨wr.heap.size, 4, none⟩), .int .i64 2, .bool false, .bool false, .bool false, .bool false, .pointer (some ⟨w.heap.size + 1 + 1 + 1 + 1, 0, none⟩), .pointer (some ⟨wr.heap.size, 0, none⟩), .agg #[.int .i64 e.1, .int .i64 e.2.1, .int .i64 e.2.2.1, .int .i64 e.2.2.2], .bool IB, .bool (!IB), .bool (!IB)] (fun WN => WN.cell? ⟨w.heap.size, 3, none⟩ = some (.slice (some ⟨bC, oC, none⟩) nc cc) ∧ WN.cell? ⟨wr.heap.size, 0, none⟩ = some (.int .i64 e.1) ∧ WN.cell? ⟨wr.heap.size, 1, none⟩ = some (.int .i64 e.2.1) ∧ WN.cell? ⟨wr.heap.size, 2, none⟩ = some (.int .i64 e.2.2.1) ∧ WN.cell? ⟨wr.heap.size, 3, none⟩ = some (.int .i64 e.2.2.2) ∧ WN.cell? ⟨wr.heap.size, 4, none⟩ = some (.int .i64 2) ∧ Below w2.heap.size w2 WN) ?hf (by kernel_rfl) (by kernel_rfl) rfl ⟨b3, g0, g1, g2, g3, g4, (Below.refl _ _).drew⟩ (fun WN hst => ?hs) (fun WN hst => ?he)
              case hf => simp only [putOps, Act.put, List.setIfInBounds_toArray, List.set_cons_succ, List.set_cons_zero]; exact rfl
              case hs =>
                have HST := Lib.hid hst
                obtain ⟨q0, q1, q2, q3, q4, q5, hbl⟩ := hst
                iterate 32 refine ⟨?_, fun K hK => ?_⟩
                · trivial
                all_goals try (go_simp; exact hK _ HST.out; done)
                · go_simp
                  refine (CI.out _ hbl).mono ?_
                  rintro e' wc ⟨he, hbc⟩
                  subst he
                  exact hK _ ⟨sd q0 hbc, sd q1 hbc, sd q2 hbc, sd q3 hbc, sd q4 hbc, sd q5 hbc, stay_b hbl hbc⟩
              case he =>
                obtain ⟨q0, q1, q2, q3, q4, q5, hbl⟩ := hst
                cases IB with
                | false =>
                  simp only [Bool.not_false]
                  have hkd : creaseB L (prevC cs i) (e, 2) = false := by rw [creaseB_eq]; simp only; rw [← HIB.out, Bool.and_false]
                  have HKD := Lib.hid hkd
                  clear hkd
                  have hbfin := HS2.out.bel.trans (hbl.mono HS2.out.bel.size)
                  have HBF := Lib.hid hbfin
                  clear hbfin
                  go_wp2
                  go_ret2
                  exact ⟨HBF.out, .inl ⟨HNF.out (HF.out HKD.out), _, rfl⟩⟩
                | true =>
                  simp only [Bool.not_true]
                  have hkd : creaseB L (prevC cs i) (e, 2) = true := by rw [creaseB_eq]; simp only; rw [← HIB.out, HPV.out]; decide
                  have HKD := Lib.hid hkd
                  have hS3 := HS2.out.below hbl
                  have z6 := hS3.pap.c6
                  have hok := inner_ok HSM.out HIB.out.symm
                  have HOK := Lib.hid hok
                  have HS3 := Lib.hid hS3
                  clear hkd hok hS3
                  go_wp2_with fail
                  go_still_tail 8, (by kernel_rfl)
                  change wpList _ _ _ _ _ WN.drew
                  go_wp2_with (at_mapUpdate; go_loud (refine wpList_putI (k := kE) rfl _ _ _ rfl HS3.out.pap.kin.drew rfl (by unfold maxLen; omega) e HOK.out 2 rfl rfl (by decide) ?_); intro w6 hm6 hg6)
                  have HN := Lib.hid ((HS3.out.below (Below.refl _ _).drew).put HCI.out hg6 hm6)
                  go_roundw
                  case rel => exact ⟨i + 1, by omega, by go_num, Lib.hid (HST.out HKD.out), HN⟩
                  case measure => simp [intOf]; omega
            · have hkk : (kd != 1) = true := by simpa using hk1
              have hkk2 : (kd != 2) = true := by simpa using hk2
              have hkd : creaseB L (prevC cs i) (e, kd) = false := by rw [creaseB_eq, decide_eq_false (show ¬ (kd = 1 ∨ kd = 2) by omega)]; simp
              have HKD := Lib.hid hkd
              clear hkd hk1 hk2
              refine rg_plain (fin := ?z3) [.int .i64 i, .bool false, .bool false, undef, undef, undef, undef, undef, undef, undef, undef, undef, undef, undef, .bool false, .bool false, .pointer (some ⟨wr.heap.size, 4, none⟩), .int .i64 kd, .bool true, .bool true, .pointer (some ⟨wr.heap.size, 4, none⟩), .int .i64 kd, .bool true, .bool true, .bool true, .bool true, undef, undef, undef, undef, undef, .bool true] (fun WN => WN.cell? ⟨w.heap.size, 3, none⟩ = some (.slice (some ⟨bC, oC, none⟩) nc cc) ∧ WN.cell? ⟨wr.heap.size, 0, none⟩ = some (.int .i64 e.1) ∧ WN.cell? ⟨wr.heap.size, 1, none⟩ = some (.int .i64 e.2.1) ∧ WN.cell? ⟨wr.heap.size, 2, none⟩ = some (.int .i64 e.2.2.1) ∧ WN.cell? ⟨wr.heap.size, 3, none⟩ = some (.int .i64 e.2.2.2) ∧ WN.cell? ⟨wr.heap.size, 4, none⟩ = some (.int .i64 kd) ∧ Below w2.heap.size w2 WN) ?hf (by kernel_rfl) (by kernel_rfl) rfl ⟨b3, g0, g1, g2, g3, g4, (Below.refl _ _).drew⟩ (fun WN hst => ?hs) (fun WN hst => ?he)
              case hf => simp only [putOps, Act.put, List.setIfInBounds_toArray, List.set_cons_succ, List.set_cons_zero]; exact rfl
              case hs =>
                have HST := Lib.hid hst
                obtain ⟨q0, q1, q2, q3, q4, q5, hbl⟩ := hst
                iterate 32 refine ⟨?_, fun K hK => ?_⟩
                · trivial
                all_goals try (go_simp; exact hK _ HST.out; done)
              case he =>
                obtain ⟨q0, q1, q2, q3, q4, q5, hbl⟩ := hst
                have hbfin := HS2.out.bel.trans (hbl.mono HS2.out.bel.size)
                have HBF := Lib.hid hbfin
                clear hbfin
                go_wp2
                go_ret2
                exact ⟨HBF.out, .inl ⟨HNF.out (HF.out HKD.out), _, rfl⟩⟩
        · obtain ⟨j, hj⟩ : ∃ j, i = j + 1 := ⟨i - 1, by omega⟩
          obtain ⟨pc, hpc⟩ := hprev j hj
          obtain ⟨pe, pk⟩ := pc
          have hp0 : decide (0 < i) = true := decide_eq_true (by omega)
          have hp1 : decide ((0:Int) < (i : Int)) = true := decide_eq_true (by omega)
          have hsub : IntKind.i64.wrap ((i : Int) - 1) = (j : Int) := by rw [IntWalk.i64_in _ (by omega)]; omega
          have hjn : j < nc := by omega
          have hjn2 : (j : Int) < (nc : Int) := by omega
          have hj0 : (0 : Int) ≤ (j : Int) := by omega
          have hpvc : prevC cs i = some (pe, pk) := by unfold prevC; rw [if_neg hi0, hj, Nat.add_sub_cancel]; exact hpc
          obtain ⟨y0, y1, y2, y3, _⟩ := HC2.out.crease hpc
          simp only at y0 y1 y2 y3
          have cC := fun (w3 : World) => cmpEdge_any pe.1 pe.2.1 pe.2.2.1 pe.2.2.2 e.1 e.2.1 e.2.2.1 e.2.2.2 w3
          obtain ⟨Z, hZ⟩ : ∃ Z, Z = cmpE pe e := ⟨_, rfl⟩
          have hZ2 : cmpE (pe.1, pe.2.1, pe.2.2.1, pe.2.2.2) (e.1, e.2.1, e.2.2.1, e.2.2.2) = Z := hZ.symm
          rw [hZ2] at cC
          have hless := cmpE_less pe e
          rw [← hZ] at hless
          have CC := Lib.hid cC
          have HLS := Lib.hid hless
          have HPVC := Lib.hid hpvc
          clear cC hZ hZ2 hless hpvc hj hi0 hpc hprev
          by_cases hz : 0 ≤ Z
          · have hz1 : decide (0 ≤ Z) = true := decide_eq_true hz
            have hkd : creaseB L (prevC cs i) (e, kd) = false := by rw [creaseB_eq, HPVC.out]; have := HLS.out; rw [hz1] at this; simp at this; simp [prevOk, this]
            have HKD := Lib.hid hkd
            clear hkd
            refine rg_plain (fin := ?z4) [.int .i64 i, .bool true, .bool true, .pointer (some ⟨w.heap.size, 3, none⟩), .slice (some ⟨bC, oC, none⟩) nc cc, .int .i64 i, .int .i64 j, .pointer (some ⟨bC, oC + j * 5, none⟩), .pointer (some ⟨bC, oC + j * 5, none⟩), .agg #[.int .i64 pe.1, .int .i64 pe.2.1, .int .i64 pe.2.2.1, .int .i64 pe.2.2.2], .pointer (some ⟨wr.heap.size, 0, none⟩), .agg #[.int .i64 e.1, .int .i64 e.2.1, .int .i64 e.2.2.1, .int .i64 e.2.2.2], .int .i64 Z, .bool true, .bool true, .bool true, undef, undef, undef, undef, undef, undef, undef, undef, .bool true, .bool true, undef, undef, undef, undef, undef, .bool true] (fun WN => WN.cell? ⟨w.heap.size, 3, none⟩ = some (.slice (some ⟨bC, oC, none⟩) nc cc) ∧ WN.cell? ⟨wr.heap.size, 0, none⟩ = some (.int .i64 e.1) ∧ WN.cell? ⟨wr.heap.size, 1, none⟩ = some (.int .i64 e.2.1) ∧ WN.cell? ⟨wr.heap.size, 2, none⟩ = some (.int .i64 e.2.2.1) ∧ WN.cell? ⟨wr.heap.size, 3, none⟩ = some (.int .i64 e.2.2.2) ∧ WN.cell? ⟨wr.heap.size, 4, none⟩ = some (.int .i64 kd) ∧ WN.cell? ⟨bC, oC + j * 5, none⟩ = some (.int .i64 pe.1) ∧ WN.cell? ⟨bC, oC + j * 5 + 1, none⟩ = some (.int .i64 pe.2.1) ∧ WN.cell? ⟨bC, oC + j * 5 + 2, none⟩ = some (.int .i64 pe.2.2.1) ∧ WN.cell? ⟨bC, oC + j * 5 + 3, none⟩ = some (.int .i64 pe.2.2.2) ∧ Below w2.heap.size w2 WN) ?hf (by kernel_rfl) (by kernel_rfl) rfl ⟨b3, g0, g1, g2, g3, g4, y0, y1, y2, y3, (Below.refl _ _).drew⟩ (fun WN hst => ?hs) (fun WN hst => ?he)
            case hf => simp only [putOps, Act.put, List.setIfInBounds_toArray, List.set_cons_succ, List.set_cons_zero]; exact rfl
            case hs =>
              have HST := Lib.hid hst
              obtain ⟨q0, q1, q2, q3, q4, q5, q6, q7, q8, q9, hbl⟩ := hst
              iterate 32 refine ⟨?_, fun K hK => ?_⟩
              · trivial
              all_goals try (go_simp; exact hK _ HST.out; done)
              · go_simp
                refine (CC.out _).mono ?_
                rintro e' wc ⟨he, hgr⟩
                have hbc := hgr.below
                subst he
                exact hK _ ⟨sd q0 hbc, sd q1 hbc, sd q2 hbc, sd q3 hbc, sd q4 hbc, sd q5 hbc, sd q6 hbc, sd q7 hbc, sd q8 hbc, sd q9 hbc, stay_b hbl hbc⟩
            case he =>
              obtain ⟨q0, q1, q2, q3, q4, q5, q6, q7, q8, q9, hbl⟩ := hst
              have hbfin := HS2.out.bel.trans (hbl.mono HS2.out.bel.size)
              have HBF := Lib.hid hbfin
              clear hbfin
              go_wp2
              go_ret2
              exact ⟨HBF.out, .inl ⟨HNF.out (HF.out HKD.out), _, rfl⟩⟩
          · have hz1 : decide (0 ≤ Z) = false := decide_eq_false hz
            have hpv : prevOk (prevC cs i) e = true := by rw [HPVC.out]; have := HLS.out; rw [hz1] at this; simp at this; simp [prevOk, this]
            have HPV := Lib.hid hpv
            clear hpv hz
            by_cases hk1 : kd = 1
            · subst hk1
              have hkk : ((1:Int) != 1) = false := by decide
              refine rg_plain (fin := ?z5) [.int .i64 i, .bool true, .bool true, .pointer (some ⟨w.heap.size, 3, none⟩), .slice (some ⟨bC, oC, none⟩) nc cc, .int .i64 i, .int .i64 j, .pointer (some ⟨bC, oC + j * 5, none⟩), .pointer (some ⟨bC, oC + j * 5, none⟩), .agg #[.int .i64 pe.1, .int .i64 pe.2.1, .int .i64 pe.2.2.1, .int .i64 pe.2.2.2], .pointer (some ⟨wr.heap.size, 0, none⟩), .agg #[.int .i64 e.1, .int .i64 e.2.1, .int .i64 e.2.2.1, .int .i64 e.2.2.2], .int .i64 Z, .bool false, .bool false, .bool false, .pointer (some ⟨wr.heap.size, 4, none⟩), .int .i64 1, .bool false, .bool false, undef, undef, undef, .bool false, .bool false, .bool false, .pointer (some ⟨w.heap.size + 1 + 1 + 1 + 1, 0, none⟩), .pointer (some ⟨wr.heap.size, 0, none⟩), .agg #[.int .i64 e.1, .int .i64 e.2.1, .int .i64 e.2.2.1, .int .i64 e.2.2.2], .bool IB, .bool (!IB), .bool (!IB)] (fun WN => WN.cell? ⟨w.heap.size, 3, none⟩ = some (.slice (some ⟨bC, oC, none⟩) nc cc) ∧ WN.cell? ⟨wr.heap.size, 0, none⟩ = some (.int .i64 e.1) ∧ WN.cell? ⟨wr.heap.size, 1, none⟩ = some (.int .i64 e.2.1) ∧ WN.cell? ⟨wr.heap.size, 2, none⟩ = some (.int .i64 e.2.2.1) ∧ WN.cell? ⟨wr.heap.size, 3, none⟩ = some (.int .i64 e.2.2.2) ∧ WN.cell? ⟨wr.heap.size, 4, none⟩ = some (.int .i64 1) ∧ WN.cell? ⟨bC, oC + j * 5, none⟩ = some (.int .i64 pe.1) ∧ WN.cell? ⟨bC, oC + j * 5 + 1, none⟩ = some (.int .i64 pe.2.1) ∧ WN.cell? ⟨bC, oC + j * 5 + 2, none⟩ = some (.int .i64 pe.2.2.1) ∧ WN.cell? ⟨bC, oC + j * 5 + 3, none⟩ = some (.int .i64 pe.2.2.2) ∧ Below w2.heap.size w2 WN) ?hf (by kernel_rfl) (by kernel_rfl) rfl ⟨b3, g0, g1, g2, g3, g4, y0, y1, y2, y3, (Below.refl _ _).drew⟩ (fun WN hst => ?hs) (fun WN hst => ?he)
              case hf => simp only [putOps, Act.put, List.setIfInBounds_toArray, List.set_cons_succ, List.set_cons_zero]; exact rfl
              case hs =>
                have HST := Lib.hid hst
                obtain ⟨q0, q1, q2, q3, q4, q5, q6, q7, q8, q9, hbl⟩ := hst
                iterate 32 refine ⟨?_, fun K hK => ?_⟩
                · trivial
                all_goals try (go_simp; exact hK _ HST.out; done)
                · go_simp
                  refine (CI.out _ hbl).mono ?_
                  rintro e' wc ⟨he, hbc⟩
                  subst he
                  exact hK _ ⟨sd q0 hbc, sd q1 hbc, sd q2 hbc, sd q3 hbc, sd q4 hbc, sd q5 hbc, sd q6 hbc, sd q7 hbc, sd q8 hbc, sd q9 hbc, stay_b hbl hbc⟩
                · go_simp
                  refine (CC.out _).mono ?_
                  rintro e' wc ⟨he, hgr⟩
                  have hbc := hgr.below
                  subst he
                  exact hK _ ⟨sd q0 hbc, sd q1 hbc, sd q2 hbc, sd q3 hbc, sd q4 hbc, sd q5 hbc, sd q6 hbc, sd q7 hbc, sd q8 hbc, sd q9 hbc, stay_b hbl hbc⟩
              case he =>
                obtain ⟨q0, q1, q2, q3, q4, q5, q6, q7, q8, q9, hbl⟩ := hst
                cases IB with
                | false =>
                  simp only [Bool.not_false]
                  have hkd : creaseB L (prevC cs i) (e, 1) = false := by rw [creaseB_eq]; simp only; rw [← HIB.out, Bool.and_false]
                  have HKD := Lib.hid hkd
                  clear hkd
                  have hbfin := HS2.out.bel.trans (hbl.mono HS2.out.bel.size)
                  have HBF := Lib.hid hbfin
                  clear hbfin
                  go_wp2
                  go_ret2
                  exact ⟨HBF.out, .inl ⟨HNF.out (HF.out HKD.out), _, rfl⟩⟩
                | true =>
                  simp only [Bool.not_true]
                  have hkd : creaseB L (prevC cs i) (e, 1) = true := by rw [creaseB_eq]; simp only; rw [← HIB.out, HPV.out]; decide
                  have HKD := Lib.hid hkd
                  have hS3 := HS2.out.below hbl
                  have z6 := hS3.pap.c6
                  have hok := inner_ok HSM.out HIB.out.symm
                  have HOK := Lib.hid hok
                  have HS3 := Lib.hid hS3
                  clear hkd hok hS3
                  go_wp2_with fail
                  go_still_tail 8, (by kernel_rfl)
                  change wpList _ _ _ _ _ WN.drew
                  go_wp2_with (at_mapUpdate; go_loud (refine wpList_putI (k := kE) rfl _ _ _ rfl HS3.out.pap.kin.drew rfl (by unfold maxLen; omega) e HOK.out 1 rfl rfl (by decide) ?_); intro w6 hm6 hg6)
                  have HN := Lib.hid ((HS3.out.below (Below.refl _ _).drew).put HCI.out hg6 hm6)
                  go_roundw
                  case rel => exact ⟨i + 1, by omega, by go_num, Lib.hid (HST.out HKD.out), HN⟩
                  case measure => simp [intOf]; omega
            · by_cases hk2 : kd = 2
              · subst hk2
                have hkk : ((2:Int) != 1) = true := by decide
                have hkk2 : ((2:Int) != 2) = false := by decide
                clear hk1
                refine rg_plain (fin := ?z6) [.int .i64 i, .bool true, .bool true, .pointer (some ⟨w.heap.size, 3, none⟩), .slice (some ⟨bC, oC, none⟩) nc cc, .int .i64 i, .int .i64 j, .pointer (some ⟨bC, oC + j * 5, none⟩), .pointer (some ⟨bC, oC + j * 5, none⟩), .agg #[.int .i64 pe.1, .int .i64 pe.2.1, .int .i64 pe.2.2.1, .int .i64 pe.2.2.2], .pointer (some ⟨wr.heap.size, 0, none⟩), .agg #[.int .i64 e.1, .int .i64 e.2.1, .int .i64 e.2.2.1, .int .i64 e.2.2.2], .int .i64 Z, .bool false, .bool false, .bool false, .pointer (some ⟨wr.heap.size, 4, none⟩), .int .i64 2, .bool true, .bool true, .pointer (some ⟨wr.heap.size, 4, none⟩), .int .i64 2, .bool false, .bool false, .bool false, .bool false, .pointer (some ⟨w.heap.size + 1 + 1 + 1 + 1, 0, none⟩), .pointer (some ⟨wr.heap.size, 0, none⟩), .agg #[.int .i64 e.1, .int .i64 e.2.1, .int .i64 e.2.2.1, .int .i64 e.2.2.2], .bool IB, .bool (!IB), .bool (!IB)] (fun WN => WN.cell? ⟨w.heap.size, 3, none⟩ = some (.slice (some ⟨bC, oC, none⟩) nc cc) ∧ WN.cell? ⟨wr.heap.size, 0, none⟩ = some (.int .i64 e.1) ∧ WN.cell? ⟨wr.heap.size, 1, none⟩ = some (.int .i64 e.2.1) ∧ WN.cell? ⟨wr.heap.size, 2, none⟩ = some (.int .i64 e.2.2.1) ∧ WN.cell? ⟨wr.heap.size, 3, none⟩ = some (.int .i64 e.2.2.2) ∧ WN.cell? ⟨wr.heap.size, 4, none⟩ = some (.int .i64 2) ∧ WN.cell? ⟨bC, oC + j * 5, none⟩ = some (.int .i64 pe.1) ∧ WN.cell? ⟨bC, oC + j * 5 + 1, none⟩ = some (.int .i64 pe.2.1) ∧ WN.cell? ⟨bC, oC + j * 5 + 2, none⟩ = some (.int .i64 pe.2.2.1) ∧ WN.cell? ⟨bC, oC + j * 5 + 3, none⟩ = some (.int .i64 pe.2.2.2) ∧ Below w2.heap.size w2 WN) ?hf (by kernel_rfl) (by kernel_rfl) rfl ⟨b3, g0, g1, g2, g3, g4, y0, y1, y2, y3, (Below.refl _ _).drew⟩ (fun WN hst => ?hs) (fun WN hst => ?he)
                case hf => simp only [putOps, Act.put, List.setIfInBounds_toArray, List.set_cons_succ, List.set_cons_zero]; exact rfl
                case hs =>
                  have HST := Lib.hid hst
                  obtain ⟨q0, q1, q2, q3, q4, q5, q6, q7, q8, q9, hbl⟩ := hst
                  iterate 32 refine ⟨?_, fun K hK => ?_⟩
                  · trivial
                  all_goals try (go_simp; exact hK _ HST.out; done)
                  · go_simp
                    refine (CI.out _ hbl).mono ?_
                    rintro e' wc ⟨he, hbc⟩
                    subst he
                    exact hK _ ⟨sd q0 hbc, sd q1 hbc, sd q2 hbc, sd q3 hbc, sd q4 hbc, sd q5 hbc, sd q6 hbc, sd q7 hbc, sd q8 hbc, sd q9 hbc, stay_b hbl hbc⟩
                  · go_simp
                    refine (CC.out _).mono ?_
                    rintro e' wc ⟨he, hgr⟩
                    have hbc := hgr.below
                    subst he
                    exact hK _ ⟨sd q0 hbc, sd q1 hbc, sd q2 hbc, sd q3 hbc, sd q4 hbc, sd q5 hbc, sd q6 hbc, sd q7 hbc, sd q8 hbc, sd q9 hbc, stay_b hbl hbc⟩
                case he =>
                  obtain ⟨q0, q1, q2, q3, q4, q5, q6, q7, q8, q9, hbl⟩ := hst
                  cases IB with
                  | false =>
                    simp only [Bool.not_false]
                    have hkd : creaseB L (prevC cs i) (e, 2) = false := by rw [creaseB_eq]; simp only; rw [← HIB.out, Bool.and_false]
                    have HKD := Lib.hid hkd
                    clear hkd
                    have hbfin := HS2.out.bel.trans (hbl.mono HS2.out.bel.size)
                    have HBF := Lib.hid hbfin
                    clear hbfin
                    go_wp2
                    go_ret2
                    exact ⟨HBF.out, .inl ⟨HNF.out (HF.out HKD.out), _, rfl⟩⟩
                  | true =>
                    simp only [Bool.not_true]
                    have hkd : creaseB L (prevC cs i) (e, 2) = true := by rw [creaseB_eq]; simp only; rw [← HIB.out, HPV.out]; decide
                    have HKD := Lib.hid hkd
                    have hS3 := HS2.out.below hbl
                    have z6 := hS3.pap.c6
                    have hok := inner_ok HSM.out HIB.out.symm
                    have HOK := Lib.hid hok
                    have HS3 := Lib.hid hS3
                    clear hkd hok hS3
                    go_wp2_with fail
                    go_still_tail 8, (by kernel_rfl)
                    change wpList _ _ _ _ _ WN.drew
                    go_wp2_with (at_mapUpdate; go_loud (refine wpList_putI (k := kE) rfl _ _ _ rfl HS3.out.pap.kin.drew rfl (by unfold maxLen; omega) e HOK.out 2 rfl rfl (by decide) ?_); intro w6 hm6 hg6)
                    have HN := Lib.hid ((HS3.out.below (Below.refl _ _).drew).put HCI.out hg6 hm6)
                    go_roundw
                    case rel => exact ⟨i + 1, by omega, by go_num, Lib.hid (HST.out HKD.out), HN⟩
                    case measure => simp [intOf]; omega
              · have hkk : (kd != 1) = true := by simpa using hk1
                have hkk2 : (kd != 2) = true := by simpa using hk2
                have hkd : creaseB L (prevC cs i) (e, kd) = false := by rw [creaseB_eq, decide_eq_false (show ¬ (kd = 1 ∨ kd = 2) by omega)]; simp
                have HKD := Lib.hid hkd
                clear hkd hk1 hk2
                refine rg_plain (fin := ?z7) [.int .i64 i, .bool true, .bool true, .pointer (some ⟨w.heap.size, 3, none⟩), .slice (some ⟨bC, oC, none⟩) nc cc, .int .i64 i, .int .i64 j, .pointer (some ⟨bC, oC + j * 5, none⟩), .pointer (some ⟨bC, oC + j * 5, none⟩), .agg #[.int .i64 pe.1, .int .i64 pe.2.1, .int .i64 pe.2.2.1, .int .i64 pe.2.2.2], .pointer (some ⟨wr.heap.size, 0, none⟩), .agg #[.int .i64 e.1, .int .i64 e.2.1, .int .i64 e.2.2.1, .int .i64 e.2.2.2], .int .i64 Z, .bool false, .bool false, .bool false, .pointer (some ⟨wr.heap.size, 4, none⟩), .int .i64 kd, .bool true, .bool true, .pointer (some ⟨wr.heap.size, 4, none⟩), .int .i64 kd, .bool true, .bool true, .bool true, .bool true, undef, undef, undef, undef, undef, .bool true] (fun WN => WN.cell? ⟨w.heap.size, 3, none⟩ = some (.slice (some ⟨bC, oC, none⟩) nc cc) ∧ WN.cell? ⟨wr.heap.size, 0, none⟩ = some (.int .i64 e.1) ∧ WN.cell? ⟨wr.heap.size, 1, none⟩ = some (.int .i64 e.2.1) ∧ WN.cell? ⟨wr.heap.size, 2, none⟩ = some (.int .i64 e.2.2.1) ∧ WN.cell? ⟨wr.heap.size, 3, none⟩ = some (.int .i64 e.2.2.2) ∧ WN.cell? ⟨wr.heap.size, 4, none⟩ = some (.int .i64 kd) ∧ WN.cell? ⟨bC, oC + j * 5, none⟩ = some (.int .i64 pe.1) ∧ WN.cell? ⟨bC, oC + j * 5 + 1, none⟩ = some (.int .i64 pe.2.1) ∧ WN.cell? ⟨bC, oC + j * 5 + 2, none⟩ = some (.int .i64 pe.2.2.1) ∧ WN.cell? ⟨bC, oC + j * 5 + 3, none⟩ = some (.int .i64 pe.2.2.2) ∧ Below w2.heap.size w2 WN) ?hf (by kernel_rfl) (by kernel_rfl) rfl ⟨b3, g0, g1, g2, g3, g4, y0, y1, y2, y3, (Below.refl _ _).drew⟩ (fun WN hst => ?hs) (fun WN hst => ?he)
                case hf => simp only [putOps, Act.put, List.setIfInBounds_toArray, List.set_cons_succ, List.set_cons_zero]; exact rfl
                case hs =>
                  have HST := Lib.hid hst
                  obtain ⟨q0, q1, q2, q3, q4, q5, q6, q7, q8, q9, hbl⟩ := hst
                  iterate 32 refine ⟨?_, fun K hK => ?_⟩
                  · trivial
                  all_goals try (go_simp; exact hK _ HST.out; done)
                  · go_simp
                    refine (CC.out _).mono ?_
                    rintro e' wc ⟨he, hgr⟩
                    have hbc := hgr.below
                    subst he
                    exact hK _ ⟨sd q0 hbc, sd q1 hbc, sd q2 hbc, sd q3 hbc, sd q4 hbc, sd q5 hbc, sd q6 hbc, sd q7 hbc, sd q8 hbc, sd q9 hbc, stay_b hbl hbc⟩
                case he =>
                  obtain ⟨q0, q1, q2, q3, q4, q5, q6, q7, q8, q9, hbl⟩ := hst
                  have hbfin := HS2.out.bel.trans (hbl.mono HS2.out.bel.size)
                  have HBF := Lib.hid hbfin
                  clear hbfin
                  go_wp2
                  go_ret2
                  exact ⟨HBF.out, .inl ⟨HNF.out (HF.out HKD.out), _, rfl⟩⟩
      · obtain rfl : i = nc := by omega
        have hii : ¬ (i : Int) < (i : Int) := by omega
        have hsm : ∀ t ∈ L, SmT t := fun t ht => by have := HTR.out t ht; exact ⟨by omega, by omega, this.2.2.2.2⟩
        have cJ := joined_any (w.heap.size + 1 + 1 + 1 + 1) (w.heap.size + 1 + 1) (w.heap.size + 1 + 1 + 1) Wn Hn w.heap.size (.slice Am nm cm) (.slice Ac i cc) vt L m i (kindF (cs.take i)) wr (HS.out.below hS.out.bel) hS.out.pap hS.out.own hsm HLN.out HSO.out
        have hall : creasesB L none cs = true := by have := hcr.out; rwa [List.take_of_length_le (by omega)] at this
        have hnb : NB = joinB L := by rw [HNB2.out, hall, Bool.true_and]
        obtain ⟨J, hJ⟩ : ∃ J, J = joinB L := ⟨_, rfl⟩
        rw [← hJ] at cJ hnb
        have CJ := Lib.hid cJ
        have HNJ := Lib.hid hnb
        clear cJ hnb hJ hall hsm
        go_wp2_with (go_at_call 56; refine CJ.out.mono ?_; rintro r w9 ⟨rfl, hb9⟩)
        go_ret2
        have hfin := hS.out.below hb9
        refine ⟨hfin.bel, ?_⟩
        have hnj := HNJ.out
        subst hnj
        cases NB with
        | false => exact .inl ⟨rfl, _, rfl⟩
        | true =>
          refine .inr ⟨rfl, Wn, Hn, w.heap.size + 1 + 1 + 1 + 1, w.heap.size, w.heap.size + 1 + 1, w.heap.size + 1 + 1 + 1, m, vt, rfl, rfl, hW, hH, hml, rfl, ?_⟩
          rw [← HLE.out, hcl]
          exact hfin
end
end Go.Proofs.YtpkjekedgodccaaGreatDoor
