/- The document's FacesOf. Printed by gen_fo.py. -/
import Derived.Test.YtoienokpchbglaaDoorPts
import Derived.Test.YtoienokpchbglaaDoorEn
namespace Go.Proofs.YtoienokpchbglaaDoor
set_option linter.unusedSimpArgs false
set_option linter.unusedVariables false
open Go.RowKit Go.Maps

theorem tsl_infoD : (Tryd.prog.info? 28).map (fun i => (i.zero, i.size, i.bytes)) = some (some (.slice none 0 0), 1, 24) := by kernel_rfl
theorem RowsT.mono {w : World} {base base' : Nat} {v : Value} {fs : List (List T3)} {vs : List Value} (h : RowsT w base v fs vs) (hb : base' ≤ base) : RowsT w base' v fs vs :=
  ⟨own_mono h.own hb, h.len, fun j f hf => by
    obtain ⟨vj, h1, h2⟩ := h.row j f hf
    exact ⟨vj, h1, own_mono h2 hb⟩⟩
set_option maxRecDepth 100000 in
set_option maxHeartbeats 12800000 in
theorem facesOf_any (W H : Nat) (Am Ac : Option Addr) (nm cm nc cc : Nat) (mask : List Int) (cs : List C5) (w : World) (hS : ShM w W H Am nm mask Ac nc cs) :
    Calls Tryd.prog 18 #[shV W H Am nm cm Ac nc cc] w fun r w' => ∃ v vs, r = .returned v ∧ RowsT w' w.heap.size v (facesL (trisL W mask) (crsF false cs) (trisL W mask).length) vs ∧ Below w.heap.size w w' := by
  have hsm : ∀ t ∈ trisL W mask, SmT t := fun t ht => hS.tris_sm ht
  have hnd := sorted_nodup hS.tris_sorted
  have hlen := hS.tris_len
  have kb0 := heap_alloc_new w (.cells #[.int .i64 W, .int .i64 H, .slice Am nm cm, .slice Ac nc cc] 25)
  have hbw : Below w.heap.size w (w.alloc (.cells #[.int .i64 W, .int .i64 H, .slice Am nm cm, .slice Ac nc cc] 25)) := below_new _ _
  have a0 := cell_of_blk kb0 0
  have a1 := cell_of_blk kb0 1
  have a2 := cell_of_blk kb0 2
  have a3 := cell_of_blk kb0 3
  simp only [List.getElem?_toArray, List.getElem?_cons_zero, List.getElem?_cons_succ] at a0 a1 a2 a3
  have hS1 := hS.below hbw
  have cT := trisOf_any W H Am Ac nm cm nc cc mask cs _ hS1
  have cG := fun (w2 : World) (hb : Below (w.alloc (.cells #[.int .i64 W, .int .i64 H, .slice Am nm cm, .slice Ac nc cc] 25)).heap.size (w.alloc (.cells #[.int .i64 W, .int .i64 H, .slice Am nm cm, .slice Ac nc cc] 25)) w2) => groups_any false W H Am Ac nm cm nc cc mask cs w2 (hS1.below hb)
  have hz : w.heap.size < (w.alloc (.cells #[.int .i64 W, .int .i64 H, .slice Am nm cm, .slice Ac nc cc] 25)).heap.size := by simp
  obtain ⟨L, hL⟩ : ∃ L, L = trisL W mask := ⟨_, rfl⟩
  obtain ⟨C, hC⟩ : ∃ C, C = crsF false cs := ⟨_, rfl⟩
  rw [← hL, ← hC] at cG
  rw [← hL] at cT hsm hnd hlen
  rw [← hL, ← hC]
  have hK4 : ∀ t ∈ L, K4 t := fun t ht => (hsm t ht).2.2
  have CT := Lib.hid cT
  have CG := Lib.hid cG
  have HSM := Lib.hid hsm
  have HND := Lib.hid hnd
  have HK4 := Lib.hid hK4
  clear cT cG hsm hnd hL hS kb0 hS1 hK4 hC
  go_enter Tryd.func18, Tryd.ntmps18
  go_wp2_with (first
    | (go_at_call 14; refine CT.out.mono ?_; rintro r w1 ⟨v, rfl, ho1, hb1⟩; obtain ⟨Av, cv, hv, _, _⟩ := own_slice ho1; subst hv; have HB1 := Lib.hid hb1; have HO1 := Lib.hid ho1; have a0 := stay_c a0 hb1 (Nat.le_refl _); have a1 := stay_c a1 hb1 (Nat.le_refl _); have a2 := stay_c a2 hb1 (Nat.le_refl _); have a3 := stay_c a3 hb1 (Nat.le_refl _); clear hb1 ho1)
    | (go_at_call 42; refine (CG.out _ HB1.out).mono ?_; rintro r w2 ⟨who, gw, rfl, hgr, hrow, hge, hb2⟩; have HB2 := Lib.hid hb2; have HGR := Lib.hid hgr; have HROW := Lib.hid hrow; clear hb2 hgr hrow hge))
  have hb02 : Below w.heap.size w w2 := stay_b (stay_b hbw HB1.out) HB2.out
  have ho2 := own_below HO1.out HB2.out (Nat.le_refl _)
  have ho2 := own_mono ho2 (Nat.le_of_lt hz)
  have HB02 := Lib.hid hb02
  have HO2 := Lib.hid ho2
  have hst0 : RowsT w2 w2.heap.size (.slice none 0 0) (facesL L C 0) [] := by
    have : facesL L C 0 = [] := by simp [facesL]
    rw [this]
    exact RowsT.nil _ _
  have HST0 := Lib.hid hst0
  clear hb02 ho2 HO1 a0 a1 a2 a3 CT CG hst0
  go_loopw [5, 6] (fun v x wr => ∃ (i : Nat) (vs : List Value), i ≤ L.length ∧ x = .int .i64 i ∧ Hid (RowsT wr w2.heap.size v (facesL L C i) vs) ∧ Hid (Below w2.heap.size w2 wr)) (fun _ x _ => L.length - (intOf x).toNat)
  case atStart => exact ⟨0, [], by omega, rfl, HST0, Lib.hid (Below.refl _ _)⟩
  case round =>
    obtain ⟨i, vs, hi, rfl, hR, hbw2⟩ := hrel
    obtain ⟨Ar, cr, hvv, hcr, _⟩ := own_slice hR.out.own
    subst hvv
    by_cases hil : i < L.length
    · have hii : (i : Int) < (L.length : Int) := by omega
      obtain ⟨t, ht⟩ : ∃ t, L[i]? = some t := ⟨_, List.getElem?_eq_getElem hil⟩
      obtain ⟨gt, cpt, curt, hat, _, _, _, _⟩ := own_addr HO2.out (by omega)
      cases hat
      have hwl := HGR.out.len
      have hrow := blk_below HROW.out hbw2.out (blk_lt HROW.out)
      have cw : wr.cell? ⟨gw, i, none⟩ = some (.int .i64 ((who.getD i 0 : Nat) : Int)) := by rw [cell_of_blk hrow i, List.getElem?_toArray]; exact visN_at (by omega)
      have hfi := HGR.out.first HND.out HK4.out ht
      have hco := fun (hf : who.getD i 0 = i) (j : Nat) (u : T3) (hj : L[j]? = some u) => HGR.out.comp HND.out HK4.out ht hf hj
      obtain ⟨x, hx⟩ : ∃ x, x = who.getD i 0 := ⟨_, rfl⟩
      rw [← hx] at cw hfi hco
      have hyes := fun h => facesL_yes (c := C) ht h
      have hnoo := fun h => facesL_no (c := C) ht h
      have HFI := Lib.hid hfi
      have HCO := Lib.hid hco
      have HYES := Lib.hid hyes
      have HNOO := Lib.hid hnoo
      clear hfi hco hyes hnoo hrow hwl hx ht
      by_cases hxi : x = i
      · subst hxi
        have hne : ((x : Int) != (x : Int)) = false := by simp
        go_wp2_with fail
        obtain ⟨wo, hwo⟩ : ∃ x, x = wr := ⟨_, rfl⟩
        subst hwo
        go_loopw [7, 8] (fun v y wz => ∃ k : Nat, k ≤ L.length ∧ y = .int .i64 k ∧ Hid (wz.ownsRow wo.heap.size 93 3 v (partF L C t k).length (tcT (partF L C t k))) ∧ Hid (Below wo.heap.size wo wz)) (fun _ y _ => L.length - (intOf y).toNat)
        case atStart => exact ⟨0, by omega, rfl, Lib.hid (by rw [partF_zero]; exact World.ownsRow_nil _ _ _ _), Lib.hid (Below.refl _ _)⟩
        case round =>
          obtain ⟨k, hk, rfl, hF, hbz⟩ := hrel
          obtain ⟨Af, cf, hvf, _, _⟩ := own_slice hF.out
          subst hvf
          by_cases hkl : k < L.length
          · have hki : (k : Int) < (L.length : Int) := by omega
            obtain ⟨u, hu⟩ : ∃ u, L[k]? = some u := ⟨_, List.getElem?_eq_getElem hkl⟩
            have hwl := HGR.out.len
            have hbz2 := stay_b hbw2.out hbz.out
            have hrow := blk_below HROW.out hbz2 (blk_lt HROW.out)
            have ck : wr.cell? ⟨gw, k, none⟩ = some (.int .i64 ((who.getD k 0 : Nat) : Int)) := by rw [cell_of_blk hrow k, List.getElem?_toArray]; exact visN_at (by omega)
            obtain ⟨t0, t1, t2⟩ := own_tri (own_below HO2.out hbz2 (Nat.le_refl _)) hu
            have hcu := HCO.out (by first | rfl | trivial) k u hu
            obtain ⟨y, hy⟩ : ∃ y, y = who.getD k 0 := ⟨_, rfl⟩
            rw [← hy] at ck hcu
            have hpy := fun h => partF_yes (c := C) (t := t) hu h
            have hpn := fun h => partF_no (c := C) (t := t) hu h
            have hpl := partF_len L C t k
            have HCU := Lib.hid hcu
            have HPY := Lib.hid hpy
            have HPN := Lib.hid hpn
            clear hcu hpy hpn hrow hwl hy hu hbz2
            by_cases hyx : y = x
            · subst hyx
              have hne2 : ((y : Int) == (y : Int)) = true := by simp
              have hp := HPY.out (HCU.out.1 rfl)
              have HP := Lib.hid hp
              clear hp
              have hszz := hbz.out.size
              go_wp2_with (at_builtin; go_loud (refine app_gen Tryd.underlying28 tri_info rfl (by decide) (by decide) rfl (.tmp 37) (.tmp 42) rfl wo.heap.size _ (partF L C t k).length (tcT (partF L C t k)) [.int .i64 u.1, .int .i64 u.2.1, .int .i64 u.2.2] rfl hF.out hszz 1 _ rfl rfl rfl (tri_one _ _ _) (by omega) ?_); intro v' w' hown' hb' hgr')
              have hr' : w'.ownsRow wo.heap.size 93 3 v' (partF L C t (k + 1)).length (tcT (partF L C t (k + 1))) := by
                rw [HP.out, List.length_append, tcT_app]
                exact hown'
              have HR' := Lib.hid hr'
              have HB' := Lib.hid (hbz.out.trans hb')
              clear hr' hown' hb' hgr'
              go_roundw
              case rel => exact ⟨k + 1, by omega, by go_num, HR', HB'⟩
              case measure => simp [intOf]; omega
            · have hne2 : ((y : Int) == (x : Int)) = false := by simp; omega
              have hp := HPN.out (fun h => hyx (HCU.out.2 h))
              have hF2 := hF.out
              rw [← hp] at hF2
              have HF2 := Lib.hid hF2
              have hle : (partF L C t k).length = (partF L C t (k + 1)).length := by rw [hp]
              have HLE := Lib.hid hle
              clear hp hF2 hle
              go_wp2
              go_roundw
              case rel => exact ⟨k + 1, by omega, by go_num, by rw [HLE.out]; exact HF2, hbz⟩
              case measure => simp [intOf]; omega
          · obtain rfl : k = L.length := by omega
            have hfb : firstB L C x = true := HFI.out.1 (by first | rfl | trivial)
            have hpf : partF L C t L.length = compL L C t := partF_all (Nat.le_refl _)
            have hF2 := hF.out
            rw [hpf] at hF2
            have hR2 := hR.out.below hbz.out
            have hfl := facesL_len L C x
            have hy := HYES.out hfb
            have hlf : (partF L C t L.length).length = (compL L C t).length := by rw [hpf]
            have hszz := stay_b hbw2.out hbz.out
            have hsz3 := hszz.size
            have hF3 := own_mono hF2 hbw2.out.size
            have HF2 := Lib.hid hF3
            have HR2 := Lib.hid hR2
            have HY := Lib.hid hy
            have HSZ := Lib.hid hszz
            rw [hlf]
            obtain ⟨nF, hnF⟩ : ∃ n, n = (compL L C t).length := ⟨_, rfl⟩
            rw [← hnF]
            have HNF := Lib.hid hnF
            clear hfb hpf hF2 hR2 hy hF3 hlf hszz hF hnF
            go_wp2_with (at_builtin; go_loud (refine app_gen Tryd.underlying37 tsl_infoD rfl (by decide) (by decide) rfl (.tmp 44) (.tmp 46) rfl w2.heap.size _ (facesL L C x).length vs [.slice Af nF cf] rfl HR2.out.own hsz3 1 _ rfl rfl rfl (fun u hu => by simp only [List.mem_cons, List.not_mem_nil, or_false] at hu; subst hu; rfl) (by omega) ?_); intro v' w' hown' hb' hgr')
            have hR3 : RowsT w' w2.heap.size v' (facesL L C (x + 1)) (vs ++ [.slice Af nF cf]) := by
              rw [HY.out]
              refine HR2.out.app ?_ hown' hgr'
              rw [HNF.out]
              exact HF2.out
            have HR3 := Lib.hid hR3
            have HB3 := Lib.hid (HSZ.out.trans hb')
            clear hR3 hown' hb' hgr'
            go_roundw
            case rel => exact ⟨x + 1, _, by omega, by go_num, HR3, HB3⟩
            case measure => simp [intOf]; omega
      · have hne : ((x : Int) != (i : Int)) = true := by simp; omega
        have hfb : firstB L C i = false := by
          cases hf : firstB L C i
          · rfl
          · exact absurd (HFI.out.2 hf) hxi
        have hR2 := hR.out
        rw [← HNOO.out hfb] at hR2
        have HR2 := Lib.hid hR2
        have hle : (facesL L C i).length = (facesL L C (i + 1)).length := by rw [HNOO.out hfb]
        have HLE := Lib.hid hle
        clear hR2 hfb hle
        go_wp2
        go_roundw
        case rel => exact ⟨i + 1, vs, by omega, by go_num, by rw [HLE.out]; exact HR2, hbw2⟩
        case measure => simp [intOf]; omega
    · obtain rfl : i = L.length := by omega
      go_wp2
      go_ret
      exact ⟨_, vs, rfl, hR.out.mono HB02.out.size, stay_b HB02.out hbw2.out⟩
end Go.Proofs.YtoienokpchbglaaDoor
