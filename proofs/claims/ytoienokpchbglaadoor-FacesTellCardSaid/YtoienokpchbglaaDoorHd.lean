/- The document's HolesOf. Printed by gen_hd.py. -/
import Derived.Test.YtoienokpchbglaaDoorPtw
import Derived.Test.YtoienokpchbglaaDoorHo
namespace Go.Proofs.YtoienokpchbglaaDoor
set_option linter.unusedSimpArgs false
set_option linter.unusedVariables false
open Go.RowKit Go.Maps

theorem edgesA_at : ∀ {l : List T3} {i k : Nat} {t : T3}, l[i]? = some t → k < 3 → (edgesA l)[3 * i + k]? = some (eT t k)
  | [], i, k, t, h, _ => by simp at h
  | a :: l, 0, k, t, h, hk => by
    simp at h
    subst h
    have e : edgesA (a :: l) = eT a 0 :: eT a 1 :: eT a 2 :: edgesA l := rfl
    rw [e]
    rcases i3_cases hk with rfl | rfl | rfl <;> rfl
  | a :: l, i + 1, k, t, h, hk => by
    have := edgesA_at (l := l) (i := i) (k := k) (t := t) (by simpa using h) hk
    have e : edgesA (a :: l) = eT a 0 :: eT a 1 :: eT a 2 :: edgesA l := rfl
    rw [e, show 3 * (i + 1) + k = (3 * i + k) + 1 + 1 + 1 by omega]
    simpa using this
theorem edgesA_len (l : List T3) : (edgesA l).length = 3 * l.length := by
  simp [edgesA, List.length_flatMap, Function.comp_def, List.map_const', List.sum_replicate_nat]
  omega
def wE (L : List T3) (e : E4) : Nat := if innerB L e = true then 1 else 2
def sumE (L : List T3) (m : Nat) : Nat := (((edgesA L).take m).map (wE L)).sum
theorem sumE_step {L : List T3} {m : Nat} {e : E4} (h : (edgesA L)[m]? = some e) : sumE L (m + 1) = sumE L m + wE L e := by
  unfold sumE
  rw [List.take_add_one, h]
  simp
theorem sumE_le (L : List T3) (m : Nat) : sumE L m ≤ 2 * m := by
  have key : ∀ l : List E4, (l.map (wE L)).sum ≤ 2 * l.length := by
    intro l
    induction l with
    | nil => simp
    | cons a l ih =>
      have : wE L a ≤ 2 := by unfold wE; split <;> omega
      simp only [List.map_cons, List.sum_cons, List.length_cons]
      omega
  have h1 := key ((edgesA L).take m)
  have h2 : ((edgesA L).take m).length ≤ m := by simp; omega
  unfold sumE
  omega
theorem dedup_ex {α : Type} [DecidableEq α] : ∀ l : List α, ∃ es : List α, es.Nodup ∧ ∀ e, e ∈ es ↔ e ∈ l
  | [] => ⟨[], List.nodup_nil, fun e => Iff.rfl⟩
  | a :: l => by
    obtain ⟨es, h1, h2⟩ := dedup_ex l
    by_cases h : a ∈ es
    · refine ⟨es, h1, fun e => ?_⟩
      rw [h2 e, List.mem_cons]
      constructor
      · exact .inr
      · rintro (rfl | h3)
        · exact (h2 _).1 h
        · exact h3
    · exact ⟨a :: es, List.nodup_cons.2 ⟨h, h1⟩, fun e => by rw [List.mem_cons, List.mem_cons, h2 e]⟩
theorem sumE_all {L : List T3} (hl : ∀ t ∈ L, K4 t) (hnd : L.Nodup) {m : Nat} (hm : 3 * L.length ≤ m) : ∃ es : List E4, es.Nodup ∧ (∀ e, e ∈ es ↔ e ∈ edgesA L) ∧ sumE L m = 2 * es.length := by
  obtain ⟨es, h1, h2⟩ := dedup_ex (edgesA L)
  refine ⟨es, h1, h2, ?_⟩
  unfold sumE
  rw [List.take_of_length_le (by rw [edgesA_len]; exact hm)]
  exact edges_law hl hnd h1 h2
set_option maxRecDepth 100000 in
set_option maxHeartbeats 12800000 in
theorem holesOf_any (W H : Nat) (Am Ac : Option Addr) (nm cm nc cc : Nat) (mask : List Int) (cs : List C5) (w : World) (hS : ShM w W H Am nm mask Ac nc cs) :
    Calls Tryd.prog 19 #[shV W H Am nm cm Ac nc cc] w fun r w' => ∃ N, r = .returned (.int .i64 N) ∧ HolesN (trisL W mask) N ∧ Below w.heap.size w w' := by
  have hsm : ∀ t ∈ trisL W mask, SmT t := fun t ht => hS.tris_sm ht
  have hlen := hS.tris_len
  have hnd := sorted_nodup hS.tris_sorted
  have hbw : Below w.heap.size w (w.alloc (.cells #[.int .i64 W, .int .i64 H, .slice Am nm cm, .slice Ac nc cc] 25)) := below_new _ _
  have kb0 := heap_alloc_new w (.cells #[.int .i64 W, .int .i64 H, .slice Am nm cm, .slice Ac nc cc] 25)
  have a0 := cell_of_blk kb0 0
  have a1 := cell_of_blk kb0 1
  have a2 := cell_of_blk kb0 2
  have a3 := cell_of_blk kb0 3
  simp only [List.getElem?_toArray, List.getElem?_cons_zero, List.getElem?_cons_succ] at a0 a1 a2 a3
  have hS1 := hS.below hbw
  have cT := trisOf_any W H Am Ac nm cm nc cc mask cs _ hS1
  have cI := fun (w2 : World) (hb : Below (w.alloc (.cells #[.int .i64 W, .int .i64 H, .slice Am nm cm, .slice Ac nc cc] 25)).heap.size (w.alloc (.cells #[.int .i64 W, .int .i64 H, .slice Am nm cm, .slice Ac nc cc] 25)) w2) (e : E4) => innerEdge_any W H Am Ac nm cm nc cc mask cs e w2 (hS1.below hb)
  have cP := fun (w2 : World) (hb : Below (w.alloc (.cells #[.int .i64 W, .int .i64 H, .slice Am nm cm, .slice Ac nc cc] 25)).heap.size (w.alloc (.cells #[.int .i64 W, .int .i64 H, .slice Am nm cm, .slice Ac nc cc] 25)) w2) => pointsOf_any W H Am Ac nm cm nc cc mask cs w2 (hS1.below hb)
  have hz : w.heap.size < (w.alloc (.cells #[.int .i64 W, .int .i64 H, .slice Am nm cm, .slice Ac nc cc] 25)).heap.size := by simp
  obtain ⟨L, hL⟩ : ∃ L, L = trisL W mask := ⟨_, rfl⟩
  rw [← hL] at cT cI cP hsm hlen hnd ⊢
  have hK4 : ∀ t ∈ L, K4 t := fun t ht => (hsm t ht).2.2
  have hall := sumE_all hK4 hnd (Nat.le_refl (3 * L.length))
  have CT := Lib.hid cT
  have CI := Lib.hid cI
  have CP := Lib.hid cP
  have HSM := Lib.hid hsm
  have HALL := Lib.hid hall
  clear cT cI cP hsm hL hS kb0 hS1 hnd hK4 hall
  go_enter Tryd.func19, Tryd.ntmps19
  go_wp2_with (go_at_call 14; refine CT.out.mono ?_; rintro r w1 ⟨v, rfl, ho1, hb1⟩; obtain ⟨Av, cv, hv, _, _⟩ := own_slice ho1; subst hv; have HB1 := Lib.hid hb1; have HO1 := Lib.hid ho1; clear hb1 ho1)
  generalize w.alloc (.cells #[.int .i64 W, .int .i64 H, .slice Am nm cm, .slice Ac nc cc] 25) = w0 at a0 a1 a2 a3 hbw hz CI CP HB1 HO1
  have hbw1 : Below w.heap.size w w1 := stay_b hbw HB1.out
  have a0 := stay_c a0 HB1.out (Nat.le_refl _)
  have a1 := stay_c a1 HB1.out (Nat.le_refl _)
  have a2 := stay_c a2 HB1.out (Nat.le_refl _)
  have a3 := stay_c a3 HB1.out (Nat.le_refl _)
  have HBW := Lib.hid hbw1
  clear CT hbw hbw1
  go_loopw [4, 5] (fun v x wr => ∃ i : Nat, i ≤ L.length ∧ x = .int .i64 i ∧ v = .int .i64 (sumE L (3 * i) : Nat) ∧ Hid (Below w1.heap.size w1 wr)) (fun _ x _ => L.length - (intOf x).toNat)
  case atStart => exact ⟨0, by omega, rfl, rfl, Lib.hid (Below.refl _ _)⟩
  case round =>
    obtain ⟨i, hi, rfl, rfl, hB⟩ := hrel
    by_cases hil : i < L.length
    · have hii : (i : Int) < (L.length : Int) := by omega
      obtain ⟨t, ht⟩ : ∃ t, L[i]? = some t := ⟨_, List.getElem?_eq_getElem hil⟩
      obtain ⟨gt, cpt, curt, hat, _, _, _, _⟩ := own_addr HO1.out (by omega)
      cases hat
      obtain ⟨t0, t1, t2⟩ := own_tri (own_below HO1.out hB.out (Nat.le_refl _)) ht
      have hts := HSM.out t (List.mem_of_getElem? ht)
      have cE := edgesOf_any t.1 t.2.1 t.2.2 wr (by have := hts.1; omega) (by have := hts.1; omega) (by have := hts.2.1; omega) (by have := hts.2.1; omega) hts.2.2.1 hts.2.2.2
      have hea := fun (k : Nat) (hk : k < 3) => edgesA_at ht hk
      have CE := Lib.hid cE
      have HEA := Lib.hid hea
      clear cE ht hts hea
      go_wp2_with (go_at_call 43; refine CE.out.mono ?_; rintro r w2 ⟨⟨ge, rfl, hke⟩, hb2⟩)
      have hED : EdB w2 ge t := hke
      have hB2 := stay_b hB.out hb2
      have HB2 := Lib.hid hB2
      have HED := Lib.hid hED
      clear hB2 hED hke hb2 hB t0 t1 t2 CE
      go_loopw [4, 7] (fun v x wr => ∃ k : Nat, k ≤ 3 ∧ x = .int .i64 k ∧ v = .int .i64 (sumE L (3 * i + k) : Nat) ∧ Hid (Below w1.heap.size w1 wr) ∧ Hid (EdB wr ge t)) (fun _ x _ => 3 - (intOf x).toNat)
      case atStart => exact ⟨0, by omega, rfl, rfl, HB2, HED⟩
      case round =>
        clear HB2 HED
        obtain ⟨k, hk, rfl, rfl, hB, hED⟩ := hrel
        by_cases hk3 : k < 3
        · have hki : (k : Int) < 3 := by omega
          obtain ⟨y0, y1, y2, y3⟩ := hED.out.at_ hk3
          have hst := sumE_step (HEA.out k hk3)
          have hsl := sumE_le L (3 * i + k)
          have b0 := stay_c a0 hB.out (Nat.le_refl _)
          have b1 := stay_c a1 hB.out (Nat.le_refl _)
          have b2 := stay_c a2 hB.out (Nat.le_refl _)
          have b3 := stay_c a3 hB.out (Nat.le_refl _)
          obtain ⟨E, hE⟩ : ∃ E, E = eT t k := ⟨_, rfl⟩
          rw [← hE] at y0 y1 y2 y3 hst
          have cI := fun (W' : World) (hb : Below wr.heap.size wr W') => CI.out W' (HB1.out.trans ((stay_b hB.out hb).mono HB1.out.size)) E
          obtain ⟨IB, hIB⟩ : ∃ IB, IB = innerB L E := ⟨_, rfl⟩
          rw [← hIB] at cI
          have hst : sumE L (3 * i + k + 1) = sumE L (3 * i + k) + (if IB = true then 1 else 2) := by rw [hst, wE, hIB]
          obtain ⟨M, hM⟩ : ∃ M, M = sumE L (3 * i + k) := ⟨_, rfl⟩
          rw [← hM] at hst hsl ⊢
          have hw1 : IntKind.i64.wrap ((M : Int) + 2) = (M : Int) + 2 := IntWalk.i64_in _ (by omega)
          have hw2 : IntKind.i64.wrap ((M : Int) + 2 - 1) = (M : Int) + 1 := by rw [IntWalk.i64_in _ (by omega)]; omega
          have hw3 : IntKind.i64.wrap ((M : Int) + 1) = (M : Int) + 1 := IntWalk.i64_in _ (by omega)
          have HST := Lib.hid hst
          have CI2 := Lib.hid cI
          clear hst cI hE hIB hM
          go_wp2_with fail
          refine wp_region_inv (fun Lq aq WN => ∃ s : Nat → Value, aq = { tmps := #[shV W H Am nm cm Ac nc cc, .pointer (some ⟨w.heap.size, 0, none⟩), .int .i64 0, .slice (some ⟨gt, 0, none⟩) L.length cv, .int .i64 ((M : Int) + 2), .int .i64 (i : Int), .slice (some ⟨ge, 0, none⟩) 3 3, .int .i64 (k : Int), .agg #[.int .i64 W, .int .i64 H, .slice Am nm cm, .slice Ac nc cc], .slice (some ⟨gt, 0, none⟩) L.length cv, .int .i64 (i : Int), .slice (some ⟨gt, 0, none⟩) L.length cv, .int .i64 (L.length : Int), .bool true, u14, u15, .slice (some ⟨gt, 0, none⟩) L.length cv, .int .i64 (i : Int), .pointer (some ⟨gt, i * 3, none⟩), .agg #[.int .i64 t.1, .int .i64 t.2.1, .int .i64 t.2.2], .slice (some ⟨ge, 0, none⟩) 3 3, .int .i64 (k : Int), .bool true, u23, u24, .int .i64 (M : Int), .int .i64 ((M : Int) + 2), (s 0), (s 1), (s 2), (s 3), (s 4), (s 5), u33, u34, undef, undef, undef, undef, undef, undef, undef, undef, undef, undef], defers := [] } ∧ Sv 6 [some (.agg #[.int .i64 W, .int .i64 H, .slice Am nm cm, .slice Ac nc cc]), some (.slice (some ⟨ge, 0, none⟩) 3 3), some (.int .i64 (k : Int)), some (.pointer (some ⟨ge, k * 4, none⟩)), some (aggE E), some (.bool IB)] Lq s ∧ (WN.cell? ⟨w.heap.size, 0, none⟩ = some (.int .i64 W) ∧ WN.cell? ⟨w.heap.size, 1, none⟩ = some (.int .i64 H) ∧ WN.cell? ⟨w.heap.size, 2, none⟩ = some (.slice Am nm cm) ∧ WN.cell? ⟨w.heap.size, 3, none⟩ = some (.slice Ac nc cc) ∧ WN.cell? ⟨ge, k * 4, none⟩ = some (.int .i64 E.1) ∧ WN.cell? ⟨ge, k * 4 + 1, none⟩ = some (.int .i64 E.2.1) ∧ WN.cell? ⟨ge, k * 4 + 2, none⟩ = some (.int .i64 E.2.2.1) ∧ WN.cell? ⟨ge, k * 4 + 3, none⟩ = some (.int .i64 E.2.2.2) ∧ Below wr.heap.size wr WN)) (by kernel_rfl) ?_ ?_ ?_
          · exact ⟨listF [u27, u28, u29, u30, u31, u32], rfl, Sv.start 6 _ _, ⟨b0, b1, b2, b3, y0, y1, y2, y3, (Below.refl _ _).drew⟩⟩
          · intro Lq aq WN i0 hI hr
            obtain ⟨s, rfl, hv, hst⟩ := hI
            have hi0 : i0 < 6 := ready_lt hr
            have HV := Lib.hid hv
            have HST := Lib.hid hst
            clear hv hst
            have hii : i0 = 0 ∨ i0 = 1 ∨ i0 = 2 ∨ i0 = 3 ∨ i0 = 4 ∨ i0 = 5 := by omega
            clear hi0
            rcases hii with rfl | rfl | rfl | rfl | rfl | rfl
            · clear hr
              obtain ⟨q0, q1, q2, q3, q4, q5, q6, q7, hbl⟩ := HST.out
              refine wpOp_step rfl (fun K hK => ?_)
              go_simp
              refine hK _ _ ?_
              exact ⟨upd s 0 (.agg #[.int .i64 W, .int .i64 H, .slice Am nm cm, .slice Ac nc cc]), rfl, Sv.put HV.out (fun u hu => by cases hu; rfl), HST.out⟩
            · clear hr
              refine wpOp_step rfl (fun K hK => ?_)
              go_simp
              refine hK _ _ ?_
              exact ⟨upd s 1 (.slice (some ⟨ge, 0, none⟩) 3 3), rfl, Sv.put HV.out (fun u hu => by cases hu; rfl), HST.out⟩
            · clear hr
              refine wpOp_step rfl (fun K hK => ?_)
              go_simp
              refine hK _ _ ?_
              exact ⟨upd s 2 (.int .i64 (k : Int)), rfl, Sv.put HV.out (fun u hu => by cases hu; rfl), HST.out⟩
            · have d1 := ready_dep hr (k := 1) (by kernel_rfl)
              have d2 := ready_dep hr (k := 2) (by kernel_rfl)
              clear hr
              have e1 : s 1 = .slice (some ⟨ge, 0, none⟩) 3 3 := HV.out.v d1 rfl
              have e2 : s 2 = .int .i64 (k : Int) := HV.out.v d2 rfl
              refine wpOp_step rfl (fun K hK => ?_)
              go_simp
              refine hK _ _ ?_
              exact ⟨upd (upd (upd s 1 (.slice (some ⟨ge, 0, none⟩) 3 3)) 2 (.int .i64 (k : Int))) 3 (.pointer (some ⟨ge, k * 4, none⟩)), rfl, Sv.put (Sv.re (j := 2) (v := .int .i64 (k : Int)) (Sv.re (j := 1) (v := .slice (some ⟨ge, 0, none⟩) 3 3) HV.out e1) e2) (fun u hu => by cases hu; rfl), HST.out⟩
            · have d3 := ready_dep hr (k := 3) (by kernel_rfl)
              clear hr
              have e3 : s 3 = .pointer (some ⟨ge, k * 4, none⟩) := HV.out.v d3 rfl
              obtain ⟨q0, q1, q2, q3, q4, q5, q6, q7, hbl⟩ := HST.out
              refine wpOp_step rfl (fun K hK => ?_)
              go_simp
              refine hK _ _ ?_
              exact ⟨upd (upd s 3 (.pointer (some ⟨ge, k * 4, none⟩))) 4 (aggE E), rfl, Sv.put (Sv.re (j := 3) (v := .pointer (some ⟨ge, k * 4, none⟩)) HV.out e3) (fun u hu => by cases hu; rfl), HST.out⟩
            · have d0 := ready_dep hr (k := 0) (by kernel_rfl)
              have d4 := ready_dep hr (k := 4) (by kernel_rfl)
              clear hr
              have e0 : s 0 = .agg #[.int .i64 W, .int .i64 H, .slice Am nm cm, .slice Ac nc cc] := HV.out.v d0 rfl
              have e4 : s 4 = aggE E := HV.out.v d4 rfl
              obtain ⟨q0, q1, q2, q3, q4, q5, q6, q7, hbl⟩ := HST.out
              refine wpOp_step rfl (fun K hK => ?_)
              go_simp
              refine (CI2.out _ hbl).mono ?_
              rintro e' wc ⟨he, hbc⟩
              subst he
              refine hK _ _ ?_
              exact ⟨upd (upd (upd s 0 (.agg #[.int .i64 W, .int .i64 H, .slice Am nm cm, .slice Ac nc cc])) 4 (aggE E)) 5 (.bool IB), rfl, Sv.put (Sv.re (j := 4) (v := aggE E) (Sv.re (j := 0) (v := .agg #[.int .i64 W, .int .i64 H, .slice Am nm cm, .slice Ac nc cc]) HV.out e0) e4) (fun u hu => by cases hu; rfl), ⟨stay_c q0 hbc (Nat.le_refl _), stay_c q1 hbc (Nat.le_refl _), stay_c q2 hbc (Nat.le_refl _), stay_c q3 hbc (Nat.le_refl _), stay_c q4 hbc (Nat.le_refl _), stay_c q5 hbc (Nat.le_refl _), stay_c q6 hbc (Nat.le_refl _), stay_c q7 hbc (Nat.le_refl _), stay_b hbl hbc⟩⟩
          · intro Lq aq WN hI hrd
            obtain ⟨s, ha, hv, hst⟩ := hI
            have hall := all_listedM hrd hv.sz (by kernel_rfl)
            clear hrd
            have e0 : s 0 = (.agg #[.int .i64 W, .int .i64 H, .slice Am nm cm, .slice Ac nc cc]) := hv.v (hall 0 (by decide)) rfl
            have e1 : s 1 = (.slice (some ⟨ge, 0, none⟩) 3 3) := hv.v (hall 1 (by decide)) rfl
            have e2 : s 2 = (.int .i64 (k : Int)) := hv.v (hall 2 (by decide)) rfl
            have e3 : s 3 = (.pointer (some ⟨ge, k * 4, none⟩)) := hv.v (hall 3 (by decide)) rfl
            have e4 : s 4 = (aggE E) := hv.v (hall 4 (by decide)) rfl
            have e5 : s 5 = (.bool IB) := hv.v (hall 5 (by decide)) rfl
            simp only [e0, e1, e2, e3, e4, e5] at ha
            subst ha
            clear hall hv e0 e1 e2 e3 e4 e5
            obtain ⟨q0, q1, q2, q3, q4, q5, q6, q7, hbl⟩ := hst
            have HB9 := Lib.hid (stay_b hB.out hbl)
            have HD9 := Lib.hid (hED.out.below hbl)
            cases IB with
            | true =>
              have he : sumE L (3 * i + k + 1) = M + 1 := HST.out
              have HE := Lib.hid he
              clear he
              go_wp2
              go_roundw
              case rel => exact ⟨k + 1, by omega, by go_num, by rw [show 3 * i + (k + 1) = 3 * i + k + 1 by omega, HE.out]; go_num, HB9, HD9⟩
              case measure => simp [intOf]; omega
            | false =>
              have he : sumE L (3 * i + k + 1) = M + 2 := HST.out
              have HE := Lib.hid he
              clear he
              go_wp2
              go_roundw
              case rel => exact ⟨k + 1, by omega, by go_num, by rw [show 3 * i + (k + 1) = 3 * i + k + 1 by omega, HE.out]; go_num, HB9, HD9⟩
              case measure => simp [intOf]; omega
        · obtain rfl : k = 3 := by omega
          go_wp2
          go_roundw
          case rel => exact ⟨i + 1, by omega, by go_num, by rw [show 3 * (i + 1) = 3 * i + 3 by omega], hB⟩
          case measure => simp [intOf]; omega
    · obtain rfl : i = L.length := by omega
      obtain ⟨es, he1, he2, he3⟩ := HALL.out
      rw [he3]
      have b0 := stay_c a0 hB.out (Nat.le_refl _)
      have b1 := stay_c a1 hB.out (Nat.le_refl _)
      have b2 := stay_c a2 hB.out (Nat.le_refl _)
      have b3 := stay_c a3 hB.out (Nat.le_refl _)
      have cP := CP.out wr (HB1.out.trans (hB.out.mono HB1.out.size))
      have hel : es.length ≤ 3000 := by
        have h1 := nodup_sub_len he1 (fun x hx => (he2 x).1 hx)
        have h2 := edgesA_len L
        omega
      have CP2 := Lib.hid cP
      have HES := Lib.hid he1
      have HES2 := Lib.hid he2
      have htd : ((2 * es.length : Nat) : Int).tdiv 2 = (es.length : Int) := by rw [show ((2 * es.length : Nat) : Int) = 2 * (es.length : Int) by omega]; exact Int.mul_tdiv_cancel_left _ (by decide)
      have htd2 : (2 * (es.length : Int)).tdiv 2 = (es.length : Int) := Int.mul_tdiv_cancel_left _ (by decide)
      clear cP he1 he2 he3
      go_wp2_with (go_at_call 44; refine CP2.out.mono ?_; rintro r w9 ⟨v, ps, rfl, hpi, hpl, hop, hb9⟩; obtain ⟨Ap, cp, hpv, _, _⟩ := own_slice hop; subst hpv; have HPI := Lib.hid hpi; have HB9 := Lib.hid hb9; have hw1 : IntKind.i64.wrap (1 - (ps.length : Int)) = 1 - (ps.length : Int) := IntWalk.i64_in _ (by omega); have hw4 : IntKind.i64.wrap (es.length : Int) = (es.length : Int) := IntWalk.i64_in _ (by omega); have hw2 : IntKind.i64.wrap (1 - (ps.length : Int) + (es.length : Int)) = 1 - (ps.length : Int) + (es.length : Int) := IntWalk.i64_in _ (by omega); have hw3 : IntKind.i64.wrap (1 - (ps.length : Int) + (es.length : Int) - (L.length : Int)) = 1 - (ps.length : Int) + (es.length : Int) - (L.length : Int) := IntWalk.i64_in _ (by omega); clear hpi hb9 hop)
      go_ret
      exact ⟨_, rfl, ⟨ps, es, sortedP_nodup HPI.out.sorted, HPI.out.mem, HES.out, HES2.out, rfl⟩, stay_b (stay_b HBW.out hB.out) HB9.out⟩
end Go.Proofs.YtoienokpchbglaaDoor
