/- Inner: is an edge on two triangles that are there?. -/
import Derived.Test.YtbnkabmnenginaaGreatDoorK10
namespace Go.Proofs.YtbnkabmnenginaaGreatDoor
set_option linter.unusedSimpArgs false
set_option linter.unusedVariables false
section
open Go.RowKit Go.Maps
def SmT (t : T3) : Prop := (-1000 ≤ t.1 ∧ t.1 ≤ 1000) ∧ (-1000 ≤ t.2.1 ∧ t.2.1 ≤ 1000) ∧ K4 t
theorem SmT.ok {t : T3} (h : SmT t) : inR t.1 ∧ inR t.2.1 ∧ inR t.2.2 := by
 obtain ⟨h1, h2, h3, h4⟩ := h
 unfold inR
 omega
theorem SmT.next {t : T3} (h : SmT t) {i : Nat} (hi : i < 3) : inR (nT t i).1 ∧ inR (nT t i).2.1 ∧ inR (nT t i).2.2 := by
 obtain ⟨h1, h2, h3⟩ := h
 obtain ⟨x, y, ht⟩ := k4_cases h3
 unfold inR
 rcases i3_cases hi with rfl | rfl | rfl <;> rcases ht with rfl | rfl | rfl | rfl <;> simp [n00, n01, n02, n10, n11, n12, n20, n21, n22, n30, n31, n32] at h1 h2 ⊢ <;> omega
theorem near_small {W H : Nat} (hW : W ≤ 8) (hH : H ≤ 8) {e : E4} (hg : nearG W H e = true) : ∀ t ∈ nearL e, SmT t := by
 intro t ht
 obtain ⟨h1, h2, h3⟩ := nearL_mem.1 ht
 simp only [nearG, Bool.not_eq_true', Bool.or_eq_false_iff, decide_eq_false_iff_not] at hg
 obtain ⟨⟨⟨q1, q2⟩, q3⟩, q4⟩ := hg
 have a1 : 0 ≤ e.1.tdiv 2 ∧ e.1.tdiv 2 ≤ 8 := by rw [Int.tdiv_eq_ediv_of_nonneg (by omega)]; omega
 have a2 : -1 ≤ e.2.1.tdiv 2 ∧ e.2.1.tdiv 2 ≤ 8 := by
  by_cases h : 0 ≤ e.2.1
  ·rw [Int.tdiv_eq_ediv_of_nonneg h]; omega
  ·have : e.2.1 = -1 := by omega
   rw [this]
   decide
 exact ⟨by omega, by omega, h3⟩
theorem idx_has {t : T3} {e : E4} : (hT t e = false → idxE (eT t 0) (eT t 1) (eT t 2) e = -1) ∧ (hT t e = true → ∃ i : Nat, i < 3 ∧ idxE (eT t 0) (eT t 1) (eT t 2) e = i ∧ eT t i = e) := by
 constructor
 ·exact idx_no
 ·intro h
  unfold idxE
  by_cases h0 : eqE4 e (eT t 0) = true
  ·exact ⟨0, by omega, by rw [if_pos h0]; rfl, ((eqE4_iff _ _).1 h0).symm⟩
  ·rw [if_neg h0]
   by_cases h1 : eqE4 e (eT t 1) = true
   ·exact ⟨1, by omega, by rw [if_pos h1]; rfl, ((eqE4_iff _ _).1 h1).symm⟩
   ·rw [if_neg h1]
    by_cases h2 : eqE4 e (eT t 2) = true
    ·exact ⟨2, by omega, by rw [if_pos h2]; rfl, ((eqE4_iff _ _).1 h2).symm⟩
    ·exfalso
     obtain ⟨i, hi, he⟩ := hT_iff.1 h
     rcases i3_cases hi with rfl | rfl | rfl
     ·exact h0 ((eqE4_iff _ _).2 he.symm)
     ·exact h1 ((eqE4_iff _ _).2 he.symm)
     ·exact h2 ((eqE4_iff _ _).2 he.symm)
theorem own_addr {w : World} {base n : Nat} {e : TypeId} {v : Value} {xs : List Value} {sz : Nat} (h : w.ownsRow base e sz v n xs) (hn : 0 < n) : ∃ g c cur, v = .slice (some ⟨g, 0, none⟩) n c ∧ n ≤ c ∧ c ≤ maxLen ∧ base ≤ g ∧ w.heap[g]? = some (.cells cur e (0, 0)) := by
 rcases h.2 with ⟨_, h0⟩ | ⟨g, cap, cur, rfl, h1, h2, h3, h4, _, _⟩
 ·omega
 ·exact ⟨g, cap, cur, rfl, h3, h4, h1, h2⟩
theorem own_tri {w : World} {B n c g : Nat} {l : List T3} (h : w.ownsRow B 59 3 (.slice (some ⟨g, 0, none⟩) n c) n (tcT l)) {j : Nat} {t : T3} (ht : l[j]? = some t) :
  w.cell? ⟨g, j * 3, none⟩ = some (.int .i64 t.1) ∧ w.cell? ⟨g, j * 3 + 1, none⟩ = some (.int .i64 t.2.1) ∧ w.cell? ⟨g, j * 3 + 2, none⟩ = some (.int .i64 t.2.2) := by
 have hr := Rd.of_own h
 have hl : l.length * 3 = n * 3 := by rw [← tcT_len]; exact hr.1
 have hj := (List.getElem?_eq_some_iff.1 ht).1
 obtain ⟨b, off, e, _, hc⟩ := hr.2 (by omega)
 cases e
 have h0 := hc _ _ (tcT_at l j 0 t ht (by decide))
 have h1 := hc _ _ (tcT_at l j 1 t ht (by decide))
 have h2 := hc _ _ (tcT_at l j 2 t ht (by decide))
 rw [Nat.zero_add, show 3 * j + 0 = j * 3 by omega] at h0
 rw [Nat.zero_add, show 3 * j + 1 = j * 3 + 1 by omega] at h1
 rw [Nat.zero_add, show 3 * j + 2 = j * 3 + 2 by omega] at h2
 exact ⟨h0, h1, h2⟩
set_option maxRecDepth 100000 in
set_option maxHeartbeats 6400000 in
theorem inner_any (pb nb kb W H : Nat) (vm vc vt : Value) (L : List T3) (mn mk : Nat) (fk : E4 → Option Int) (e : E4) (w : World) (hs : Steps w) (hp : PapI w pb nb kb W H vm vc vt L mn mk fk) (hW : W ≤ 8) (hH : H ≤ 8)
  (hL : ∀ t ∈ L, 0 ≤ t.1 ∧ t.1 < W ∧ 0 ≤ t.2.1 ∧ t.2.1 < H ∧ K4 t) :
  Calls Tryz.prog 25 #[.pointer (some ⟨pb, 0, none⟩), aggE e] w fun r w' => r = .returned (.bool (innerB L e)) ∧ Below w.heap.size w w' := by
 have hLk : ∀ t ∈ L, K4 t := fun t ht => (hL t ht).2.2.2.2
 have kb0 := heap_alloc_new w (.cells #[.int .i64 e.1, .int .i64 e.2.1, .int .i64 e.2.2.1, .int .i64 e.2.2.2] 50)
 have hb0 := below_new w (.cells #[.int .i64 e.1, .int .i64 e.2.1, .int .i64 e.2.2.1, .int .i64 e.2.2.2] 50)
 have hp0 := hp.below hb0
 have hs0 := hs.below hb0
 have hz0 : w.heap.size < (w.alloc (.cells #[.int .i64 e.1, .int .i64 e.2.1, .int .i64 e.2.2.1, .int .i64 e.2.2.2] 50)).heap.size := by simp
 have e0 := cell_of_blk kb0 0
 have e1 := cell_of_blk kb0 1
 have e2 := cell_of_blk kb0 2
 have e3 := cell_of_blk kb0 3
 simp only [List.getElem?_toArray, List.getElem?_cons_zero, List.getElem?_cons_succ] at e0 e1 e2 e3
 cases hg : nearG W H e with
 | false =>
  have hin := inner_none hL (.inl hg)
  have cN := fun w1 (h0 : w1.cell? ⟨pb, 0, none⟩ = some (.int .i64 W)) (h1 : w1.cell? ⟨pb, 1, none⟩ = some (.int .i64 H)) => near_no pb W H e w1 h0 h1 hW hH hg
  have CN := Lib.hid (cN _ hp0.c0 hp0.c1)
  rw [hin]
  clear cN hin
  go_enter Tryz.func25, Tryz.ntmps25
  go_wp2_with (go_at_call 46; refine CN.out.mono ?_; rintro r w1 ⟨rfl, hb1⟩)
  go_loopw [17] (fun i wr => i = .int .i64 0 ∧ wr = w1) (fun _ _ => 0)
  case atStart => exact ⟨rfl, rfl⟩
  case round =>
   obtain ⟨rfl, rfl⟩ := hrel
   go_wp2
   go_ret
   exact ⟨rfl, stay_b hb0 hb1⟩
 | true =>
  have hsm := near_small hW hH hg
  have cN := near_ok pb W H e _ hp0.c0 hp0.c1 hW hH hg
  have hno := inner_none (e := e) hL
  have hat := fun (t : T3) (ht : SmT t) (i : Nat) (hi : i < 3) => inner_at (l := L) hLk ht.2.2 hi
  obtain ⟨R, hR⟩ : ∃ R, R = innerB L e := ⟨_, rfl⟩
  rw [← hR] at hno ⊢
  obtain ⟨N, hN⟩ : ∃ N, N = nearL e := ⟨_, rfl⟩
  have hnl : N.length = 36 := by rw [hN, ← nearP_all, nearP_len]
  rw [← hN] at cN hsm hno
  have hfin : (∀ t ∈ N, hT t e = false) → R = false := fun h => hno (.inr h)
  have HFIN := Lib.hid hfin
  have HAT := Lib.hid hat
  have HR := Lib.hid hR
  have CN := Lib.hid cN
  have HSM := Lib.hid hsm
  clear cN hno hat hR hN hg hsm hfin hLk
  go_enter Tryz.func25, Tryz.ntmps25
  go_wp2_with (go_at_call 46; refine CN.out.mono ?_; rintro r w1 ⟨v, rfl, ho1, hb1⟩; obtain ⟨gv, cv, curv, hv, _, _, _, _⟩ := own_addr ho1 (by omega); subst hv)
  have hp1 := hp0.below hb1
  have hs1 := hs0.below hb1
  have hz1 : w.heap.size < w1.heap.size := Nat.lt_of_lt_of_le hz0 hb1.size
  have e0 := keep_c e0 hb1 hz0
  have e1 := keep_c e1 hb1 hz0
  have e2 := keep_c e2 hb1 hz0
  have e3 := keep_c e3 hb1 hz0
  have hbw : Below w.heap.size w w1 := stay_b hb0 hb1
  have HO := Lib.hid ho1
  have HP := Lib.hid hp1
  clear ho1 hb1 hb0 hp0 hs0 kb0 hz0 hp
  go_loopw [17] (fun i wr => ∃ j : Nat, j ≤ N.length ∧ i = .int .i64 j ∧ Hid (∀ t ∈ N.take j, hT t e = false) ∧ Below w1.heap.size w1 wr) (fun i _ => N.length - (intOf i).toNat)
  case atStart => exact ⟨0, by omega, rfl, Lib.hid (by simp), Below.refl _ _⟩
  case round =>
   obtain ⟨j, hj, rfl, hall, hbr⟩ := hrel
   by_cases hjn : j < N.length
   ·obtain ⟨t, ht⟩ : ∃ t, N[j]? = some t := ⟨_, List.getElem?_eq_getElem hjn⟩
    have hts := HSM.out t (List.mem_of_getElem? ht)
    obtain ⟨t0, t1, t2⟩ := own_tri (od HO.out hbr) ht
    have f0 := keep_c e0 hbr hz1
    have f1 := keep_c e1 hbr hz1
    have f2 := keep_c e2 hbr hz1
    have f3 := keep_c e3 hbr hz1
    have hpr := HP.out.below hbr
    have hsr := hs1.below hbr
    have HT := Lib.hid ht
    have HTS := Lib.hid hts
    clear ht hts
    have cE := edges_any t.1 t.2.1 t.2.2 _ (hsr.alloc (.cells #[.int .i64 t.1, .int .i64 t.2.1, .int .i64 t.2.2] 59)) (by have := HTS.out.1; omega) (by have := HTS.out.1; omega) (by have := HTS.out.2.1; omega) (by have := HTS.out.2.1; omega) HTS.out.2.2.1 HTS.out.2.2.2
    have hih := idx_has (t := t) (e := e)
    obtain ⟨E0, hE0⟩ : ∃ E, E = eT t 0 := ⟨_, rfl⟩
    obtain ⟨E1, hE1⟩ : ∃ E, E = eT t 1 := ⟨_, rfl⟩
    obtain ⟨E2, hE2⟩ : ∃ E, E = eT t 2 := ⟨_, rfl⟩
    rw [show edgeT t.1 t.2.1 t.2.2 0 = E0 from hE0.symm, show edgeT t.1 t.2.1 t.2.2 1 = E1 from hE1.symm, show edgeT t.1 t.2.1 t.2.2 2 = E2 from hE2.symm] at cE
    rw [← hE0, ← hE1, ← hE2] at hih
    have CE := Lib.hid cE
    have HIH := Lib.hid hih
    have kt := heap_alloc_new wr (.cells #[.int .i64 t.1, .int .i64 t.2.1, .int .i64 t.2.2] 59)
    have g0 := al_c f0 (.cells #[.int .i64 t.1, .int .i64 t.2.1, .int .i64 t.2.2] 59)
    have g1 := al_c f1 (.cells #[.int .i64 t.1, .int .i64 t.2.1, .int .i64 t.2.2] 59)
    have g2 := al_c f2 (.cells #[.int .i64 t.1, .int .i64 t.2.1, .int .i64 t.2.2] 59)
    have g3 := al_c f3 (.cells #[.int .i64 t.1, .int .i64 t.2.1, .int .i64 t.2.2] 59)
    have hpa := hpr.below (below_new wr (.cells #[.int .i64 t.1, .int .i64 t.2.1, .int .i64 t.2.2] 59))
    have hsa := hsr.alloc (.cells #[.int .i64 t.1, .int .i64 t.2.1, .int .i64 t.2.2] 59)
    have hba := ba (Below.refl wr.heap.size wr) (.cells #[.int .i64 t.1, .int .i64 t.2.1, .int .i64 t.2.2] 59)
    clear cE hih hE0 hE1 hE2 f0 f1 f2 f3 hpr hsr
    go_wp2_with fail
    refine CE.out.mono ?_
    rintro r w2 ⟨rfl, hb2⟩
    have kt2 := blk_below kt hb2 (blk_lt kt)
    have g0 := sd g0 hb2
    have g1 := sd g1 hb2
    have g2 := sd g2 hb2
    have g3 := sd g3 hb2
    have hp2 := hpa.below hb2
    have hs2 := hsa.below hb2
    have hbr2 := stay_b hba hb2
    clear kt hpa hsa hba hb2
    go_wp2_with fail
    have ke := heap_alloc_new w2 (.cells #[.int .i64 E0.1, .int .i64 E0.2.1, .int .i64 E0.2.2.1, .int .i64 E0.2.2.2, .int .i64 E1.1, .int .i64 E1.2.1, .int .i64 E1.2.2.1, .int .i64 E1.2.2.2, .int .i64 E2.1, .int .i64 E2.2.1, .int .i64 E2.2.2.1, .int .i64 E2.2.2.2] 98)
    have hb3 := below_new w2 (.cells #[.int .i64 E0.1, .int .i64 E0.2.1, .int .i64 E0.2.2.1, .int .i64 E0.2.2.2, .int .i64 E1.1, .int .i64 E1.2.1, .int .i64 E1.2.2.1, .int .i64 E1.2.2.2, .int .i64 E2.1, .int .i64 E2.2.1, .int .i64 E2.2.2.1, .int .i64 E2.2.2.2] 98)
    have g0 := sd g0 hb3
    have g1 := sd g1 hb3
    have g2 := sd g2 hb3
    have g3 := sd g3 hb3
    have kt3 := blk_below kt2 hb3 (blk_lt kt2)
    have hp3 := hp2.below hb3
    have hs3 := hs2.below hb3
    have hbr3 := stay_b hbr2 hb3
    clear hb3 kt2 hp2 hs2 hbr2
    generalize w2.alloc (.cells #[.int .i64 E0.1, .int .i64 E0.2.1, .int .i64 E0.2.2.1, .int .i64 E0.2.2.2, .int .i64 E1.1, .int .i64 E1.2.1, .int .i64 E1.2.2.1, .int .i64 E1.2.2.2, .int .i64 E2.1, .int .i64 E2.2.1, .int .i64 E2.2.2.1, .int .i64 E2.2.2.2] 98) = w3 at ke g0 g1 g2 g3 kt3 hp3 hs3 hbr3 ⊢
    have cI := fun (w4 : World) (h4 : w4.heap[w2.heap.size]? = some (.cells #[.int .i64 E0.1, .int .i64 E0.2.1, .int .i64 E0.2.2.1, .int .i64 E0.2.2.2, .int .i64 E1.1, .int .i64 E1.2.1, .int .i64 E1.2.2.1, .int .i64 E1.2.2.2, .int .i64 E2.1, .int .i64 E2.2.1, .int .i64 E2.2.2.1, .int .i64 E2.2.2.2] 98 (0, 0))) => index3_any E0 E1 E2 e w2.heap.size w4 h4
    obtain ⟨ix, hix⟩ : ∃ ix, ix = idxE E0 E1 E2 e := ⟨_, rfl⟩
    rw [← hix] at cI
    have HIX := Lib.hid hix
    have CI := Lib.hid cI
    clear cI hix
    have hS : w3.drew.cell? ⟨w.heap.size, 0, none⟩ = some (.int .i64 e.1) ∧ w3.drew.cell? ⟨w.heap.size, 1, none⟩ = some (.int .i64 e.2.1) ∧ w3.drew.cell? ⟨w.heap.size, 2, none⟩ = some (.int .i64 e.2.2.1) ∧ w3.drew.cell? ⟨w.heap.size, 3, none⟩ = some (.int .i64 e.2.2.2) ∧ w3.drew.heap[w2.heap.size]? = some (.cells #[.int .i64 E0.1, .int .i64 E0.2.1, .int .i64 E0.2.2.1, .int .i64 E0.2.2.2, .int .i64 E1.1, .int .i64 E1.2.1, .int .i64 E1.2.2.1, .int .i64 E1.2.2.2, .int .i64 E2.1, .int .i64 E2.2.1, .int .i64 E2.2.2.1, .int .i64 E2.2.2.2] 98 (0, 0)) ∧ Below w3.heap.size w3 w3.drew := ⟨g0, g1, g2, g3, ke, (Below.refl _ _).drew⟩
    go_region_held3 (fun w' => w'.cell? ⟨w.heap.size, 0, none⟩ = some (.int .i64 e.1) ∧ w'.cell? ⟨w.heap.size, 1, none⟩ = some (.int .i64 e.2.1) ∧ w'.cell? ⟨w.heap.size, 2, none⟩ = some (.int .i64 e.2.2.1) ∧ w'.cell? ⟨w.heap.size, 3, none⟩ = some (.int .i64 e.2.2.2) ∧ w'.heap[w2.heap.size]? = some (.cells #[.int .i64 E0.1, .int .i64 E0.2.1, .int .i64 E0.2.2.1, .int .i64 E0.2.2.2, .int .i64 E1.1, .int .i64 E1.2.1, .int .i64 E1.2.2.1, .int .i64 E1.2.2.2, .int .i64 E2.1, .int .i64 E2.2.1, .int .i64 E2.2.2.1, .int .i64 E2.2.2.2] 98 (0, 0)) ∧ Below w3.heap.size w3 w')
     (first
      | with_reducible exact hS
      | with_reducible assumption
      | (go_split_ands; exact ⟨sd ‹_› hbc, sd ‹_› hbc, sd ‹_› hbc, sd ‹_› hbc, blk_below ‹_› hbc (blk_lt ‹_›), stay_b ‹_› hbc⟩))
     (first
      | (go_split_ands; (with_reducible refine (CI.out _ (by assumption)).mono ?_); rintro r wc ⟨he, hbc⟩; subst he))
    rename_i hSS
    obtain ⟨_, _, _, _, _, hb4⟩ := hSS
    have kt4 := blk_below kt3 hb4 (blk_lt kt3)
    have hp4 := hp3.below hb4
    have hs4 := hs3.below hb4
    have hbr4 := stay_b hbr3 hb4
    clear ke g0 g1 g2 g3 kt3 hp3 hs3 hbr3 hb4
    have hbn := stay_b hbr hbr4
    cases hhas : hT t e with
    | false =>
     have hi1 := HIH.out.1 hhas
     rw [← HIX.out] at hi1
     subst hi1
     have hnx : ∀ u ∈ N.take (j + 1), hT u e = false := by
      intro u hu
      rw [List.take_add_one, HT.out] at hu
      rcases List.mem_append.1 hu with hu | hu
      ·exact hall.out u hu
      ·simp at hu
       rw [hu]
       exact hhas
     have HNX := Lib.hid hnx
     clear hnx hhas
     go_wp2
     go_roundw
     case rel => exact ⟨j + 1, by omega, by go_num, HNX, hbn⟩
     case measure => simp [intOf]; omega
    | true =>
     obtain ⟨i, hi, hi1, hi2⟩ := HIH.out.2 hhas
     rw [← HIX.out] at hi1
     have hres := HAT.out t HTS.out i hi
     rw [hi2, ← HR.out] at hres
     have HRES := Lib.hid hres
     have ct0 := cell_of_blk kt4 0
     have ct1 := cell_of_blk kt4 1
     have ct2 := cell_of_blk kt4 2
     simp only [List.getElem?_toArray, List.getElem?_cons_zero, List.getElem?_cons_succ] at ct0 ct1 ct2
     have cn := hp4.c5
     have hl1 := (hp4.below (Below.refl _ _).drew).look HTS.out.ok
     have hige : (0 : Int) ≤ (i : Int) := by omega
     subst hi1
     clear hhas hi2 hres
     obtain ⟨D1, hD1⟩ : ∃ b, b = decide (t ∈ L) := ⟨_, rfl⟩
     rw [← hD1] at hl1
     have HD1 := Lib.hid hD1
     obtain ⟨V1, hV1⟩ : ∃ b, b = (numF L t).getD 0 := ⟨_, rfl⟩
     rw [← hV1] at hl1
     clear hD1 hV1
     go_wp2_with fail
     have hS2 : wc.drew.cell? ⟨wr.heap.size, 0, none⟩ = some (.int .i64 t.1) ∧ wc.drew.cell? ⟨wr.heap.size, 1, none⟩ = some (.int .i64 t.2.1) ∧ wc.drew.cell? ⟨wr.heap.size, 2, none⟩ = some (.int .i64 t.2.2) ∧ wc.drew.cell? ⟨pb, 5, none⟩ = some (.map (some nb)) ∧ Below wc.heap.size wc wc.drew := ⟨ct0, ct1, ct2, cn, (Below.refl _ _).drew⟩
     go_region_held3 (fun w' => w'.cell? ⟨wr.heap.size, 0, none⟩ = some (.int .i64 t.1) ∧ w'.cell? ⟨wr.heap.size, 1, none⟩ = some (.int .i64 t.2.1) ∧ w'.cell? ⟨wr.heap.size, 2, none⟩ = some (.int .i64 t.2.2) ∧ w'.cell? ⟨pb, 5, none⟩ = some (.map (some nb)) ∧ Below wc.heap.size wc w')
      (first
       | with_reducible exact hS2
       | with_reducible assumption)
      (first
       | fail)
     rename_i hSS
     clear hSS
     go_wp2_with fail
     have hp5 := hp4.below (Below.refl _ _).drew
     have hbn5 : Below w1.heap.size w1 wc.drew := hbn.drew
     have dt0 : wc.drew.cell? ⟨wr.heap.size, 0, none⟩ = some (.int .i64 t.1) := ct0
     have dt1 : wc.drew.cell? ⟨wr.heap.size, 1, none⟩ = some (.int .i64 t.2.1) := ct1
     have dt2 : wc.drew.cell? ⟨wr.heap.size, 2, none⟩ = some (.int .i64 t.2.2) := ct2
     have dn := hp5.c5
     clear ct0 ct1 ct2 cn hp4 hl1 hbn hbr4 hs4 kt4
     generalize wc.drew = wd at hp5 hbn5 dt0 dt1 dt2 dn ⊢
     have cX := fun (w4 : World) => next_any t.1 t.2.1 t.2.2 i w4 hi (by have := HTS.out.1; omega) (by have := HTS.out.1; omega) (by have := HTS.out.2.1; omega) (by have := HTS.out.2.1; omega) HTS.out.2.2.1 HTS.out.2.2.2
     have hok := HTS.out.next hi
     have hlk := fun (w4 : World) (hb : Below wd.heap.size wd w4) => (hp5.below hb).look hok
     obtain ⟨U, hU⟩ : ∃ U, U = nT t i := ⟨_, rfl⟩
     rw [show nextT t.1 t.2.1 t.2.2 i = U from hU.symm] at cX
     rw [← hU] at hlk
     rw [← hU] at HRES
     obtain ⟨D2, hD2⟩ : ∃ b, b = decide (U ∈ L) := ⟨_, rfl⟩
     obtain ⟨V2, hV2⟩ : ∃ b, b = (numF L U).getD 0 := ⟨_, rfl⟩
     rw [← hD2, ← hV2] at hlk
     have HD2 := Lib.hid hD2
     have CX := Lib.hid cX
     have HLK := Lib.hid hlk
     clear hU hD2 hV2 hok cX hlk
     have hS3 : wd.drew.cell? ⟨wr.heap.size, 0, none⟩ = some (.int .i64 t.1) ∧ wd.drew.cell? ⟨wr.heap.size, 1, none⟩ = some (.int .i64 t.2.1) ∧ wd.drew.cell? ⟨wr.heap.size, 2, none⟩ = some (.int .i64 t.2.2) ∧ wd.drew.cell? ⟨pb, 5, none⟩ = some (.map (some nb)) ∧ Below wd.heap.size wd wd.drew := ⟨dt0, dt1, dt2, dn, (Below.refl _ _).drew⟩
     go_region_held3 (fun w' => w'.cell? ⟨wr.heap.size, 0, none⟩ = some (.int .i64 t.1) ∧ w'.cell? ⟨wr.heap.size, 1, none⟩ = some (.int .i64 t.2.1) ∧ w'.cell? ⟨wr.heap.size, 2, none⟩ = some (.int .i64 t.2.2) ∧ w'.cell? ⟨pb, 5, none⟩ = some (.map (some nb)) ∧ Below wd.heap.size wd w')
      (first
       | with_reducible exact hS3
       | with_reducible assumption
       | (go_split_ands; exact ⟨sd ‹_› hbc, sd ‹_› hbc, sd ‹_› hbc, sd ‹_› hbc, stay_b ‹_› hbc⟩))
      (first
       | ((with_reducible refine (CX.out _).mono ?_); rintro r wc2 ⟨he, hbc⟩; subst he; have hl2 := HLK.out wc2 (stay_b (Below.refl wd.heap.size wd).drew hbc)))
     rename_i hSS
     obtain ⟨_, _, _, _, hb6⟩ := hSS
     have hbf := stay_b hbn5 hb6
     have hRR : R = (D1 && D2) := by rw [HRES.out, ← HD1.out, ← HD2.out]
     subst hRR
     cases D1
     all_goals
      go_wp2
      go_ret
      exact ⟨rfl, stay_b hbw hbf⟩
   ·obtain rfl : j = N.length := by omega
    have hrf : R = false := HFIN.out (by have := hall.out; rw [List.take_of_length_le (Nat.le_refl _)] at this; exact this)
    subst hrf
    go_wp2
    go_ret
    exact ⟨rfl, stay_b hbw hbr⟩
end
end Go.Proofs.YtbnkabmnenginaaGreatDoor
