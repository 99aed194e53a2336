/- faces.Faces; creases in order have their kinds. -/
import Derived.Test.YtoienokpchbglaaDoorFc1
import Derived.Test.YtoienokpchbglaaDoorNew
import Derived.Test.YtoienokpchbglaaDoorGrp0
namespace Go.Proofs.YtoienokpchbglaaDoor
set_option linter.unusedSimpArgs false
set_option linter.unusedVariables false
open Go.RowKit Go.Maps

theorem lessE_iff (a b : E4) : lessE a b = true ↔ (a.1 < b.1 ∨ a.1 = b.1 ∧ a.2.1 < b.2.1) ∨ (a.1 = b.1 ∧ a.2.1 = b.2.1) ∧ (a.2.2.1 < b.2.2.1 ∨ a.2.2.1 = b.2.2.1 ∧ a.2.2.2 < b.2.2.2) := by
  unfold lessE lessB
  simp
theorem lessE_trans {a b c : E4} (h : lessE a b = true) (g : lessE b c = true) : lessE a c = true := by
  rw [lessE_iff] at *
  omega
theorem lessE_irrefl (a : E4) : lessE a a ≠ true := by
  intro h
  rw [lessE_iff] at h
  omega
theorem creasesB_sorted {l : List T3} : ∀ {cs : List C5} {prev : Option C5}, creasesB l prev cs = true → cs.Pairwise (fun a b => lessE a.1 b.1 = true) ∧ (∀ p, prev = some p → ∀ c ∈ cs, lessE p.1 c.1 = true) ∧ (∀ c ∈ cs, (c.2 = 1 ∨ c.2 = 2) ∧ innerB l c.1 = true)
  | [], _, _ => ⟨List.Pairwise.nil, (fun _ _ _ h => by cases h), (fun _ h => by cases h)⟩
  | c :: cs, prev, h => by
    simp only [creasesB, Bool.and_eq_true] at h
    obtain ⟨h1, h2⟩ := h
    obtain ⟨g1, g2, g3⟩ := creasesB_sorted h2
    have hc := g2 c rfl
    simp only [creaseB, Bool.and_eq_true, decide_eq_true_eq] at h1
    refine ⟨List.pairwise_cons.2 ⟨hc, g1⟩, ?_, ?_⟩
    · intro p hp x hx
      subst hp
      have hpc : lessE p.1 c.1 = true := h1.1.1
      rcases List.mem_cons.1 hx with rfl | hx
      · exact hpc
      · exact lessE_trans hpc (hc x hx)
    · intro x hx
      rcases List.mem_cons.1 hx with rfl | hx
      · exact ⟨h1.1.2, h1.2⟩
      · exact g3 x hx
theorem foldF_none {cs : List C5} {e : E4} (h : ∀ c ∈ cs, c.1 ≠ e) : ∀ f : E4 → Option Int, (cs.foldl (fun f c => setF f c.1 c.2) f) e = f e := by
  induction cs with
  | nil => intro f; rfl
  | cons c cs ih =>
    intro f
    rw [List.foldl_cons, ih (fun x hx => h x (List.mem_cons_of_mem _ hx))]
    have := h c List.mem_cons_self
    unfold setF
    rw [if_neg (fun e' => this e'.symm)]
theorem foldF_kind {cs : List C5} (h : cs.Pairwise (fun a b => lessE a.1 b.1 = true)) (e : E4) : ∀ f : E4 → Option Int, f e = none → ((cs.foldl (fun f c => setF f c.1 c.2) f) e).getD 0 = kindD cs e := by
  induction cs with
  | nil => intro f hf; simp [kindD, hf]
  | cons c cs ih =>
    intro f hf
    rw [List.pairwise_cons] at h
    rw [List.foldl_cons]
    unfold kindD
    by_cases hc : c.1 = e
    · rw [if_pos hc]
      rw [foldF_none (fun x hx e' => by
        have := h.1 x hx
        rw [hc, e'] at this
        exact lessE_irrefl _ this)]
      simp [setF, hc]
    · rw [if_neg hc]
      refine ih h.2 _ ?_
      unfold setF
      rw [if_neg (fun e' => hc e'.symm)]
      exact hf
theorem kindF_kind {l : List T3} {cs : List C5} (h : creasesB l none cs = true) (e : E4) : (kindF cs e).getD 0 = kindD cs e := foldF_kind (creasesB_sorted h).1 e _ rfl
theorem facF_crs {l : List T3} {cs : List C5} (h : creasesB l none cs = true) : facF (kindF cs) = crsF false cs := by
  funext e
  unfold facF crsF
  rw [kindF_kind h, Bool.false_or]
theorem newB_creases {W H : Int} {mask : List Int} {cs : List C5} (h : newB W H mask cs = true) : creasesB (trisL W.toNat mask) none cs = true := by
  unfold newB at h
  simp only [Bool.and_eq_true] at h
  exact h.2.1
set_option maxRecDepth 100000 in
set_option maxHeartbeats 3200000 in
theorem faces_any (W H : Int) (Am Ac : Option Addr) (nm cm nc cc : Nat) (mask : List Int) (cs : List C5) (w : World) (hs : Steps w) (hm : Rd w 1 Am nm (vis mask)) (hc : Rd w 5 Ac nc (ccs cs)) (hnm : nm ≤ 140737488351232) (hnc : nc ≤ 140737488351232) :
    Calls Tryd.prog 16 #[.agg #[.int .i64 W, .int .i64 H, .slice Am nm cm, .slice Ac nc cc]] w fun e w' => Below w.heap.size w w' ∧
      ((newB W H mask cs = false ∧ e = .returned (.tuple #[.slice none 0 0, .int .i64 10])) ∨ (newB W H mask cs = true ∧ ∃ v vs, RowsT w' w.heap.size v (facesL (trisL W.toNat mask) (crsF false cs) (trisL W.toNat mask).length) vs ∧ e = .returned (.tuple #[v, .int .i64 0]))) := by
  have kb0 := heap_alloc_new w (.cells #[.int .i64 W, .int .i64 H, .slice Am nm cm, .slice Ac nc cc] 25)
  have hb0 := below_new w (.cells #[.int .i64 W, .int .i64 H, .slice Am nm cm, .slice Ac nc cc] 25)
  have a0 := cell_of_blk kb0 0
  have a1 := cell_of_blk kb0 1
  have a2 := cell_of_blk kb0 2
  have a3 := cell_of_blk kb0 3
  simp only [List.getElem?_toArray, List.getElem?_cons_zero, List.getElem?_cons_succ] at a0 a1 a2 a3
  have cN := new_any W H Am Ac nm cm nc cc mask cs (w.alloc (.cells #[.int .i64 W, .int .i64 H, .slice Am nm cm, .slice Ac nc cc] 25)) (hs.below hb0) (hm.below hb0) (hc.below hb0) hnm hnc
  have hfc := fun (h : newB W H mask cs = true) => facF_crs (newB_creases h)
  obtain ⟨NB, hNB⟩ : ∃ NB, NB = newB W H mask cs := ⟨_, rfl⟩
  rw [← hNB] at cN hfc ⊢
  obtain ⟨L, hLe⟩ : ∃ L, L = trisL W.toNat mask := ⟨_, rfl⟩
  obtain ⟨C, hC⟩ : ∃ C, C = crsF false cs := ⟨_, rfl⟩
  rw [← hLe, ← hC]
  rw [← hC] at hfc
  have HLE := Lib.hid hLe
  have CN := Lib.hid cN
  have HS := Lib.hid hs
  have HFC := Lib.hid hfc
  have HB0 := Lib.hid hb0
  clear cN hs hm hc hNB kb0 hLe hfc hb0 hC
  go_enter Tryd.func16, Tryd.ntmps16
  go_wp2_with fail
  refine CN.out.mono ?_
  rintro e w1 ⟨hb1, ⟨hF, v, rfl⟩ | ⟨hT, Wn, Hn, pb, b0, nb, kb, mn, vt, rfl, rfl, hW, hH, hml, rfl, hN⟩⟩
  · have hbf := stay_b HB0.out hb1
    have HBF := Lib.hid hbf
    have HF := Lib.hid hF
    clear hbf hb1 hF CN a0 a1 a2 a3
    go_wp2
    exact bodyPost_ret (v := .tuple #[.slice none 0 0, .int .i64 10]) (by simp [results, Tryd.results16, go_sem]) rfl ⟨HBF.out, .inl ⟨HF.out, rfl⟩⟩
  · have hLe : L = trisL Wn mask := HLE.out
    have hb1w := stay_b HB0.out hb1
    have hL : ∀ t ∈ trisL Wn mask, SmT t := fun t ht => by
      have := trisL_in (by omega) hml ht
      exact ⟨by omega, by omega, this.2.2.2.2⟩
    have hlen : (trisL Wn mask).length ≤ 1000 := by
      have h1 := trisL_len Wn mask
      have h2 : Wn * Hn ≤ 8 * 8 := Nat.mul_le_mul hW.2 hH.2
      omega
    have hso : (trisL Wn mask).Pairwise triLt := partT_sorted (by omega) mask _
    rw [← hLe] at hN hL hlen hso
    have cO := of_any pb nb kb Wn Hn _ _ _ vt L mn _ _ w1 (HS.out.below hb1w) hN.pap hN.own hL hlen hso
    rw [List.take_length, HFC.out hT] at cO
    have CO := Lib.hid cO
    have HB1 := Lib.hid hb1w
    have HT := Lib.hid hT
    clear hb1 hb1w hT hL hN CN hLe HLE HS a0 a1 a2 a3 hml hW hH cO hlen hso
    go_wp2_with (go_at_call 39; refine CO.out.mono ?_; rintro r w3 ⟨v, vs, rfl, hr3, hb3⟩; have HR3 := Lib.hid hr3; have HB3 := Lib.hid hb3; clear hr3 hb3)
    exact bodyPost_ret (v := .tuple #[v, .int .i64 0]) (by simp [results, Tryd.results16, go_sem]) rfl ⟨stay_b HB1.out HB3.out, .inr ⟨HT.out, v, vs, HR3.out.monoD HB1.out.size, rfl⟩⟩
end Go.Proofs.YtoienokpchbglaaDoor
