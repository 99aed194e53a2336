/- Creases in order have their kinds. -/
import Derived.Test.YtoienokpchbglaaDoorNew
import Derived.Test.YtoienokpchbglaaDoorGrp0
import Derived.Test.YtoienokpchbglaaDoorFc0
namespace Go.Proofs.YtoienokpchbglaaDoor
set_option linter.unusedSimpArgs false
set_option linter.unusedVariables false
open Go.RowKit Go.Maps

theorem lessE_iff (a b : E4) : lessE a b = true ↔ (a.1 < b.1 ∨ a.1 = b.1 ∧ a.2.1 < b.2.1) ∨ (a.1 = b.1 ∧ a.2.1 = b.2.1) ∧ (a.2.2.1 < b.2.2.1 ∨ a.2.2.1 = b.2.2.1 ∧ a.2.2.2 < b.2.2.2) := by
  unfold lessE lessB
  simp
theorem lessE_trans {a b c : E4} (h : lessE a b = true) (g : lessE b c = true) : lessE a c = true := by
  rw [lessE_iff] at *
  omega
theorem lessE_irrefl (a : E4) : lessE a a ≠ true := by
  intro h
  rw [lessE_iff] at h
  omega
theorem creasesB_sorted {l : List T3} : ∀ {cs : List C5} {prev : Option C5}, creasesB l prev cs = true → cs.Pairwise (fun a b => lessE a.1 b.1 = true) ∧ (∀ p, prev = some p → ∀ c ∈ cs, lessE p.1 c.1 = true) ∧ (∀ c ∈ cs, (c.2 = 1 ∨ c.2 = 2) ∧ innerB l c.1 = true)
  | [], _, _ => ⟨List.Pairwise.nil, (fun _ _ _ h => by cases h), (fun _ h => by cases h)⟩
  | c :: cs, prev, h => by
    simp only [creasesB, Bool.and_eq_true] at h
    obtain ⟨h1, h2⟩ := h
    obtain ⟨g1, g2, g3⟩ := creasesB_sorted h2
    have hc := g2 c rfl
    simp only [creaseB, Bool.and_eq_true, decide_eq_true_eq] at h1
    refine ⟨List.pairwise_cons.2 ⟨hc, g1⟩, ?_, ?_⟩
    · intro p hp x hx
      subst hp
      have hpc : lessE p.1 c.1 = true := h1.1.1
      rcases List.mem_cons.1 hx with rfl | hx
      · exact hpc
      · exact lessE_trans hpc (hc x hx)
    · intro x hx
      rcases List.mem_cons.1 hx with rfl | hx
      · exact ⟨h1.1.2, h1.2⟩
      · exact g3 x hx
theorem foldF_none {cs : List C5} {e : E4} (h : ∀ c ∈ cs, c.1 ≠ e) : ∀ f : E4 → Option Int, (cs.foldl (fun f c => setF f c.1 c.2) f) e = f e := by
  induction cs with
  | nil => intro f; rfl
  | cons c cs ih =>
    intro f
    rw [List.foldl_cons, ih (fun x hx => h x (List.mem_cons_of_mem _ hx))]
    have := h c List.mem_cons_self
    unfold setF
    rw [if_neg (fun e' => this e'.symm)]
theorem foldF_kind {cs : List C5} (h : cs.Pairwise (fun a b => lessE a.1 b.1 = true)) (e : E4) : ∀ f : E4 → Option Int, f e = none → ((cs.foldl (fun f c => setF f c.1 c.2) f) e).getD 0 = kindD cs e := by
  induction cs with
  | nil => intro f hf; simp [kindD, hf]
  | cons c cs ih =>
    intro f hf
    rw [List.pairwise_cons] at h
    rw [List.foldl_cons]
    unfold kindD
    by_cases hc : c.1 = e
    · rw [if_pos hc]
      rw [foldF_none (fun x hx e' => by
        have := h.1 x hx
        rw [hc, e'] at this
        exact lessE_irrefl _ this)]
      simp [setF, hc]
    · rw [if_neg hc]
      refine ih h.2 _ ?_
      unfold setF
      rw [if_neg (fun e' => hc e'.symm)]
      exact hf
theorem kindF_kind {l : List T3} {cs : List C5} (h : creasesB l none cs = true) (e : E4) : (kindF cs e).getD 0 = kindD cs e := foldF_kind (creasesB_sorted h).1 e _ rfl
theorem facF_crs {l : List T3} {cs : List C5} (h : creasesB l none cs = true) : facF (kindF cs) = crsF false cs := by
  funext e
  unfold facF crsF
  rw [kindF_kind h, Bool.false_or]
theorem newB_creases {W H : Int} {mask : List Int} {cs : List C5} (h : newB W H mask cs = true) : creasesB (trisL W.toNat mask) none cs = true := by
  unfold newB at h
  simp only [Bool.and_eq_true] at h
  exact h.2.1
end Go.Proofs.YtoienokpchbglaaDoor
