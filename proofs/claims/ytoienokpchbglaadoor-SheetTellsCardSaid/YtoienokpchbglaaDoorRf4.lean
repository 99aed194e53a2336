/- Plain laws of the document's groups. -/
import Derived.Test.YtoienokpchbglaaDoorRf3
namespace Go.Proofs.YtoienokpchbglaaDoor
set_option linter.unusedSimpArgs false
set_option linter.unusedVariables false
open Go.RowKit
/-! ### the document's groups -/
structure GI (l : List T3) (c : E4 → Bool) (who : List Nat) : Prop where
  len : who.length = l.length
  le : ∀ i, i < l.length → who.getD i 0 ≤ i
  rch : ∀ i t, l[i]? = some t → ∃ u, l[who.getD i 0]? = some u ∧ Rch l c t u
def ClAt (l : List T3) (c : E4 → Bool) (who : List Nat) (i k : Nat) : Prop := ∀ t j, l[i]? = some t → c (eT t k) = true → l[j]? = some (nT t k) → who.getD i 0 ≤ who.getD j 0
structure GP (l : List T3) (c : E4 → Bool) (who0 who : List Nat) (ch : Bool) (i k : Nat) : Prop where
  inv : GI l c who
  st : (ch = true ∧ who.sum < who0.sum) ∨ (ch = false ∧ who = who0 ∧ ∀ i' k', (i' < i ∨ i' = i ∧ k' < k) → k' < 3 → ClAt l c who i' k')
theorem sum_set : ∀ {l : List Nat} {i v : Nat}, i < l.length → v < l.getD i 0 → (l.set i v).sum < l.sum
  | a :: l, 0, v, _, h => by simp at h ⊢; omega
  | a :: l, i + 1, v, hi, h => by
    have := sum_set (l := l) (i := i) (v := v) (by simpa using hi) (by simpa using h)
    simp
    omega
theorem getD_set (l : List Nat) (i j v : Nat) : (l.set i v).getD j 0 = if i = j ∧ i < l.length then v else l.getD j 0 := by
  simp only [List.getD_eq_getElem?_getD, List.getElem?_set]
  by_cases h : i = j
  · subst h
    by_cases hl : i < l.length
    · simp [hl]
    · simp [hl]
  · simp [h]
theorem GI.start (l : List T3) (c : E4 → Bool) : GI l c (List.range l.length) := by
  have h : ∀ i, i < l.length → (List.range l.length).getD i 0 = i := by
    intro i hi
    simp [List.getD_eq_getElem?_getD, hi]
  refine ⟨by simp, fun i hi => by rw [h i hi]; exact Nat.le_refl i, fun i t ht => ?_⟩
  rw [h i (List.getElem?_eq_some_iff.1 ht).1]
  exact ⟨t, ht, .refl⟩
section
variable {l : List T3} {c : E4 → Bool} {who0 who : List Nat} {ch : Bool} {i j k : Nat} {t : T3}
theorem GP.start (h : GI l c who) : GP l c who who false 0 0 := ⟨h, .inr ⟨rfl, rfl, fun i' k' h => by omega⟩⟩
theorem GP.skip (h : GP l c who0 who ch i k) (hc : ClAt l c who i k) : GP l c who0 who ch i (k + 1) := by
  refine ⟨h.inv, h.st.imp id ?_⟩
  rintro ⟨h1, h2, h3⟩
  refine ⟨h1, h2, fun i' k' h4 h5 => ?_⟩
  by_cases h6 : i' < i ∨ i' = i ∧ k' < k
  · exact h3 i' k' h6 h5
  · have h7 : i' = i ∧ k' = k := by omega
    obtain ⟨rfl, rfl⟩ := h7
    exact hc
theorem GP.row (h : GP l c who0 who ch i 3) : GP l c who0 who ch (i + 1) 0 :=
  ⟨h.inv, h.st.imp id fun ⟨h1, h2, h3⟩ => ⟨h1, h2, fun i' k' h4 h5 => h3 i' k' (by omega) h5⟩⟩
theorem GI.set (h : GI l c who) (ht : l[i]? = some t) (hk : k < 3) (hc : c (eT t k) = true) (hj : l[j]? = some (nT t k)) (hlt : who.getD j 0 < who.getD i 0) : GI l c (who.set i (who.getD j 0)) := by
  have hi := (List.getElem?_eq_some_iff.1 ht).1
  have hiw : i < who.length := by rw [h.len]; exact hi
  have hile := h.le i hi
  refine ⟨by rw [List.length_set]; exact h.len, fun m hm => ?_, fun m u hu => ?_⟩
  · rw [getD_set]
    split
    · rename_i e
      obtain ⟨rfl, _⟩ := e
      omega
    · exact h.le m hm
  · rw [getD_set]
    split
    · rename_i e
      obtain ⟨rfl, _⟩ := e
      rw [ht] at hu
      cases hu
      obtain ⟨v, hv, hr⟩ := h.rch j _ hj
      exact ⟨v, hv, (Rch.step .refl hk hc (List.mem_of_getElem? hj)).trans hr⟩
    · exact h.rch m u hu
theorem GP.set (h : GP l c who0 who ch i k) (ht : l[i]? = some t) (hk : k < 3) (hc : c (eT t k) = true) (hj : l[j]? = some (nT t k)) (hlt : who.getD j 0 < who.getD i 0) (k' : Nat) : GP l c who0 (who.set i (who.getD j 0)) true i k' := by
  have hi := (List.getElem?_eq_some_iff.1 ht).1
  have hs := sum_set (l := who) (i := i) (v := who.getD j 0) (by rw [h.inv.len]; exact hi) hlt
  refine ⟨h.inv.set ht hk hc hj hlt, .inl ⟨rfl, ?_⟩⟩
  rcases h.st with ⟨_, h1⟩ | ⟨_, rfl, _⟩ <;> omega
theorem GP.done (h : GP l c who0 who false i 0) (hi : l.length ≤ i) (hl : ∀ t ∈ l, K4 t) : who = who0 ∧ Grp l c who := by
  rcases h.st with ⟨h1, _⟩ | ⟨_, h2, h3⟩
  · cases h1
  · refine ⟨h2, h.inv.len, h.inv.le, h.inv.rch, fun i' j' t k hi' hk hc hj' => ?_⟩
    have hi2 := (List.getElem?_eq_some_iff.1 hi').1
    have hj2 := (List.getElem?_eq_some_iff.1 hj').1
    have a1 := h3 i' k (by omega) hk t j' hi' hc hj'
    have hs := e_sym (hl t (List.mem_of_getElem? hi')) hk
    have a2 := h3 j' (bk k) (by omega) (bk_lt k) (nT t k) i' hj' (by rw [hs.2]; exact hc) (by rw [hs.1]; exact hi')
    omega
theorem GP.more (h : GP l c who0 who true i k) : GI l c who ∧ who.sum < who0.sum := by
  rcases h.st with ⟨_, h1⟩ | ⟨h1, _⟩
  · exact ⟨h.inv, h1⟩
  · cases h1
theorem clAt_no (ht : l[i]? = some t) (hc : c (eT t k) = false ∨ nT t k ∉ l) : ClAt l c who i k := by
  intro u j hu h1 h2
  rw [ht] at hu
  cases hu
  rcases hc with hc | hc
  · rw [hc] at h1
    cases h1
  · exact absurd (List.mem_of_getElem? h2) hc
theorem clAt_ge (hnd : l.Nodup) (ht : l[i]? = some t) (hj : l[j]? = some (nT t k)) (hge : ¬ who.getD j 0 < who.getD i 0) : ClAt l c who i k := by
  intro u m hu h1 h2
  rw [ht] at hu
  cases hu
  have : j = m := (List.getElem?_inj (List.getElem?_eq_some_iff.1 hj).1 hnd).1 (hj.trans h2.symm)
  subst this
  omega
end
end Go.Proofs.YtoienokpchbglaaDoor
