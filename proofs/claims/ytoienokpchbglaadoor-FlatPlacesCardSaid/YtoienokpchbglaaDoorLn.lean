/- The line of an edge, in both layers; how maps are handed on over a sheet. -/
import Derived.Test.YtoienokpchbglaaDoorMm
import Derived.Test.YtoienokpchbglaaDoorPts
import Derived.Test.YtoienokpchbglaaDoorFcl
namespace Go.Proofs.YtoienokpchbglaaDoor
set_option linter.unusedSimpArgs false
set_option linter.unusedVariables false
open Go.RowKit Go.Maps

/-- which way an edge lies -/
def lnW (e : E4) : Int := if e.1 = e.2.2.1 then 0 else if e.2.1 = e.2.2.2 then 1 else if e.1 + e.2.1 = e.2.2.1 + e.2.2.2 then 2 else 3
def lnC (e : E4) : Int := valB (lnW e) e.1 e.2.1
/-- it lies one of the four ways, and is near -/
structure IsE (e : E4) : Prop where
  one : e.1 = e.2.2.1 ∨ e.2.1 = e.2.2.2 ∨ e.1 + e.2.1 = e.2.2.1 + e.2.2.2 ∨ e.1 - e.2.1 = e.2.2.1 - e.2.2.2
  b0 : -40 ≤ e.1 ∧ e.1 ≤ 40
  b1 : -40 ≤ e.2.1 ∧ e.2.1 ≤ 40
  b2 : -40 ≤ e.2.2.1 ∧ e.2.2.1 ≤ 40
  b3 : -40 ≤ e.2.2.2 ∧ e.2.2.2 ≤ 40
/-- a triangle of a sheet -/
def In8 (t : T3) : Prop := (0 ≤ t.1 ∧ t.1 ≤ 8) ∧ (0 ≤ t.2.1 ∧ t.2.1 ≤ 8) ∧ K4 t
theorem In8.sm {t : T3} (h : In8 t) : SmT t := by
  obtain ⟨h1, h2, h3⟩ := h
  exact ⟨by omega, by omega, h3⟩
theorem In8.edge {t : T3} (h : In8 t) {i : Nat} (hi : i < 3) : IsE (eT t i) := by
  obtain ⟨h1, h2, h3⟩ := h
  obtain ⟨x, y, e⟩ := k4_cases h3
  rcases i3_cases hi with rfl | rfl | rfl <;> rcases e with rfl | rfl | rfl | rfl <;> simp only [e00, e01, e02, e10, e11, e12, e20, e21, e22, e30, e31, e32] at h1 h2 ⊢ <;> constructor <;> simp only <;> first | omega | (simp; done) | (simp; omega)
theorem lnW_rng (e : E4) : 0 ≤ lnW e ∧ lnW e ≤ 3 := by
  unfold lnW
  (repeat' split) <;> omega
theorem lnC_bd {e : E4} (h : IsE e) : -80 ≤ lnC e ∧ lnC e ≤ 80 := by
  unfold lnC
  exact valB_bd (M := 40) h.b0.1 h.b0.2 h.b1.1 h.b1.2
def valP (j : Nat) (e : E4) : Int := valB j e.1 e.2.1
def valQ (j : Nat) (e : E4) : Int := valB j e.2.2.1 e.2.2.2
theorem v0 (x y : Int) : valB ((0 : Nat) : Int) x y = x := by simp [valB]
theorem v1 (x y : Int) : valB ((1 : Nat) : Int) x y = y := by simp [valB]
theorem v2 (x y : Int) : valB ((2 : Nat) : Int) x y = x + y := by simp [valB]
theorem v3 (x y : Int) : valB ((3 : Nat) : Int) x y = x - y := by simp [valB]
theorem ln_at {e : E4} {j : Nat} (hj : j < 4) (hn : ∀ i, i < j → valP i e ≠ valQ i e) (he : valP j e = valQ j e) : lnW e = j ∧ lnC e = valP j e := by
  have key : lnW e = j := by
    have h4 : j = 0 ∨ j = 1 ∨ j = 2 ∨ j = 3 := by omega
    unfold lnW
    rcases h4 with rfl | rfl | rfl | rfl
    · simp only [valP, valQ, v0] at he
      rw [if_pos he]; rfl
    · have h0 := hn 0 (by omega)
      simp only [valP, valQ, v0, v1] at he h0
      rw [if_neg h0, if_pos he]; rfl
    · have h0 := hn 0 (by omega)
      have h1 := hn 1 (by omega)
      simp only [valP, valQ, v0, v1, v2] at he h0 h1
      rw [if_neg h0, if_neg h1, if_pos he]; rfl
    · have h0 := hn 0 (by omega)
      have h1 := hn 1 (by omega)
      have h2 := hn 2 (by omega)
      simp only [valP, valQ, v0, v1, v2, v3] at he h0 h1 h2
      rw [if_neg h0, if_neg h1, if_neg h2]; rfl
  exact ⟨key, by unfold lnC valP; rw [key]⟩
theorem ln_more {e : E4} (h : IsE e) {j : Nat} (hj : j < 4) (hn : ∀ i, i < j → valP i e ≠ valQ i e) (he : valP j e ≠ valQ j e) : j < 3 := by
  apply Classical.byContradiction
  intro h3
  have e3 : j = 3 := by omega
  subst e3
  have h0 := hn 0 (by omega)
  have h1 := hn 1 (by omega)
  have h2 := hn 2 (by omega)
  simp only [valP, valQ, v0, v1, v2, v3] at he h0 h1 h2
  have := h.one
  omega
theorem valP_bd {e : E4} (h : IsE e) (j : Nat) : -80 ≤ valP j e ∧ valP j e ≤ 80 := valB_bd (M := 40) h.b0.1 h.b0.2 h.b1.1 h.b1.2
/-! ### handing on -/
def stpV (C : E4 → Bool) (e : E4) (m : V6) : V6 := if C e = true then m else afterV (mirB (lnW e) (lnC e)) m
def nbL (L : List T3) (i k : Nat) : Option Nat := match L[i]? with
  | some t => if nT t k ∈ L then some (L.idxOf (nT t k)) else none
  | none => none
def stpL (L : List T3) (C : E4 → Bool) (i k : Nat) (m : V6) : V6 := match L[i]? with
  | some t => stpV C (eT t k) m
  | none => m
theorem nbL_some {L : List T3} {i k : Nat} {t : T3} (ht : L[i]? = some t) (h : nT t k ∈ L) : nbL L i k = some (L.idxOf (nT t k)) := by
  unfold nbL
  rw [ht]
  simp [h]
theorem nbL_none {L : List T3} {i k : Nat} {t : T3} (ht : L[i]? = some t) (h : nT t k ∉ L) : nbL L i k = none := by
  unfold nbL
  rw [ht]
  simp [h]
theorem nbL_lt {L : List T3} {i k j : Nat} (h : nbL L i k = some j) : j < L.length := by
  unfold nbL at h
  split at h
  · split at h
    · cases h
      exact List.idxOf_lt_length_of_mem (by assumption)
    · cases h
  · cases h
theorem nbL_at {L : List T3} {i k j : Nat} {t : T3} (ht : L[i]? = some t) (h : nbL L i k = some j) : L[j]? = some (nT t k) := by
  unfold nbL at h
  rw [ht] at h
  simp only at h
  split at h
  · cases h
    rename_i hm
    rw [List.getElem?_eq_getElem (List.idxOf_lt_length_of_mem hm), List.getElem_idxOf]
  · cases h
theorem stpL_at {L : List T3} {C : E4 → Bool} {i k : Nat} {t : T3} (ht : L[i]? = some t) (m : V6) : stpL L C i k m = stpV C (eT t k) m := by
  unfold stpL
  rw [ht]
def GV (b : Nat) (m : V6) : Prop := GB m (160 * b)
theorem stpV_good {C : E4 → Bool} {e : E4} (he : IsE e) {b : Nat} {m : V6} (h : GV b m) : GV (b + 1) (stpV C e m) := by
  unfold GV at *
  unfold stpV
  split
  · exact h.mono (by omega)
  · have hc := lnC_bd he
    have hr := lnW_rng e
    have h1 := gb_mir hr.1 hr.2 hc.1 hc.2
    exact (gb_after h1 h).mono (by omega)
theorem GV.more {b : Nat} {m : V6} (h : GV b m) : GV (b + 1) m := h.mono (by omega)
theorem conn_of {L : List T3} (hnd : L.Nodup) (hl : ∀ t ∈ L, K4 t) (hj : joinB L = true) : Conn L.length (nbL L) := by
  cases L with
  | nil => intro S h0 hs i hi; simp at hi
  | cons a L0 =>
    intro S h0 hs
    have hall : (compL (a :: L0) (fun _ => true) a).length = (a :: L0).length := by
      simpa [joinB] using hj
    have hmem : ∀ t ∈ a :: L0, t ∈ compL (a :: L0) (fun _ => true) a := sub_of_len (by unfold compL; exact hnd.filter _) (fun x hx => by unfold compL at hx; exact (List.mem_filter.1 hx).1) hnd hall
    have key : ∀ t, Rch (a :: L0) (fun _ => true) a t → ∀ i, (a :: L0)[i]? = some t → S i := by
      intro t ht
      induction ht with
      | refl =>
        intro i hi
        have : i = 0 := by
          have h1 : (a :: L0)[0]? = some a := rfl
          have hlt := (List.getElem?_eq_some_iff.1 hi).1
          exact (List.getElem?_inj hlt hnd).1 (hi.trans h1.symm)
        rw [this]
        exact h0
      | step h1 hk hc hm ih =>
        rename_i u k
        intro i hi
        have hu : u ∈ a :: L0 := h1.mem List.mem_cons_self
        obtain ⟨j, hj, e⟩ := List.getElem_of_mem hu
        have hj' : (a :: L0)[j]? = some u := by rw [List.getElem?_eq_getElem hj, e]
        have hS := ih j hj'
        have hn := nbL_some hj' hm
        have h2 := hs j k _ hj hk hS hn
        have h3 := nbL_at hj' hn
        have hlt := (List.getElem?_eq_some_iff.1 hi).1
        have : i = (a :: L0).idxOf (nT u k) := (List.getElem?_inj hlt hnd).1 (hi.trans h3.symm)
        rw [this]
        exact h2
    intro i hi
    have ht : (a :: L0)[i]? = some (a :: L0)[i] := List.getElem?_eq_getElem hi
    exact key _ ((compL_mem List.mem_cons_self).1 (hmem _ (List.getElem_mem hi))) i ht
end Go.Proofs.YtoienokpchbglaaDoor
