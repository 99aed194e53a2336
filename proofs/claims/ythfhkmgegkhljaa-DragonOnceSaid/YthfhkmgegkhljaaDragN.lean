/- The index at which the law marks a step. -/
import Derived.Test.YthfhkmgegkhljaaDragM
namespace Go.Proofs.Ythfhkmgegkhljaa

/-- The index of an upward or eastward step from a point. -/
def idxV (v : V2) (f : Int) : Int := 2 * ((v.1 + 128) * 2 * 128 + (v.2 + 128)) + f
def idxE (e : V2 × V2) : Int :=
  if e.2 = (1, 0) then idxV e.1 0 else if e.2 = (0, 1) then idxV e.1 1 else if e.2 = (-1, 0) then idxV (addV e.1 e.2) 0 else idxV (addV e.1 e.2) 1
def Near (p : V2) : Prop := (-115 ≤ p.1 ∧ p.1 ≤ 115) ∧ (-115 ≤ p.2 ∧ p.2 ≤ 115)
theorem idxV_inj {v u : V2} {f g : Int} (hv : Near v) (hu : Near u) (hf : f = 0 ∨ f = 1) (hg : g = 0 ∨ g = 1) (h : idxV v f = idxV u g) : v = u ∧ f = g := by
  unfold idxV at h
  obtain ⟨⟨a1, a2⟩, a3, a4⟩ := hv
  obtain ⟨⟨b1, b2⟩, b3, b4⟩ := hu
  have h1 : f = g := by omega
  subst h1
  have h2 : v.2 = u.2 := by omega
  have h3 : v.1 = u.1 := by omega
  exact ⟨Prod.ext h3 h2, rfl⟩
theorem idxV_bd {v : V2} {f : Int} (hv : Near v) (hf : f = 0 ∨ f = 1) : 0 ≤ idxV v f ∧ idxV v f < 131072 := by
  unfold idxV
  obtain ⟨⟨a1, a2⟩, a3, a4⟩ := hv
  omega
/-- The lower end of a step, and whether it goes up. -/
def lowE (e : V2 × V2) : V2 × Int :=
  if e.2 = (1, 0) then (e.1, 0) else if e.2 = (0, 1) then (e.1, 1) else if e.2 = (-1, 0) then (addV e.1 e.2, 0) else (addV e.1 e.2, 1)
theorem idxE_low (e : V2 × V2) : idxE e = idxV (lowE e).1 (lowE e).2 := by unfold idxE lowE; split <;> (try split) <;> (try split) <;> rfl
theorem lowE_flag (e : V2 × V2) : (lowE e).2 = 0 ∨ (lowE e).2 = 1 := by unfold lowE; split <;> (try split) <;> (try split) <;> simp
theorem lowE_near {e : V2 × V2} (h1 : Near e.1) (h2 : Near (addV e.1 e.2)) : Near (lowE e).1 := by unfold lowE; split <;> (try split) <;> (try split) <;> assumption
theorem oe_even {e : V2 × V2} (h : parity e.1 = 0) : oe e = e := by simp [oe, h]
theorem oe_odd {e : V2 × V2} (h : parity e.1 = 1) : oe e = (addV e.1 e.2, negV e.2) := by simp [oe, h]
theorem oe_rev {e : V2 × V2} (h : Fine e) : oe (addV e.1 e.2, negV e.2) = oe e := by
  have hp := parity_add (p := e.1) h
  rcases parity01 e.1 with h0 | h1
  · rw [oe_even h0, oe_odd (e := (addV e.1 e.2, negV e.2)) (by rw [hp, h0]; rfl)]
    simp only [add_neg, neg_neg']
  · rw [oe_odd h1, oe_even (e := (addV e.1 e.2, negV e.2)) (by rw [hp, h1]; rfl)]
/-- The upward or eastward one of a step's two directions. -/
def upE (f : Int) : V2 := if f = 0 then (1, 0) else (0, 1)
theorem lowE_oe {e : V2 × V2} (h : Fine e) : oe ((lowE e).1, upE (lowE e).2) = oe e := by
  obtain ⟨p, d⟩ := e
  have hr := oe_rev h
  unfold Fine Unit4 at h
  simp only at h
  rcases h with rfl | rfl | rfl | rfl
  · rfl
  · exact hr
  · rfl
  · exact hr
theorem lowE_inj {e f : V2 × V2} (he : Fine e) (hf : Fine f) (h : lowE e = lowE f) : oe e = oe f := by
  rw [← lowE_oe he, ← lowE_oe hf, h]
theorem idxE_inj {e f : V2 × V2} (he : Fine e) (hf : Fine f) (e1 : Near e.1) (e2 : Near (addV e.1 e.2)) (f1 : Near f.1) (f2 : Near (addV f.1 f.2)) (h : idxE e = idxE f) : oe e = oe f := by
  rw [idxE_low, idxE_low] at h
  have := idxV_inj (lowE_near e1 e2) (lowE_near f1 f2) (lowE_flag e) (lowE_flag f) h
  exact lowE_inj he hf (Prod.ext this.1 this.2)

/-- All that the law asks of the steps. -/
structure Steps4 (L : List (V2 × V2)) (m : Nat) : Prop where
  len : L.length = m
  fine : ∀ e ∈ L, Fine e ∧ Near e.1 ∧ Near (addV e.1 e.2)
  apart : ∀ (i j : Nat) (e f : V2 × V2), L[i]? = some e → L[j]? = some f → i < j → idxE e ≠ idxE f
theorem near_of {p : V2} (h : nrm p ≤ 13051) : Near p := nrm_comp (c := 115) (by decide) (by omega)
theorem dragon_steps {r : List Int} (h : Kinded r) (hl : r.length ≤ 10) : Steps4 (trail (0, 0) (1, 0) (dw r)) (2 ^ r.length) := by
  have hf : ∀ e ∈ trail (0, 0) (1, 0) (dw r), Fine e := trail_fine (dw r) _ _ unit10
  have hn : ∀ e ∈ trail (0, 0) (1, 0) (dw r), Near e.1 ∧ Near (addV e.1 e.2) := fun e he => by
    have h1 := dragon_far h hl e he
    have h2 := far2_le r.length
    exact ⟨near_of (by omega), near_of (by omega)⟩
  refine ⟨by rw [trail_len, dw_len], fun e he => ⟨hf e he, (hn e he).1, (hn e he).2⟩, ?_⟩
  intro i j e f hi hj hij heq
  have he := List.mem_of_getElem? hi
  have hf' := List.mem_of_getElem? hj
  have ho := idxE_inj (hf e he) (hf f hf') (hn e he).1 (hn e he).2 (hn f hf').1 (hn f hf').2 heq
  have hd := dragon_nodup h
  rw [List.pairwise_map, List.pairwise_iff_getElem] at hd
  obtain ⟨hi1, hi2⟩ := List.getElem?_eq_some_iff.1 hi
  obtain ⟨hj1, hj2⟩ := List.getElem?_eq_some_iff.1 hj
  have := hd i j hi1 hj1 hij
  rw [hi2, hj2] at this
  exact this ho
end Go.Proofs.Ythfhkmgegkhljaa
