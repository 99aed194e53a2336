/- The plain law of VertexCrimps. -/
import Derived.Test.YtcfeejlhhimpjaaCr12
namespace Go.Proofs.Ytcfeejlhhimpjaa
set_option linter.unusedSimpArgs false
set_option linter.unusedVariables false
open Go.RowKit Vx

/-- A smallest angle between two that are greater has a mountain and a valley at its sides. -/
theorem crimp_law {xs K : List Int} {n i : Nat} {L z z1 z2 k1 k2 : Int} (hl : xs.length = n) (hk : K.length = n) (hi : i < n) (hr : Ring xs) (hmin : ∀ x ∈ xs, L ≤ x)
    (h0 : xs[i]? = some L) (h1 : xs[(i + 1) % n]? = some z1) (h2 : xs[(i + n - 1) % n]? = some z2) (n1 : z1 ≠ L) (n2 : z2 ≠ L)
    (e1 : K[i]? = some k1) (e2 : K[(i + 1) % n]? = some k2) (hF : Fb (xs.zip K) = true) : k1 + k2 = 3 := by
  obtain ⟨Ra, c, Ea, Rk, kc, Ek, P⟩ := parts_of (ys := K) hl hk hi h0 (fun z hz => by rw [h2] at hz; rw [← Option.some.inj hz]; exact n2) hmin hr
  -- the run is one angle
  have hlr := rotL_len xs i (by omega)
  have hn2 : 2 ≤ n := by
    have := hr.even
    have := List.length_pos_iff.2 hr.ne
    omega
  have key : ∀ (l : List Int) (a b : Int), l.length = n → l[i]? = some a → l[(i + 1) % n]? = some b → ∃ T, rotL l i = a :: b :: T := by
    intro l a b hll ha hb
    obtain ⟨B, hB⟩ := rot_head ha
    have h3 : (rotL l i)[1]? = some b := by
      by_cases hlast : i + 1 < n
      · rw [Nat.mod_eq_of_lt hlast] at hb
        rw [rotL, List.getElem?_append_left (by simp; omega), List.getElem?_drop]
        exact hb
      · have : i + 1 = n := by omega
        rw [this, Nat.mod_self] at hb
        rw [rotL, List.getElem?_append_right (by simp; omega)]
        simp only [List.length_drop, hll]
        rw [show 1 - (n - i) = 0 by omega, List.getElem?_take_of_lt (by omega)]
        exact hb
    rw [hB] at h3 ⊢
    cases B with
    | nil => simp at h3
    | cons q T =>
      simp at h3
      exact ⟨T, by rw [h3]⟩
  obtain ⟨T, hT⟩ := key xs L z1 hl h0 h1
  obtain ⟨T', hT'⟩ := key K k1 k2 hk e1 e2
  have ha := P.a
  have hkk := P.k
  rw [hT] at ha
  rw [hT'] at hkk
  obtain ⟨r0, Ra', rfl⟩ : ∃ r0 Ra', Ra = r0 :: Ra' := by
    cases Ra with
    | nil => exact absurd rfl P.ne
    | cons r0 Ra' => exact ⟨r0, Ra', rfl⟩
  have hRa' : Ra' = [] := by
    cases Ra' with
    | nil => rfl
    | cons q Q =>
      simp at ha
      have := P.all q (by simp)
      rw [← ha.2.1] at this
      exact absurd this n1
  subst hRa'
  have hlk := P.lk
  obtain ⟨q, rfl⟩ : ∃ q, Rk = [q] := List.length_eq_one_iff.1 (by simpa using hlk)
  simp at hkk
  obtain ⟨rfl, rfl, _⟩ := hkk
  obtain ⟨l', hc, _⟩ := P.turn.1 (Fb_iff.1 hF)
  rcases close_inv hc with ⟨p, _⟩ | ⟨_, p, _⟩
  · simp at p
  · rw [P.sum] at p
    simp [ks, sg] at p
    omega
end Go.Proofs.Ytcfeejlhhimpjaa
