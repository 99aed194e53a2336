/- Orders of stamps: how many there are. -/
import Derived.Test.YtjikhdnlcoohbaaSt0
namespace Go.Proofs.Ytjikhdnlcoohbaa.St
set_option linter.unusedSimpArgs false
set_option linter.unusedVariables false
/-! ### how many orders there are -/
def btwN (x a b : Nat) : Bool := (Nat.blt a x && Nat.blt x b) || (Nat.blt b x && Nat.blt x a)
def laterN (a b : Nat) : List Nat → Bool
  | c :: d :: t => (btwN c a b == btwN d a b) && laterN a b t
  | _ => true
def chkN : List Nat → Bool
  | a :: b :: t => laterN a b t && chkN (b :: t)
  | _ => true
def upN (up : Nat) (x : Nat) : Nat := cond (Nat.blt x up) x (x + 1)
def cntN : Nat → List Nat → Nat
  | 0, _ => 1
  | r + 1, h => ((List.range (h.length + 1)).map fun up => cond (chkN (h.map (upN up) ++ [up])) (cntN r (h.map (upN up) ++ [up])) 0).sum
def hN (o : List Int) : List Nat := (List.range o.length).map fun (i : Nat) => idx o ((i : Int) + 1)
theorem hN_len (o : List Int) : (hN o).length = o.length := by simp [hN]
theorem hN_at {o : List Int} {i : Nat} (hi : i < o.length) : (hN o).getD i 0 = idx o ((i : Int) + 1) := by
  unfold hN
  rw [List.getD_eq_getElem?_getD, List.getElem?_map, List.getElem?_range hi]
  rfl
theorem btwN_eq (x a b : Nat) : btwN x a b = btw x a b := by
  rw [Bool.eq_iff_iff]
  simp [btwN, btw, Nat.blt_eq]
theorem later_iff (a b : Nat) : ∀ (n : Nat) (t : List Nat), t.length ≤ n → (laterN a b t = true ↔ ∀ m, 2 * m + 1 < t.length → btwN (t.getD (2 * m) 0) a b = btwN (t.getD (2 * m + 1) 0) a b)
  | _, [], _ => by simp [laterN]
  | _, [c], _ => by
    simp [laterN]
  | n + 1, c :: d :: t, h => by
    rw [laterN, Bool.and_eq_true, later_iff a b n t (by simp at h; omega), beq_iff_eq]
    constructor
    · rintro ⟨h1, h2⟩ m hm
      cases m with
      | zero => simpa using h1
      | succ m =>
        have := h2 m (by simp at hm; omega)
        simpa [show 2 * (m + 1) = 2 * m + 1 + 1 by omega] using this
    · intro h1
      refine ⟨by simpa using h1 0 (by simp), fun m hm => ?_⟩
      have := h1 (m + 1) (by simp; omega)
      simpa [show 2 * (m + 1) = 2 * m + 1 + 1 by omega] using this
theorem chk_iff : ∀ l : List Nat, chkN l = true ↔ ∀ i k, 0 < i → i < k → k < l.length → i % 2 = k % 2 → btwN (l.getD (k - 1) 0) (l.getD (i - 1) 0) (l.getD i 0) = btwN (l.getD k 0) (l.getD (i - 1) 0) (l.getD i 0)
  | [] => by simp [chkN]
  | [a] => by
    simp only [chkN, true_iff]
    intro i k h1 h2 h3
    simp at h3
    omega
  | a :: b :: t => by
    rw [chkN, Bool.and_eq_true, later_iff a b _ t (Nat.le_refl _), chk_iff (b :: t)]
    constructor
    · rintro ⟨h1, h2⟩ i k hi hk hl hp
      by_cases h : i = 1
      · subst h
        obtain ⟨m, rfl⟩ : ∃ m, k = 2 * m + 1 + 1 + 1 := ⟨(k - 3) / 2, by omega⟩
        have := h1 m (by simp at hl; omega)
        simpa using this
      · obtain ⟨i, rfl⟩ : ∃ j, i = j + 1 + 1 := ⟨i - 2, by omega⟩
        obtain ⟨k, rfl⟩ : ∃ j, k = j + 1 + 1 := ⟨k - 2, by omega⟩
        have := h2 (i + 1) (k + 1) (by omega) (by omega) (by simp at hl ⊢; omega) (by omega)
        simpa using this
    · intro h
      refine ⟨fun m hm => ?_, fun i k hi hk hl hp => ?_⟩
      · have := h 1 (2 * m + 1 + 1 + 1) (by omega) (by omega) (by simp; omega) (by omega)
        simpa using this
      · obtain ⟨i, rfl⟩ : ∃ j, i = j + 1 := ⟨i - 1, by omega⟩
        obtain ⟨k, rfl⟩ : ∃ j, k = j + 1 := ⟨k - 1, by omega⟩
        have := h (i + 1 + 1) (k + 1 + 1) (by omega) (by omega) (by simp at hl ⊢; omega) (by omega)
        simpa using this
theorem goodR_iff {h : Nat → Int} {n : Nat} : goodR h n = true ↔ ∀ i k, 0 < i → i < k → k < n → i % 2 = k % 2 → pairOk h i k = true := by
  unfold goodR
  simp only [List.all_eq_true, List.mem_range, Bool.or_eq_true, Bool.not_eq_true', decide_eq_false_iff_not]
  constructor
  · intro h1 i k hi hk hn hp
    rcases h1 i (by omega) k hn with h2 | h2
    · exact absurd ⟨hi, hk, hp⟩ h2
    · exact h2
  · intro h1 i hi k hk
    by_cases hc : 0 < i ∧ i < k ∧ i % 2 = k % 2
    · exact .inr (h1 i k hc.1 hc.2.1 hk hc.2.2)
    · exact .inl hc
theorem ordG_chk (o : List Int) : ordG o = chkN (hN o) := by
  rw [Bool.eq_iff_iff, chk_iff]
  unfold ordG
  rw [goodR_iff, hN_len]
  constructor <;> intro h i k hi hk hl hp <;> have := h i k hi hk hl hp <;> unfold pairOk at * <;> simp only [beq_iff_eq, btwN_eq] at * <;> rw [hN_at (by omega), hN_at (by omega), hN_at (by omega), hN_at (by omega)] at * <;> rw [hs_fn (by omega), hs_fn (by omega), hs_fn (by omega), hs_fn (by omega)] at * <;> exact this
theorem insert_idx2 {l : List Int} {a b : Int} (hab : a ≠ b) (hb : b ∈ l) {up : Nat} (hu : up ≤ l.length) : idx (l.insertIdx up a) b = upN up (idx l b) := by
  have upS : ∀ u x, upN (u + 1) (x + 1) = upN u x + 1 := by
    intro u x
    unfold upN
    by_cases h : x < u
    · have h1 : Nat.blt x u = true := by rw [Nat.blt_eq]; exact h
      have h2 : Nat.blt (x + 1) (u + 1) = true := by rw [Nat.blt_eq]; omega
      rw [h1, h2]
      rfl
    · have h1 : Nat.blt x u = false := by rw [Bool.eq_false_iff]; simpa [Nat.blt_eq] using h
      have h2 : Nat.blt (x + 1) (u + 1) = false := by rw [Bool.eq_false_iff]; simp [Nat.blt_eq]; omega
      rw [h1, h2]
      rfl
  induction l generalizing up with
  | nil => simp at hb
  | cons c l ih =>
    cases up with
    | zero =>
      rw [List.insertIdx_zero, idx_cons, if_neg hab]
      rfl
    | succ up =>
      rw [List.insertIdx_succ_cons, idx_cons, idx_cons]
      by_cases hc : c = b
      · rw [if_pos hc, if_pos hc]
        rfl
      · rw [if_neg hc, if_neg hc, ih (by rcases List.mem_cons.1 hb with h | h
                                         · exact absurd h.symm hc
                                         · exact h) (by simpa using hu), upS]
theorem hN_insert {o : List Int} {k up : Nat} (h : o.Perm (upto k)) (hu : up ≤ k) : hN (o.insertIdx up ((k : Int) + 1)) = (hN o).map (upN up) ++ [up] := by
  have hl := (perm_self h).1
  have hno : ((k : Int) + 1) ∉ o := fun h' => by have := upto_mem.1 (h.mem_iff.1 h'); omega
  have hp := insert_perm h hu
  have hl2 := (perm_self hp).1
  unfold hN
  rw [hl2, hl, List.range_succ, List.map_append, List.map_map]
  congr 1
  · apply List.map_congr_left
    intro i hi
    have hi := List.mem_range.1 hi
    exact insert_idx2 (by omega) (h.mem_iff.2 (upto_mem.2 (by omega))) (by omega)
  · simp [insert_idx hno (show up ≤ o.length by omega)]
theorem grow_cnt : ∀ (r : Nat) (o : List Int), o.Perm (upto o.length) → (growL r o).length = cntN r (hN o)
  | 0, o, _ => rfl
  | r + 1, o, hp => by
    rw [growL, cntN, List.length_flatMap, hN_len]
    congr 1
    apply List.map_congr_left
    intro up hup
    have hup := List.mem_range.1 hup
    have h2 := insert_perm (up := up) hp (by omega)
    have h3 := hN_insert (up := up) hp (by omega)
    rw [goodO_eq (perm_self h2).2, ordG_chk, h3]
    cases hc : chkN ((hN o).map (upN up) ++ [up]) with
    | false => simp
    | true =>
      rw [if_pos rfl, grow_cnt r _ (perm_self h2).2, h3]
      rfl
theorem counts (n : Nat) (h0 : 0 < n) (h8 : n ≤ 8) : (growL (n - 1) [1]).length = [1, 2, 6, 16, 50, 144, 462, 1392].getD (n - 1) 0 := by
  have hp1 : ([1] : List Int).Perm (upto ([1] : List Int).length) := by
    have : upto ([1] : List Int).length = [1] := by decide
    rw [this]
  rw [grow_cnt _ _ hp1, show hN [1] = [0] by decide]
  have h : n = 1 ∨ n = 2 ∨ n = 3 ∨ n = 4 ∨ n = 5 ∨ n = 6 ∨ n = 7 ∨ n = 8 := by omega
  rcases h with rfl | rfl | rfl | rfl | rfl | rfl | rfl | rfl <;> decide +kernel
end Go.Proofs.Ytjikhdnlcoohbaa.St
