/- A row of numbers in a block of its own; Insert puts one more in. -/
import Derived.Test.YtjikhdnlcoohbaaCp1
import Derived.Test.YtjikhdnlcoohbaaSi
namespace Go.Proofs.Ytjikhdnlcoohbaa
set_option linter.unusedSimpArgs false
set_option linter.unusedVariables false
open Go.RowKit St

/-- Block g holds a row of n numbers, with room up to c. -/
def IRow (w : World) (g n c : Nat) (o : List Int) : Prop :=
  o.length = n ∧ n ≤ c ∧ c ≤ maxLen ∧ ∃ cur : Array Value, w.heap[g]? = some (.cells cur 3 (0, 0)) ∧ cur.size = c ∧ cur.toList.take n = vis o
theorem IRow.rd {w : World} {g n c : Nat} {o : List Int} (h : IRow w g n c o) : Rd w 1 (some ⟨g, 0, none⟩) n (vis o) := by
  obtain ⟨h1, h2, h3, cur, h4, h5, h6⟩ := h
  refine ⟨by simp [h1], fun _ => ⟨g, 0, rfl, blk_lt h4, fun j u hu => ?_⟩⟩
  rw [Nat.zero_add, cell_of_blk h4 j]
  have hj : j < n := by
    have := (List.getElem?_eq_some_iff.1 hu).1
    simpa [h1] using this
  have : (cur.toList.take n)[j]? = some u := by rw [h6]; exact hu
  rw [List.getElem?_take_of_lt hj] at this
  simpa using this
theorem IRow.of_own {w : World} {base n : Nat} {v : Value} {o : List Int} (h : w.ownsRow base 3 1 v n (vis o)) (hn : 0 < n) : ∃ g c, v = .slice (some ⟨g, 0, none⟩) n c ∧ base ≤ g ∧ IRow w g n c o := by
  have hl : o.length = n := by simpa using h.1
  rcases h.2 with ⟨_, h0⟩ | ⟨g, cap, cur, rfl, h1, h2, h3, h4, h5, h6⟩
  · omega
  · exact ⟨g, cap, rfl, h1, hl, h3, h4, cur, h2, by simpa using h5, by simpa using h6⟩
theorem blk_setCells {g : Nat} {t : TypeId} : ∀ (vs : List Value) (k : Nat) (w : World) (cur : Array Value), w.heap[g]? = some (.cells cur t (0, 0)) →
    ∃ cur' : Array Value, (w.setCells g k vs).heap[g]? = some (.cells cur' t (0, 0)) ∧ cur'.size = cur.size ∧ ∀ j, j < cur.size → cur'[j]? = if k ≤ j ∧ j < k + vs.length then vs[j - k]? else cur[j]?
  | [], k, w, cur, h => ⟨cur, h, rfl, fun j _ => by rw [if_neg (by simp)]⟩
  | v :: vs, k, w, cur, h => by
    obtain ⟨cur', h1, h2, h3⟩ := blk_setCells (g := g) (t := t) vs (k + 1) (w.setCell ⟨g, k, none⟩ v) _ (blk_set h k v)
    refine ⟨cur', h1, by rw [h2]; simp, fun j hj => ?_⟩
    rw [h3 j (by simpa using hj)]
    by_cases hk : j = k
    · subst hk
      rw [if_neg (by omega), if_pos (by simp)]
      simp [hj]
    · by_cases hin : k + 1 ≤ j ∧ j < k + 1 + vs.length
      · rw [if_pos hin, if_pos (by simp; omega)]
        obtain ⟨m, hm⟩ : ∃ m, j - k = m + 1 := ⟨j - k - 1, by omega⟩
        rw [hm, List.getElem?_cons_succ]
        congr 1
        omega
      · rw [if_neg hin, if_neg (by simp; omega), Array.getElem?_setIfInBounds_ne (by omega)]
theorem below_setC {B g : Nat} {a : World} (hg : B ≤ g) : ∀ (vs : List Value) (k : Nat) (w : World), Below B a w → Below B a (w.setCells g k vs)
  | [], _, _, h => h
  | v :: vs, k, w, h => below_setC hg vs (k + 1) _ (h.setCell hg _)
theorem ins_at {o : List Int} {n i : Nat} {z : Int} (hl : o.length = n) (hi : i ≤ n) (j : Nat) : (o.insertIdx i z)[j]? = if j < i then o[j]? else if j = i then some z else o[j - 1]? := by
  rw [List.getElem?_insertIdx]
  by_cases h1 : j < i
  · rw [if_pos h1, if_pos h1]
  · rw [if_neg h1, if_neg h1]
    by_cases h2 : j = i
    · rw [if_pos h2, if_pos h2, if_pos (by omega)]
    · rw [if_neg h2, if_neg h2]
theorem own_irow {w : World} {g n c : Nat} {o : List Int} (hl : o.length = n) (hc : n ≤ c) (hm : c ≤ maxLen) {cur : Array Value} (hb : w.heap[g]? = some (.cells cur 3 (0, 0))) (hs : cur.size = c) (hr : ∀ j z, o[j]? = some z → w.cell? ⟨g, j, none⟩ = some (.int .i64 z)) : IRow w g n c o := by
  refine ⟨hl, hc, hm, cur, hb, hs, ?_⟩
  apply List.ext_getElem?
  intro j
  by_cases hj : j < n
  · rw [List.getElem?_take_of_lt hj]
    obtain ⟨z, hz⟩ : ∃ z, o[j]? = some z := ⟨_, List.getElem?_eq_getElem (by omega)⟩
    have := hr j z hz
    rw [cell_of_blk hb j] at this
    simp [hz, this]
  · rw [List.getElem?_eq_none (by simp; omega), List.getElem?_eq_none (by simp; omega)]
end Go.Proofs.Ytjikhdnlcoohbaa
