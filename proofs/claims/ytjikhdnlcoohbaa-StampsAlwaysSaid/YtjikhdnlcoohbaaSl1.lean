/- AppendSeq of rows: all orders, one behind the other. -/
import Derived.Test.YtjikhdnlcoohbaaGw4
namespace Go.Proofs.Ytjikhdnlcoohbaa
set_option linter.unusedSimpArgs false
set_option linter.unusedVariables false
open Go.RowKit St
attribute [local go_sem] Oper.semAt_some

theorem slc_info : (Try.prog.info? 22).map (fun i => (i.zero, i.size, i.bytes)) = some (some (.slice none 0 0), 1, 24) := by kernel_rfl
/-- Slices that lead to rows of N numbers, which hold the lists. -/
def RowsG (W : World) (B N : Nat) (vals : List Value) (Ls : List (List Int)) : Prop :=
  vals.length = Ls.length ∧ ∀ (j : Nat) (L : List Int), Ls[j]? = some L → ∃ g c, vals[j]? = some (.slice (some ⟨g, 0, none⟩) N c) ∧ IRow W g N c L ∧ B ≤ g
theorem RowsG.keep {A C : World} {B N : Nat} {vals : List Value} {Ls : List (List Int)} (h : RowsG A B N vals Ls) (hk : ∀ (g : Nat) (cs : Array Value), A.heap[g]? = some (.cells cs 3 (0, 0)) → C.heap[g]? = some (.cells cs 3 (0, 0))) : RowsG C B N vals Ls :=
  ⟨h.1, fun j L hL => by
    obtain ⟨g, c, h1, ⟨a1, a2, a3, cur, a4, a5, a6⟩, h3⟩ := h.2 j L hL
    exact ⟨g, c, h1, ⟨a1, a2, a3, cur, hk _ _ a4, a5, a6⟩, h3⟩⟩
theorem RowsG.snoc {W : World} {B N g c : Nat} {vals : List Value} {Ls : List (List Int)} {L : List Int} (h : RowsG W B N vals Ls) (hI : IRow W g N c L) (hB : B ≤ g) : RowsG W B N (vals ++ [.slice (some ⟨g, 0, none⟩) N c]) (Ls ++ [L]) := by
  refine ⟨by simp [h.1], fun j L' hL => ?_⟩
  by_cases hj : j < Ls.length
  · rw [List.getElem?_append_left hj] at hL
    obtain ⟨g', c', h1, h2⟩ := h.2 j L' hL
    exact ⟨g', c', by rw [List.getElem?_append_left (by rw [h.1]; exact hj)]; exact h1, h2⟩
  · rw [List.getElem?_append_right (by omega)] at hL
    have hj2 := (List.getElem?_eq_some_iff.1 hL).1
    simp at hj2
    have : j = Ls.length := by omega
    subst this
    simp at hL
    subst hL
    exact ⟨g, c, by rw [List.getElem?_append_right (by rw [h.1]; exact Nat.le_refl _)]; simp [h.1], hI, hB⟩
theorem ints_put {W : World} {l : Nat} {o o' : Obj} (hl : W.heap[l]? = some o) (ho : o.isCells = false) : ∀ (g : Nat) (cs : Array Value), W.heap[g]? = some (.cells cs 3 (0, 0)) → (W.putObj l o').heap[g]? = some (.cells cs 3 (0, 0)) := fun g cs h => put_cells h hl ho
theorem ints_grown {w w' : World} {row : Option Nat} (hg : w.grownBy w' row) (hr : ∀ j, row = some j → ∃ cs, w.heap[j]? = some (.cells cs 22 (0, 0))) : ∀ (g : Nat) (cs : Array Value), w.heap[g]? = some (.cells cs 3 (0, 0)) → w'.heap[g]? = some (.cells cs 3 (0, 0)) := by
  intro g cs h
  refine (hg.block g (blk_lt h) ?_).trans h
  intro e
  obtain ⟨cs', h3⟩ := hr g e.symm
  rw [h] at h3
  simp at h3
theorem ints_set {w : World} {g0 i : Nat} {u : Value} {cs0 : Array Value} (h0 : w.heap[g0]? = some (.cells cs0 32 (0, 0))) : ∀ (g : Nat) (cs : Array Value), w.heap[g]? = some (.cells cs 3 (0, 0)) → (w.setCell ⟨g0, i, none⟩ u).heap[g]? = some (.cells cs 3 (0, 0)) := by
  intro g cs h
  refine blk_far h ?_ _
  rintro rfl
  rw [h] at h0
  simp at h0
end Go.Proofs.Ytjikhdnlcoohbaa
