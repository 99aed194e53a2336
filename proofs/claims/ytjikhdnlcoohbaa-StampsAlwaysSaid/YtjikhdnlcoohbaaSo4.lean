/- Rows lie still while slices of them are sorted. -/
import Derived.Test.YtjikhdnlcoohbaaCp2
import Derived.Sort.OwnSorted
import Derived.Lib.SlKeysI
namespace Go.Proofs.Ytjikhdnlcoohbaa
set_option linter.unusedSimpArgs false
set_option linter.unusedVariables false
open Go.RowKit Go.Sort Go.Shelf St
theorem heap_sw {α : Type} [Inhabited α] (enc : α → Value) {w : World} {g n : Nat} {os : Array Obj} {cur : Array Value} {e : TypeId} {fr : Nat × Nat} (d : Array α) (hb : w.heap[g]? = some (.cells cur e fr)) :
    (sortWorld enc w g 0 n d os).heap[g]? = some (.cells (putCells enc 0 d cur) e fr) := by
  unfold sortWorld
  have hg : g < w.heap.size := (Array.getElem?_eq_some_iff.1 hb).1
  rw [heap_grow_old _ _ (by simpa using hg)]
  simp [putRow, mapBlock, Sort.ahead, Array.getElem?_modify, hb, onCells]
theorem grownBy_sw {α : Type} [Inhabited α] (enc : α → Value) (w : World) (g n : Nat) (os : Array Obj) (d : Array α) : w.grownBy (sortWorld enc w g 0 n d os) (some g) := by
  unfold sortWorld
  refine ⟨rfl, rfl, rfl, by simp, fun k hk hne => ?_⟩
  rw [heap_grow_old _ _ (by simpa using hk)]
  have : g ≠ k := fun e => hne (by rw [e])
  simp [putRow, mapBlock, Sort.ahead, Array.getElem?_modify, this]
/-- Rows of numbers lie still while a slice of slices is sorted. -/
theorem ints_sw {α : Type} [Inhabited α] (enc : α → Value) {w : World} {g n : Nat} {os : Array Obj} (d : Array α) {cs0 : Array Value} (h0 : w.heap[g]? = some (.cells cs0 22 (0, 0))) : ∀ (k : Nat) (cs : Array Value), w.heap[k]? = some (.cells cs 3 (0, 0)) → (sortWorld enc w g 0 n d os).heap[k]? = some (.cells cs 3 (0, 0)) :=
  ints_grown (grownBy_sw enc w g n os d) (fun j hj => ⟨cs0, by cases hj; exact h0⟩)
end Go.Proofs.Ytjikhdnlcoohbaa
