/- slices.SortFunc over triangles. -/
import Derived.Test.YtoienokpchbglaaDoorCm2
import Derived.Test.YtoienokpchbglaaDoorSft
import Derived.Shelf.SlSortCmp.NoneTotal
namespace Go.Proofs.YtoienokpchbglaaDoor
set_option linter.unusedSimpArgs false
set_option linter.unusedVariables false
open Go.RowKit Go.Sort Go.Shelf

theorem heap_sw {α : Type} [Inhabited α] (enc : α → Value) {w : World} {g n : Nat} {os : Array Obj} {cur : Array Value} {e : TypeId} {fr : Nat × Nat} (d : Array α) (hb : w.heap[g]? = some (.cells cur e fr)) :
    (sortWorld enc w g 0 n d os).heap[g]? = some (.cells (putCells enc 0 d cur) e fr) := by
  unfold sortWorld
  have hg : g < w.heap.size := (Array.getElem?_eq_some_iff.1 hb).1
  rw [heap_grow_old _ _ (by simpa using hg)]
  simp [putRow, mapBlock, Sort.ahead, Array.getElem?_modify, hb, onCells]
theorem grownBy_sw {α : Type} [Inhabited α] (enc : α → Value) (w : World) (g n : Nat) (os : Array Obj) (d : Array α) : w.grownBy (sortWorld enc w g 0 n d os) (some g) := by
  unfold sortWorld
  refine ⟨rfl, rfl, rfl, by simp, fun k hk hne => ?_⟩
  rw [heap_grow_old _ _ (by simpa using hk)]
  have : g ≠ k := fun e => hne (by rw [e])
  simp [putRow, mapBlock, Sort.ahead, Array.getElem?_modify, this]
theorem holds_row {α : Type} [Inhabited α] {enc : α → Value} {w : World} {g : Nat} {cur : Array Value} {e : TypeId} {ss : List α} (hb : w.heap[g]? = some (.cells cur e (0, 0))) (ht : cur.toList.take ss.length = ss.map enc) : Holds enc w g 0 ss.toArray := by
  intro j hj
  have hj' : j < ss.length := by simpa using hj
  refine ⟨?_, by simp [World.frozen?, hb]⟩
  have h1 : (cur.toList.take ss.length)[j]? = (ss.map enc)[j]? := by rw [ht]
  rw [List.getElem?_take_of_lt hj'] at h1
  simp only [World.cell?, hb, Nat.zero_add]
  simp only [Option.isSome_none, Bool.false_eq_true, if_false]
  rw [← Array.getElem?_toList, h1]
  simp [hj']
theorem take_putR {α : Type} [Inhabited α] (enc : α → Value) (cur : Array Value) (ts : Array α) (h : ts.size ≤ cur.size) : (putCells enc 0 ts cur).toList.take ts.size = ts.toList.map enc := by
  apply List.ext_getElem?
  intro j
  by_cases hj : j < ts.size
  · rw [List.getElem?_take_of_lt hj, Array.getElem?_toList]
    simp [putCells, hj, show j < cur.size by omega]
  · rw [List.getElem?_take_eq_none (by omega), List.getElem?_eq_none (by simp; omega)]
def encT (t : T3) : List Value := [.int .i64 t.1, .int .i64 t.2.1, .int .i64 t.2.2]
theorem tcT_at : ∀ (l : List T3) (i j : Nat) (t : T3), l[i]? = some t → j < 3 → (tcT l)[3 * i + j]? = (encT t)[j]?
  | [], i, j, t, h, _ => by simp at h
  | a :: l, 0, j, t, h, hj => by
    simp at h
    subst h
    simp only [tcT, List.flatMap_cons, Nat.mul_zero, Nat.zero_add]
    rw [List.getElem?_append_left (by simpa using hj)]
    rfl
  | a :: l, i + 1, j, t, h, hj => by
    rw [List.getElem?_cons_succ] at h
    have ih := tcT_at l i j t h hj
    simp only [tcT, List.flatMap_cons] at ih ⊢
    rw [List.getElem?_append_right (by simp; omega)]
    simp only [List.length_cons, List.length_nil]
    rw [show 3 * (i + 1) + j - (0 + 1 + 1 + 1) = 3 * i + j by omega]
    exact ih
theorem flat_tcT (l : List T3) : flatK encT 3 l.toArray = (tcT l).toArray := by
  apply Array.ext_getElem?
  intro j
  by_cases hj : j < l.length * 3
  · have hd : j / 3 < l.length := by omega
    have h1 := tcT_at l (j / 3) (j % 3) (l[j / 3]) (List.getElem?_eq_getElem hd) (Nat.mod_lt _ (by decide))
    rw [show 3 * (j / 3) + j % 3 = j by omega] at h1
    have hs : j < (flatK encT 3 l.toArray).size := by simpa using hj
    have h2 := get_flatK encT 3 l.toArray j (by simpa using hj)
    rw [getElem!_pos (flatK encT 3 l.toArray) j hs, getElem!_pos l.toArray (j / 3) (by simpa using hd)] at h2
    rw [Array.getElem?_eq_getElem hs, h2, List.getElem?_toArray, h1]
    have h3 : j % 3 < 3 := Nat.mod_lt _ (by decide)
    have h4 : j % 3 = 0 ∨ j % 3 = 1 ∨ j % 3 = 2 := by omega
    simp only [List.getElem_toArray]
    rcases h4 with h4 | h4 | h4 <;> rw [h4] <;> rfl
  · rw [Array.getElem?_eq_none (by simp; omega), List.getElem?_toArray, List.getElem?_eq_none (by rw [tcT_len]; omega)]
theorem swoT : SWO (ltOf cmpT) where
  irrefl x := decide_eq_false (fun h => triLt_irrefl _ ((cmpT_lt _ _).1 h))
  trans x y z h1 h2 := decide_eq_true ((cmpT_lt _ _).2 (triLt_trans ((cmpT_lt _ _).1 (of_decide_eq_true h1)) ((cmpT_lt _ _).1 (of_decide_eq_true h2))))
  ntrans x y z h1 h2 := by
    have n1 : ¬ triLt x y := fun h => of_decide_eq_false h1 ((cmpT_lt _ _).2 h)
    have n2 : ¬ triLt y z := fun h => of_decide_eq_false h2 ((cmpT_lt _ _).2 h)
    refine decide_eq_false fun h => ?_
    have h3 := (cmpT_lt _ _).1 h
    unfold triLt at *
    omega
theorem totT (x y : T3) (h1 : ltOf cmpT x y = false) (h2 : ltOf cmpT y x = false) : x = y := by
  rcases triLt_tri x y with h | h | h
  · exact absurd ((cmpT_lt _ _).2 h) (of_decide_eq_false h1)
  · exact h
  · exact absurd ((cmpT_lt _ _).2 h) (of_decide_eq_false h2)
/-- the triangles in order -/
def srtT (l : List T3) : List T3 := l.mergeSort fun x y => !(ltOf cmpT) y x
theorem srtT_perm (l : List T3) : (srtT l).Perm l := List.mergeSort_perm _ _
theorem srtT_sorted {l : List T3} (h : l.Nodup) : (srtT l).Pairwise triLt := by
  have h1 := List.pairwise_mergeSort (le := fun x y : T3 => !(ltOf cmpT) y x) (fun a b c h1 h2 => by
    simp only [Bool.not_eq_true'] at h1 h2 ⊢
    exact swoT.ntrans _ _ _ h2 h1) (fun a b => by
    by_cases h : ltOf cmpT b a = true
    · have : ltOf cmpT a b = false := by
        refine decide_eq_false fun h2 => ?_
        exact triLt_irrefl _ (triLt_trans ((cmpT_lt _ _).1 (of_decide_eq_true h)) ((cmpT_lt _ _).1 h2))
      simp [this]
    · simp [h]) l
  have h2 : (srtT l).Nodup := (srtT_perm l).nodup_iff.2 h
  unfold srtT at h2 ⊢
  refine (h1.and h2).imp ?_
  rintro a b ⟨h3, h4⟩
  rcases triLt_tri a b with h5 | h5 | h5
  · exact h5
  · exact absurd h5 h4
  · have h6 : ltOf cmpT b a = true := decide_eq_true ((cmpT_lt _ _).2 h5)
    rw [h6] at h3
    cases h3
theorem cmpLaysT (w : World) (blk size : Nat) : CmpLays Tryd.prog 92 #[] encT 3 cmpT blk 0 size w := by
  intro m os dk _ x y
  refine (cmpTri_any x.1 x.2.1 x.2.2 y.1 y.2.1 y.2.2 _).mono ?_
  rintro e w' ⟨rfl, q, os', h⟩
  exact ⟨rfl, q, os', h⟩
theorem isAggT (w : World) : (isAgg 93).run Tryd.prog w = .ok true w := by kernel_rfl
theorem sizeT (w : World) : (Go.sizeOf 93).run Tryd.prog w = .ok 3 w := by kernel_rfl
set_option maxHeartbeats 1000000 in
theorem sortT_any (g cap n B : Nat) (l : List T3) (w : World) (hn : n = l.length) (hown : w.ownsRow B 93 3 (.slice (some ⟨g, 0, none⟩) n cap) n (tcT l)) (hb : n ≤ 1000000) :
    Calls Tryd.prog 91 #[.slice (some ⟨g, 0, none⟩) n cap, .func (.func 92) #[] #[]] w fun e w' =>
      e = .returned (.tuple #[]) ∧ w'.ownsRow B 93 3 (.slice (some ⟨g, 0, none⟩) n cap) n (tcT (srtT l)) ∧ w.grownBy w' (some g) := by
  subst hn
  rcases hown.2 with ⟨e, _⟩ | ⟨g', cap', cur, e, hB, hg, r1, r2, r3, r4⟩
  · cases e
  · cases e
    have hH : HoldsK encT 3 w g 0 l.toArray := by
      unfold HoldsK
      rw [flat_tcT]
      refine holds_row (enc := id) hg ?_
      rw [tcT_len, List.map_id]
      exact r4
    have hgl : g < w.heap.size := (Array.getElem?_eq_some_iff.1 hg).1
    have hc := AnyQ.slices_SortFunc_total sortT 3 isAggT sizeT encT (fun _ => rfl) (fun x v hv => tri_one _ _ _ v hv) cmpT swoT 92 #[] g 0 cap l.toArray w (enters_of Tryd.func92 (by kernel_rfl) rfl) (cmpLaysT w g l.toArray.size) hH hgl (by simp; omega) totT
    refine hc.mono ?_
    rintro e w' ⟨rfl, q, os, rfl⟩
    have hw : sortWorldK encT 3 w g 0 q (srtT l).toArray os = sortWorld id w g 0 q (tcT (srtT l)).toArray os := by
      rw [← flat_tcT]
      rfl
    have hlen : (srtT l).length = l.length := (srtT_perm l).length_eq
    have h2 : (l.toArray.toList.mergeSort fun x y => !(ltOf cmpT) y x) = srtT l := rfl
    rw [h2, hw]
    refine ⟨rfl, ⟨by rw [tcT_len, hlen], .inr ⟨g, cap, _, rfl, hB, heap_sw id _ hg, r1, r2, by simp [putCells, r3], ?_⟩⟩, grownBy_sw id w g q os _⟩
    have := take_putR id cur (tcT (srtT l)).toArray (by simp [tcT_len, hlen]; rw [r3]; exact Nat.mul_le_mul_right 3 r1)
    simp only [List.size_toArray, tcT_len, hlen, List.map_id] at this
    exact this
end Go.Proofs.YtoienokpchbglaaDoor
