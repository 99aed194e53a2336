/- Edges and maps that come in, opened: four ints, six ints. -/
import Derived.Test.YthfhkmgegkhljaaDoorChecked
import Derived.WalkKit
import Derived.ProofKit
import Derived.OpenShut
import Derived.Lib.SmallJoins
namespace Go.Proofs.YthfhkmgegkhljaaDoor
open Go.ChangeShapes Go.WideShapes Go.ChangeAt Go.RowKit Go.Joins

theorem array6 {α : Type} {cs : Array α} (h : cs.size = 6) : ∃ c0 c1 c2 c3 c4 c5, cs = #[c0, c1, c2, c3, c4, c5] := by
  obtain ⟨l⟩ := cs
  match l, h with
  | [c0, c1, c2, c3, c4, c5], _ => exact ⟨c0, c1, c2, c3, c4, c5, rfl⟩

section
variable {H : Type} {enc : TypeId × Value → H} {w : World} {base : Nat} {spare : Nat → Bool} {held : Bool}
theorem int_cell {m : Nat} {c : Value} {y : DataW H × List MemPlace} (h : DataW.trod enc Tryd.prog w base spare held m 3 [c] = some y) : ∃ a, c = .int .i64 a ∧ (Lit.int .i64 a).wf = true := by
  obtain ⟨a, e, _, wf⟩ := DataW.trod_int Tryd.underlying3 h
  simp only [List.cons.injEq, and_true] at e
  exact ⟨a, e, wf⟩
set_option maxRecDepth 100000 in
theorem point_cells {m : Nat} {c0 c1 : Value} {y : DataW H × List MemPlace} (h : DataW.trod enc Tryd.prog w base spare held m 25 [c0, c1] = some y) :
    ∃ a b, c0 = .int .i64 a ∧ c1 = .int .i64 b ∧ (Lit.int .i64 a).wf = true ∧ (Lit.int .i64 b).wf = true := by
  obtain ⟨xs, n, _, _, _, _, hf⟩ := DataW.trod_struct Tryd.underlying25 h
  have e : Tryd.prog.cellsOf 3 = 1 := by kernel_rfl
  have h0 := hf 0 _ rfl
  have h1 := hf 1 _ rfl
  simp only [List.getElem_toArray, List.getElem_cons_zero, List.getElem_cons_succ] at h0 h1
  rw [e] at h0 h1
  simp only [List.drop_zero, List.drop_succ_cons, List.take_succ_cons, List.take_zero] at h0 h1
  have hl : xs.length = 2 := by assumption
  obtain ⟨a, rfl, wa⟩ := int_cell (h0.trans (List.getElem?_eq_getElem (by omega)))
  obtain ⟨b, rfl, wb⟩ := int_cell (h1.trans (List.getElem?_eq_getElem (by omega)))
  exact ⟨a, b, rfl, rfl, wa, wb⟩
set_option maxRecDepth 100000 in
theorem open_edge {r : Reach} {b0 : Nat} {v : Value} {d : DataW H} {p : List MemPlace} (hv : Value.okWide Tryd.prog w r b0 27 v) (h : DataW.Trod enc Tryd.prog w base spare held 27 v d p) :
    ∃ a b c e : Int, v = .agg #[.int .i64 a, .int .i64 b, .int .i64 c, .int .i64 e] := by
  obtain ⟨cs, rfl, hsz⟩ := okWide_struct Tryd.underlying27 hv
  obtain ⟨c0, c1, c2, c3, rfl⟩ := array4 (hsz.trans (show Tryd.prog.cellsOf 27 = 4 by kernel_rfl))
  obtain ⟨fuel, hf⟩ := h
  obtain ⟨xs, n, _, _, _, hl, hg⟩ := DataW.trod_struct Tryd.underlying27 hf
  have e : Tryd.prog.cellsOf 25 = 2 := by kernel_rfl
  have h0 := hg 0 _ rfl
  have h1 := hg 1 _ rfl
  simp only [List.getElem_toArray, List.getElem_cons_zero, List.getElem_cons_succ] at h0 h1
  rw [e] at h0 h1
  simp only [Value.cells, List.drop_zero, List.drop_succ_cons, List.take_succ_cons, List.take_zero] at h0 h1
  have hl : xs.length = 2 := by assumption
  obtain ⟨a, b, rfl, rfl, _⟩ := point_cells (h0.trans (List.getElem?_eq_getElem (by omega)))
  obtain ⟨c, e, rfl, rfl, _⟩ := point_cells (h1.trans (List.getElem?_eq_getElem (by omega)))
  exact ⟨a, b, c, e, rfl⟩
set_option maxRecDepth 100000 in
theorem open_map {r : Reach} {b0 : Nat} {v : Value} {d : DataW H} {p : List MemPlace} (hv : Value.okWide Tryd.prog w r b0 51 v) (h : DataW.Trod enc Tryd.prog w base spare held 51 v d p) :
    ∃ a b c e f g : Int, v = .agg #[.int .i64 a, .int .i64 b, .int .i64 c, .int .i64 e, .int .i64 f, .int .i64 g] := by
  obtain ⟨cs, rfl, hsz⟩ := okWide_struct Tryd.underlying51 hv
  obtain ⟨c0, c1, c2, c3, c4, c5, rfl⟩ := array6 (hsz.trans (show Tryd.prog.cellsOf 51 = 6 by kernel_rfl))
  obtain ⟨fuel, hf⟩ := h
  obtain ⟨xs, n, _, _, _, hl, hg⟩ := DataW.trod_struct Tryd.underlying51 hf
  have e : Tryd.prog.cellsOf 3 = 1 := by kernel_rfl
  have h0 := hg 0 _ rfl
  have h1 := hg 1 _ rfl
  have h2 := hg 2 _ rfl
  have h3 := hg 3 _ rfl
  have h4 := hg 4 _ rfl
  have h5 := hg 5 _ rfl
  simp only [List.getElem_toArray, List.getElem_cons_zero, List.getElem_cons_succ] at h0 h1 h2 h3 h4 h5
  rw [e] at h0 h1 h2 h3 h4 h5
  simp only [Value.cells, List.drop_zero, List.drop_succ_cons, List.take_succ_cons, List.take_zero] at h0 h1 h2 h3 h4 h5
  have hl : xs.length = 6 := by assumption
  obtain ⟨a, rfl, _⟩ := int_cell (h0.trans (List.getElem?_eq_getElem (by omega)))
  obtain ⟨b, rfl, _⟩ := int_cell (h1.trans (List.getElem?_eq_getElem (by omega)))
  obtain ⟨c, rfl, _⟩ := int_cell (h2.trans (List.getElem?_eq_getElem (by omega)))
  obtain ⟨e, rfl, _⟩ := int_cell (h3.trans (List.getElem?_eq_getElem (by omega)))
  obtain ⟨f, rfl, _⟩ := int_cell (h4.trans (List.getElem?_eq_getElem (by omega)))
  obtain ⟨g, rfl, _⟩ := int_cell (h5.trans (List.getElem?_eq_getElem (by omega)))
  exact ⟨a, b, c, e, f, g, rfl⟩
end
end Go.Proofs.YthfhkmgegkhljaaDoor
