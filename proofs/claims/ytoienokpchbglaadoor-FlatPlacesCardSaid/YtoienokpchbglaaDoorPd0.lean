/- The document's PlaceAll: words for its memory. -/
import Derived.Test.YtoienokpchbglaaDoorPf
import Derived.Test.YtoienokpchbglaaDoorGrp
namespace Go.Proofs.YtoienokpchbglaaDoor
set_option linter.unusedSimpArgs false
set_option linter.unusedVariables false
open Go.RowKit Go.Maps

def bcs (f : List Bool) : List Value := f.map .bool
theorem bcs_at {f : List Bool} {i : Nat} {b : Bool} (h : f[i]? = some b) : (bcs f)[i]? = some (.bool b) := by simp [bcs, h]
def BB (w : World) (gk : Nat) (f : List Bool) : Prop := w.heap[gk]? = some (.cells (bcs f).toArray 4 (0, 0))
theorem BB.below {w w' : World} {gk : Nat} {f : List Bool} (h : BB w gk f) (hb : Below w.heap.size w w') : BB w' gk f := blk_below h hb (blk_lt h)
theorem BB.at_ {w : World} {gk i : Nat} {f : List Bool} {b : Bool} (h : BB w gk f) (hi : f[i]? = some b) : w.cell? ⟨gk, i, none⟩ = some (.bool b) := by
  have h' : w.heap[gk]? = _ := h
  rw [cell_of_blk h' i, List.getElem?_toArray]
  exact bcs_at hi
theorem BB.fz {w : World} {gk : Nat} {f : List Bool} (h : BB w gk f) (i : Nat) : w.frozen? ⟨gk, i, none⟩ = false := frozen_of_blk (show w.heap[gk]? = _ from h) i
theorem BB.set {w : World} {gk : Nat} {f : List Bool} (h : BB w gk f) (i : Nat) (b : Bool) : BB (w.setCell ⟨gk, i, none⟩ (.bool b)) gk (f.set i b) := by
  have h' : w.heap[gk]? = _ := h
  have h2 := blk_set h' i (.bool b)
  unfold BB
  rw [h2]
  congr 1
  congr 1
  apply Array.toList_inj.1
  simp [bcs, List.map_set]
theorem bool_info : (Tryd.prog.info? 4).map (fun i => (i.zero, i.size, i.bytes)) = some (some (.bool false), 1, 1) := by kernel_rfl
theorem make_bools (n : Nat) (hn : n ≤ 1000) (w : World) : (Instr.makeSlice 112 (.int .i64 (n : Int)) (.int .i64 (n : Int))).run Tryd.prog w = .ok (.slice (some ⟨w.heap.size, 0, none⟩) n n) (w.alloc (.cells (bcs (List.replicate n false)).toArray 4)) := by
  obtain ⟨i0, hi, hz0, hz1, hz2⟩ := info_parts bool_info
  have := run_makeSlice (P := Tryd.prog) w 112 4 i0 (.bool false) Tryd.underlying112 hi hz0 .i64 .i64 n n (by omega) (Int.le_refl _) (by rw [hz1]; simp; omega) (by rw [hz2]; omega) (by omega)
  rw [this, hz1]
  have e : madeCells #[Value.bool false] n = (bcs (List.replicate n false)).toArray := by
    apply Array.toList_inj.1
    rw [toList_madeCells_one]
    simp [bcs]
  simp [Value.cells, e]
theorem far_type {w : World} {a b : Nat} {ca cb : Array Value} {ta tb : TypeId} (ha : w.heap[a]? = some (.cells ca ta (0, 0))) (hb : w.heap[b]? = some (.cells cb tb (0, 0))) (hne : ta ≠ tb) : a ≠ b := by
  intro e
  subst e
  rw [ha] at hb
  simp only [Option.some.injEq, Obj.cells.injEq] at hb
  exact hne hb.2.1
structure PdS (w2 : World) (L : List T3) (C : E4 → Bool) (go gk : Nat) (K : Nat → Prop) (l : List V6) (f : List Bool) (i k : Nat) (wr : World) : Prop where
  inv : RdI L.length (nbL L) (stpL L C) stillV GV K l f i k
  row : LB wr go l
  kno : BB wr gk f
  bel : Below w2.heap.size w2 wr
  go : w2.heap.size ≤ go
  gk : w2.heap.size ≤ gk
section
variable {w2 wr w' : World} {L : List T3} {C : E4 → Bool} {go gk : Nat} {K : Nat → Prop} {l : List V6} {f : List Bool} {i k : Nat}
theorem PdS.below (h : PdS w2 L C go gk K l f i k wr) (hb : Below wr.heap.size wr w') : PdS w2 L C go gk K l f i k w' := ⟨h.inv, h.row.below hb, h.kno.below hb, stay_b h.bel hb, h.go, h.gk⟩
theorem PdS.re (h : PdS w2 L C go gk K l f i k wr) {K' : Nat → Prop} {i' k' : Nat} (hi : RdI L.length (nbL L) (stpL L C) stillV GV K' l f i' k') : PdS w2 L C go gk K' l f i' k' wr := ⟨hi, h.row, h.kno, h.bel, h.go, h.gk⟩
theorem PdS.box6 (h : PdS w2 L C go gk K l f i k wr) {b : Nat} {cs : Array Value} (hk : wr.heap[b]? = some (.cells cs 59 (0, 0))) (hne : b ≠ go) (hb : w2.heap.size ≤ b) (m : V6) : PdS w2 L C go gk K l f i k (set6 wr b 0 m) :=
  ⟨h.inv, (set6_far (Ne.symm hne)).trans h.row, (set6_far (far_type h.kno hk (by decide))).trans h.kno, set6_below2 h.bel hb 0 m, h.go, h.gk⟩
theorem PdS.put (h : PdS w2 L C go gk K l f i k wr) (j : Nat) (m : V6) {k' : Nat} (hi : RdI L.length (nbL L) (stpL L C) stillV GV K (l.set j m) (f.set j true) i k') :
    PdS w2 L C go gk K (l.set j m) (f.set j true) i k' ((set6 wr go j m).setCell ⟨gk, j, none⟩ (.bool true)) := by
  have hgg : go ≠ gk := far_type h.row h.kno (by decide)
  have h1 := h.row.set j m
  have h2 : BB (set6 wr go j m) gk f := (set6_far (Ne.symm hgg)).trans h.kno
  refine ⟨hi, ?_, h2.set j true, (set6_below2 h.bel h.go j m).setCell (p := ⟨gk, j, none⟩) h.gk _, h.go, h.gk⟩
  exact (Below.heap_setCell _ _ _ _ (by simpa using hgg)).trans h1
end
theorem EdB.put {wr : World} {ge go gk j : Nat} {t : T3} {l : List V6} {f : List Bool} {m : V6} (h : EdB wr ge t) (hr : LB wr go l) (hk : BB wr gk f) : EdB ((set6 wr go j m).setCell ⟨gk, j, none⟩ (.bool true)) ge t := by
  have h1 : ge ≠ go := far_type h hr (by decide)
  have h2 : ge ≠ gk := far_type h hk (by decide)
  exact (Below.heap_setCell _ _ _ _ (by simpa using h2)).trans ((set6_far h1).trans h)
theorem EdB.box6 {wr : World} {ge b : Nat} {t : T3} {cs : Array Value} (h : EdB wr ge t) (hk : wr.heap[b]? = some (.cells cs 59 (0, 0))) (m : V6) : EdB (set6 wr b 0 m) ge t := (set6_far (far_type h hk (by decide))).trans h
end Go.Proofs.YtoienokpchbglaaDoor
