/- Sheets that come in, opened.. -/
import Derived.Test.YtnndadhkedlohaaDoorK24
import Derived.ProofKit
import Derived.OpenShut
import Derived.Lib.SmallJoins
import Derived.SizedLaws
namespace Go.Proofs.YtnndadhkedlohaaDoor
set_option linter.unusedSimpArgs false
set_option linter.unusedVariables false
section
open Go.ChangeShapes Go.WideShapes Go.ChangeAt Go.RowKit Go.Joins
theorem add_add2 (a : Addr) (i j : Nat) : (a.add i).add j = a.add (i + j) := by
 obtain ⟨b, o, s⟩ := a
 by_cases hi : i = 0 <;> by_cases hj : j = 0 <;> cases s <;> simp [Addr.add, hi, hj, Nat.add_assoc]
section
variable {H : Type} {enc : TypeId × Value → H} {w : World} {base : Nat} {spare : Nat → Bool} {held : Bool}
theorem int_cell {m : Nat} {c : Value} {y : DataW H × List MemPlace} (h : DataW.trod enc Tryd.prog w base spare held m 3 [c] = some y) : ∃ a, c = .int .i64 a ∧ (Lit.int .i64 a).wf = true := by
 obtain ⟨a, e, _, wf⟩ := DataW.trod_int Tryd.underlying3 h
 simp only [List.cons.injEq, and_true] at e
 exact ⟨a, e, wf⟩
set_option maxRecDepth 100000 in
theorem point_cells {m : Nat} {c0 c1 : Value} {y : DataW H × List MemPlace} (h : DataW.trod enc Tryd.prog w base spare held m 94 [c0, c1] = some y) :
  ∃ a b, c0 = .int .i64 a ∧ c1 = .int .i64 b := by
 obtain ⟨xs, n, _, _, _, _, hf⟩ := DataW.trod_struct Tryd.underlying94 h
 have e : Tryd.prog.cellsOf 3 = 1 := by kernel_rfl
 have h0 := hf 0 _ rfl
 have h1 := hf 1 _ rfl
 simp only [List.getElem_toArray, List.getElem_cons_zero, List.getElem_cons_succ] at h0 h1
 rw [e] at h0 h1
 simp only [List.drop_zero, List.drop_succ_cons, List.take_succ_cons, List.take_zero] at h0 h1
 have hl : xs.length = 2 := by assumption
 obtain ⟨a, rfl, _⟩ := int_cell (h0.trans (List.getElem?_eq_getElem (by omega)))
 obtain ⟨b, rfl, _⟩ := int_cell (h1.trans (List.getElem?_eq_getElem (by omega)))
 exact ⟨a, b, rfl, rfl⟩
theorem list4 {α : Type} {l : List α} (h : l.length = 4) : ∃ a b c d, l = [a, b, c, d] := by
 match l, h with
 | [a, b, c, d], _ => exact ⟨a, b, c, d, rfl⟩
theorem list5 {α : Type} {l : List α} (h : l.length = 5) : ∃ a b c d e, l = [a, b, c, d, e] := by
 match l, h with
 | [a, b, c, d, e], _ => exact ⟨a, b, c, d, e, rfl⟩
set_option maxRecDepth 100000 in
theorem edge_cells {m : Nat} {c0 c1 c2 c3 : Value} {y : DataW H × List MemPlace} (h : DataW.trod enc Tryd.prog w base spare held m 96 [c0, c1, c2, c3] = some y) :
  ∃ a b c d : Int, c0 = .int .i64 a ∧ c1 = .int .i64 b ∧ c2 = .int .i64 c ∧ c3 = .int .i64 d := by
 obtain ⟨xs, n, _, _, _, hl, hg⟩ := DataW.trod_struct Tryd.underlying96 h
 have e : Tryd.prog.cellsOf 94 = 2 := by kernel_rfl
 have h0 := hg 0 _ rfl
 have h1 := hg 1 _ rfl
 simp only [List.getElem_toArray, List.getElem_cons_zero, List.getElem_cons_succ] at h0 h1
 rw [e] at h0 h1
 simp only [List.drop_zero, List.drop_succ_cons, List.take_succ_cons, List.take_zero] at h0 h1
 have hl : xs.length = 2 := by assumption
 obtain ⟨a, b, rfl, rfl⟩ := point_cells (h0.trans (List.getElem?_eq_getElem (by omega)))
 obtain ⟨c, e, rfl, rfl⟩ := point_cells (h1.trans (List.getElem?_eq_getElem (by omega)))
 exact ⟨a, b, c, e, rfl, rfl, rfl, rfl⟩
set_option maxRecDepth 100000 in
theorem crease_cells {m : Nat} {cs : List Value} {y : DataW H × List MemPlace} (h : DataW.trod enc Tryd.prog w base spare held m 98 cs = some y) :
  ∃ c : C5, cs = [.int .i64 c.1.1, .int .i64 c.1.2.1, .int .i64 c.1.2.2.1, .int .i64 c.1.2.2.2, .int .i64 c.2] := by
 obtain ⟨xs, n, _, _, hcl, hl, hg⟩ := DataW.trod_struct Tryd.underlying98 h
 obtain ⟨c0, c1, c2, c3, c4, rfl⟩ := list5 (hcl.trans (show Tryd.prog.cellsOf 98 = 5 by kernel_rfl))
 have e : Tryd.prog.cellsOf 96 = 4 := by kernel_rfl
 have e1 : Tryd.prog.cellsOf 3 = 1 := by kernel_rfl
 have h0 := hg 0 _ rfl
 have h1 := hg 1 _ rfl
 simp only [List.getElem_toArray, List.getElem_cons_zero, List.getElem_cons_succ] at h0 h1
 rw [e] at h0
 rw [e1] at h1
 simp only [List.drop_zero, List.drop_succ_cons, List.take_succ_cons, List.take_zero] at h0 h1
 have hl : xs.length = 2 := by assumption
 obtain ⟨a, b, c, d, rfl, rfl, rfl, rfl⟩ := edge_cells (h0.trans (List.getElem?_eq_getElem (by omega)))
 obtain ⟨k, rfl, _⟩ := int_cell (h1.trans (List.getElem?_eq_getElem (by omega)))
 exact ⟨((a, b, c, d), k), rfl⟩
theorem ccs_of : ∀ (n : Nat) (f : Nat → C5) , ∃ cs : List C5, cs.length = n ∧ ∀ i, i < n → cs[i]? = some (f i) := by
 intro n f
 exact ⟨(List.range n).map f, by simp, fun i hi => by simp [hi]⟩
theorem ccs_len5 (cs : List C5) : (ccs cs).length = cs.length * 5 := by
 induction cs with
 | nil => rfl
 | cons c cs ih => simp [ccs] at ih ⊢; omega
theorem ccs_nth : ∀ {cs : List C5} {i j : Nat} {c : C5}, cs[i]? = some c → j < 5 → (ccs cs)[i * 5 + j]? = [Value.int .i64 c.1.1, .int .i64 c.1.2.1, .int .i64 c.1.2.2.1, .int .i64 c.1.2.2.2, .int .i64 c.2][j]?
 | [], i, j, c, h, _ => by simp at h
 | a :: l, 0, j, c, h, hj => by
  simp at h
  subst h
  have e : ccs (a :: l) = [Value.int .i64 a.1.1, .int .i64 a.1.2.1, .int .i64 a.1.2.2.1, .int .i64 a.1.2.2.2, .int .i64 a.2] ++ ccs l := rfl
  rw [e, List.getElem?_append_left (by simp; omega)]
  simp
 | a :: l, i + 1, j, c, h, hj => by
  have := ccs_nth (cs := l) (i := i) (j := j) (c := c) (by simpa using h) hj
  have e : ccs (a :: l) = [Value.int .i64 a.1.1, .int .i64 a.1.2.1, .int .i64 a.1.2.2.1, .int .i64 a.1.2.2.2, .int .i64 a.2] ++ ccs l := rfl
  rw [e, List.getElem?_append_right (by simp; omega), ← this]
  congr 1
  simp
  omega
set_option maxRecDepth 100000 in
theorem open_creases {fuel : Nat} {cs : List Value} {x : DataW H × List MemPlace} (h : DataW.trod enc Tryd.prog w base spare held fuel 23 cs = some x) :
  ∃ (A : Option Addr) (n c : Nat) (l : List C5), cs = [.slice A n c] ∧ Rd w 5 A n (ccs l) ∧ (A = none → c = 0) ∧ ((x.1 = .nil ∧ n = 0) ∨ ∃ el sp, x.1 = .slice el sp ∧ el.length = n) := by
 rcases DataW.trod_slice Tryd.underlying23 h with ⟨rfl, rfl⟩ | ⟨a, len, cap, elems, rest, m, _, rfl, rfl, hb, hl, hm, hlen, hel, _, _⟩
 ·exact ⟨none, 0, 0, [], rfl, Rd.nil, fun _ => rfl, .inl ⟨rfl, rfl⟩⟩
 ·have e5 : Tryd.prog.cellsOf 98 = 5 := by kernel_rfl
  rw [e5] at hel
  have each : ∀ i, ∃ c : C5, i < len → ∀ j, j < 5 → w.cell? (a.add (i * 5 + j)) = [Value.int .i64 c.1.1, .int .i64 c.1.2.1, .int .i64 c.1.2.2.1, .int .i64 c.1.2.2.2, .int .i64 c.2][j]? := by
   intro i
   by_cases hi : i < len
   ·have h1 := hel i hi
    rw [List.getElem?_eq_getElem (by omega)] at h1
    rw [Option.bind_eq_some_iff] at h1
    obtain ⟨q, h2, h3⟩ := h1
    obtain ⟨c, rfl⟩ := crease_cells h3
    refine ⟨c, fun _ j hj => ?_⟩
    have h4 := (World.cells?_some h2).2.2 j hj
    rw [← add_add2]
    exact h4
   ·exact ⟨((0, 0, 0, 0), 0), fun h => absurd h hi⟩
  obtain ⟨f, hf⟩ := Classical.axiomOfChoice each
  obtain ⟨l, hl1, hl2⟩ := ccs_of len f
  refine ⟨some a, len, cap, l, rfl, ⟨by rw [ccs_len5, hl1], fun hp => ?_⟩, fun h => (by cases h), .inr ⟨_, _, rfl, by simp [hlen]⟩⟩
  have h0 := hf 0 hp 0 (by decide)
  obtain ⟨b, off, spot⟩ := a
  have hspot : spot = none := by simpa [Addr.add] using World.cell?_spot h0
  subst hspot
  refine ⟨b, off, rfl, World.block_lt_of_cell? w _ h0, fun j u hu => ?_⟩
  have hj : j < len * 5 := by
   have := (List.getElem?_eq_some_iff.1 hu).1
   rw [ccs_len5, hl1] at this
   exact this
  have hq : j / 5 < len := by omega
  have h1 := hf (j / 5) hq (j % 5) (by omega)
  rw [show j / 5 * 5 + j % 5 = j by omega, addr_add] at h1
  rw [h1, ← ccs_nth (hl2 (j / 5) hq) (by omega), show j / 5 * 5 + j % 5 = j by omega]
  exact hu
set_option maxRecDepth 100000 in
theorem open_row1 {fuel : Nat} {cs : List Value} {x : DataW H × List MemPlace} (h : DataW.trod enc Tryd.prog w base spare held fuel 22 cs = some x) :
  ∃ (A : Option Addr) (n c : Nat) (l : List Int), cs = [.slice A n c] ∧ Rd w 1 A n (vis l) ∧ (A = none → c = 0) ∧ ((x.1 = .nil ∧ n = 0) ∨ ∃ el sp, x.1 = .slice el sp ∧ el.length = n) := by
 rcases DataW.trod_slice Tryd.underlying22 h with ⟨rfl, rfl⟩ | ⟨a, len, cap, elems, rest, m, _, rfl, rfl, hb, hl, hm, hlen, hel, _, _⟩
 ·exact ⟨none, 0, 0, [], rfl, Rd.nil, fun _ => rfl, .inl ⟨rfl, rfl⟩⟩
 ·have e1 : Tryd.prog.cellsOf 3 = 1 := by kernel_rfl
  rw [e1] at hel
  have each : ∀ i, ∃ c : Int, i < len → w.cell? (a.add i) = some (.int .i64 c) := by
   intro i
   by_cases hi : i < len
   ·have h1 := hel i hi
    rw [List.getElem?_eq_getElem (by omega)] at h1
    rw [Option.bind_eq_some_iff] at h1
    obtain ⟨q, h2, h3⟩ := h1
    obtain ⟨_, hq1, h4⟩ := World.cells?_some h2
    match q, hq1 with
    | [u], _ =>
     obtain ⟨c, rfl, _⟩ := int_cell h3
     refine ⟨c, fun _ => ?_⟩
     have h5 := h4 0 (by decide)
     rw [add_add2, show i * 1 + 0 = i by omega] at h5
     exact h5
   ·exact ⟨0, fun h => absurd h hi⟩
  obtain ⟨f, hf⟩ := Classical.axiomOfChoice each
  refine ⟨some a, len, cap, (List.range len).map f, rfl, ⟨by simp, fun hp => ?_⟩, fun h => (by cases h), .inr ⟨_, _, rfl, by simp [hlen]⟩⟩
  have h0 := hf 0 hp
  obtain ⟨b, off, spot⟩ := a
  have hspot : spot = none := by simpa [Addr.add] using World.cell?_spot h0
  subst hspot
  refine ⟨b, off, rfl, World.block_lt_of_cell? w _ h0, fun j u hu => ?_⟩
  have hj : j < len := by
   have := (List.getElem?_eq_some_iff.1 hu).1
   simpa using this
  have h1 := hf j hj
  rw [addr_add] at h1
  rw [h1]
  simp [hj] at hu
  rw [hu]
end
end
end Go.Proofs.YtnndadhkedlohaaDoor
