/- Sheets that come in, opened.. Out of the row's condition on the listed table: 'Steps'. -/
import Derived.Test.YtbnkabmnenginaaGreatDoorK25
import Derived.ProofKit
import Derived.OpenShut
import Derived.Lib.SmallJoins
import Derived.SizedLaws
import Derived.Test.YtbnkabmnenginaaGreatDoorK01
import Derived.Test.YtbnkabmnenginaaGreatDoorRows
import Derived.LaidMore
import Derived.Deep.Fields23
import Derived.Stop.Joined
namespace Go.Proofs.YtbnkabmnenginaaGreatDoor
set_option linter.unusedSimpArgs false
set_option linter.unusedVariables false
section
open Go.ChangeShapes Go.WideShapes Go.ChangeAt Go.RowKit Go.Joins
theorem add_add2 (a : Addr) (i j : Nat) : (a.add i).add j = a.add (i + j) := by
 obtain ⟨b, o, s⟩ := a
 by_cases hi : i = 0 <;> by_cases hj : j = 0 <;> cases s <;> simp [Addr.add, hi, hj, Nat.add_assoc]
section
variable {H : Type} {enc : TypeId × Value → H} {w : World} {base : Nat} {spare : Nat → Bool} {held : Bool}
theorem int_cell {m : Nat} {c : Value} {y : DataW H × List MemPlace} (h : DataW.trod enc Tryz.prog w base spare held m 3 [c] = some y) : ∃ a, c = .int .i64 a ∧ (Lit.int .i64 a).wf = true := by
 obtain ⟨a, e, _, wf⟩ := DataW.trod_int Tryz.underlying3 h
 simp only [List.cons.injEq, and_true] at e
 exact ⟨a, e, wf⟩
set_option maxRecDepth 100000 in
theorem point_cells {m : Nat} {c0 c1 : Value} {y : DataW H × List MemPlace} (h : DataW.trod enc Tryz.prog w base spare held m 48 [c0, c1] = some y) :
  ∃ a b, c0 = .int .i64 a ∧ c1 = .int .i64 b := by
 obtain ⟨xs, n, _, _, _, _, hf⟩ := DataW.trod_struct Tryz.underlying48 h
 have e : Tryz.prog.cellsOf 3 = 1 := by kernel_rfl
 have h0 := hf 0 _ rfl
 have h1 := hf 1 _ rfl
 simp only [List.getElem_toArray, List.getElem_cons_zero, List.getElem_cons_succ] at h0 h1
 rw [e] at h0 h1
 simp only [List.drop_zero, List.drop_succ_cons, List.take_succ_cons, List.take_zero] at h0 h1
 have hl : xs.length = 2 := by assumption
 obtain ⟨a, rfl, _⟩ := int_cell (h0.trans (List.getElem?_eq_getElem (by omega)))
 obtain ⟨b, rfl, _⟩ := int_cell (h1.trans (List.getElem?_eq_getElem (by omega)))
 exact ⟨a, b, rfl, rfl⟩
theorem list4 {α : Type} {l : List α} (h : l.length = 4) : ∃ a b c d, l = [a, b, c, d] := by
 match l, h with
 | [a, b, c, d], _ => exact ⟨a, b, c, d, rfl⟩
theorem list5 {α : Type} {l : List α} (h : l.length = 5) : ∃ a b c d e, l = [a, b, c, d, e] := by
 match l, h with
 | [a, b, c, d, e], _ => exact ⟨a, b, c, d, e, rfl⟩
set_option maxRecDepth 100000 in
theorem edge_cells {m : Nat} {c0 c1 c2 c3 : Value} {y : DataW H × List MemPlace} (h : DataW.trod enc Tryz.prog w base spare held m 50 [c0, c1, c2, c3] = some y) :
  ∃ a b c d : Int, c0 = .int .i64 a ∧ c1 = .int .i64 b ∧ c2 = .int .i64 c ∧ c3 = .int .i64 d := by
 obtain ⟨xs, n, _, _, _, hl, hg⟩ := DataW.trod_struct Tryz.underlying50 h
 have e : Tryz.prog.cellsOf 48 = 2 := by kernel_rfl
 have h0 := hg 0 _ rfl
 have h1 := hg 1 _ rfl
 simp only [List.getElem_toArray, List.getElem_cons_zero, List.getElem_cons_succ] at h0 h1
 rw [e] at h0 h1
 simp only [List.drop_zero, List.drop_succ_cons, List.take_succ_cons, List.take_zero] at h0 h1
 have hl : xs.length = 2 := by assumption
 obtain ⟨a, b, rfl, rfl⟩ := point_cells (h0.trans (List.getElem?_eq_getElem (by omega)))
 obtain ⟨c, e, rfl, rfl⟩ := point_cells (h1.trans (List.getElem?_eq_getElem (by omega)))
 exact ⟨a, b, c, e, rfl, rfl, rfl, rfl⟩
set_option maxRecDepth 100000 in
theorem crease_cells {m : Nat} {cs : List Value} {y : DataW H × List MemPlace} (h : DataW.trod enc Tryz.prog w base spare held m 52 cs = some y) :
  ∃ c : C5, cs = [.int .i64 c.1.1, .int .i64 c.1.2.1, .int .i64 c.1.2.2.1, .int .i64 c.1.2.2.2, .int .i64 c.2] := by
 obtain ⟨xs, n, _, _, hcl, hl, hg⟩ := DataW.trod_struct Tryz.underlying52 h
 obtain ⟨c0, c1, c2, c3, c4, rfl⟩ := list5 (hcl.trans (show Tryz.prog.cellsOf 52 = 5 by kernel_rfl))
 have e : Tryz.prog.cellsOf 50 = 4 := by kernel_rfl
 have e1 : Tryz.prog.cellsOf 3 = 1 := by kernel_rfl
 have h0 := hg 0 _ rfl
 have h1 := hg 1 _ rfl
 simp only [List.getElem_toArray, List.getElem_cons_zero, List.getElem_cons_succ] at h0 h1
 rw [e] at h0
 rw [e1] at h1
 simp only [List.drop_zero, List.drop_succ_cons, List.take_succ_cons, List.take_zero] at h0 h1
 have hl : xs.length = 2 := by assumption
 obtain ⟨a, b, c, d, rfl, rfl, rfl, rfl⟩ := edge_cells (h0.trans (List.getElem?_eq_getElem (by omega)))
 obtain ⟨k, rfl, _⟩ := int_cell (h1.trans (List.getElem?_eq_getElem (by omega)))
 exact ⟨((a, b, c, d), k), rfl⟩
theorem ccs_of : ∀ (n : Nat) (f : Nat → C5) , ∃ cs : List C5, cs.length = n ∧ ∀ i, i < n → cs[i]? = some (f i) := by
 intro n f
 exact ⟨(List.range n).map f, by simp, fun i hi => by simp [hi]⟩
theorem ccs_len5 (cs : List C5) : (ccs cs).length = cs.length * 5 := by
 induction cs with
 | nil => rfl
 | cons c cs ih => simp [ccs] at ih ⊢; omega
theorem ccs_nth : ∀ {cs : List C5} {i j : Nat} {c : C5}, cs[i]? = some c → j < 5 → (ccs cs)[i * 5 + j]? = [Value.int .i64 c.1.1, .int .i64 c.1.2.1, .int .i64 c.1.2.2.1, .int .i64 c.1.2.2.2, .int .i64 c.2][j]?
 | [], i, j, c, h, _ => by simp at h
 | a :: l, 0, j, c, h, hj => by
  simp at h
  subst h
  have e : ccs (a :: l) = [Value.int .i64 a.1.1, .int .i64 a.1.2.1, .int .i64 a.1.2.2.1, .int .i64 a.1.2.2.2, .int .i64 a.2] ++ ccs l := rfl
  rw [e, List.getElem?_append_left (by simp; omega)]
  simp
 | a :: l, i + 1, j, c, h, hj => by
  have := ccs_nth (cs := l) (i := i) (j := j) (c := c) (by simpa using h) hj
  have e : ccs (a :: l) = [Value.int .i64 a.1.1, .int .i64 a.1.2.1, .int .i64 a.1.2.2.1, .int .i64 a.1.2.2.2, .int .i64 a.2] ++ ccs l := rfl
  rw [e, List.getElem?_append_right (by simp; omega), ← this]
  congr 1
  simp
  omega
set_option maxRecDepth 100000 in
theorem open_creases {fuel : Nat} {cs : List Value} {x : DataW H × List MemPlace} (h : DataW.trod enc Tryz.prog w base spare held fuel 23 cs = some x) :
  ∃ (A : Option Addr) (n c : Nat) (l : List C5), cs = [.slice A n c] ∧ Rd w 5 A n (ccs l) ∧ (A = none → c = 0) ∧ ((x.1 = .nil ∧ n = 0) ∨ ∃ el sp, x.1 = .slice el sp ∧ el.length = n) := by
 rcases DataW.trod_slice Tryz.underlying23 h with ⟨rfl, rfl⟩ | ⟨a, len, cap, elems, rest, m, _, rfl, rfl, hb, hl, hm, hlen, hel, _, _⟩
 ·exact ⟨none, 0, 0, [], rfl, Rd.nil, fun _ => rfl, .inl ⟨rfl, rfl⟩⟩
 ·have e5 : Tryz.prog.cellsOf 52 = 5 := by kernel_rfl
  rw [e5] at hel
  have each : ∀ i, ∃ c : C5, i < len → ∀ j, j < 5 → w.cell? (a.add (i * 5 + j)) = [Value.int .i64 c.1.1, .int .i64 c.1.2.1, .int .i64 c.1.2.2.1, .int .i64 c.1.2.2.2, .int .i64 c.2][j]? := by
   intro i
   by_cases hi : i < len
   ·have h1 := hel i hi
    rw [List.getElem?_eq_getElem (by omega)] at h1
    rw [Option.bind_eq_some_iff] at h1
    obtain ⟨q, h2, h3⟩ := h1
    obtain ⟨c, rfl⟩ := crease_cells h3
    refine ⟨c, fun _ j hj => ?_⟩
    have h4 := (World.cells?_some h2).2.2 j hj
    rw [← add_add2]
    exact h4
   ·exact ⟨((0, 0, 0, 0), 0), fun h => absurd h hi⟩
  obtain ⟨f, hf⟩ := Classical.axiomOfChoice each
  obtain ⟨l, hl1, hl2⟩ := ccs_of len f
  refine ⟨some a, len, cap, l, rfl, ⟨by rw [ccs_len5, hl1], fun hp => ?_⟩, fun h => (by cases h), .inr ⟨_, _, rfl, by simp [hlen]⟩⟩
  have h0 := hf 0 hp 0 (by decide)
  obtain ⟨b, off, spot⟩ := a
  have hspot : spot = none := by simpa [Addr.add] using World.cell?_spot h0
  subst hspot
  refine ⟨b, off, rfl, World.block_lt_of_cell? w _ h0, fun j u hu => ?_⟩
  have hj : j < len * 5 := by
   have := (List.getElem?_eq_some_iff.1 hu).1
   rw [ccs_len5, hl1] at this
   exact this
  have hq : j / 5 < len := by omega
  have h1 := hf (j / 5) hq (j % 5) (by omega)
  rw [show j / 5 * 5 + j % 5 = j by omega, addr_add] at h1
  rw [h1, ← ccs_nth (hl2 (j / 5) hq) (by omega), show j / 5 * 5 + j % 5 = j by omega]
  exact hu
set_option maxRecDepth 100000 in
theorem open_row1 {fuel : Nat} {cs : List Value} {x : DataW H × List MemPlace} (h : DataW.trod enc Tryz.prog w base spare held fuel 22 cs = some x) :
  ∃ (A : Option Addr) (n c : Nat) (l : List Int), cs = [.slice A n c] ∧ Rd w 1 A n (vis l) ∧ (A = none → c = 0) ∧ ((x.1 = .nil ∧ n = 0) ∨ ∃ el sp, x.1 = .slice el sp ∧ el.length = n) := by
 rcases DataW.trod_slice Tryz.underlying22 h with ⟨rfl, rfl⟩ | ⟨a, len, cap, elems, rest, m, _, rfl, rfl, hb, hl, hm, hlen, hel, _, _⟩
 ·exact ⟨none, 0, 0, [], rfl, Rd.nil, fun _ => rfl, .inl ⟨rfl, rfl⟩⟩
 ·have e1 : Tryz.prog.cellsOf 3 = 1 := by kernel_rfl
  rw [e1] at hel
  have each : ∀ i, ∃ c : Int, i < len → w.cell? (a.add i) = some (.int .i64 c) := by
   intro i
   by_cases hi : i < len
   ·have h1 := hel i hi
    rw [List.getElem?_eq_getElem (by omega)] at h1
    rw [Option.bind_eq_some_iff] at h1
    obtain ⟨q, h2, h3⟩ := h1
    obtain ⟨_, hq1, h4⟩ := World.cells?_some h2
    match q, hq1 with
    | [u], _ =>
     obtain ⟨c, rfl, _⟩ := int_cell h3
     refine ⟨c, fun _ => ?_⟩
     have h5 := h4 0 (by decide)
     rw [add_add2, show i * 1 + 0 = i by omega] at h5
     exact h5
   ·exact ⟨0, fun h => absurd h hi⟩
  obtain ⟨f, hf⟩ := Classical.axiomOfChoice each
  refine ⟨some a, len, cap, (List.range len).map f, rfl, ⟨by simp, fun hp => ?_⟩, fun h => (by cases h), .inr ⟨_, _, rfl, by simp [hlen]⟩⟩
  have h0 := hf 0 hp
  obtain ⟨b, off, spot⟩ := a
  have hspot : spot = none := by simpa [Addr.add] using World.cell?_spot h0
  subst hspot
  refine ⟨b, off, rfl, World.block_lt_of_cell? w _ h0, fun j u hu => ?_⟩
  have hj : j < len := by
   have := (List.getElem?_eq_some_iff.1 hu).1
   simpa using this
  have h1 := hf j hj
  rw [addr_add] at h1
  rw [h1]
  simp [hj] at hu
  rw [hu]
set_option maxRecDepth 100000 in
theorem open_sheet {r : Reach} {b0 : Nat} {v : Value} {d : DataW H} {p : List MemPlace} (hv : Value.okWide Tryz.prog w r b0 25 v) (h : DataW.Trod enc Tryz.prog w base spare held 25 v d p) (hs : (d.weights Tryz.prog 25).all (· ≤ reachBytes) = true) :
  ∃ (W H : Int) (Am Ac : Option Addr) (nm cm nc cc : Nat) (mask : List Int) (cs : List C5), v = .agg #[.int .i64 W, .int .i64 H, .slice Am nm cm, .slice Ac nc cc] ∧ Rd w 1 Am nm (vis mask) ∧ Rd w 5 Ac nc (ccs cs) ∧ (Am = none → cm = 0) ∧ (Ac = none → cc = 0) ∧ nm * 8 ≤ 140737488351232 ∧ nc * 40 ≤ 140737488351232 := by
 obtain ⟨cs, rfl, hsz⟩ := okWide_struct Tryz.underlying25 hv
 obtain ⟨c0, c1, c2, c3, rfl⟩ := array4 (hsz.trans (show Tryz.prog.cellsOf 25 = 4 by kernel_rfl))
 obtain ⟨fuel, hf⟩ := h
 obtain ⟨xs, n, _, hx, _, _, hg⟩ := DataW.trod_struct Tryz.underlying25 hf
 have e1 : Tryz.prog.cellsOf 3 = 1 := by kernel_rfl
 have e2 : Tryz.prog.cellsOf 22 = 1 := by kernel_rfl
 have e3 : Tryz.prog.cellsOf 23 = 1 := by kernel_rfl
 have h0 := hg 0 _ rfl
 have h1 := hg 1 _ rfl
 have h2 := hg 2 _ rfl
 have h3 := hg 3 _ rfl
 simp only [List.getElem_toArray, List.getElem_cons_zero, List.getElem_cons_succ] at h0 h1 h2 h3
 rw [e1] at h0 h1
 rw [e2] at h2
 rw [e3] at h3
 simp only [Value.cells, List.drop_zero, List.drop_succ_cons, List.take_succ_cons, List.take_zero] at h0 h1 h2 h3
 have hl : xs.length = 4 := by assumption
 obtain ⟨x0, x1, x2, x3, rfl⟩ := list4 hl
 simp only [List.getElem?_cons_zero, List.getElem?_cons_succ] at h0 h1 h2 h3
 obtain ⟨W, rfl, _⟩ := int_cell h0
 obtain ⟨Hh, rfl, _⟩ := int_cell h1
 obtain ⟨Am, nm, cm, mask, hm1, hm2, hm3, hm4⟩ := open_row1 h2
 obtain ⟨Ac, nc, cc, cs, hc1, hc2, hc3, hc4⟩ := open_creases h3
 simp only [List.cons.injEq, and_true] at hm1 hc1
 subst hm1 hc1
 have hd : d = .agg [x0.1, x1.1, x2.1, x3.1] := by
  have := congrArg Prod.fst hx
  simpa using this
 have hw : ∀ k ∈ d.weights Tryz.prog 25, k ≤ reachBytes := fun k hk => by simpa using List.all_eq_true.1 hs k hk
 rw [hd] at hw
 simp only [DataW.weights, Tryz.underlying25] at hw
 have b8 : Tryz.prog.bytesOf 3 = 8 := by kernel_rfl
 have b40 : Tryz.prog.bytesOf 52 = 40 := by kernel_rfl
 refine ⟨W, Hh, Am, Ac, nm, cm, nc, cc, mask, cs, rfl, hm2, hc2, hm3, hc3, ?_, ?_⟩
 ·rcases hm4 with ⟨_, h⟩ | ⟨el, sp, h, hel⟩
  ·omega
  ·have := hw ((el.length + sp.length) * 8) (DataW.weights_mem_each (j := 2) (t := 22) (d := x2.1) rfl rfl _ (by rw [h]; simp [DataW.weights, Tryz.underlying22, b8]))
   simp only [reachBytes] at this
   omega
 ·rcases hc4 with ⟨_, h⟩ | ⟨el, sp, h, hel⟩
  ·omega
  ·have := hw ((el.length + sp.length) * 40) (DataW.weights_mem_each (j := 3) (t := 23) (d := x3.1) rfl rfl _ (by rw [h]; simp [DataW.weights, Tryz.underlying23, b40]))
   simp only [reachBytes] at this
   omega
end
end
section
open Go.Deep Go.Joins Go.ChangeShapes Go.WideShapes Go.ChangeAt Go.WideElems Go.RowKit
theorem gSteps : Tryz.prog.globalNamed "pleat/tile.steps" = some 0 := by kernel_rfl
def laid1 : List (String × DataW Unit) := [("pleat/tile.steps", Rows.laid_pleat_tile_steps)]
theorem tSteps : (Tryz.prog.globals[0]?).map (·.type) = some 146 := by kernel_rfl
theorem door_met (os : Os) (args : Array Value) : laidMetH Tryz.prog laid1 ((World.doorLaid Tryz.prog 400 os).forCall (fun _ _ => 0) ⟨#[], args, []⟩).memory :=
 laidMetH_of_parts3 (fuel := 8) (laidMet_of_run' 8 (by kernel_rfl) (by kernel_rfl)) (by kernel_rfl) (by kernel_rfl)
theorem pt_of {W : World} {m : Nat} {u v : Value} {X : DataW Unit × List MemPlace} {a b : Int} (h : DataW.trod (fun _ => ()) Tryz.prog W 0 (fun _ => true) false m 48 [u, v] = some X) (hx : DataW.agg [.lit (.int .i64 a), .lit (.int .i64 b)] = X.1) : u = .int .i64 a ∧ v = .int .i64 b := by
 obtain ⟨y0, y1, n, hX, _, h0, h1⟩ := trod_struct2 Tryz.underlying48 h
 have c3 : Tryz.prog.cellsOf 3 = 1 := by kernel_rfl
 subst hX
 simp only [DataW.agg.injEq, List.cons.injEq, and_true] at hx
 obtain ⟨a', e0, rfl, _⟩ := DataW.trod_int Tryz.underlying3 h0
 obtain ⟨b', e1, rfl, _⟩ := DataW.trod_int Tryz.underlying3 h1
 simp [c3] at e0 e1 hx
 exact ⟨by rw [e0, hx.1], by rw [e1, hx.2]⟩
theorem steps_of_laid {W : World} (h : laidMetH Tryz.prog laid1 W) : Steps W := by
 rw [MakeChecks.laidMetH_plain _ _ _ (by kernel_rfl)] at h
 obtain ⟨ps, ⟨g0, t0, cs0, f0, p0, q0, hg0, ht0, hv0, hd0, _, _⟩, _, _⟩ := h
 obtain rfl := Option.some.inj (gSteps.symm.trans hg0)
 obtain rfl := Option.some.inj (tSteps.symm.trans ht0)
 obtain ⟨xs, m1, rfl, hx1, hlen, hn3, hel⟩ := DataW.trod_array Tryz.underlying146 hd0
 have hc := World.var?_cell hg0 hv0
 have c93 : Tryz.prog.cellsOf 146 = 8 := by kernel_rfl
 have c25 : Tryz.prog.cellsOf 48 = 2 := by kernel_rfl
 have c3 : Tryz.prog.cellsOf 3 = 1 := by kernel_rfl
 rw [c93] at hlen
 rw [c25] at hel
 have e0 := hel 0 (by decide)
 have e1 := hel 1 (by decide)
 have e2 := hel 2 (by decide)
 have e3 := hel 3 (by decide)
 clear hel hd0 hv0
 obtain ⟨l⟩ := cs0
 match l, hlen, xs, hn3, hx1, e0, e1, e2, e3, hc with
 | [u0, u1, u2, u3, u4, u5, u6, u7], _, [X0, X1, X2, X3], _, hx1, e0, e1, e2, e3, hc =>
  simp at e0 e1 e2 e3
  simp [Rows.laid_pleat_tile_steps] at hx1
  obtain ⟨⟨z0, z1, z2, z3⟩, _⟩ := hx1
  obtain ⟨rfl, rfl⟩ := pt_of e0 z0
  obtain ⟨rfl, rfl⟩ := pt_of e1 z1
  obtain ⟨rfl, rfl⟩ := pt_of e2 z2
  obtain ⟨rfl, rfl⟩ := pt_of e3 z3
  exact ⟨hc 0, hc 1, hc 2, hc 3, hc 4, hc 5, hc 6, hc 7⟩
end
end Go.Proofs.YtbnkabmnenginaaGreatDoor
