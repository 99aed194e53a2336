/- Out of the row's condition on the listed table: 'Steps'. Builds. -/
import Derived.Test.YtoienokpchbglaaDoorGr1
import Derived.Test.YtoienokpchbglaaDoorRows
import Derived.ProofKit
import Derived.LaidMore
import Derived.OpenShut
import Derived.Deep.Fields23
import Derived.Lib.SmallJoins
import Derived.Stop.Joined
namespace Go.Proofs.YtoienokpchbglaaDoor
open Go.Deep Go.Joins Go.ChangeShapes Go.WideShapes Go.ChangeAt Go.WideElems Go.RowKit

theorem gSteps : Tryd.prog.globalNamed "pleat/tile.steps" = some 0 := by kernel_rfl
def laid1 : List (String × DataW Unit) := [("pleat/tile.steps", Rows.laid_pleat_tile_steps)]
theorem tSteps : (Tryd.prog.globals[0]?).map (·.type) = some 132 := by kernel_rfl
theorem door_met (os : Os) (args : Array Value) : laidMetH Tryd.prog laid1 ((World.doorLaid Tryd.prog 400 os).forCall (fun _ _ => 0) ⟨#[], args, []⟩).memory :=
  laidMetH_of_parts3 (fuel := 8) (laidMet_of_run' 8 (by kernel_rfl) (by kernel_rfl)) (by kernel_rfl) (by kernel_rfl)
theorem pt_of {W : World} {m : Nat} {u v : Value} {X : DataW Unit × List MemPlace} {a b : Int} (h : DataW.trod (fun _ => ()) Tryd.prog W 0 (fun _ => true) false m 49 [u, v] = some X) (hx : DataW.agg [.lit (.int .i64 a), .lit (.int .i64 b)] = X.1) : u = .int .i64 a ∧ v = .int .i64 b := by
  obtain ⟨y0, y1, n, hX, _, h0, h1⟩ := trod_struct2 Tryd.underlying49 h
  have c3 : Tryd.prog.cellsOf 3 = 1 := by kernel_rfl
  subst hX
  simp only [DataW.agg.injEq, List.cons.injEq, and_true] at hx
  obtain ⟨a', e0, rfl, _⟩ := DataW.trod_int Tryd.underlying3 h0
  obtain ⟨b', e1, rfl, _⟩ := DataW.trod_int Tryd.underlying3 h1
  simp [c3] at e0 e1 hx
  exact ⟨by rw [e0, hx.1], by rw [e1, hx.2]⟩
theorem steps_of_laid {W : World} (h : laidMetH Tryd.prog laid1 W) : Steps W := by
  rw [MakeChecks.laidMetH_plain _ _ _ (by kernel_rfl)] at h
  obtain ⟨ps, ⟨g0, t0, cs0, f0, p0, q0, hg0, ht0, hv0, hd0, _, _⟩, _, _⟩ := h
  obtain rfl := Option.some.inj (gSteps.symm.trans hg0)
  obtain rfl := Option.some.inj (tSteps.symm.trans ht0)
  obtain ⟨xs, m1, rfl, hx1, hlen, hn3, hel⟩ := DataW.trod_array Tryd.underlying132 hd0
  have hc := World.var?_cell hg0 hv0
  have c93 : Tryd.prog.cellsOf 132 = 8 := by kernel_rfl
  have c25 : Tryd.prog.cellsOf 49 = 2 := by kernel_rfl
  have c3 : Tryd.prog.cellsOf 3 = 1 := by kernel_rfl
  rw [c93] at hlen
  rw [c25] at hel
  have e0 := hel 0 (by decide)
  have e1 := hel 1 (by decide)
  have e2 := hel 2 (by decide)
  have e3 := hel 3 (by decide)
  clear hel hd0 hv0
  obtain ⟨l⟩ := cs0
  match l, hlen, xs, hn3, hx1, e0, e1, e2, e3, hc with
  | [u0, u1, u2, u3, u4, u5, u6, u7], _, [X0, X1, X2, X3], _, hx1, e0, e1, e2, e3, hc =>
    simp at e0 e1 e2 e3
    simp [Rows.laid_pleat_tile_steps] at hx1
    obtain ⟨⟨z0, z1, z2, z3⟩, _⟩ := hx1
    obtain ⟨rfl, rfl⟩ := pt_of e0 z0
    obtain ⟨rfl, rfl⟩ := pt_of e1 z1
    obtain ⟨rfl, rfl⟩ := pt_of e2 z2
    obtain ⟨rfl, rfl⟩ := pt_of e3 z3
    exact ⟨hc 0, hc 1, hc 2, hc 3, hc 4, hc 5, hc 6, hc 7⟩
end Go.Proofs.YtoienokpchbglaaDoor
