/-
For every input, a call of 'pleatlaw.AxiomPoints' returns true, and what was handed in reads behind the call as it read before.
  Conditions: none beyond the row's own (the given text Rows: 'axiomPointsRow').
-/
import Derived.Test.YthfhkmgegkhljaaRows
import Derived.Test.YthfhkmgegkhljaaRow
import Derived.Test.YthfhkmgegkhljaaAx9
import Derived.WalkKit
import Derived.ProofKit
import Derived.OpenShut
import Derived.ChangeOld
import Derived.Below
import Derived.Lib.SmallJoins
namespace Go.Proofs.Ythfhkmgegkhljaa.axiomPoints
open Go.ChangeShapes Go.WideShapes Go.ChangeAt Go.RowKit
set_option linter.unusedVariables false

theorem own : ownKnob Try.prog.godebug = none := by kernel_rfl
theorem laidOut : laidOutB Try.prog = true := by kernel_rfl
theorem cells29 : Try.prog.cellsOf 29 = 2 := by kernel_rfl
theorem cells40 : Try.prog.cellsOf 40 = 3 := by kernel_rfl

/-- THE WALK -/
theorem walk (a00 a01 a10 a11 a20 a21 a22 : Int) (w : World) :
    Calls Try.prog 7 #[.agg #[.int .i64 a00, .int .i64 a01], .agg #[.int .i64 a10, .int .i64 a11], .agg #[.int .i64 a20, .int .i64 a21, .int .i64 a22]] w fun e w' => e = .returned (.bool true) ∧ Below w.heap.size w w' := by
  exact Go.Proofs.Ythfhkmgegkhljaa.apts_walk a00 a01 a10 a11 a20 a21 a22 w

/-! ### THE ROW's STEP -/
set_option maxRecDepth 100000 in
theorem lifted (os : Os) (started : os.Started) (H : Type) (enc : TypeId × Value → H) :
    ReturnsInHanded {} Try.checked os 7 .any (Rows.axiomPointsSpec.pre6 enc Try.prog Try.f7 Rows.axiomPointsRow.domain false) (Rows.axiomPointsSpec.post enc Try.prog Try.f7 false true false false) := by
  refine returnsInHanded_of_change (C := Try.checked) own started (by kernel_rfl) Try.func7
    (ChangeSpec.witness6 (enc := enc) (C := Try.checked) false ⟨#[], #[.agg #[.int .i64 0, .int .i64 0], .agg #[.int .i64 0, .int .i64 0], .agg #[.int .i64 0, .int .i64 0, .int .i64 0]], []⟩ 8 (by kernel_rfl) (by kernel_rfl) (by kernel_rfl) (by kernel_rfl)) ?_
  intro W base args ds gs before hval0 hW hcnd _
  have hval : ∀ (j : Nat) t v, Try.f7.params[j]? = some t → args[j]? = some v → Value.okWide Try.prog W .any base t v := hval0
  have hW' := hW
  obtain ⟨p, q, hA0, hV, rfl, hfz, hnd⟩ := hW
  have hA : DataW.TrodAll enc Try.prog W 0 (fun _ => true) true Try.f7.params.toList args.toList ds p := hA0
  rw [Try.params7] at hA hval
  obtain ⟨v0, vs0, d0, ds0, p0, q0, hargs, rfl, rfl, h0, r0⟩ := trodAll_cons hA
  obtain ⟨v1, vs1, d1, ds1, p1, q1, hargs1, rfl, rfl, h1, r1⟩ := trodAll_cons r0
  subst hargs1
  obtain ⟨v2, vs2, d2, ds2, p2, q2, hargs2, rfl, rfl, h2, r2⟩ := trodAll_cons r1
  subst hargs2
  obtain ⟨rfl, rfl, rfl⟩ := trodAll_nil r2
  obtain rfl : args = #[v0, v1, v2] := by cases args; simp_all
  obtain ⟨rfl, rfl⟩ := trodVars_none hV
  have k0 := h0
  have lt0 : ∀ x ∈ p0, x.block < W.heap.size := by obtain ⟨m, hm⟩ := k0; exact DataW.trod_lt m _ _ _ hm
  obtain ⟨c00, c01, y00, y01, n0, rfl, rfl, rfl, g00, g01⟩ := Go.Joins.open_agg2 Try.underlying29 (by kernel_rfl) cells29 (hval 0 29 v0 rfl rfl) h0
  obtain ⟨a00, e00, rfl, _⟩ := DataW.trod_int Try.underlying3 g00
  simp only [List.cons.injEq, and_true] at e00
  subst e00
  obtain ⟨a01, e01, rfl, _⟩ := DataW.trod_int Try.underlying3 g01
  simp only [List.cons.injEq, and_true] at e01
  subst e01
  have k1 := h1
  have lt1 : ∀ x ∈ p1, x.block < W.heap.size := by obtain ⟨m, hm⟩ := k1; exact DataW.trod_lt m _ _ _ hm
  obtain ⟨c10, c11, y10, y11, n1, rfl, rfl, rfl, g10, g11⟩ := Go.Joins.open_agg2 Try.underlying29 (by kernel_rfl) cells29 (hval 1 29 v1 rfl rfl) h1
  obtain ⟨a10, e10, rfl, _⟩ := DataW.trod_int Try.underlying3 g10
  simp only [List.cons.injEq, and_true] at e10
  subst e10
  obtain ⟨a11, e11, rfl, _⟩ := DataW.trod_int Try.underlying3 g11
  simp only [List.cons.injEq, and_true] at e11
  subst e11
  have k2 := h2
  have lt2 : ∀ x ∈ p2, x.block < W.heap.size := by obtain ⟨m, hm⟩ := k2; exact DataW.trod_lt m _ _ _ hm
  obtain ⟨c20, c21, c22, y20, y21, y22, n2, rfl, rfl, rfl, g20, g21, g22⟩ := Go.Joins.open_agg3 Try.underlying40 (by kernel_rfl) cells40 (hval 2 40 v2 rfl rfl) h2
  obtain ⟨a20, e20, rfl, _⟩ := DataW.trod_int Try.underlying3 g20
  simp only [List.cons.injEq, and_true] at e20
  subst e20
  obtain ⟨a21, e21, rfl, _⟩ := DataW.trod_int Try.underlying3 g21
  simp only [List.cons.injEq, and_true] at e21
  subst e21
  obtain ⟨a22, e22, rfl, _⟩ := DataW.trod_int Try.underlying3 g22
  simp only [List.cons.injEq, and_true] at e22
  subst e22
  clear hA0 hval0
  refine (walk a00 a01 a10 a11 a20 a21 a22 W).mono fun e W' ⟨he, bel⟩ => ?_
  subst he
  exact ⟨_, rfl, _, _, _, [], _, [], hW', trodAll_mk1 (shut_bool Try.underlying4 _), (trodAll_cons_mk (Below.trod laidOut (by kernel_rfl) (of_decide_eq_true (by kernel_rfl)) k0 bel lt0) (trodAll_cons_mk (Below.trod laidOut (by kernel_rfl) (of_decide_eq_true (by kernel_rfl)) k1 bel lt1) (trodAll_cons_mk (Below.trod laidOut (by kernel_rfl) (of_decide_eq_true (by kernel_rfl)) k2 bel lt2) trodAll_mk0))), rfl, bel.frame _, fun h => by cases h⟩

theorem over : Rows.axiomPointsRow.holds Try.pinned (OpenSpec.ofChange Rows.axiomPointsSpec) :=
  OpenClaim.holds_of_wide 7 Try.f7 rfl rfl rfl rfl rfl rfl rfl ⟨rfl, rfl, rfl, rfl, rfl⟩ rfl rfl rfl rfl rfl (by kernel_rfl) Try.func7 (by kernel_rfl)
    (of_decide_eq_true (by kernel_rfl)) (by unfold Func.isWrapper; first | (rw [if_pos (by decide +kernel)]; kernel_rfl) | (rw [if_neg (by decide +kernel)]; exact ⟨rfl, rfl⟩))
    (fun os started H enc _ => lifted os started H enc)

/-- ████ THE STATEMENT ████ -/
theorem proved : Rows.AxiomPointsSaid := over
#print axioms proved
end Go.Proofs.Ythfhkmgegkhljaa.axiomPoints
