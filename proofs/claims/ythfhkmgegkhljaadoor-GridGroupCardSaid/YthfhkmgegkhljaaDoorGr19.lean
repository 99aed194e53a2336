/- Equal points, edges and triangles; hasEdge; slices.Index over three edges. Printed by gen_gr19.py. -/
import Derived.Test.YthfhkmgegkhljaaDoorGr18
import Derived.Laws.StructEq
namespace Go.Proofs.YthfhkmgegkhljaaDoor
open Go.RowKit

def eqL : List (Int × Int) → Bool
  | [] => true
  | (a, b) :: l => (a == b) && eqL l
theorem run_eq_arr3 {P : Program} (w : World) (d n : Nat) (t e : TypeId) (xs ys : Array Value) (b0 b1 b2 : Bool) (ht : P.underlying t = some (.array 3 e))
    (hs : ∀ w, (sizeOf e).run P w = .ok n w) (ha : ∀ w, (isAgg e).run P w = .ok true w)
    (h0 : ∀ w, (Op.equalIn d e (.agg (xs.extract 0 n)) (.agg (ys.extract 0 n))).run P w = .ok b0 w)
    (h1 : ∀ w, (Op.equalIn d e (.agg (xs.extract n (n + n))) (.agg (ys.extract n (n + n)))).run P w = .ok b1 w)
    (h2 : ∀ w, (Op.equalIn d e (.agg (xs.extract (2 * n) (2 * n + n))) (.agg (ys.extract (2 * n) (2 * n + n)))).run P w = .ok b2 w) :
    (Op.equalIn (d + 1) t (.agg xs) (.agg ys)).run P w = .ok (b0 && b1 && b2) w := by
  rw [Op.equalIn]
  simp only [Sem.run_bind, run_underlying ht, Result.andThen_ok]
  simp [List.range', go_sem, hs, ha, h0, h1, h2]
  cases b0 <;> cases b1 <;> cases b2 <;> simp
theorem eqP (a0 a1 b0 b1 : Int) (w : World) : (binOp .eql 25 (.agg #[.int .i64 a0, .int .i64 a1]) (.agg #[.int .i64 b0, .int .i64 b1])).run Tryd.prog w = .ok (.bool (eqL [(a0, b0), (a1, b1)])) w := by
  simp [go_sem, eqL]
  repeat (first | rfl | (split <;> simp_all))
theorem eqE (a0 a1 a2 a3 b0 b1 b2 b3 : Int) (w : World) : (binOp .eql 27 (.agg #[.int .i64 a0, .int .i64 a1, .int .i64 a2, .int .i64 a3]) (.agg #[.int .i64 b0, .int .i64 b1, .int .i64 b2, .int .i64 b3])).run Tryd.prog w = .ok (.bool (eqL [(a0, b0), (a1, b1), (a2, b2), (a3, b3)])) w := by
  simp [go_sem, eqL]
  repeat (first | rfl | (split <;> simp_all))
theorem eqT (a0 a1 a2 b0 b1 b2 : Int) (w : World) : (binOp .eql 23 (.agg #[.int .i64 a0, .int .i64 a1, .int .i64 a2]) (.agg #[.int .i64 b0, .int .i64 b1, .int .i64 b2])).run Tryd.prog w = .ok (.bool (eqL [(a0, b0), (a1, b1), (a2, b2)])) w := by
  simp [go_sem, eqL]
  repeat (first | rfl | (split <;> simp_all))
theorem neE (a0 a1 a2 a3 b0 b1 b2 b3 : Int) (w : World) : (binOp .neq 27 (.agg #[.int .i64 a0, .int .i64 a1, .int .i64 a2, .int .i64 a3]) (.agg #[.int .i64 b0, .int .i64 b1, .int .i64 b2, .int .i64 b3])).run Tryd.prog w = .ok (.bool (!(eqL [(a0, b0), (a1, b1), (a2, b2), (a3, b3)]))) w := by
  simp [go_sem, eqL]
  repeat (first | rfl | (split <;> simp_all))
theorem neT (a0 a1 a2 b0 b1 b2 : Int) (w : World) : (binOp .neq 23 (.agg #[.int .i64 a0, .int .i64 a1, .int .i64 a2]) (.agg #[.int .i64 b0, .int .i64 b1, .int .i64 b2])).run Tryd.prog w = .ok (.bool (!(eqL [(a0, b0), (a1, b1), (a2, b2)]))) w := by
  simp [go_sem, eqL]
  repeat (first | rfl | (split <;> simp_all))
theorem eqPs (a0 a1 a2 a3 a4 a5 b0 b1 b2 b3 b4 b5 : Int) (w : World) : (binOp .eql 28 (.agg #[.int .i64 a0, .int .i64 a1, .int .i64 a2, .int .i64 a3, .int .i64 a4, .int .i64 a5]) (.agg #[.int .i64 b0, .int .i64 b1, .int .i64 b2, .int .i64 b3, .int .i64 b4, .int .i64 b5])).run Tryd.prog w = .ok (.bool (eqL [(a0, b0), (a1, b1), (a2, b2), (a3, b3), (a4, b4), (a5, b5)])) w := by
  rw [run_eql_struct]
  show ((Op.equalIn (9996 + 1 + 1 + 1 + 1) 28 _ _).run Tryd.prog w).andThen _ = _
  generalize 9996 = d
  have h0 : ∀ w, (Op.equalIn (d + 1 + 1 + 1) 25 (.agg #[.int .i64 a0, .int .i64 a1]) (.agg #[.int .i64 b0, .int .i64 b1])).run Tryd.prog w = .ok (eqL [(a0, b0), (a1, b1)]) w := by
    intro w
    simp [go_sem, eqL]
    repeat (first | rfl | (split <;> simp_all))
  have h1 : ∀ w, (Op.equalIn (d + 1 + 1 + 1) 25 (.agg #[.int .i64 a2, .int .i64 a3]) (.agg #[.int .i64 b2, .int .i64 b3])).run Tryd.prog w = .ok (eqL [(a2, b2), (a3, b3)]) w := by
    intro w
    simp [go_sem, eqL]
    repeat (first | rfl | (split <;> simp_all))
  have h2 : ∀ w, (Op.equalIn (d + 1 + 1 + 1) 25 (.agg #[.int .i64 a4, .int .i64 a5]) (.agg #[.int .i64 b4, .int .i64 b5])).run Tryd.prog w = .ok (eqL [(a4, b4), (a5, b5)]) w := by
    intro w
    simp [go_sem, eqL]
    repeat (first | rfl | (split <;> simp_all))
  rw [run_eq_arr3 w _ 2 28 25 _ _ _ _ _ (by kernel_rfl) (fun w => by simp [go_sem]) (fun w => by simp [go_sem]) h0 h1 h2]
  simp [eqL, Bool.and_assoc]
theorem eqEs (a0 a1 a2 a3 a4 a5 a6 a7 a8 a9 a10 a11 b0 b1 b2 b3 b4 b5 b6 b7 b8 b9 b10 b11 : Int) (w : World) : (binOp .eql 32 (.agg #[.int .i64 a0, .int .i64 a1, .int .i64 a2, .int .i64 a3, .int .i64 a4, .int .i64 a5, .int .i64 a6, .int .i64 a7, .int .i64 a8, .int .i64 a9, .int .i64 a10, .int .i64 a11]) (.agg #[.int .i64 b0, .int .i64 b1, .int .i64 b2, .int .i64 b3, .int .i64 b4, .int .i64 b5, .int .i64 b6, .int .i64 b7, .int .i64 b8, .int .i64 b9, .int .i64 b10, .int .i64 b11])).run Tryd.prog w = .ok (.bool (eqL [(a0, b0), (a1, b1), (a2, b2), (a3, b3), (a4, b4), (a5, b5), (a6, b6), (a7, b7), (a8, b8), (a9, b9), (a10, b10), (a11, b11)])) w := by
  rw [run_eql_struct]
  show ((Op.equalIn (9996 + 1 + 1 + 1 + 1) 32 _ _).run Tryd.prog w).andThen _ = _
  generalize 9996 = d
  have h0 : ∀ w, (Op.equalIn (d + 1 + 1 + 1) 27 (.agg #[.int .i64 a0, .int .i64 a1, .int .i64 a2, .int .i64 a3]) (.agg #[.int .i64 b0, .int .i64 b1, .int .i64 b2, .int .i64 b3])).run Tryd.prog w = .ok (eqL [(a0, b0), (a1, b1), (a2, b2), (a3, b3)]) w := by
    intro w
    simp [go_sem, eqL]
    repeat (first | rfl | (split <;> simp_all))
  have h1 : ∀ w, (Op.equalIn (d + 1 + 1 + 1) 27 (.agg #[.int .i64 a4, .int .i64 a5, .int .i64 a6, .int .i64 a7]) (.agg #[.int .i64 b4, .int .i64 b5, .int .i64 b6, .int .i64 b7])).run Tryd.prog w = .ok (eqL [(a4, b4), (a5, b5), (a6, b6), (a7, b7)]) w := by
    intro w
    simp [go_sem, eqL]
    repeat (first | rfl | (split <;> simp_all))
  have h2 : ∀ w, (Op.equalIn (d + 1 + 1 + 1) 27 (.agg #[.int .i64 a8, .int .i64 a9, .int .i64 a10, .int .i64 a11]) (.agg #[.int .i64 b8, .int .i64 b9, .int .i64 b10, .int .i64 b11])).run Tryd.prog w = .ok (eqL [(a8, b8), (a9, b9), (a10, b10), (a11, b11)]) w := by
    intro w
    simp [go_sem, eqL]
    repeat (first | rfl | (split <;> simp_all))
  rw [run_eq_arr3 w _ 4 32 27 _ _ _ _ _ (by kernel_rfl) (fun w => by simp [go_sem]) (fun w => by simp [go_sem]) h0 h1 h2]
  simp [eqL, Bool.and_assoc]
end Go.Proofs.YthfhkmgegkhljaaDoor
