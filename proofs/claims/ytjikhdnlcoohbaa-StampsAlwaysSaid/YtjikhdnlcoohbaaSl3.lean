/- Collect of rows. -/
import Derived.Test.YtjikhdnlcoohbaaSl2
namespace Go.Proofs.Ytjikhdnlcoohbaa
set_option linter.unusedSimpArgs false
set_option linter.unusedVariables false
open Go.RowKit St
attribute [local go_sem] Oper.semAt_some
set_option maxRecDepth 100000 in
set_option maxHeartbeats 1600000 in
theorem collectL_in (n Bn N : Nat) (hN : N ≤ 8) (h1 : 1 ≤ N) (w : World) (hn : 4 ≤ n) (hBn : Bn < w.heap.size) (hc : w.cell? ⟨Bn, 0, none⟩ = some (.int .i64 N)) (Ls : List (List Int)) (hLs : Ls = growL (N - 1) [1]) (hll : Ls.length ≤ 100000) :
    CallsIn Fence.wide n Try.prog 39 #[.func (.func 41) #[] #[.pointer (some ⟨Bn, 0, none⟩)]] w fun e w' => ∃ v vals, e = .returned v ∧ w'.ownsRow w.heap.size 22 1 v Ls.length vals ∧ RowsG w' w.heap.size N vals Ls ∧ Below w.heap.size w w' := by
  have cA := appseqL_in (n - 1) Bn N hN h1 w (by omega) hBn hc Ls hLs hll
  have h1n : 1 ≤ n := by omega
  have hf1 : Fence.wide.fn 48 := trivial
  refine callsIn_of_wp Try.func39 rfl trivial ?_ rfl
  simp only [Try.ntmps39, List.size_toArray, List.length_cons, List.length_nil, Nat.reduceAdd, Nat.reduceSub, Array.replicate_succ, Array.replicate_zero, List.push_toArray, List.append_toArray, List.nil_append, List.cons_append]
  gi_wp2_with (gi_at_call 48; refine cA.mono ?_; rintro e w1 ⟨v, vals, rfl, ho, hr, hb1⟩)
  go_ret
  exact ⟨v, vals, rfl, ho, hr, hb1⟩
end Go.Proofs.Ytjikhdnlcoohbaa
