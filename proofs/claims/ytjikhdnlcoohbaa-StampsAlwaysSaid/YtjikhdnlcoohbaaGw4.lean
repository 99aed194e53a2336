/- grow at every order; the iterator orders. -/
import Derived.Test.YtjikhdnlcoohbaaGw3
namespace Go.Proofs.Ytjikhdnlcoohbaa
set_option linter.unusedSimpArgs false
set_option linter.unusedVariables false
open Go.RowKit St
attribute [local go_sem] Oper.semAt_some

theorem grow_all (N l B : Nat) (hN : N ≤ 8) (Ls : List (List Int)) (J : List (Nat × Nat) → World → Prop) (hJ : ∀ s A C, J s A → Below A.heap.size A C → J s C) (hY : YieldOk N l B Ls J) : ∀ r, GrowOk N l B Ls J r
  | 0 => grow_zero N l B hN Ls J hY
  | r + 1 => grow_step N l B r hN Ls J hJ (grow_all N l B hN Ls J hJ hY r)
set_option maxRecDepth 100000 in
set_option maxHeartbeats 1600000 in
theorem orders1_mem (N Bn : Nat) (hN : N ≤ 8) (h1 : 1 ≤ N) (m : Nat) (hm : 1 ≤ m) (w : World) (hBn : Bn < w.heap.size) (hc : w.cell? ⟨Bn, 0, none⟩ = some (.int .i64 N)) :
    SeqMem Fence.wide m Try.prog 41 #[.pointer (some ⟨Bn, 0, none⟩)] (fun x : Nat × Nat => #[Value.slice (some ⟨x.1, 0, none⟩) N x.2]) (Gv w.heap.size N (growL (N - 1) [1])) KpI (fun xs => xs.length = (growL (N - 1) [1]).length) w := by
  intro l J W hW hJ hY h0
  have hg := grow_all N l w.heap.size hN (growL (N - 1) [1]) J hJ (fun pre x W1 a b => yield_wide (hY pre x W1 a b)) (N - 1)
  have hc' := (hW.cell (p := ⟨Bn, 0, none⟩) hBn).trans hc
  have hws := hW.size
  have HG := Lib.hid hg
  have HJ := Lib.hid hJ
  clear hg hY hc hJ
  refine callsIn_of_wp Try.func41 rfl trivial ?_ rfl
  simp only [Try.ntmps41, List.size_toArray, List.length_cons, List.length_nil, Nat.reduceAdd, Nat.reduceSub, Array.replicate_succ, Array.replicate_zero, List.push_toArray, List.append_toArray, List.nil_append, List.cons_append]
  have hI : IRow (W.alloc (.cells #[.int .i64 1] 3)) W.heap.size 1 1 [1] := ⟨rfl, Nat.le_refl _, by decide, _, new_blk _ rfl, rfl, rfl⟩
  have cG := callsIn_wide.1 (HG.out 1 W.heap.size 1 [1] [] [] [] (W.alloc (.cells #[.int .i64 1] 3)) (by omega) (by decide) hI hws (by simp; omega) (List.Perm.refl _) (by simp) rfl (HJ.out _ _ _ h0 (below_new _ _)))
  have CG := Lib.hid cG
  clear cG
  have hcc := al_c hc' (.cells #[.int .i64 1] 3)
  have hfg : Fence.wide.fn 42 := trivial
  gi_wp2_with (gi_at_call 42; refine (callsIn_wide.2 CG.out).mono ?_; rintro e w1 ⟨rfl, ⟨xs, hl, hJx⟩, hk⟩)
  go_end0
  exact ⟨⟨_, rfl⟩, xs, hl, by simpa using hJx⟩
end Go.Proofs.Ytjikhdnlcoohbaa
