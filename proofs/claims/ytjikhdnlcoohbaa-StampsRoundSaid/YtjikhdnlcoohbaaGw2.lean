/- grow, the walk. -/
import Derived.Test.YtjikhdnlcoohbaaGw1
namespace Go.Proofs.Ytjikhdnlcoohbaa
set_option linter.unusedSimpArgs false
set_option linter.unusedVariables false
open Go.RowKit St
attribute [local go_sem] Oper.semAt_some

/-- What grow is shown to do at an order with r stamps to come. -/
def GrowOk (N l B : Nat) (Ls : List (List Int)) (J : List (Nat × Nat) → World → Prop) (r : Nat) : Prop :=
  ∀ (k g c : Nat) (o : List Int) (before after : List (List Int)) (pre : List (Nat × Nat)) (W : World), k + r = N → 0 < k → IRow W g k c o → B ≤ g → B ≤ W.heap.size → o.Perm (upto k) →
    Ls = before ++ growL r o ++ after → pre.length = before.length → J pre W →
    CallsIn Fence.wide 2 Try.prog 42 #[.slice (some ⟨g, 0, none⟩) k c, .int .i64 N, .func (.yield l) #[] #[]] W fun e W' =>
      e = .returned (.bool true) ∧ (∃ xs : List (Nat × Nat), xs.length = (growL r o).length ∧ J (pre ++ xs) W') ∧ KpI W W'
def YieldOk (N l B : Nat) (Ls : List (List Int)) (J : List (Nat × Nat) → World → Prop) : Prop :=
  ∀ pre x W1, J pre W1 → Gv B N Ls pre x W1 → YieldAt Fence.wide 1 Try.prog l #[.slice (some ⟨x.1, 0, none⟩) N x.2] W1 fun e W' => e = .returned (.bool true) ∧ J (pre ++ [x]) W' ∧ KpI W1 W'
set_option maxRecDepth 100000 in
set_option maxHeartbeats 1600000 in
theorem grow_zero (N l B : Nat) (hN : N ≤ 8) (Ls : List (List Int)) (J : List (Nat × Nat) → World → Prop) (hY : YieldOk N l B Ls J) : GrowOk N l B Ls J 0 := by
  intro k g c o before after pre W hk h0 hI hB hBW hp hLs hpre hJ
  obtain rfl : k = N := by omega
  have hG : Gv B k Ls pre (g, c) W := ⟨o, by rw [hLs, hpre, List.append_assoc, List.getElem?_append_right (Nat.le_refl _)]; simp [growL], hI, hB⟩
  obtain ⟨fn, tmps, assign, body, hy, hR⟩ := hY pre (g, c) W hJ hG
  clear hG hLs hI
  refine callsIn_of_wp Try.func42 rfl trivial ?_ rfl
  simp only [Try.ntmps42, List.size_toArray, List.length_cons, List.length_nil, Nat.reduceAdd, Nat.reduceSub, Array.replicate_succ, Array.replicate_zero, List.push_toArray, List.append_toArray, List.nil_append, List.cons_append]
  gi_wp2
  refine hR.mono ?_
  rintro e W3 ⟨rfl, hJ3, hk3⟩
  gi_wp2
  go_ret
  exact ⟨rfl, ⟨[(g, c)], rfl, hJ3⟩, hk3⟩
end Go.Proofs.Ytjikhdnlcoohbaa
