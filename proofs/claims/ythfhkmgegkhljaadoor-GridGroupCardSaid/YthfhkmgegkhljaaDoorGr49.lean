/- What the walk of GridGroup needs of its numbers, round by round. -/
import Derived.Test.YthfhkmgegkhljaaDoorGr48
import Derived.Test.YthfhkmgegkhljaaDoorReg
namespace Go.Proofs.YthfhkmgegkhljaaDoor
set_option linter.unusedSimpArgs false
set_option linter.unusedVariables false
open Go.RowKit

structure GI (tx ty tk : Int) (n : Nat) (M : V6) (T : T3) : Prop where
  gm : GM M (4000 * n)
  mv : T = moveV M tx ty tk
theorem gi_zero {tx ty tk : Int} (k1 : 0 ≤ tk) (k2 : tk ≤ 3) : GI tx ty tk 0 stillV (tx, ty, tk) := ⟨gm_still, (mv_still k1 k2).symm⟩
structure GStep (tx ty tk : Int) (n : Nat) (M : V6) (T : T3) (v c : Int) : Prop where
  l : lineMayB v c = true
  m : mapMayB (mirB v c) = true
  a : mapMayB M = true
  t : triMayB T.1 T.2.1 T.2.2 = true
  u : triMayB (moveV (mirB v c) T.1 T.2.1 T.2.2).1 (moveV (mirB v c) T.1 T.2.1 T.2.2).2.1 (moveV (mirB v c) T.1 T.2.1 T.2.2).2.2 = true
  aft : mapMayB (afterV M (mirB v c)) = true
  nx : GI tx ty tk (n + 1) (afterV M (mirB v c)) (moveV (mirB v c) T.1 T.2.1 T.2.2)
theorem gi_step {tx ty tk : Int} {n : Nat} {M : V6} {T : T3} {v c : Int} (h : GI tx ty tk n M T) (hn : n < 8) (k1 : 0 ≤ tk) (k2 : tk ≤ 3) (x1 : -1000 ≤ tx) (x2 : tx ≤ 1000) (y1 : -1000 ≤ ty) (y2 : ty ≤ 1000)
    (v1 : 0 ≤ v) (v2 : v ≤ 3) (c1 : -2000 ≤ c) (c2 : c ≤ 2000) (hc : c % 2 = 0) : GStep tx ty tk n M T v c := by
  have g1 := gm_mir v1 v2 c1 c2 hc
  have r0 := mv_rng (m := 1000) h.gm k1 k2 x1 x2 y1 y2
  have hmv := mv_after (x := tx) (y := ty) h.gm g1 k1 k2
  rw [← h.mv] at hmv r0
  have r1 := mv_rng (m := 40000) g1 r0.2.2.1 r0.2.2.2 (by omega) (by omega) (x := T.1) (by omega) (y := T.2.1) (by omega)
  have g2 := gm_after h.gm g1
  exact ⟨line_of v1 v2 (by omega) (by omega) hc, g1.may (by omega), h.gm.may (by omega), may_of (by omega) (by omega) (by omega) (by omega) r0.2.2.1 r0.2.2.2,
    may_of (by omega) (by omega) (by omega) (by omega) r1.2.2.1 r1.2.2.2, g2.may (by omega), ⟨g2.mono (by omega), hmv.symm⟩⟩
structure GEnd (tx ty tk : Int) (M : V6) (T : T3) : Prop where
  a : mapMayB M = true
  b : mapMayB (backV M) = true
  t : triMayB tx ty tk = true
  u : triMayB T.1 T.2.1 T.2.2 = true
  s : mapMayB stillV = true
  mv : moveV M tx ty tk = T
  bk : moveV (backV M) T.1 T.2.1 T.2.2 = (tx, ty, tk)
  o1 : afterV M (backV M) = stillV
  o2 : afterV (backV M) M = stillV
theorem gi_end {tx ty tk : Int} {n : Nat} {M : V6} {T : T3} (h : GI tx ty tk n M T) (hn : n ≤ 8) (k1 : 0 ≤ tk) (k2 : tk ≤ 3) (x1 : -1000 ≤ tx) (x2 : tx ≤ 1000) (y1 : -1000 ≤ ty) (y2 : ty ≤ 1000) : GEnd tx ty tk M T := by
  have r0 := mv_rng (m := 1000) h.gm k1 k2 x1 x2 y1 y2
  have g2 := gm_back h.gm
  have bs := back_still h.gm
  have hb := mv_back (x := tx) (y := ty) h.gm k1 k2
  rw [← h.mv] at r0 hb
  exact ⟨h.gm.may (by omega), g2.may (by omega), may_of (by omega) (by omega) (by omega) (by omega) k1 k2, may_of (by omega) (by omega) (by omega) (by omega) r0.2.2.1 r0.2.2.2, gm_still.may (by omega), h.mv.symm, hb, bs.1, bs.2⟩
theorem eqM6 (a0 a1 a2 a3 a4 a5 b0 b1 b2 b3 b4 b5 : Int) (w : World) : (binOp .eql 51 (.agg #[.int .i64 a0, .int .i64 a1, .int .i64 a2, .int .i64 a3, .int .i64 a4, .int .i64 a5]) (.agg #[.int .i64 b0, .int .i64 b1, .int .i64 b2, .int .i64 b3, .int .i64 b4, .int .i64 b5])).run Tryd.prog w = .ok (.bool (eqL [(a0, b0), (a1, b1), (a2, b2), (a3, b3), (a4, b4), (a5, b5)])) w := by
  simp [go_sem, eqL]
  repeat (first | rfl | (split <;> simp_all))
/-- Two old boxes and nothing else: the start of a region that stores into what was there. -/
theorem ri_start2 {n B : Nat} {w1 : World} {vals : List (Option Value)} {mems : List (Option (Value → World → Prop))} {bxs : List Bx} {s : Nat → Value} {b : Nat → Nat} (hB : B ≤ w1.heap.size)
    (hv : ∀ i v, vals[i]? = some (some v) → n ≤ i → s i = v) (hb : (bxs.all fun q => Nat.blt q.st n) = true)
    (hm : ∀ i F, mems[i]? = some (some F) → n ≤ i → ∃ X : Nat → Prop, (∀ k, X k → k < w1.heap.size) ∧ Foot F (s i) w1.drew X ∧ ∀ q ∈ bxs, n ≤ q.al → ¬ X (b q.al))
    (hq : ∀ q ∈ bxs, n ≤ q.al → s q.al = .pointer (some ⟨b q.al, 0, none⟩) ∧ B ≤ b q.al ∧ w1.heap[b q.al]? = some q.z)
    (hd : ∀ q ∈ bxs, ∀ q' ∈ bxs, n ≤ q.al → n ≤ q'.al → q.al ≠ q'.al → b q.al ≠ b q'.al) :
    RI n B w1 vals mems bxs (Array.replicate n false) s b w1.drew := by
  have hon : ∀ {i}, isOn n (Array.replicate n false) i = true → n ≤ i := by
    intro i hi
    rcases Nat.lt_or_ge i n with h | h
    · have := isOn_lt h hi
      simp [h] at this
    · exact h
  have hst : ∀ {q : Bx}, q ∈ bxs → q.st < n := fun hq => Nat.le_of_ble_eq_true (List.all_eq_true.1 hb _ hq)
  refine ⟨by simp, (Below.refl _ _).drew, hB, ?_, fun i F hi hL => ?_, ?_, ?_, ?_⟩
  · exact fun i v hi hL => hv i v hi (hon hL)
  · obtain ⟨X, h1, h2, h3⟩ := hm i F hi (hon hL)
    exact ⟨X, h1, h2, fun q hq hL' => h3 q hq (hon hL')⟩
  · intro q hq' hL
    obtain ⟨h1, h2, h3⟩ := hq q hq' (hon hL)
    refine ⟨h1, h2, blk_lt h3, fun _ => h3, fun hy => ?_⟩
    have := hon hy
    have := hst hq'
    omega
  · intro q hq' hL
    have := hon hL
    have := hst hq'
    omega
  · exact fun q hq' q' hq2 h1 h2 => hd q hq' q' hq2 (hon h1) (hon h2)
end Go.Proofs.YthfhkmgegkhljaaDoor
