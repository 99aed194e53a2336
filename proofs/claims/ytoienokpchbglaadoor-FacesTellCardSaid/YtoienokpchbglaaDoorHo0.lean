/- faces.Holes. Printed by gen_ho.py. -/
import Derived.Test.YtoienokpchbglaaDoorKp
import Derived.Test.YtoienokpchbglaaDoorFc1
namespace Go.Proofs.YtoienokpchbglaaDoor
set_option linter.unusedSimpArgs false
set_option linter.unusedVariables false
open Go.RowKit Go.Maps

/-- which keys a counting map has -/
structure Cnt {α : Type} [DecidableEq α] (k : KE α) (w : World) (mb n : Nat) (S : α → Prop) : Prop where
  map : ∃ f, MapI k w mb n f ∧ (∀ a, (f a).isSome = true ↔ S a) ∧ (∀ a, 0 ≤ (f a).getD 0) ∧ (∀ a, (f a).getD 0 ≤ n)
theorem Cnt.made {α : Type} [DecidableEq α] (k : KE α) (w : World) : Cnt k (w.alloc (.map #[] 0)) w.heap.size 0 (fun _ => False) :=
  ⟨_, MapI.made k w, fun a => by simp, fun a => by simp, fun a => by simp⟩
theorem Cnt.stay {α : Type} [DecidableEq α] {k : KE α} {w w' : World} {mb n : Nat} {S : α → Prop} (h : Cnt k w mb n S) (hb : Below w.heap.size w w') : Cnt k w' mb n S := by
  obtain ⟨f, h1, h2⟩ := h
  exact ⟨f, h1.stay hb, h2⟩
theorem Cnt.grown {α : Type} [DecidableEq α] {k : KE α} {w w' : World} {mb n m : Nat} {S : α → Prop} (h : Cnt k w mb n S) (hg : w.grownBy w' (some m)) (hne : mb ≠ m) : Cnt k w' mb n S := by
  obtain ⟨f, h1, h2⟩ := h
  exact ⟨f, h1.heap (hg.block mb h1.lt (fun e => hne (Option.some.inj e))), h2⟩
theorem Cnt.lt {α : Type} [DecidableEq α] {k : KE α} {w : World} {mb n : Nat} {S : α → Prop} (h : Cnt k w mb n S) : mb < w.heap.size := by
  obtain ⟨f, h1, h2⟩ := h
  exact h1.lt
theorem Cnt.re {α : Type} [DecidableEq α] {k : KE α} {w : World} {mb n : Nat} {S S' : α → Prop} (h : Cnt k w mb n S) (hs : ∀ a, S a ↔ S' a) : Cnt k w mb n S' := by
  obtain ⟨f, h1, h2, h3⟩ := h
  exact ⟨f, h1, fun a => (h2 a).trans (hs a), h3⟩
theorem Cnt.inc {α : Type} [DecidableEq α] {k : KE α} {w' : World} {mb n : Nat} {S : α → Prop} {f : α → Option Int} {a : α} (h2 : ∀ a, (f a).isSome = true ↔ S a) (h3 : ∀ a, 0 ≤ (f a).getD 0) (h4 : ∀ a, (f a).getD 0 ≤ n) (hm : MapI k w' mb (n + 1) (setF f a ((f a).getD 0 + 1))) :
    Cnt k w' mb (n + 1) (fun x => S x ∨ x = a) := by
  refine ⟨_, hm, fun x => ?_, fun x => ?_, fun x => ?_⟩
  · unfold setF
    by_cases e : x = a
    · simp [e]
    · simp [e, h2 x]
  · unfold setF
    by_cases e : x = a
    · subst e
      have := h3 x
      simp
      omega
    · simp [e]
      have := h3 x
      simpa using this
  · unfold setF
    by_cases e : x = a
    · subst e
      have := h4 x
      simp
      omega
    · have := h4 x
      simp [e]
      omega
theorem Cnt.len {α : Type} [DecidableEq α] {k : KE α} {w : World} {mb n : Nat} {S : α → Prop} (h : Cnt k w mb n S) : ∃ ks : List α, ks.Nodup ∧ (∀ a, a ∈ ks ↔ S a) ∧ ∀ ty w', w'.heap[mb]? = w.heap[mb]? → (Builtin.len_ #[k.T] ty #[.map (some mb)]).run Tryd.prog w' = .ok (.int .i64 ks.length) w' := by
  obtain ⟨f, ⟨D, h1, h2, ks, k1, k2, k3, k4⟩, h5, _⟩ := h
  refine ⟨ks, k1, fun a => (k2 a).symm.trans (h5 a), fun ty w' hw => ?_⟩
  obtain ⟨es, c, g1, g2⟩ := h1
  have h1' : w'.ownsMap Tryd.prog k.K (plainElem Tryd.prog 3) mb n D := ⟨es, c, hw.trans g1, g2⟩
  rw [h1'.len k.ht ty, k4]
/-- the edges of the first i triangles, and the first k of the next one's -/
def Edn (l : List T3) (i k : Nat) (e : E4) : Prop := ∃ j t m, l[j]? = some t ∧ m < 3 ∧ (j < i ∨ j = i ∧ m < k) ∧ eT t m = e
theorem Edn.none (l : List T3) (p : E4) : ¬ Edn l 0 0 p := by rintro ⟨j, t, m, _, _, h, _⟩; omega
theorem Edn.step {l : List T3} {i k : Nat} {t : T3} (ht : l[i]? = some t) (hk : k < 3) (p : E4) : Edn l i k p ∨ p = eT t k ↔ Edn l i (k + 1) p := by
  constructor
  · rintro (⟨j, u, m, h1, h2, h3, h4⟩ | rfl)
    · exact ⟨j, u, m, h1, h2, by omega, h4⟩
    · exact ⟨i, t, k, ht, hk, by omega, rfl⟩
  · rintro ⟨j, u, m, h1, h2, h3, h4⟩
    by_cases h : j < i ∨ j = i ∧ m < k
    · exact .inl ⟨j, u, m, h1, h2, h, h4⟩
    · obtain ⟨rfl, rfl⟩ : j = i ∧ m = k := by omega
      rw [ht] at h1
      cases h1
      exact .inr h4.symm
theorem Edn.row {l : List T3} {i : Nat} (p : E4) : Edn l i 3 p ↔ Edn l (i + 1) 0 p := by
  constructor
  · rintro ⟨j, u, m, h1, h2, h3, h4⟩
    exact ⟨j, u, m, h1, h2, by omega, h4⟩
  · rintro ⟨j, u, m, h1, h2, h3, h4⟩
    exact ⟨j, u, m, h1, h2, by omega, h4⟩
theorem Edn.all {l : List T3} {i : Nat} (hi : l.length ≤ i) (e : E4) : Edn l i 0 e ↔ e ∈ edgesA l := by
  rw [edgesA_mem]
  constructor
  · rintro ⟨j, u, m, h1, h2, h3, h4⟩
    exact ⟨u, List.mem_of_getElem? h1, hT_iff.2 ⟨m, h2, h4⟩⟩
  · rintro ⟨u, hu, h⟩
    obtain ⟨m, h2, h4⟩ := hT_iff.1 h
    obtain ⟨j, hj, e⟩ := List.getElem_of_mem hu
    exact ⟨j, u, m, by rw [List.getElem?_eq_getElem hj, e], h2, by omega, h4⟩
set_option maxRecDepth 100000 in
theorem idxP0 (p0 p1 p2 p3 p4 p5 : Value) (w : World) : (Instr.index 99 (.agg #[p0, p1, p2, p3, p4, p5]) (.int .i64 0)).run Tryd.prog w = .ok (.agg #[p0, p1]) w := by first | rfl | kernel_rfl | simp [Instr.index, go_sem]
set_option maxRecDepth 100000 in
theorem idxP1 (p0 p1 p2 p3 p4 p5 : Value) (w : World) : (Instr.index 99 (.agg #[p0, p1, p2, p3, p4, p5]) (.int .i64 1)).run Tryd.prog w = .ok (.agg #[p2, p3]) w := by first | rfl | kernel_rfl | simp [Instr.index, go_sem]
set_option maxRecDepth 100000 in
theorem idxP2 (p0 p1 p2 p3 p4 p5 : Value) (w : World) : (Instr.index 99 (.agg #[p0, p1, p2, p3, p4, p5]) (.int .i64 2)).run Tryd.prog w = .ok (.agg #[p4, p5]) w := by first | rfl | kernel_rfl | simp [Instr.index, go_sem]
abbrev agg3P (t : T3) : Value := .agg #[.int .i64 (2 * t.1 + 1), .int .i64 (2 * t.2.1 + 1), .int .i64 (cornX t.1 t.2.2), .int .i64 (cornY t.2.1 t.2.2), .int .i64 (cornX t.1 (t.2.2 + 1)), .int .i64 (cornY t.2.1 (t.2.2 + 1))]
theorem idxP (t : T3) (k : Nat) (hk : k < 3) (w : World) : (Instr.index 99 (agg3P t) (.int .i64 k)).run Tryd.prog w = .ok (aggP (crT t k).1 (crT t k).2) w := by
  rcases i3_cases hk with rfl | rfl | rfl
  · exact idxP0 _ _ _ _ _ _ w
  · exact idxP1 _ _ _ _ _ _ w
  · exact idxP2 _ _ _ _ _ _ w
end Go.Proofs.YtoienokpchbglaaDoor
