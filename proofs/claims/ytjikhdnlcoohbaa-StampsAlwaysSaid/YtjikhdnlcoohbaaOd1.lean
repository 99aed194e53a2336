/- Appending what lies in memory; plain words on the document's list of orders. -/
import Derived.Test.YtjikhdnlcoohbaaSo6
import Derived.Test.YtjikhdnlcoohbaaCnt
namespace Go.Proofs.Ytjikhdnlcoohbaa
set_option linter.unusedSimpArgs false
set_option linter.unusedVariables false
open Go.RowKit St
section
variable {w : World}
/-- 'append(s, x...)' onto a row of the call's own: the new elements lie in memory, or there are none. -/
theorem app_mem {T E : TypeId} {z : Value} {sz bytes : Nat} (hT : Try.prog.underlying T = some (.slice E)) (hE : (Try.prog.info? E).map (fun i => (i.zero, i.size, i.bytes)) = some (some z, sz, bytes))
    (hzs : z.cells.size = sz) (hsz : 0 < sz) (hby : bytes ≤ 4096)
    {ops : Array Oper} {rest : List Oper} {o : Oper} {a : Act} {Q : Exit → Act → World → Prop} (hgd : o.guard = none) (s x : Operand)
    (ho : o.op = .call { callee := .builtin .append, args := #[s, x], argTypes := #[T, T] })
    (base : Nat) (v : Value) (n : Nat) (xs news : List Value) (hs : a.eval s = v) (hown : w.ownsRow base E sz v n xs) (hbase : base ≤ w.heap.size)
    (A : Option Addr) (m c : Nat) (hx : a.eval x = .slice A m c) (hA : A = none → c = 0) (hr : Rd w sz A m news) (h1 : ∀ u ∈ news, u.oneCell' = true) (hn : n + m ≤ 2147483648)
    (h : ∀ v' w', w'.ownsRow base E sz v' (n + m) (xs ++ news) → Below base w w' → w.grownBy w' v.ownBlock → wpList Try.prog ops Q rest (a.put o.dst v') w') :
    wpList Try.prog ops Q (o :: rest) a w := by
  obtain ⟨i0, hi, hz0, hz1, hz2⟩ := info_parts hE
  have hmul : (n + m) * bytes ≤ 2147483648 * 4096 := Nat.mul_le_mul hn hby
  cases A with
  | none =>
    have hm : m = 0 := by
      rcases Nat.eq_zero_or_pos m with hm | hm
      · exact hm
      · obtain ⟨b, off, e, _⟩ := hr.2 hm
        cases e
    subst hm
    have hc := hA rfl
    subst hc
    have hnews : news = [] := List.length_eq_zero_iff.1 (by simpa using hr.1)
    subst hnews
    exact wpList_append_own_none hgd s x T ho base E i0 sz hT hi v n xs hs hown hx (h v w (by simpa using hown) (Below.refl _ _) ⟨rfl, rfl, rfl, Nat.le_refl _, fun _ _ _ => rfl⟩)
  | some ad =>
    refine wpList_append_own_at _ hgd s x T ho base E i0 z sz bytes hT hi hz0 hz1 hz2 hzs hsz v n xs hs hown ad m c news hx hr.1 ?_ h1 (by simp only [maxLen]; omega) (by omega) hbase ?_
    · intro j u hu
      have hm : 0 < m := by
        have h2 := (List.getElem?_eq_some_iff.1 hu).1
        have h3 := hr.1
        rcases Nat.eq_zero_or_pos m with hm | hm
        · rw [hm, Nat.zero_mul] at h3; omega
        · exact hm
      obtain ⟨b', off', e, _, hc⟩ := hr.2 hm
      cases e
      rw [addr_add]
      exact hc j u hu
    · intro v' w' h2 h3 _ _
      exact h v' w' h2 ((Below.refl _ _).grown h3 hbase (fun k hk => (hown.lt k hk).1)) h3
end
theorem own_sl0 {w : World} {base n sz : Nat} {e : TypeId} {v : Value} {xs : List Value} (h : w.ownsRow base e sz v n xs) : ∃ A c, v = .slice A n c ∧ (A = none → c = 0) := by
  rcases h.2 with ⟨rfl, h0⟩ | ⟨g, cap, cur, rfl, _⟩
  · exact ⟨none, 0, by rw [h0], fun _ => rfl⟩
  · exact ⟨_, _, rfl, fun h => by cases h⟩
theorem vis_one (zs : List Int) : ∀ u ∈ vis zs, u.oneCell' = true := fun u hu => by obtain ⟨z, _, rfl⟩ := List.mem_map.1 hu; rfl
theorem rows_one {W : World} {B N : Nat} {vals : List Value} {Ls : List (List Int)} (h : RowsG W B N vals Ls) : ∀ u ∈ vals, u.oneCell' = true := by
  intro u hu
  obtain ⟨j, hj, e⟩ := List.getElem_of_mem hu
  obtain ⟨g, c, h1, _⟩ := h.2 j (Ls[j]'(by rw [← h.1]; exact hj)) (List.getElem?_eq_getElem _)
  rw [List.getElem?_eq_getElem hj, e] at h1
  rw [Option.some.inj h1]
  rfl
theorem RowsG.app {W : World} {B N : Nat} {vals vals2 : List Value} {Ls Ls2 : List (List Int)} (h : RowsG W B N vals Ls) (h2 : RowsG W B N vals2 Ls2) : RowsG W B N (vals ++ vals2) (Ls ++ Ls2) := by
  refine ⟨by simp [h.1, h2.1], fun j L hL => ?_⟩
  by_cases hj : j < Ls.length
  · rw [List.getElem?_append_left hj] at hL
    obtain ⟨g', c', q1, q2⟩ := h.2 j L hL
    exact ⟨g', c', by rw [List.getElem?_append_left (by rw [h.1]; exact hj)]; exact q1, q2⟩
  · rw [List.getElem?_append_right (by omega)] at hL
    obtain ⟨g', c', q1, q2⟩ := h2.2 _ L hL
    exact ⟨g', c', by rw [List.getElem?_append_right (by rw [h.1]; omega), h.1]; exact q1, q2⟩
theorem RowsG.mono {W : World} {B B' N : Nat} {vals : List Value} {Ls : List (List Int)} (h : RowsG W B N vals Ls) (hB : B' ≤ B) : RowsG W B' N vals Ls :=
  ⟨h.1, fun j L hL => by obtain ⟨g, c, q1, q2, q3⟩ := h.2 j L hL; exact ⟨g, c, q1, q2, Nat.le_trans hB q3⟩⟩
theorem RowsG.nil (W : World) (B N : Nat) : RowsG W B N [] [] := ⟨rfl, fun j L h => by simp at h⟩
/-- what has been tried so far -/
def partO (n r : Nat) (b : List Int) (t : Nat) : List (List Int) := (List.range t).flatMap fun (i : Nat) => if b.contains ((i : Int) + 1) = true then [] else ordersOf n r (b ++ [(i : Int) + 1])
theorem partO_succ (n r : Nat) (b : List Int) (t : Nat) : partO n r b (t + 1) = partO n r b t ++ if b.contains ((t : Int) + 1) = true then [] else ordersOf n r (b ++ [(t : Int) + 1]) := by
  simp [partO, List.range_succ]
theorem partO_all (n r : Nat) (b : List Int) : ordersOf n (r + 1) b = partO n r b n := by
  simp only [ordersOf, partO, upto, List.flatMap_map]
theorem partO_len {n : Nat} (hn : n ≤ 8) : ∀ (r : Nat) (b : List Int), (ordersOf n r b).length ≤ 8 ^ r ∧ ∀ t, (partO n r b t).length ≤ t * 8 ^ r := by
  have step : ∀ r, (∀ b, (ordersOf n r b).length ≤ 8 ^ r) → ∀ b t, (partO n r b t).length ≤ t * 8 ^ r := by
    intro r h b t
    induction t with
    | zero => simp [partO]
    | succ t ih =>
      rw [partO_succ, List.length_append, Nat.succ_mul]
      have h2 := h (b ++ [(t : Int) + 1])
      split
      · simp; omega
      · omega
  have all : ∀ r b, (ordersOf n r b).length ≤ 8 ^ r := by
    intro r
    induction r with
    | zero =>
      intro b
      simp only [ordersOf]
      split <;> simp
    | succ r ih =>
      intro b
      rw [partO_all]
      refine Nat.le_trans (step r ih b n) ?_
      rw [Nat.pow_succ, Nat.mul_comm]
      exact Nat.mul_le_mul_left _ hn
  exact fun r b => ⟨all r b, step r (all r) b⟩
theorem partO_bd {n r t : Nat} (hn : n ≤ 8) (hr : r < n) (ht : t ≤ n) (b : List Int) : (partO n r b t).length ≤ 16777216 := by
  refine Nat.le_trans ((partO_len hn r b).2 t) ?_
  have h1 : (8 : Nat) ^ r ≤ 8 ^ 7 := Nat.pow_le_pow_right (by decide) (by omega)
  exact Nat.le_trans (Nat.mul_le_mul (show t ≤ 8 by omega) h1) (by decide)
end Go.Proofs.Ytjikhdnlcoohbaa
