/- SortedFunc of all orders: what the document lists. -/
import Derived.Test.YtjikhdnlcoohbaaSo5
namespace Go.Proofs.Ytjikhdnlcoohbaa
set_option linter.unusedSimpArgs false
set_option linter.unusedVariables false
open Go.RowKit Go.Sort Go.Shelf St
attribute [local go_sem] Oper.semAt_some

theorem encR_one {w : World} {N : Nat} : OneCell (encR (w := w) (N := N)) := fun _ => rfl
theorem rows_list {W : World} {B N : Nat} : ∀ (Ls : List (List Int)) (vals : List Value), RowsG W B N vals Ls → ∃ d : List (Rw W N), d.map encR = vals ∧ d.map lstR = Ls ∧ ∀ x ∈ d, B ≤ x.1.1.1
  | [], vals, h => by
    have : vals = [] := List.length_eq_zero_iff.1 h.1
    subst this
    exact ⟨[], rfl, rfl, by simp⟩
  | L :: Ls, [], h => by
    have := h.1
    simp at this
  | L :: Ls, v :: vals, h => by
    obtain ⟨g, c, h1, h2, h3⟩ := h.2 0 L rfl
    obtain ⟨d, e1, e2, e3⟩ := rows_list Ls vals ⟨by have := h.1; simpa using this, fun j L' hL => h.2 (j + 1) L' (by simpa using hL)⟩
    obtain ⟨q, hq1, hq2, hq3⟩ : ∃ q : Rw W N, encR q = .slice (some ⟨g, 0, none⟩) N c ∧ lstR q = L ∧ q.1.1.1 = g := ⟨⟨((g, c), L), h2⟩, rfl, rfl, rfl⟩
    refine ⟨q :: d, ?_, ?_, ?_⟩
    · rw [List.map_cons, e1]
      congr 1
      rw [hq1]
      simpa using h1.symm
    · rw [List.map_cons, e2, hq2]
    · intro x hx
      rcases List.mem_cons.1 hx with rfl | hx
      · rw [hq3]; exact h3
      · exact e3 x hx
theorem list_rows {W W' : World} {B N : Nat} (d : List (Rw W N)) (hB : ∀ x ∈ d, B ≤ x.1.1.1) (hk : ∀ (g : Nat) (cs : Array Value), W.heap[g]? = some (.cells cs 3 (0, 0)) → W'.heap[g]? = some (.cells cs 3 (0, 0))) : RowsG W' B N (d.map encR) (d.map lstR) := by
  refine ⟨by simp, fun j L hL => ?_⟩
  rw [List.getElem?_map] at hL
  cases hx : d[j]? with
  | none => rw [hx] at hL; simp at hL
  | some x =>
    rw [hx] at hL
    have hL' : L = lstR x := by simpa using hL.symm
    subst hL'
    refine ⟨x.1.1.1, x.1.1.2, ?_, x.2.keep2 hk, hB x (List.mem_of_getElem? hx)⟩
    rw [List.getElem?_map, hx]
    rfl
theorem holds_row {α : Type} [Inhabited α] {enc : α → Value} {w : World} {g : Nat} {cur : Array Value} {e : TypeId} {ss : List α} (hb : w.heap[g]? = some (.cells cur e (0, 0))) (ht : cur.toList.take ss.length = ss.map enc) : Holds enc w g 0 ss.toArray := by
  intro j hj
  have hj' : j < ss.length := by simpa using hj
  refine ⟨?_, by simp [World.frozen?, hb]⟩
  have h1 : (cur.toList.take ss.length)[j]? = (ss.map enc)[j]? := by rw [ht]
  rw [List.getElem?_take_of_lt hj'] at h1
  simp only [World.cell?, hb, Nat.zero_add]
  simp only [Option.isSome_none, Bool.false_eq_true, if_false]
  rw [← Array.getElem?_toList, h1]
  simp [hj']
theorem take_putR {α : Type} [Inhabited α] (enc : α → Value) (cur : Array Value) (ts : Array α) (h : ts.size ≤ cur.size) : (putCells enc 0 ts cur).toList.take ts.size = ts.toList.map enc := by
  apply List.ext_getElem?
  intro j
  by_cases hj : j < ts.size
  · rw [List.getElem?_take_of_lt hj, Array.getElem?_toList]
    simp [putCells, hj, show j < cur.size by omega]
  · rw [List.getElem?_take_eq_none (by omega), List.getElem?_eq_none (by simp; omega)]
theorem sorted_pair {α : Type} [Inhabited α] (f : α → List Int) (d : Array α) (h : SortedIn (ltOf fun x y : α => cmpL (f x) (f y)) 0 d.size d) : (d.toList.map f).Pairwise fun a b => ¬ lexLt b a := by
  rw [List.pairwise_map, List.pairwise_iff_getElem]
  intro i j hi hj hij hl
  have h1 := h i j (Nat.zero_le _) hij (by simpa using hj)
  have h2 := of_decide_eq_false h1
  apply h2
  rw [cmpL_lt]
  have e1 : d[i]! = d.toList[i] := by
    rw [getElem!_pos d i (by simpa using hi)]; simp
  have e2 : d[j]! = d.toList[j] := by
    rw [getElem!_pos d j (by simpa using hj)]; simp
  rw [e1, e2]
  exact hl
set_option maxRecDepth 100000 in
set_option maxHeartbeats 1600000 in
theorem sortedF_in (n Bn N : Nat) (hN : N ≤ 8) (h1 : 1 ≤ N) (w : World) (hn : 5 ≤ n) (hBn : Bn < w.heap.size) (hc : w.cell? ⟨Bn, 0, none⟩ = some (.int .i64 N)) (Ls : List (List Int)) (hLs : Ls = growL (N - 1) [1]) (hll : Ls.length ≤ 100000) (hl0 : 0 < Ls.length) :
    CallsIn Fence.wide n Try.prog 29 #[.func (.func 41) #[] #[.pointer (some ⟨Bn, 0, none⟩)], .func (.func 31) #[] #[]] w fun e w' => ∃ v vals, e = .returned v ∧ w'.ownsRow w.heap.size 22 1 v (ordersOf N N []).length vals ∧ RowsG w' w.heap.size N vals (ordersOf N N []) ∧ Below w.heap.size w w' := by
  have cA := collectL_in (n - 1) Bn N hN h1 w (by omega) hBn hc Ls hLs hll
  have h1n : 1 ≤ n := by omega
  have hf1 : Fence.wide.fn 39 := trivial
  have hf2 : Fence.wide.fn 40 := trivial
  refine callsIn_of_wp Try.func29 rfl trivial ?_ rfl
  simp only [Try.ntmps29, List.size_toArray, List.length_cons, List.length_nil, Nat.reduceAdd, Nat.reduceSub, Array.replicate_succ, Array.replicate_zero, List.push_toArray, List.append_toArray, List.nil_append, List.cons_append]
  have HLs := Lib.hid hLs
  clear hLs
  gi_wp2_with (gi_at_call 39; refine cA.mono ?_; rintro e W ⟨v, vals, rfl, ho, hr, hb1⟩)
  rcases ho.2 with ⟨_, hz⟩ | ⟨gb, cap, cur, rfl, hbase, hgb, r1, r2, r3, r4⟩
  · omega
  · obtain ⟨d, hd1, hd2, hd3⟩ := rows_list Ls vals hr
    have hdl : d.length = Ls.length := by rw [← hd2]; simp
    have hcur : cur.toList.take d.length = d.map encR := by rw [hd1, hdl]; simpa using r4
    obtain ⟨x0, d0, hx0⟩ : ∃ x0 d0, d = x0 :: d0 := by
      cases d with
      | nil => simp at hdl; omega
      | cons a b => exact ⟨a, b, rfl⟩
    haveI : Inhabited (Rw W N) := ⟨x0⟩
    have hH : Holds encR W gb 0 d.toArray := holds_row hgb hcur
    have hgl : gb < W.heap.size := (Array.getElem?_eq_some_iff.1 hgb).1
    have hsz : d.toArray.size = Ls.length := by simpa using hdl
    have cS := Any.slices_SortFunc sortF encR encR_one (fun x y => cmpL (lstR x) (lstR y)) (swo_lex lstR) 31 #[] gb 0 cap d.toArray W (enters_of Try.func31 (by kernel_rfl) rfl) (cmpReads hN hgb).lays hH hgl (by omega)
    rw [hsz] at cS
    gi_wp2_with (gi_at_call 40; refine (callsIn_wide.2 cS).mono ?_; rintro e w' ⟨rfl, d', nn, os, hp, hs, rfl⟩)
    go_ret
    have hd's : d'.size = Ls.length := by rw [hp.1]; exact hsz
    have hpm : d'.toList.Perm d := by
      have h3 := hp.2.2
      have e1 : d'.extract 0 Ls.length = d' := by rw [← hd's]; simp
      have e2 : d.toArray.extract 0 Ls.length = d.toArray := by rw [← hsz]; simp
      rw [e1, e2] at h3
      exact h3
    have hfin : d'.toList.map lstR = ordersOf N N [] := by
      refine grown_sorted (by omega) ?_ (sorted_pair lstR d' (by rw [hd's]; exact hs))
      rw [← HLs.out, ← hd2]
      exact hpm.map _
    have hlen : (ordersOf N N []).length = Ls.length := by rw [← hfin]; simpa using hd's
    refine ⟨_, d'.toList.map encR, rfl, ⟨by rw [hlen]; simpa using hd's, .inr ⟨gb, cap, _, by rw [hlen]; rfl, hbase, heap_sw encR d' hgb, by rw [hlen]; exact r1, r2, by simp [putCells, r3], ?_⟩⟩, ?_, ?_⟩
    · rw [Nat.mul_one, hlen, ← hd's]
      exact take_putR encR cur d' (by rw [hd's, r3, Nat.mul_one]; exact r1)
    · rw [← hfin]
      exact list_rows d'.toList (fun x hx => hd3 x (hpm.mem_iff.1 hx)) (ints_sw encR d' hgb)
    · exact hb1.grown (grownBy_sw encR W gb nn os d') hb1.size (fun j hj => by cases hj; exact hbase)
end Go.Proofs.Ytjikhdnlcoohbaa
