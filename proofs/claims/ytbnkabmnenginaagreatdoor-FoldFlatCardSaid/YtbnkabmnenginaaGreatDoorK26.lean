/- A queue of numbers, taken out in front and put in behind; a row of maps.. -/
import Derived.Test.YtbnkabmnenginaaGreatDoorK23
import Derived.Test.YtbnkabmnenginaaGreatDoorK25
import Derived.ArgAppend
namespace Go.Proofs.YtbnkabmnenginaaGreatDoor
set_option linter.unusedSimpArgs false
set_option linter.unusedVariables false
section
open Go.RowKit Go.Maps
structure Que (base : Nat) (w : World) (v : Value) (q : List Nat) : Prop where
 ex : ∃ A cap, v = .slice A q.length cap ∧ q.length ≤ cap ∧ cap ≤ maxLen ∧ (A = none → cap = 0) ∧
  (cap = 0 ∨ ∃ g off cur, A = some ⟨g, off, none⟩ ∧ base ≤ g ∧ w.heap[g]? = some (.cells cur 3 (0, 0)) ∧ off + cap ≤ cur.size ∧ ∀ j z, q[j]? = some z → cur[off + j]? = some (.int .i64 ((z : Nat) : Int)))
section
variable {base : Nat} {w w' : World} {v : Value} {q : List Nat}
theorem Que.below (h : Que base w v q) (hb : Below w.heap.size w w') : Que base w' v q := by
 obtain ⟨A, cap, h1, h2, h3, h4, h5⟩ := h.ex
 refine ⟨A, cap, h1, h2, h3, h4, ?_⟩
 rcases h5 with h5 | ⟨g, off, cur, a1, a2, a3, a4, a5⟩
 ·exact .inl h5
 ·exact .inr ⟨g, off, cur, a1, a2, blk_below a3 hb (blk_lt a3), a4, a5⟩
theorem Que.of_row (h : w.ownsRow base 3 1 v q.length (visN q)) : Que base w v q := by
 rcases h.2 with ⟨rfl, h0⟩ | ⟨g, cap, cur, rfl, hb, hg, hn, hm, hs, ht⟩
 ·exact ⟨none, 0, by rw [h0], by omega, by unfold maxLen; omega, fun _ => rfl, .inl rfl⟩
 ·refine ⟨some ⟨g, 0, none⟩, cap, rfl, hn, hm, (fun h => by cases h), .inr ⟨g, 0, cur, rfl, hb, hg, by omega, fun j z hz => ?_⟩⟩
  have hj := (List.getElem?_eq_some_iff.1 hz).1
  have h1 : (visN q)[j]? = some (.int .i64 ((z : Nat) : Int)) := by simp [visN, hz]
  rw [← ht, List.getElem?_take, if_pos (by omega)] at h1
  rw [Nat.zero_add]
  simpa using h1
theorem Que.first {z : Nat} (h : Que base w v (z :: q)) : ∃ g off cap, v = .slice (some ⟨g, off, none⟩) (q.length + 1) cap ∧ w.cell? ⟨g, off, none⟩ = some (.int .i64 ((z : Nat) : Int)) := by
 obtain ⟨A, cap, h1, h2, h3, h4, h5⟩ := h.ex
 rcases h5 with h5 | ⟨g, off, cur, rfl, a2, a3, a4, a5⟩
 ·simp at h2; omega
 ·refine ⟨g, off, cap, h1, ?_⟩
  rw [cell_of_blk a3 off]
  have := a5 0 z rfl
  simpa using this
theorem Que.tail {z : Nat} (h : Que base w v (z :: q)) : ∃ v', (Instr.slice 22 v (some (.int .i64 1)) none none).run Tryz.prog w = .ok v' w ∧ Que base w v' q := by
 obtain ⟨A, cap, rfl, h2, h3, h4, h5⟩ := h.ex
 rcases h5 with h5 | ⟨g, off, cur, rfl, a2, a3, a4, a5⟩
 ·simp at h2; omega
 ·simp only [List.length_cons] at h2
  have hi := int_info
  refine ⟨.slice (if cap = 1 then some ⟨g, off, none⟩ else some ⟨g, off + 1, none⟩) q.length (cap - 1), ?_, ?_⟩
  ·have hadd : (⟨g, off, none⟩ : Addr).add 1 = ⟨g, off + 1, none⟩ := addr_add g off 1
   have hsz : ∀ w : World, (sizeOf 3).run Tryz.prog w = .ok 1 w := by
    obtain ⟨i0, hi, hz0, hz1, hz2⟩ := info_parts int_info
    intro w
    simp [sizeOf, typeInfo, hi, hz1]
   have h9 : (1 : Int) ≤ (q.length : Int) + 1 := by omega
   simp only [Instr.slice, Instr.sliceBounds, Instr.sliceBound, run_underlying Tryz.underlying22, asIntOf, hsz, List.length_cons, go_sem]
   by_cases hc : cap = 1
   ·subst hc
    have hq : q.length = 0 := by omega
    simp [hq, hsz]
   ·simp [hc, h9, hadd, hsz]
  ·refine ⟨_, _, rfl, by omega, by omega, fun h => ?_, ?_⟩
   ·split at h <;> cases h
   ·by_cases hc : cap = 1
    ·left; omega
    ·right
     refine ⟨g, off + 1, cur, by rw [if_neg hc], a2, a3, by omega, fun j y hy => ?_⟩
     have := a5 (j + 1) y (by simpa using hy)
     rw [show off + 1 + j = off + (j + 1) by omega]
     exact this
end
theorem setCells_one (w : World) (b k : Nat) (u : Value) : w.setCells b k [u] = w.setCell ⟨b, k, none⟩ u := by simp [World.setCells]
theorem app_que {base : Nat} {w : World} {v : Value} {q : List Nat} {ops : Array Oper} {rest : List Oper} {o : Oper} {a : Act} {Q : Exit → Act → World → Prop} (hgd : o.guard = none) (s x : Operand)
  (ho : o.op = .call { callee := .builtin .append, args := #[s, x], argTypes := #[22, 22] }) (hs : a.eval s = v)
  (g z : Nat) (hg : w.heap[g]? = some (.cells #[.int .i64 ((z : Nat) : Int)] 3 (0, 0))) (hx : a.eval x = .slice (some ⟨g, 0, none⟩) 1 1) (h : Que base w v q) (hb : base ≤ w.heap.size) (hq : q.length ≤ 100000)
  (hK : ∀ v' w', Que base w' v' (q ++ [z]) → Below base w w' → (∀ k, (∀ t cs, w.heap[k]? = some (.cells cs t (0, 0)) → t ≠ 3) → k < w.heap.size → w'.heap[k]? = w.heap[k]?) → w.heap.size ≤ w'.heap.size → wpList Tryz.prog ops Q rest (a.put o.dst v') w') :
  wpList Tryz.prog ops Q (o :: rest) a w := by
 obtain ⟨i0, hi, hz0, hz1, hz2⟩ := info_parts int_info
 obtain ⟨A, cap, rfl, h2, h3, h4, h5⟩ := h.ex
 have hcell : w.cell? ⟨g, 0, none⟩ = some (.int .i64 ((z : Nat) : Int)) := (cell_of_blk hg 0).trans rfl
 have hnews : ∀ j u, [Value.int .i64 ((z : Nat) : Int)][j]? = some u → w.cell? ((⟨g, 0, none⟩ : Addr).add j) = some u := by
  intro j u hu
  have hj : j = 0 := by
   have := (List.getElem?_eq_some_iff.1 hu).1
   simpa using this
  subst hj
  simp at hu
  subst hu
  rw [addr_add]
  exact hcell
 have h1c : ∀ u ∈ [Value.int .i64 ((z : Nat) : Int)], u.oneCell' = true := by
  intro u hu
  simp at hu
  subst hu
  rfl
 have hgrow : ∀ olds : List Value, olds = visN q → ∀ v' w', w'.ownsRow w.heap.size 3 1 v' (q.length + 1) (olds ++ [Value.int .i64 ((z : Nat) : Int)]) → w.grownBy w' none → wpList Tryz.prog ops Q rest (a.put o.dst v') w' := by
  intro olds he v' w' ho hgr
  subst he
  have e1 : visN q ++ [Value.int .i64 ((z : Nat) : Int)] = visN (q ++ [z]) := by simp [visN]
  rw [e1] at ho
  refine hK v' w' (Que.of_row (own_mono (by simpa using ho) hb)) ⟨hgr.os, hgr.tape, hgr.output, hgr.size, fun k hk => hgr.block k (by omega) (by simp)⟩ (fun k _ hk => hgr.block k hk (by simp)) hgr.size
 have hlen : (visN q).length = q.length * 1 := by rw [visN_len]; omega
 rcases h5 with h5 | ⟨gq, off, cur, rfl, a2, a3, a4, a5⟩
 ·have hq0 : q = [] := List.length_eq_zero_iff.1 (by omega)
  subst hq0
  exact wpList_append_grows w hgd s x 22 ho 3 i0 (.int .i64 0) 1 8 Tryz.underlying22 hi hz0 hz1 hz2 rfl (by decide) A 0 cap [] hs (fun e => ⟨rfl, h4 e⟩) rfl (fun b _ j u hu => by simp at hu) ⟨g, 0, none⟩ 1 1 _ hx rfl hnews h1c (by omega) (by unfold maxLen; decide) (by decide)
   (fun v' w' h1 h2 => hgrow [] rfl v' w' (by simpa using h1) h2)
 ·refine wpList_append_arg w hgd s x 22 ho 3 i0 (.int .i64 0) 1 8 Tryz.underlying22 hi hz0 hz1 hz2 rfl (by decide) gq off q.length cap (visN q) hs hlen ?_ ⟨g, 0, none⟩ 1 1 _ hx rfl hnews h1c ?_ (by unfold maxLen; omega) (by omega) ?_ (fun _ v' w' h1 h2 => hgrow _ rfl v' w' h1 h2)
  ·intro j u hu
   simp only [visN, List.getElem?_map, Option.map_eq_some_iff] at hu
   obtain ⟨y, hy, rfl⟩ := hu
   rw [cell_of_blk a3]
   exact a5 j y hy
  ·intro hr j hj
   simp at hj
   subst hj
   refine ⟨?_, frozen_of_blk a3 _⟩
   rw [cell_of_blk a3]
   simp
   omega
  ·intro hr
   rw [setCells_one, Nat.mul_one]
   have hset := blk_set a3 (off + q.length) (.int .i64 ((z : Nat) : Int))
   refine hK _ _ ⟨_, cap, by simp, by simpa using hr, h3, (fun e => by cases e), .inr ⟨gq, off, _, rfl, a2, hset, by simpa using a4, ?_⟩⟩ ((Below.refl _ _).setCell (p := ⟨gq, off + q.length, none⟩) a2 _) ?_ (by simp)
   ·intro j y hy
    by_cases hj : j < q.length
    ·rw [List.getElem?_append_left hj] at hy
     rw [Array.getElem?_setIfInBounds_ne (by omega)]
     exact a5 j y hy
    ·have hj2 : j = q.length := by
      have := (List.getElem?_eq_some_iff.1 hy).1
      simp at this
      omega
     subst hj2
     simp at hy
     subst hy
     rw [Array.getElem?_setIfInBounds_self_of_lt (by omega)]
   ·intro k hk _
    refine Below.heap_setCell _ _ _ _ ?_
    intro e
    subst e
    exact hk _ _ a3 rfl
def mcs (l : List V6) : List Value := l.flatMap fun m => [.int .i64 m.1, .int .i64 m.2.1, .int .i64 m.2.2.1, .int .i64 m.2.2.2.1, .int .i64 m.2.2.2.2.1, .int .i64 m.2.2.2.2.2]
theorem mcs_cons (m : V6) (l : List V6) : mcs (m :: l) = .int .i64 m.1 :: .int .i64 m.2.1 :: .int .i64 m.2.2.1 :: .int .i64 m.2.2.2.1 :: .int .i64 m.2.2.2.2.1 :: .int .i64 m.2.2.2.2.2 :: mcs l := rfl
theorem mcs_at : ∀ {l : List V6} {j : Nat} {m : V6}, l[j]? = some m → (mcs l)[j * 6]? = some (.int .i64 m.1) ∧ (mcs l)[j * 6 + 1]? = some (.int .i64 m.2.1) ∧ (mcs l)[j * 6 + 2]? = some (.int .i64 m.2.2.1) ∧ (mcs l)[j * 6 + 3]? = some (.int .i64 m.2.2.2.1) ∧ (mcs l)[j * 6 + 4]? = some (.int .i64 m.2.2.2.2.1) ∧ (mcs l)[j * 6 + 5]? = some (.int .i64 m.2.2.2.2.2)
 | [], j, m, h => by simp at h
 | a :: l, 0, m, h => by
  simp at h
  subst h
  exact ⟨rfl, rfl, rfl, rfl, rfl, rfl⟩
 | a :: l, j + 1, m, h => by
  have := mcs_at (l := l) (j := j) (m := m) (by simpa using h)
  rw [mcs_cons, show (j + 1) * 6 = j * 6 + 1 + 1 + 1 + 1 + 1 + 1 by omega]
  simpa using this
theorem mcs_set : ∀ (l : List V6) (j : Nat) (m : V6), ((((((mcs l).set (j * 6) (.int .i64 m.1)).set (j * 6 + 1) (.int .i64 m.2.1)).set (j * 6 + 2) (.int .i64 m.2.2.1)).set (j * 6 + 3) (.int .i64 m.2.2.2.1)).set (j * 6 + 4) (.int .i64 m.2.2.2.2.1)).set (j * 6 + 5) (.int .i64 m.2.2.2.2.2) = mcs (l.set j m)
 | [], j, m => by simp [mcs]
 | a :: l, 0, m => rfl
 | a :: l, j + 1, m => by
  have := mcs_set l j m
  rw [mcs_cons, show (j + 1) * 6 = j * 6 + 1 + 1 + 1 + 1 + 1 + 1 by omega]
  simp only [List.set_cons_succ, show ∀ k, j * 6 + 1 + 1 + 1 + 1 + 1 + 1 + k = (j * 6 + k) + 1 + 1 + 1 + 1 + 1 + 1 from fun k => by omega]
  rw [this, mcs_cons]
def LB (w : World) (gl : Nat) (l : List V6) : Prop := w.heap[gl]? = some (.cells (mcs l).toArray 57 (0, 0))
theorem LB.below {w w' : World} {gl : Nat} {l : List V6} (h : LB w gl l) (hb : Below w.heap.size w w') : LB w' gl l := blk_below h hb (blk_lt h)
theorem LB.at_ {w : World} {gl j : Nat} {l : List V6} {m : V6} (h : LB w gl l) (hm : l[j]? = some m) : w.cell? ⟨gl, j * 6, none⟩ = some (.int .i64 m.1) ∧ w.cell? ⟨gl, j * 6 + 1, none⟩ = some (.int .i64 m.2.1) ∧ w.cell? ⟨gl, j * 6 + 2, none⟩ = some (.int .i64 m.2.2.1) ∧ w.cell? ⟨gl, j * 6 + 3, none⟩ = some (.int .i64 m.2.2.2.1) ∧ w.cell? ⟨gl, j * 6 + 4, none⟩ = some (.int .i64 m.2.2.2.2.1) ∧ w.cell? ⟨gl, j * 6 + 5, none⟩ = some (.int .i64 m.2.2.2.2.2) := by
 have h' : w.heap[gl]? = _ := h
 obtain ⟨e0, e1, e2, e3, e4, e5⟩ := mcs_at hm
 exact ⟨(cell_of_blk h' _).trans (by simpa using e0), (cell_of_blk h' _).trans (by simpa using e1), (cell_of_blk h' _).trans (by simpa using e2), (cell_of_blk h' _).trans (by simpa using e3), (cell_of_blk h' _).trans (by simpa using e4), (cell_of_blk h' _).trans (by simpa using e5)⟩
theorem LB.fz {w : World} {gl : Nat} {l : List V6} (h : LB w gl l) (i : Nat) : w.frozen? ⟨gl, i, none⟩ = false := frozen_of_blk (show w.heap[gl]? = _ from h) i
def set6 (w : World) (gl j : Nat) (m : V6) : World := (((((w.setCell ⟨gl, j * 6, none⟩ (.int .i64 m.1)).setCell ⟨gl, j * 6 + 1, none⟩ (.int .i64 m.2.1)).setCell ⟨gl, j * 6 + 2, none⟩ (.int .i64 m.2.2.1)).setCell ⟨gl, j * 6 + 3, none⟩ (.int .i64 m.2.2.2.1)).setCell ⟨gl, j * 6 + 4, none⟩ (.int .i64 m.2.2.2.2.1)).setCell ⟨gl, j * 6 + 5, none⟩ (.int .i64 m.2.2.2.2.2)
theorem LB.set {w : World} {gl : Nat} {l : List V6} (h : LB w gl l) (j : Nat) (m : V6) : LB (set6 w gl j m) gl (l.set j m) := by
 have h' : w.heap[gl]? = _ := h
 have := blk_set (blk_set (blk_set (blk_set (blk_set (blk_set h' (j * 6) (.int .i64 m.1)) (j * 6 + 1) (.int .i64 m.2.1)) (j * 6 + 2) (.int .i64 m.2.2.1)) (j * 6 + 3) (.int .i64 m.2.2.2.1)) (j * 6 + 4) (.int .i64 m.2.2.2.2.1)) (j * 6 + 5) (.int .i64 m.2.2.2.2.2)
 unfold LB set6
 rw [this, ← mcs_set]
 simp
theorem set6_far {w : World} {gl j k : Nat} {m : V6} (hk : k ≠ gl) : (set6 w gl j m).heap[k]? = w.heap[k]? := by
 unfold set6
 rw [Below.heap_setCell _ _ _ _ (by simpa using hk), Below.heap_setCell _ _ _ _ (by simpa using hk), Below.heap_setCell _ _ _ _ (by simpa using hk), Below.heap_setCell _ _ _ _ (by simpa using hk), Below.heap_setCell _ _ _ _ (by simpa using hk), Below.heap_setCell _ _ _ _ (by simpa using hk)]
theorem set6_below2 {B : Nat} {a w : World} (h : Below B a w) {gl : Nat} (hg : B ≤ gl) (j : Nat) (m : V6) : Below B a (set6 w gl j m) :=
 (((((h.setCell (p := ⟨gl, j * 6, none⟩) hg _).setCell (p := ⟨gl, j * 6 + 1, none⟩) hg _).setCell (p := ⟨gl, j * 6 + 2, none⟩) hg _).setCell (p := ⟨gl, j * 6 + 3, none⟩) hg _).setCell (p := ⟨gl, j * 6 + 4, none⟩) hg _).setCell (p := ⟨gl, j * 6 + 5, none⟩) hg _
theorem map_info : (Tryz.prog.info? 57).map (fun i => (i.zero, i.size, i.bytes)) = some (some (aggM zeroV), 6, 48) := by kernel_rfl
theorem mcs_len (l : List V6) : (mcs l).length = l.length * 6 := by
 induction l with
 | nil => rfl
 | cons m l ih => rw [mcs_cons]; simp [ih]; omega
theorem made6 (n : Nat) : madeCells #[Value.int .i64 0, .int .i64 0, .int .i64 0, .int .i64 0, .int .i64 0, .int .i64 0] (n * 6) = (mcs (List.replicate n zeroV)).toArray := by
 apply Array.toList_inj.1
 have e1 : (madeCells #[Value.int .i64 0, .int .i64 0, .int .i64 0, .int .i64 0, .int .i64 0, .int .i64 0] (n * 6)).toList = List.replicate (n * 6) (Value.int .i64 0) := by
  rw [List.eq_replicate_iff]
  refine ⟨by simp [madeCells], fun b hb => ?_⟩
  simp only [madeCells, Array.toList_map, Array.toList_range, List.mem_map, List.mem_range] at hb
  obtain ⟨x, _, rfl⟩ := hb
  have hx : x % 6 = 0 ∨ x % 6 = 1 ∨ x % 6 = 2 ∨ x % 6 = 3 ∨ x % 6 = 4 ∨ x % 6 = 5 := by omega
  rcases hx with hx | hx | hx | hx | hx | hx <;> simp [hx]
 have e2 : mcs (List.replicate n zeroV) = List.replicate (n * 6) (Value.int .i64 0) := by
  rw [List.eq_replicate_iff]
  refine ⟨by rw [mcs_len]; simp, fun b hb => ?_⟩
  simp only [mcs, List.mem_flatMap] at hb
  obtain ⟨m, hm, hb⟩ := hb
  have := List.eq_of_mem_replicate hm
  subst this
  simpa [zeroV] using hb
 rw [e1, e2]
theorem make_maps (n : Nat) (hn : n ≤ 1000) (w : World) : (Instr.makeSlice 26 (.int .i64 (n : Int)) (.int .i64 (n : Int))).run Tryz.prog w = .ok (.slice (some ⟨w.heap.size, 0, none⟩) n n) (w.alloc (.cells (mcs (List.replicate n zeroV)).toArray 57)) := by
 obtain ⟨i0, hi, hz0, hz1, hz2⟩ := info_parts map_info
 have := run_makeSlice (P := Tryz.prog) w 26 57 i0 (aggM zeroV) Tryz.underlying26 hi hz0 .i64 .i64 n n (by omega) (Int.le_refl _) (by rw [hz1]; simp; omega) (by rw [hz2]; omega) (by omega)
 rw [this, hz1]
 have e := made6 n
 simp [Value.cells, zeroV] at e ⊢
 rw [e]
set_option maxHeartbeats 1600000 in
theorem eqM (a b : V6) (w : World) : (binOp .eql 57 (aggM a) (aggM b)).run Tryz.prog w = .ok (.bool (decide (a = b))) w := by
 obtain ⟨a0, a1, a2, a3, a4, a5⟩ := a
 obtain ⟨b0, b1, b2, b3, b4, b5⟩ := b
 simp [go_sem]
 repeat (first | rfl | (split <;> simp_all))
set_option maxHeartbeats 1600000 in
theorem neM (a b : V6) (w : World) : (binOp .neq 57 (aggM a) (aggM b)).run Tryz.prog w = .ok (.bool (!decide (a = b))) w := by
 obtain ⟨a0, a1, a2, a3, a4, a5⟩ := a
 obtain ⟨b0, b1, b2, b3, b4, b5⟩ := b
 simp [go_sem]
 repeat (first | rfl | (split <;> simp_all))
end
end Go.Proofs.YtbnkabmnenginaaGreatDoor
