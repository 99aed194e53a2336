/- Words for the walk of faces.StarsOf. -/
import Derived.Test.YtoienokpchbglaaDoorSt
import Derived.Test.YtoienokpchbglaaDoorDw
import Derived.Test.YtoienokpchbglaaDoorKs
namespace Go.Proofs.YtoienokpchbglaaDoor
set_option linter.unusedSimpArgs false
set_option linter.unusedVariables false
open Go.RowKit Go.Maps

set_option maxRecDepth 100000 in
theorem idxP0 (p0 p1 p2 p3 p4 p5 : Value) (w : World) : (Instr.index 99 (.agg #[p0, p1, p2, p3, p4, p5]) (.int .i64 0)).run Tryd.prog w = .ok (.agg #[p0, p1]) w := by first | rfl | kernel_rfl | simp [Instr.index, go_sem]
set_option maxRecDepth 100000 in
theorem idxP1 (p0 p1 p2 p3 p4 p5 : Value) (w : World) : (Instr.index 99 (.agg #[p0, p1, p2, p3, p4, p5]) (.int .i64 1)).run Tryd.prog w = .ok (.agg #[p2, p3]) w := by first | rfl | kernel_rfl | simp [Instr.index, go_sem]
set_option maxRecDepth 100000 in
theorem idxP2 (p0 p1 p2 p3 p4 p5 : Value) (w : World) : (Instr.index 99 (.agg #[p0, p1, p2, p3, p4, p5]) (.int .i64 2)).run Tryd.prog w = .ok (.agg #[p4, p5]) w := by first | rfl | kernel_rfl | simp [Instr.index, go_sem]
abbrev agg3P (t : T3) : Value := .agg #[.int .i64 (2 * t.1 + 1), .int .i64 (2 * t.2.1 + 1), .int .i64 (cornX t.1 t.2.2), .int .i64 (cornY t.2.1 t.2.2), .int .i64 (cornX t.1 (t.2.2 + 1)), .int .i64 (cornY t.2.1 (t.2.2 + 1))]
theorem idxP (t : T3) (k : Nat) (hk : k < 3) (w : World) : (Instr.index 99 (agg3P t) (.int .i64 k)).run Tryd.prog w = .ok (aggP (crT t k).1 (crT t k).2) w := by
  rcases i3_cases hk with rfl | rfl | rfl
  · exact idxP0 _ _ _ _ _ _ w
  · exact idxP1 _ _ _ _ _ _ w
  · exact idxP2 _ _ _ _ _ _ w
theorem below_of_grown {B mb : Nat} {a b : World} (h : a.grownBy b (some mb)) (hB : B ≤ mb) (hs : B ≤ a.heap.size) : Below B a b := by
  refine ⟨h.os, h.tape, h.output, h.size, fun k hk => h.block k (Nat.lt_of_lt_of_le hk hs) ?_⟩
  intro e
  have := Option.some.inj e
  omega
/-- how often a point has been counted -/
structure CntX (w : World) (mb n : Nat) (l : List P2) : Prop where
  map : ∃ f, MapI kP w mb n f ∧ ∀ a, (f a).getD 0 = ((l.count a : Nat) : Int)
section
variable {w w' : World} {mb n : Nat} {l : List P2}
theorem CntX.made (w : World) : CntX (w.alloc (.map #[] 0)) w.heap.size 0 [] := ⟨_, MapI.made kP w, fun a => by simp⟩
theorem CntX.stay (h : CntX w mb n l) (hb : Below w.heap.size w w') : CntX w' mb n l := by
  obtain ⟨f, h1, h2⟩ := h
  exact ⟨f, h1.stay hb, h2⟩
theorem CntX.grown {m : Nat} (h : CntX w mb n l) (hg : w.grownBy w' (some m)) (hne : mb ≠ m) : CntX w' mb n l := by
  obtain ⟨f, h1, h2⟩ := h
  exact ⟨f, h1.heap (hg.block mb h1.lt (fun e => hne (Option.some.inj e))), h2⟩
theorem CntX.lt (h : CntX w mb n l) : mb < w.heap.size := by
  obtain ⟨f, h1, h2⟩ := h
  exact h1.lt
theorem CntX.inc {f : P2 → Option Int} {c : P2} (hf : ∀ a, (f a).getD 0 = ((l.count a : Nat) : Int)) (hm : MapI kP w' mb (n + 1) (setF f c ((f c).getD 0 + 1))) : CntX w' mb (n + 1) (l ++ [c]) := by
  refine ⟨_, hm, fun a => ?_⟩
  unfold setF
  rw [List.count_append]
  by_cases e : a = c
  · subst e
    simp [hf a]
  · have e2 : ¬ c = a := fun h => e h.symm
    simp [e, e2, hf a]
end
/-! ### the two ends of a crease -/
def edX (e : E4) (j : Nat) : P2 := if j = 0 then eP e else eQ e
def edY (e : E4) (j : Nat) : P2 := if j = 0 then eQ e else eP e
def edD (e : E4) (j : Nat) : Nat := if j = 0 then dE0 e else dE1 e
abbrev agg22 (e : E4) : Value := .agg #[.int .i64 e.1, .int .i64 e.2.1, .int .i64 e.2.2.1, .int .i64 e.2.2.2, .int .i64 e.2.2.1, .int .i64 e.2.2.2, .int .i64 e.1, .int .i64 e.2.1]
set_option maxRecDepth 100000 in
theorem idxQ0 (p0 p1 p2 p3 p4 p5 p6 p7 : Value) (w : World) : (Instr.index 136 (.agg #[p0, p1, p2, p3, p4, p5, p6, p7]) (.int .i64 0)).run Tryd.prog w = .ok (.agg #[p0, p1, p2, p3]) w := by first | rfl | kernel_rfl | simp [Instr.index, go_sem]
set_option maxRecDepth 100000 in
theorem idxQ1 (p0 p1 p2 p3 p4 p5 p6 p7 : Value) (w : World) : (Instr.index 136 (.agg #[p0, p1, p2, p3, p4, p5, p6, p7]) (.int .i64 1)).run Tryd.prog w = .ok (.agg #[p4, p5, p6, p7]) w := by first | rfl | kernel_rfl | simp [Instr.index, go_sem]
theorem idx22 (e : E4) (j : Nat) (hj : j < 2) (w : World) : (Instr.index 136 (agg22 e) (.int .i64 j)).run Tryd.prog w = .ok (.agg #[.int .i64 (edX e j).1, .int .i64 (edX e j).2, .int .i64 (edY e j).1, .int .i64 (edY e j).2]) w := by
  rcases (by omega : j = 0 ∨ j = 1) with rfl | rfl
  · exact idxQ0 _ _ _ _ _ _ _ _ w
  · exact idxQ1 _ _ _ _ _ _ _ _ w
theorem edD_lt (e : E4) (j : Nat) : edD e j < 8 := by
  unfold edD
  have := dE_lt e
  split <;> omega
theorem edD_dir {e : E4} (h : ShE e) (j : Nat) : dirP (edX e j) (edY e j) = ((edD e j : Nat) : Int) := by
  unfold edX edY edD
  split
  · exact (dirP_e h).1
  · exact (dirP_e h).2
/-- the kinds around points, after j of a crease's two ends -/
def putJ (f : P2 → Option (List Int)) (c : C5) : Nat → P2 → Option (List Int)
  | 0 => f
  | j + 1 => putH (putJ f c j) (edX c.1 j) (edD c.1 j) c.2
theorem putJ_two {f : P2 → Option (List Int)} {cs : List C5} (h : OutI f cs) {c : C5} (hsh : ShE c.1) (hne : ∀ d ∈ cs, d.1 ≠ c.1) : OutI (putJ f c 2) (cs ++ [c]) := h.step hsh hne
theorem putJ_len {f : P2 → Option (List Int)} (h : ∀ p l, f p = some l → l.length = 8) (c : C5) : ∀ j p l, putJ f c j p = some l → l.length = 8
  | 0, p, l, hl => h p l hl
  | j + 1, p, l, hl => by
    have ih := putJ_len h c j
    unfold putJ putH at hl
    split at hl
    · cases hl
      rw [List.length_set]
      cases hf : putJ f c j (edX c.1 j) with
      | none => simp
      | some l => exact ih _ _ hf
    · exact ih p l hl
theorem eight {l : List Int} (h : l.length = 8) : ∃ a0 a1 a2 a3 a4 a5 a6 a7, l = [a0, a1, a2, a3, a4, a5, a6, a7] := by
  match l, h with
  | [a0, a1, a2, a3, a4, a5, a6, a7], _ => exact ⟨a0, a1, a2, a3, a4, a5, a6, a7, rfl⟩
set_option maxRecDepth 100000 in
theorem idx8 {a0 a1 a2 a3 a4 a5 a6 a7 z : Int} {d : Nat} (hd : d < 8) (h : [a0, a1, a2, a3, a4, a5, a6, a7][d]? = some z) (w : World) : (Instr.index 137 (.agg #[.int .i64 a0, .int .i64 a1, .int .i64 a2, .int .i64 a3, .int .i64 a4, .int .i64 a5, .int .i64 a6, .int .i64 a7]) (.int .i64 d)).run Tryd.prog w = .ok (.int .i64 z) w := by
  rcases (by omega : d = 0 ∨ d = 1 ∨ d = 2 ∨ d = 3 ∨ d = 4 ∨ d = 5 ∨ d = 6 ∨ d = 7) with rfl | rfl | rfl | rfl | rfl | rfl | rfl | rfl <;> (simp at h; subst h; first | rfl | kernel_rfl | simp [Instr.index, go_sem])
/-! ### two appends and two stores whose order is drawn -/
def ApB (v u : Value) : Prop := v.ownBlock = none ∨ v.ownBlock ≠ u.ownBlock
theorem ApB.symm {v u : Value} (h : ApB v u) : ApB u v := by
  unfold ApB at *
  rcases h with h | h
  · cases hu : u.ownBlock with
    | none => exact .inl rfl
    | some k => rw [h]; exact .inr (by simp)
  · exact .inr fun e => h e.symm
theorem ApB.grow {w w' : World} {v v' u : Value} {base n sz : Nat} {e : TypeId} {xs : List Value} (h : ApB v u) (hg : GrowOf w w' v v') (hu : w.ownsRow base e sz u n xs) : ApB v' u := by
  rcases hg.at_ with e | ⟨g, e, hge⟩
  · unfold ApB at *
    rw [e]
    exact h
  · refine .inr fun e2 => ?_
    rw [e] at e2
    have := (hu.lt g e2.symm).2
    omega
theorem grow_blk {w w' : World} {v v' : Value} {g : Nat} {o : Obj} (h : w.heap[g]? = some o) (hg : GrowOf w w' v v') (hne : v.ownBlock ≠ some g) : w'.heap[g]? = some o := (hg.grown.block g (blk_lt h) (fun e => hne e.symm)).trans h
/-- an element that waits to be appended -/
structure PnD (W : World) (va : Value) (z : Int) (v u : Value) : Prop where
  at_ : ∃ g, va = .slice (some ⟨g, 0, none⟩) 1 1 ∧ W.heap[g]? = some (.cells #[.int .i64 z] 3 (0, 0)) ∧ v.ownBlock ≠ some g ∧ u.ownBlock ≠ some g
structure RS (B : Nat) (w9 : World) (bx : Nat) (p : P2) (dv kv : Value) (n : Nat) (ds ks : List Int) (d k : Int) (l3 l4 l8 l9 l11 l13 : Bool) (v3 v4 v8 v9 : Value) (W : World) : Prop where
  bel : Below B w9 W
  box : W.heap[bx]? = some (.cells #[.int .i64 p.1, .int .i64 p.2, bif l11 then v4 else dv, bif l13 then v9 else kv] 51 (0, 0))
  r1 : W.ownsRow B 3 1 (bif l4 then v4 else dv) (bif l4 then n + 1 else n) (vis (bif l4 then ds ++ [d] else ds))
  r2 : W.ownsRow B 3 1 (bif l9 then v9 else kv) (bif l9 then n + 1 else n) (vis (bif l9 then ks ++ [k] else ks))
  ap : ApB (bif l4 then v4 else dv) (bif l9 then v9 else kv)
  p1 : l3 = true → l4 = false → PnD W v3 d dv (bif l9 then v9 else kv)
  p2 : l8 = true → l9 = false → PnD W v8 k kv (bif l4 then v4 else dv)
section
variable {B bx n : Nat} {w9 W W' : World} {p : P2} {dv kv v3 v4 v8 v9 : Value} {ds ks : List Int} {d k : Int} {l3 l4 l8 l9 l11 l13 : Bool}
theorem PnD.alloc {va : Value} {z : Int} {v u : Value} (h : PnD W va z v u) (o : Obj) : PnD (W.alloc o) va z v u := by
  obtain ⟨g, h1, h2, h3, h4⟩ := h.at_
  exact ⟨g, h1, blk_alloc h2 o, h3, h4⟩
theorem RS.start (hB : B ≤ w9.heap.size) (hb : Below B w9 W) (hx : W.heap[bx]? = some (.cells #[.int .i64 p.1, .int .i64 p.2, dv, kv] 51 (0, 0))) (h1 : W.ownsRow B 3 1 dv n (vis ds)) (h2 : W.ownsRow B 3 1 kv n (vis ks)) (ha : ApB dv kv) :
    RS B w9 bx p dv kv n ds ks d k false false false false false false v3 v4 v8 v9 W := ⟨hb, hx, h1, h2, ha, (fun h => by cases h), (fun h => by cases h)⟩
theorem RS.a3 (hB : B ≤ w9.heap.size) (h : RS B w9 bx p dv kv n ds ks d k false false l8 false false false v3 v4 v8 v9 W) :
    RS B w9 bx p dv kv n ds ks d k true false l8 false false false (.slice (some ⟨W.heap.size, 0, none⟩) 1 1) v4 v8 v9 (W.alloc (.cells #[.int .i64 d] 3)) :=
  ⟨h.bel.alloc (Nat.le_trans hB h.bel.size) _, blk_alloc h.box _, h.r1.alloc _, h.r2.alloc _, h.ap, fun _ _ => ⟨W.heap.size, rfl, heap_alloc_new W _, own_newne h.r1, own_newne h.r2⟩, fun h8 h9 => (h.p2 h8 h9).alloc _⟩
theorem RS.a8 (hB : B ≤ w9.heap.size) (h : RS B w9 bx p dv kv n ds ks d k l3 l4 false false false false v3 v4 v8 v9 W) :
    RS B w9 bx p dv kv n ds ks d k l3 l4 true false false false v3 v4 (.slice (some ⟨W.heap.size, 0, none⟩) 1 1) v9 (W.alloc (.cells #[.int .i64 k] 3)) :=
  ⟨h.bel.alloc (Nat.le_trans hB h.bel.size) _, blk_alloc h.box _, h.r1.alloc _, h.r2.alloc _, h.ap, fun h3 h4 => (h.p1 h3 h4).alloc _, fun _ _ => ⟨W.heap.size, rfl, heap_alloc_new W _, own_newne h.r2, own_newne h.r1⟩⟩
theorem RS.g4 (h : RS B w9 bx p dv kv n ds ks d k true false l8 false false false v3 v4 v8 v9 W) {v' : Value} (ho : W'.ownsRow B 3 1 v' (n + 1) (vis (ds ++ [d]))) (hb : Below B W W') (hg : GrowOf W W' dv v') :
    RS B w9 bx p dv kv n ds ks d k true true l8 false false false v3 v' v8 v9 W' := by
  have h1 := h.r1
  have h2 := h.r2
  have ha := h.ap
  refine ⟨h.bel.trans hb, grow_blk h.box hg (own_not h1 h.box (by decide)), ho, own_grow h2 hg ha.symm, ha.grow hg h2, (fun _ h4 => by cases h4), fun h8 h9 => ?_⟩
  obtain ⟨g, e1, e2, e3, e4⟩ := (h.p2 h8 h9).at_
  refine ⟨g, e1, grow_blk e2 hg e4, e3, ?_⟩
  rcases hg.at_ with e | ⟨g', e, hge⟩
  · show v'.ownBlock ≠ some g
    rw [e]
    exact e4
  · show v'.ownBlock ≠ some g
    rw [e]
    intro e5
    have := Option.some.inj e5
    have := blk_lt e2
    omega
theorem RS.g9 (h : RS B w9 bx p dv kv n ds ks d k true true true false false false v3 v4 v8 v9 W) {v' : Value} (ho : W'.ownsRow B 3 1 v' (n + 1) (vis (ks ++ [k]))) (hb : Below B W W') (hg : GrowOf W W' kv v') :
    RS B w9 bx p dv kv n ds ks d k true true true true false false v3 v4 v8 v' W' := by
  have h1 := h.r1
  have h2 := h.r2
  have ha := h.ap
  exact ⟨h.bel.trans hb, grow_blk h.box hg (own_not h2 h.box (by decide)), own_grow h1 hg ha, ho, (ha.symm.grow hg h1).symm, (fun _ h4 => by cases h4), (fun _ h9 => by cases h9)⟩
theorem RS.s11 (hB : B ≤ bx) (h : RS B w9 bx p dv kv n ds ks d k true true true true false false v3 v4 v8 v9 W) :
    RS B w9 bx p dv kv n ds ks d k true true true true true false v3 v4 v8 v9 (W.setCell ⟨bx, 2, none⟩ v4) := by
  have n1 := own_not h.r1 h.box (by decide)
  have n2 := own_not h.r2 h.box (by decide)
  refine ⟨h.bel.setCell hB _, ?_, own_set h.r1 (fun k hk e => n1 (by rw [hk, e])) 2 v4, own_set h.r2 (fun k hk e => n2 (by rw [hk, e])) 2 v4, h.ap, (fun _ h4 => by cases h4), (fun _ h9 => by cases h9)⟩
  exact blk_set h.box 2 v4
theorem RS.s13 (hB : B ≤ bx) (h : RS B w9 bx p dv kv n ds ks d k true true true true true false v3 v4 v8 v9 W) :
    RS B w9 bx p dv kv n ds ks d k true true true true true true v3 v4 v8 v9 (W.setCell ⟨bx, 3, none⟩ v9) := by
  have n1 := own_not h.r1 h.box (by decide)
  have n2 := own_not h.r2 h.box (by decide)
  refine ⟨h.bel.setCell hB _, ?_, own_set h.r1 (fun k hk e => n1 (by rw [hk, e])) 3 v9, own_set h.r2 (fun k hk e => n2 (by rw [hk, e])) 3 v9, h.ap, (fun _ h4 => by cases h4), (fun _ h9 => by cases h9)⟩
  exact blk_set h.box 3 v9
end
def EndP (cs : List C5) (p : P2) : Prop := ∃ c ∈ cs, p = eP c.1 ∨ p = eQ c.1
theorem crT_bd {t : T3} (h : K4 t) {m : Nat} (hm : m < 3) : (2 * t.1 ≤ (crT t m).1 ∧ (crT t m).1 ≤ 2 * t.1 + 2) ∧ (2 * t.2.1 ≤ (crT t m).2 ∧ (crT t m).2 ≤ 2 * t.2.1 + 2) := by
  obtain ⟨x, y, ht⟩ := k4_cases h
  obtain ⟨a0, a1, a2, b0, b1, b2, c0, c1, c2, d0, d1, d2⟩ := cr_out x y
  rcases i3_cases hm with rfl | rfl | rfl <;> rcases ht with rfl | rfl | rfl | rfl <;> simp only [a0, a1, a2, b0, b1, b2, c0, c1, c2, d0, d1, d2] <;> omega
/-! ### while the creases are gone through -/
structure SrO (w : World) (mb2 n nC : Nat) (L : List T3) (f : P2 → Option (List Int)) (wr : World) : Prop where
  cnt : CntX wr w.heap.size nC (cornersA L)
  map : MapV kvP wr mb2 n f
  bel : Below w.heap.size w wr
  lt : w.heap.size < mb2
section
variable {w wr w' : World} {mb2 n nC : Nat} {L : List T3} {f f' : P2 → Option (List Int)}
theorem SrO.below (h : SrO w mb2 n nC L f wr) (hb : Below wr.heap.size wr w') : SrO w mb2 n nC L f w' := ⟨h.cnt.stay hb, h.map.stay hb, stay_b h.bel hb, h.lt⟩
theorem SrO.put {m : Nat} (h : SrO w mb2 n nC L f wr) (hm : MapV kvP w' mb2 m f') (hg : wr.grownBy w' (some mb2)) : SrO w mb2 m nC L f' w' :=
  ⟨h.cnt.grown hg (by have := h.lt; omega), hm, h.bel.grown hg h.bel.size (fun k e => by cases e; have := h.lt; omega), h.lt⟩
theorem map_ne {k : KE P2} {g : P2 → Option Int} {b m : Nat} {w : World} {t : TypeId} {cs : Array Value} {j : Nat} (h : MapI k w b m g) (hj : w.heap[j]? = some (.cells cs t (0, 0))) : b ≠ j := by
  rintro rfl
  obtain ⟨D, ⟨es, c, h1, _⟩, _⟩ := h
  rw [hj] at h1
  cases h1
theorem mapV_ne {α β : Type} {k : KV α β} {g : α → Option β} {b m : Nat} {w : World} {t : TypeId} {cs : Array Value} {j : Nat} (h : MapV k w b m g) (hj : w.heap[j]? = some (.cells cs t (0, 0))) : b ≠ j := by
  rintro rfl
  obtain ⟨D, ⟨es, c, h1, _⟩, _⟩ := h
  rw [hj] at h1
  cases h1
theorem SrO.setC {t : TypeId} {cs : Array Value} {g : Nat} (h : SrO w mb2 n nC L f wr) (hg : wr.heap[g]? = some (.cells cs t (0, 0))) (hge : w.heap.size ≤ g) (i : Nat) (v : Value) : SrO w mb2 n nC L f (wr.setCell ⟨g, i, none⟩ v) := by
  refine ⟨?_, ?_, h.bel.setCell hge v, h.lt⟩
  · obtain ⟨f0, h1, h2⟩ := h.cnt.map
    exact ⟨f0, h1.heap (Below.heap_setCell wr ⟨g, i, none⟩ v _ (map_ne h1 hg)), h2⟩
  · exact h.map.heap (Below.heap_setCell wr ⟨g, i, none⟩ v _ (mapV_ne h.map hg))
end
theorem at8 {l0 l1 l2 l3 l4 l5 l6 l7 z : Int} {d : Nat} (h : [l0, l1, l2, l3, l4, l5, l6, l7][d]? = some z) : (#[Value.int .i64 l0, .int .i64 l1, .int .i64 l2, .int .i64 l3, .int .i64 l4, .int .i64 l5, .int .i64 l6, .int .i64 l7] : Array Value)[d]? = some (.int .i64 z) := by
  have e : (#[Value.int .i64 l0, .int .i64 l1, .int .i64 l2, .int .i64 l3, .int .i64 l4, .int .i64 l5, .int .i64 l6, .int .i64 l7] : Array Value) = (vis [l0, l1, l2, l3, l4, l5, l6, l7]).toArray := rfl
  rw [e, List.getElem?_toArray, List.getElem?_map, h]
  rfl
theorem vis_set (l : List Int) (d : Nat) (k : Int) : (vis l).toArray.setIfInBounds d (.int .i64 k) = (vis (l.set d k)).toArray := by simp [vis, List.map_set]
theorem crease_new {cs : List C5} (h : cs.Pairwise fun a b => a.1 ≠ b.1) {i : Nat} {c : C5} (hc : cs[i]? = some c) : ∀ d ∈ cs.take i, d.1 ≠ c.1 := by
  intro d hd
  obtain ⟨j, hj, e⟩ := List.getElem_of_mem hd
  have hi := (List.getElem?_eq_some_iff.1 hc).1
  simp at hj e
  have h1 := List.pairwise_iff_getElem.1 h j i (by omega) hi (by omega)
  rw [e, (List.getElem?_eq_some_iff.1 hc).2] at h1
  exact h1
theorem CrI.end_ok {L : List T3} {cs : List C5} (h : CrI L cs) (hL : ∀ t ∈ L, SmT t) {c : C5} (hc : c ∈ cs) (j : Nat) : (kP.ok (edX c.1 j) ∧ (-3000 ≤ (edX c.1 j).1 ∧ (edX c.1 j).1 ≤ 3000) ∧ (-3000 ≤ (edX c.1 j).2 ∧ (edX c.1 j).2 ≤ 3000)) := by
  have hp : edX c.1 j ∈ cornersA L := by
    refine h.point (fun t ht => (hL t ht).2.2) ⟨c, hc, ?_⟩
    unfold edX
    split
    · exact .inl rfl
    · exact .inr rfl
  obtain ⟨t, ht, i, hi, e⟩ := cornersA_mem.1 hp
  rw [← e]
  exact (hL t ht).corner hi
theorem edY_edX (e : E4) {j : Nat} (hj : j < 2) : edY e j = edX e (1 - j) := by
  rcases (by omega : j = 0 ∨ j = 1) with rfl | rfl <;> rfl
theorem starsC_snoc (L : List T3) (cs : List C5) (ks : List P2) (p : P2) : starsC L cs (ks ++ [p]) = starsC L cs ks ++ if (cornersA L).count p < fullP p then [] else [starP cs p] := by
  unfold starsC
  rw [List.filter_append, List.map_append]
  congr 1
  by_cases h : (cornersA L).count p < fullP p <;> simp [h]
theorem starsC_len (L : List T3) (cs : List C5) (ks : List P2) : (starsC L cs ks).length ≤ ks.length := by
  unfold starsC
  rw [List.length_map]
  exact List.length_filter_le _ _
theorem and1P (n : Int) : bits .and .i64 n 1 = n % 2 := by
  have h : (BitVec.ofInt 64 1).toNat = 2 ^ 1 - 1 := by decide
  have key : (BitVec.ofInt 64 n &&& BitVec.ofInt 64 1).toNat = (n % ((2 ^ 64 : Nat) : Int)).toNat % 2 ^ 1 := by
    rw [BitVec.toNat_and, BitVec.toNat_ofInt, h, Nat.and_two_pow_sub_one_eq_mod]
  show IntKind.i64.wrap ((BitVec.ofInt 64 n &&& BitVec.ofInt 64 1).toNat : Nat) = n % 2
  rw [key, IntKind.wrap_i64]
  omega
theorem own_one {w : World} {base sz n : Nat} {e : TypeId} {v : Value} {xs : List Value} (h : w.ownsRow base e sz v n xs) : v.oneCell' = true := by
  obtain ⟨A, c, rfl, _, _⟩ := own_slice h
  rfl
end Go.Proofs.YtoienokpchbglaaDoor
