/- The path of folds: the closure 'step'. -/
import Derived.Test.YthfhkmgegkhljaaDragC
namespace Go.Proofs.Ythfhkmgegkhljaa
open Go.RowKit

abbrev vpt (p : Int × Int) : List Value := [.int .i64 p.1, .int .i64 p.2]
abbrev vps (l : List (Int × Int)) : List Value := l.flatMap vpt
def turnV (k : Int) (d : Int × Int) : Int × Int := if k = 1 then (d.2, -d.1) else (-d.2, d.1)
def addV (p d : Int × Int) : Int × Int := (p.1 + d.1, p.2 + d.2)
def pts (p d : Int × Int) : List Int → List (Int × Int)
  | [] => []
  | k :: r => addV p (turnV k d) :: pts (addV p (turnV k d)) (turnV k d) r
def endP (p d : Int × Int) : List Int → (Int × Int) × (Int × Int)
  | [] => (p, d)
  | k :: r => endP (addV p (turnV k d)) (turnV k d) r
theorem endP_snoc (l : List Int) (k : Int) : ∀ p d, endP p d (l ++ [k]) = (addV (endP p d l).1 (turnV k (endP p d l).2), turnV k (endP p d l).2) := by
  induction l with
  | nil => intro p d; rfl
  | cons y l ih => intro p d; simp only [List.cons_append, endP, ih]
theorem pts_snoc (l : List Int) (k : Int) : ∀ p d, pts p d (l ++ [k]) = pts p d l ++ [addV (endP p d l).1 (turnV k (endP p d l).2)] := by
  induction l with
  | nil => intro p d; rfl
  | cons y l ih => intro p d; simp only [List.cons_append, pts, endP, ih]
theorem pts_len (l : List Int) : ∀ p d, (pts p d l).length = l.length := by
  induction l with
  | nil => intro p d; rfl
  | cons y l ih => intro p d; simp only [pts, List.length_cons, ih]
theorem turnV_bd (k : Int) (d : Int × Int) (h : -1 ≤ d.1 ∧ d.1 ≤ 1 ∧ -1 ≤ d.2 ∧ d.2 ≤ 1) : -1 ≤ (turnV k d).1 ∧ (turnV k d).1 ≤ 1 ∧ -1 ≤ (turnV k d).2 ∧ (turnV k d).2 ≤ 1 := by
  unfold turnV; split <;> simp <;> omega
theorem endP_bd (l : List Int) : ∀ (p d : Int × Int) (b : Int), (-1 ≤ d.1 ∧ d.1 ≤ 1 ∧ -1 ≤ d.2 ∧ d.2 ≤ 1) → (-b ≤ p.1 ∧ p.1 ≤ b ∧ -b ≤ p.2 ∧ p.2 ≤ b) →
    (-1 ≤ (endP p d l).2.1 ∧ (endP p d l).2.1 ≤ 1 ∧ -1 ≤ (endP p d l).2.2 ∧ (endP p d l).2.2 ≤ 1) ∧
    (-(b + l.length) ≤ (endP p d l).1.1 ∧ (endP p d l).1.1 ≤ b + l.length ∧ -(b + l.length) ≤ (endP p d l).1.2 ∧ (endP p d l).1.2 ≤ b + l.length) := by
  induction l with
  | nil => intro p d b h1 h2; exact ⟨h1, by simpa [endP] using h2⟩
  | cons y l ih =>
    intro p d b h1 h2
    have ht := turnV_bd y d h1
    have := ih (addV p (turnV y d)) (turnV y d) (b + 1) ht (by simp only [addV]; omega)
    simp only [endP, List.length_cons]
    refine ⟨this.1, ?_⟩
    have h3 := this.2
    push_cast
    omega

theorem cell_of_blk {w : World} {g : Nat} {t : TypeId} {cs : Array Value} (h : w.heap[g]? = some (.cells cs t (0, 0))) (i : Nat) : w.cell? ⟨g, i, none⟩ = cs[i]? := cell_of_row w g i cs t (0, 0) h
theorem frozen_of_blk {w : World} {g : Nat} {t : TypeId} {cs : Array Value} (h : w.heap[g]? = some (.cells cs t (0, 0))) (i : Nat) : w.frozen? ⟨g, i, none⟩ = false := by simp [World.frozen?, h]
theorem blk_lt {w : World} {g : Nat} {o : Obj} (h : w.heap[g]? = some o) : g < w.heap.size := (Array.getElem?_eq_some_iff.1 h).1
theorem blk_set {w : World} {g : Nat} {t : TypeId} {cs : Array Value} (h : w.heap[g]? = some (.cells cs t (0, 0))) (i : Nat) (u : Value) : (w.setCell ⟨g, i, none⟩ u).heap[g]? = some (.cells (cs.setIfInBounds i u) t (0, 0)) := by
  simp [World.setCell, Array.getElem?_modify, h]
theorem blk_far {w : World} {g : Nat} {o : Obj} (h : w.heap[g]? = some o) {p : Addr} (hp : g ≠ p.block) (u : Value) : (w.setCell p u).heap[g]? = some o := (Below.heap_setCell w p u g hp).trans h
theorem blk_alloc {w : World} {g : Nat} {o : Obj} (h : w.heap[g]? = some o) (o' : Obj) : (w.alloc o').heap[g]? = some o := (Below.heap_alloc w o' g (blk_lt h)).trans h
theorem blk_below {w w' : World} {B g : Nat} {o : Obj} (h : w.heap[g]? = some o) (hb : Below B w w') (hg : g < B) : w'.heap[g]? = some o := (hb.block g hg).trans h
theorem blk_grow {w w' : World} {v v' : Value} {g : Nat} {o : Obj} (h : w.heap[g]? = some o) (hb : GrowOf w w' v v') (hg : v.ownBlock ≠ some g) : w'.heap[g]? = some o := (hb.grown.block g (blk_lt h) (fun e => hg e.symm)).trans h

theorem own_setCell_off {w : World} {base : Nat} {e : TypeId} {sz n : Nat} {v : Value} {xs : List Value} (h : w.ownsRow base e sz v n xs) {a : Addr} (ha : v.ownBlock ≠ some a.block) (u : Value) : (w.setCell a u).ownsRow base e sz v n xs := by
  refine ⟨h.1, ?_⟩
  rcases h.2 with h0 | ⟨g, cap, cur, rfl, h1, hg, rest⟩
  · exact .inl h0
  · exact .inr ⟨g, cap, cur, rfl, h1, blk_far hg (by intro e; subst e; exact ha rfl) u, rest⟩
theorem point_info : (Try.prog.info? 29).map (fun i => (i.zero, i.size, i.bytes)) = some (some (.agg #[.int .i64 0, .int .i64 0]), 2, 16) := by kernel_rfl

section
variable {w : World}
theorem app_points {ops : Array Oper} {rest : List Oper} {o : Oper} {a : Act} {Q : Exit → Act → World → Prop} (hgd : o.guard = none) (s x : Operand)
    (ho : o.op = .call { callee := .builtin .append, args := #[s, x], argTypes := #[24, 24] })
    (base : Nat) (v : Value) (n : Nat) (zs news : List (Int × Int)) (hs : a.eval s = v) (hown : w.ownsRow base 29 2 v n (vps zs)) (hbase : base ≤ w.heap.size)
    (m g : Nat) (hg : g = w.heap.size) (hx : a.eval x = .slice (some ⟨g, 0, none⟩) m m) (hm : news.length = m) (hn : n + m ≤ 2147483648)
    (h : ∀ v' w', w'.ownsRow base 29 2 v' (n + m) (vps (zs ++ news)) → Below base w w' → GrowOf w w' v v' → wpList Try.prog ops Q rest (a.put o.dst v') w') :
    wpList Try.prog ops Q (o :: rest) a (w.alloc (.cells (vps news).toArray 29)) :=
  app_gen Try.underlying24 point_info rfl (by decide) (by decide) hgd s x ho base v n (vps zs) (vps news) hs hown hbase m g hg hx (by
      subst hm
      clear hx h hn hg
      induction news with
      | nil => rfl
      | cons p l ih => simp only [vps, List.flatMap_cons, List.length_append, List.length_cons, List.length_nil] at ih ⊢; omega)
    (fun u hu => by obtain ⟨z, _, hz⟩ := List.mem_flatMap.1 hu; simp at hz; rcases hz with rfl | rfl <;> rfl) hn (fun v' w' h1 h2 h3 => h v' w' (by simpa [vps] using h1) h2 h3)
end

/-- What 'step' leaves of the blocks that were there. -/
structure StepKeep (w w' : World) (g0 g2 : Nat) (v v' : Value) : Prop where
  size : w.heap.size ≤ w'.heap.size
  block : ∀ k, k < w.heap.size → k ≠ g0 → k ≠ g2 → v.ownBlock ≠ some k → w'.heap[k]? = w.heap[k]?
  at_ : v'.ownBlock = v.ownBlock ∨ ∃ g, v'.ownBlock = some g ∧ w.heap.size ≤ g

set_option maxHeartbeats 800000 in
theorem step_any (base g0 g1 g2 : Nat) (p d : Int × Int) (v : Value) (n : Nat) (l : List (Int × Int)) (w : World)
    (hp : -3000 ≤ p.1 ∧ p.1 ≤ 3000 ∧ -3000 ≤ p.2 ∧ p.2 ≤ 3000) (hd : -1 ≤ d.1 ∧ d.1 ≤ 1 ∧ -1 ≤ d.2 ∧ d.2 ≤ 1) (hn : n ≤ 100000)
    (h0 : w.heap[g0]? = some (.cells #[.int .i64 p.1, .int .i64 p.2] 29 (0, 0))) (h1 : w.heap[g1]? = some (.cells #[.int .i64 d.1, .int .i64 d.2] 29 (0, 0)))
    (h2 : w.heap[g2]? = some (.cells #[v] 24 (0, 0))) (hb0 : base ≤ g0) (hb1 : g0 < g1) (hb2 : g1 < g2) (hown : w.ownsRow base 29 2 v n (vps l))
    (hv0 : v.ownBlock ≠ some g0) (hv1 : v.ownBlock ≠ some g1) (hv2 : v.ownBlock ≠ some g2) :
    Calls Try.prog 34 #[.pointer (some ⟨g0, 0, none⟩), .pointer (some ⟨g1, 0, none⟩), .pointer (some ⟨g2, 0, none⟩)] w fun e w' => e = .returned (.tuple #[]) ∧
      ∃ v', w'.heap[g0]? = some (.cells #[.int .i64 (addV p d).1, .int .i64 (addV p d).2] 29 (0, 0)) ∧ w'.heap[g1]? = some (.cells #[.int .i64 d.1, .int .i64 d.2] 29 (0, 0)) ∧
        w'.heap[g2]? = some (.cells #[v'] 24 (0, 0)) ∧ w'.ownsRow base 29 2 v' (n + 1) (vps (l ++ [addV p d])) ∧ Below base w w' ∧ StepKeep w w' g0 g2 v v' := by
  obtain ⟨x, y⟩ := p
  obtain ⟨dx, dy⟩ := d
  simp only at hp hd h0 h1
  obtain ⟨p1, p2, p3, p4⟩ := hp
  obtain ⟨d1, d2, d3, d4⟩ := hd
  have c00 : w.cell? ⟨g0, 0, none⟩ = some (.int .i64 x) := cell_of_blk h0 0
  have c01 : w.cell? ⟨g0, 1, none⟩ = some (.int .i64 y) := cell_of_blk h0 1
  have c10 : w.cell? ⟨g1, 0, none⟩ = some (.int .i64 dx) := cell_of_blk h1 0
  have c11 : w.cell? ⟨g1, 1, none⟩ = some (.int .i64 dy) := cell_of_blk h1 1
  have c20 : w.cell? ⟨g2, 0, none⟩ = some v := cell_of_blk h2 0
  have f0 : ∀ i, w.frozen? ⟨g0, i, none⟩ = false := frozen_of_blk h0
  have f1 : ∀ i, w.frozen? ⟨g1, i, none⟩ = false := frozen_of_blk h1
  have f2 : ∀ i, w.frozen? ⟨g2, i, none⟩ = false := frozen_of_blk h2
  have H0 := Lib.hid h0
  have H1 := Lib.hid h1
  have H2 := Lib.hid h2
  clear h0 h1 h2
  go_enter Try.func34, Try.ntmps34
  have HB2 := Lib.hid hb2
  have b0 := blk_set (blk_set H0.out 0 (.int .i64 (x + dx))) 1 (.int .i64 (y + dy))
  have b1 := blk_far (blk_far H1.out (p := ⟨g0, 0, none⟩) (by simp; omega) (.int .i64 (x + dx))) (p := ⟨g0, 1, none⟩) (by simp; omega) (.int .i64 (y + dy))
  have b2 := blk_far (blk_far H2.out (p := ⟨g0, 0, none⟩) (by simp; omega) (.int .i64 (x + dx))) (p := ⟨g0, 1, none⟩) (by simp; omega) (.int .i64 (y + dy))
  have ho := own_setCell_off (own_setCell_off hown (a := ⟨g0, 0, none⟩) hv0 (.int .i64 (x + dx))) (a := ⟨g0, 1, none⟩) hv0 (.int .i64 (y + dy))
  have hbel0 : Below base w ((w.setCell ⟨g0, 0, none⟩ (.int .i64 (x + dx))).setCell ⟨g0, 1, none⟩ (.int .i64 (y + dy))) := ((Below.refl _ _).setCell hb0 _).setCell hb0 _
  have hbs : base ≤ ((w.setCell ⟨g0, 0, none⟩ (.int .i64 (x + dx))).setCell ⟨g0, 1, none⟩ (.int .i64 (y + dy))).heap.size := by
    have := blk_lt H0.out; have := hbel0.size; omega
  have B0 := Lib.hid b0
  have B1 := Lib.hid b1
  have B2 := Lib.hid b2
  clear b0 b1 b2
  go_wp2_with (at_builtin; refine app_points rfl (.tmp 14) (.tmp 16) rfl base v n l [(x + dx, y + dy)] rfl ho hbs 1 _ ?hg rfl rfl (by omega) ?_; (case hg => simp); intro v' w' hown' hb' hgr; obtain ⟨A1, k1, rfl, hk1, hk2⟩ := own_slice hown'; have c2' := cell_of_blk (blk_grow B2.out hgr hv2) 0; have f2' := frozen_of_blk (blk_grow B2.out hgr hv2) 0)
  go_end0
  have hne0 : (Value.slice A1 (n + 1) k1).ownBlock ≠ some g2 := by
    intro e
    rcases hgr.at_ with h | ⟨g, h, hge⟩
    · exact hv2 (h.symm.trans e)
    · have h1 : some g = some g2 := h.symm.trans e
      injection h1 with h1
      have := blk_lt B2.out
      omega
  have hsz := hb'.size
  refine ⟨rfl, _, ?_, ?_, blk_set (blk_grow B2.out hgr hv2) 0 _, own_setCell_off hown' hne0 _, ?_, ?_⟩
  · exact blk_far (blk_grow B0.out hgr hv0) (by simp; omega) _
  · exact blk_far (blk_grow B1.out hgr hv1) (by simp; have := HB2.out; omega) _
  · exact (hbel0.trans hb').setCell (by simp; have := HB2.out; omega) _
  · refine ⟨?_, fun k hk k0 k2 kv => ?_, ?_⟩
    · have := hbel0.size; simp at hsz ⊢; omega
    · rw [Below.heap_setCell _ _ _ _ k2, hgr.grown.block k (by simpa using hk) (fun e => kv e.symm), Below.heap_setCell _ _ _ _ k0, Below.heap_setCell _ _ _ _ k0]
    · rcases hgr.at_ with h | ⟨g, h, hge⟩
      · exact .inl h
      · exact .inr ⟨g, h, by simpa using hge⟩
end Go.Proofs.Ythfhkmgegkhljaa
