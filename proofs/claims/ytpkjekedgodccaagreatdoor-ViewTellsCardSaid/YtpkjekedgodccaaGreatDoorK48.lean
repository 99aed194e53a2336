/- A row of stacks that is laid by the call itself.. -/
import Derived.Test.YtpkjekedgodccaaGreatDoorK46
import Derived.Test.YtpkjekedgodccaaGreatDoorK47
namespace Go.Proofs.YtpkjekedgodccaaGreatDoor
set_option linter.unusedSimpArgs false
set_option linter.unusedVariables false
section
open Go.RowKit Go.Maps
theorem stk_one (x y k : Int) (A : Option Addr) (n c : Nat) : ∀ u ∈ [Value.int .i64 x, .int .i64 y, .int .i64 k, .slice A n c], u.oneCell' = true := by
 intro u hu
 simp only [List.mem_cons, List.not_mem_nil, or_false] at hu
 rcases hu with rfl | rfl | rfl | rfl <;> rfl
theorem tcT_ones (l : List T3) : ∀ u ∈ tcT l, u.oneCell' = true := by
 intro u hu
 obtain ⟨t, _, ht⟩ := List.mem_flatMap.1 hu
 exact tri_one _ _ _ u ht
theorem scs_app : ∀ {ss : List Stk} {vs : List Value} (s : Stk) (v : Value), vs.length = ss.length → scs (ss ++ [s]) (vs ++ [v]) = scs ss vs ++ [.int .i64 s.1.1, .int .i64 s.1.2.1, .int .i64 s.1.2.2, v]
 | [], [], s, v, _ => rfl
 | [], _ :: _, s, v, h => by simp at h
 | a :: ss, [], s, v, h => by simp at h
 | a :: ss, b :: vs, s, v, h => by
  have := scs_app (ss := ss) (vs := vs) s v (by simpa using h)
  simp only [List.cons_append, scs, this]
theorem stack_info : (Tryz.prog.info? 54).map (fun i => (i.zero, i.size, i.bytes)) = some (some (.agg #[.int .i64 0, .int .i64 0, .int .i64 0, .slice none 0 0]), 4, 48) := by kernel_rfl
theorem own_none {w : World} {base n sz c : Nat} {e : TypeId} {A : Option Addr} {xs : List Value} (h : w.ownsRow base e sz (.slice A n c) n xs) : A = none → c = 0 := by
 obtain ⟨A', c', hv, h1⟩ := own_sl0 h
 cases hv
 exact h1
structure StkW (w : World) (base : Nat) (v : Value) (sts : List Stk) : Prop where
 ex : ∃ vs : List Value, vs.length = sts.length ∧ w.ownsRow base 54 4 v sts.length (scs sts vs) ∧ ∀ (i : Nat) (s : Stk), sts[i]? = some s → ∃ u, vs[i]? = some u ∧ w.ownsRow base 44 3 u s.2.length (tcT s.2)
section
variable {w w' : World} {base : Nat} {v v' u : Value} {sts : List Stk}
theorem StkW.nil (w : World) (base : Nat) : StkW w base (.slice none 0 0) [] := ⟨[], rfl, World.ownsRow_nil _ _ _ _, fun i s h => by simp at h⟩
theorem StkW.below (h : StkW w base v sts) (hb : Below w.heap.size w w') : StkW w' base v sts := by
 obtain ⟨vs, h0, h1, h2⟩ := h.ex
 exact ⟨vs, h0, od h1 hb, fun i s hs => by obtain ⟨u, h3, h4⟩ := h2 i s hs; exact ⟨u, h3, od h4 hb⟩⟩
theorem StkW.mono {base' : Nat} (h : StkW w base v sts) (hb : base' ≤ base) : StkW w base' v sts := by
 obtain ⟨vs, h0, h1, h2⟩ := h.ex
 exact ⟨vs, h0, own_mono h1 hb, fun i s hs => by obtain ⟨u, h3, h4⟩ := h2 i s hs; exact ⟨u, h3, own_mono h4 hb⟩⟩
theorem StkW.set {g : Nat} {t : TypeId} {cs : Array Value} (h : StkW w base v sts) (hg : w.heap[g]? = some (.cells cs t (0, 0))) (h1 : 54 ≠ t) (h2 : 44 ≠ t) (i : Nat) (x : Value) : StkW (w.setCell ⟨g, i, none⟩ x) base v sts := by
 obtain ⟨vs, h0, h3, h4⟩ := h.ex
 exact ⟨vs, h0, own_set h3 (fun k hk e => own_not h3 hg h1 (by rw [hk, e])) i x, fun i2 s hs => by
  obtain ⟨u, h5, h6⟩ := h4 i2 s hs
  exact ⟨u, h5, own_set h6 (fun k hk e => own_not h6 hg h2 (by rw [hk, e])) i x⟩⟩
theorem StkW.row (h : StkW w base v sts) : ∃ xs, w.ownsRow base 54 4 v sts.length xs ∧ ∀ {w' : World} {v' u : Value} (s : Stk), GrowOf w w' v v' → w.ownsRow base 44 3 u s.2.length (tcT s.2) → w'.ownsRow base 54 4 v' (sts.length + 1) (xs ++ [.int .i64 s.1.1, .int .i64 s.1.2.1, .int .i64 s.1.2.2, u]) → StkW w' base v' (sts ++ [s]) := by
 obtain ⟨vs, h0, h1, h2⟩ := h.ex
 refine ⟨scs sts vs, h1, fun {w' v' u} s hg hu ho => ⟨vs ++ [u], by simp [h0], by rw [scs_app s u h0]; simpa using ho, fun i s' hs => ?_⟩⟩
 rcases Nat.lt_or_ge i sts.length with hi | hi
 ·rw [List.getElem?_append_left hi] at hs
  obtain ⟨x, h3, h4⟩ := h2 i s' hs
  exact ⟨x, by rw [List.getElem?_append_left (by omega)]; exact h3, own_grow h4 hg (own_apart h4 h1 (by decide))⟩
 ·have he : i = sts.length := by
   have := (List.getElem?_eq_some_iff.1 hs).1
   simp at this
   omega
  subst he
  simp at hs
  subst hs
  exact ⟨u, by rw [← h0]; simp, own_grow hu hg (own_apart hu h1 (by decide))⟩
theorem StkW.rd {A : Option Addr} {n c : Nat} (h : StkW w base (.slice A n c) sts) (hn : n = sts.length) (ho : ∀ s ∈ sts, (inR s.1.1 ∧ inR s.1.2.1 ∧ inR s.1.2.2) ∧ ∀ t ∈ s.2, inR t.1 ∧ inR t.2.1 ∧ inR t.2.2) (hz : ∀ s ∈ sts, s.2.length ≤ 140737488351232) (hs : n ≤ 140737488351232) : StkR w A n sts := by
 obtain ⟨vs, h0, h1, h2⟩ := h.ex
 subst hn
 refine ⟨rfl, ⟨vs, Rd.of_own h1, fun i s hi => ?_⟩, ho, hs⟩
 obtain ⟨u, h3, h4⟩ := h2 i s hi
 obtain ⟨A', c', hv, h5, _⟩ := own_slice h4
 subst hv
 exact ⟨A', c', h3, Rd.of_own h4, hz s (List.mem_of_getElem? hi), h5, own_none h4⟩
theorem StkW.sl (h : StkW w base v sts) : ∃ A c, v = .slice A sts.length c := by
 obtain ⟨vs, h0, h1, h2⟩ := h.ex
 obtain ⟨A, c, hv, _⟩ := own_slice h1
 exact ⟨A, c, hv⟩
end
theorem own_step {w : World} {base sz n g : Nat} {e t : TypeId} {v : Value} {xs : List Value} {cs : Array Value} (h : w.ownsRow base e sz v n xs) (hg : w.heap[g]? = some (.cells cs t (0, 0))) (hne : e ≠ t) (i : Nat) (x : Value) : (w.setCell ⟨g, i, none⟩ x).ownsRow base e sz v n xs := own_set h (fun k hk e => own_not h hg hne (by rw [hk, e])) i x
theorem own_set6 {w : World} {base sz n g : Nat} {e t : TypeId} {v : Value} {xs : List Value} {cs : Array Value} (h : w.ownsRow base e sz v n xs) (hg : w.heap[g]? = some (.cells cs t (0, 0))) (hne : e ≠ t) (v0 v1 v2 v3 v4 v5 : Value) : ((((((w.setCell ⟨g, 0, none⟩ v0).setCell ⟨g, 1, none⟩ v1).setCell ⟨g, 2, none⟩ v2).setCell ⟨g, 3, none⟩ v3).setCell ⟨g, 4, none⟩ v4).setCell ⟨g, 5, none⟩ v5).ownsRow base e sz v n xs := (own_step (own_step (own_step (own_step (own_step (own_step h hg hne 0 v0) (blk_set hg 0 v0) hne 1 v1) (blk_set (blk_set hg 0 v0) 1 v1) hne 2 v2) (blk_set (blk_set (blk_set hg 0 v0) 1 v1) 2 v2) hne 3 v3) (blk_set (blk_set (blk_set (blk_set hg 0 v0) 1 v1) 2 v2) 3 v3) hne 4 v4) (blk_set (blk_set (blk_set (blk_set (blk_set hg 0 v0) 1 v1) 2 v2) 3 v3) 4 v4) hne 5 v5)
theorem StkW.set6 {w : World} {base g : Nat} {t : TypeId} {v : Value} {sts : List Stk} {cs : Array Value} (h : StkW w base v sts) (hg : w.heap[g]? = some (.cells cs t (0, 0))) (h1 : 54 ≠ t) (h2 : 44 ≠ t) (v0 v1 v2 v3 v4 v5 : Value) : StkW ((((((w.setCell ⟨g, 0, none⟩ v0).setCell ⟨g, 1, none⟩ v1).setCell ⟨g, 2, none⟩ v2).setCell ⟨g, 3, none⟩ v3).setCell ⟨g, 4, none⟩ v4).setCell ⟨g, 5, none⟩ v5) base v sts := (StkW.set (StkW.set (StkW.set (StkW.set (StkW.set (StkW.set h hg h1 h2 0 v0) (blk_set hg 0 v0) h1 h2 1 v1) (blk_set (blk_set hg 0 v0) 1 v1) h1 h2 2 v2) (blk_set (blk_set (blk_set hg 0 v0) 1 v1) 2 v2) h1 h2 3 v3) (blk_set (blk_set (blk_set (blk_set hg 0 v0) 1 v1) 2 v2) 3 v3) h1 h2 4 v4) (blk_set (blk_set (blk_set (blk_set (blk_set hg 0 v0) 1 v1) 2 v2) 3 v3) 4 v4) h1 h2 5 v5)
theorem blk_set6 {w : World} {g : Nat} {t : TypeId} {c0 c1 c2 c3 c4 c5 : Value} (hg : w.heap[g]? = some (.cells #[c0, c1, c2, c3, c4, c5] t (0, 0))) (v0 v1 v2 v3 v4 v5 : Value) : ((((((w.setCell ⟨g, 0, none⟩ v0).setCell ⟨g, 1, none⟩ v1).setCell ⟨g, 2, none⟩ v2).setCell ⟨g, 3, none⟩ v3).setCell ⟨g, 4, none⟩ v4).setCell ⟨g, 5, none⟩ v5).heap[g]? = some (.cells #[v0, v1, v2, v3, v4, v5] t (0, 0)) := by
 have h := (blk_set (blk_set (blk_set (blk_set (blk_set (blk_set hg 0 v0) 1 v1) 2 v2) 3 v3) 4 v4) 5 v5)
 simpa using h
theorem below_set6 {w0 w : World} {B g : Nat} (h : Below B w0 w) (hg : B ≤ g) (v0 v1 v2 v3 v4 v5 : Value) : Below B w0 ((((((w.setCell ⟨g, 0, none⟩ v0).setCell ⟨g, 1, none⟩ v1).setCell ⟨g, 2, none⟩ v2).setCell ⟨g, 3, none⟩ v3).setCell ⟨g, 4, none⟩ v4).setCell ⟨g, 5, none⟩ v5) := (Below.setCell (p := ⟨g, 5, none⟩) (Below.setCell (p := ⟨g, 4, none⟩) (Below.setCell (p := ⟨g, 3, none⟩) (Below.setCell (p := ⟨g, 2, none⟩) (Below.setCell (p := ⟨g, 1, none⟩) (Below.setCell (p := ⟨g, 0, none⟩) h hg v0) hg v1) hg v2) hg v3) hg v4) hg v5)
structure SoI (w w1 : World) (g : Nat) (W H : Int) (M C P S T : Value) (nm nc np : Nat) (mask : List Int) (cs : List C5) (ms : List V6) (sts : List Stk) (wr : World) : Prop where
 bel : Below w1.heap.size w1 wr
 gw : w1.heap.size ≤ g
 blk : wr.heap[g]? = some (.cells #[.int .i64 W, .int .i64 H, M, C, P, S] 29 (0, 0))
 r1 : wr.ownsRow w.heap.size 3 1 M nm (vis mask)
 r2 : wr.ownsRow w.heap.size 102 5 C nc (ccs cs)
 r3 : wr.ownsRow w.heap.size 63 6 P np (mcs ms)
 stk : StkW wr w1.heap.size T sts
section
variable {w w1 wr w' : World} {g : Nat} {W H : Int} {M C P S T T' : Value} {nm nc np : Nat} {mask : List Int} {cs : List C5} {ms : List V6} {sts : List Stk}
theorem SoI.below (h : SoI w w1 g W H M C P S T nm nc np mask cs ms sts wr) (hb : Below wr.heap.size wr w') : SoI w w1 g W H M C P S T nm nc np mask cs ms sts w' :=
 ⟨stay_b h.bel hb, h.gw, blk_below h.blk hb (blk_lt h.blk), od h.r1 hb, od h.r2 hb, od h.r3 hb, h.stk.below hb⟩
theorem SoI.cell (h : SoI w w1 g W H M C P S T nm nc np mask cs ms sts wr) : wr.cell? ⟨g, 5, none⟩ = some S := by rw [cell_of_blk h.blk 5]; rfl
theorem SoI.push (h : SoI w w1 g W H M C P S T nm nc np mask cs ms sts wr) {s : Stk} {u : Value} (hu : wr.ownsRow w1.heap.size 44 3 u s.2.length (tcT s.2)) : ∃ xs, wr.ownsRow w1.heap.size 54 4 T sts.length xs ∧ ∀ (T' : Value) (w' : World), w'.ownsRow w1.heap.size 54 4 T' (sts.length + 1) (xs ++ [.int .i64 s.1.1, .int .i64 s.1.2.1, .int .i64 s.1.2.2, u]) → Below w1.heap.size wr w' → GrowOf wr w' T T' → SoI w w1 g W H M C P S T' nm nc np mask cs ms (sts ++ [s]) w' := by
 obtain ⟨xs, h1, h2⟩ := h.stk.row
 refine ⟨xs, h1, fun T' w' o1 o2 o3 => ⟨h.bel.trans o2, h.gw, (o3.grown.block g (blk_lt h.blk) (fun e => own_not h1 h.blk (by decide) e.symm)).trans h.blk, own_grow h.r1 o3 (own_apart h.r1 h1 (by decide)), own_grow h.r2 o3 (own_apart h.r2 h1 (by decide)), own_grow h.r3 o3 (own_apart h.r3 h1 (by decide)), h2 s o3 hu o1⟩⟩
theorem SoI.store (h : SoI w w1 g W H M C P S T nm nc np mask cs ms sts wr) : SoI w w1 g W H M C P T T nm nc np mask cs ms sts (wr.setCell ⟨g, 5, none⟩ T) :=
 ⟨h.bel.setCell (p := ⟨g, 5, none⟩) h.gw T, h.gw, by simpa using blk_set h.blk 5 T, own_set h.r1 (fun k hk e => own_not h.r1 h.blk (by decide) (by rw [hk, e])) 5 T, own_set h.r2 (fun k hk e => own_not h.r2 h.blk (by decide) (by rw [hk, e])) 5 T, own_set h.r3 (fun k hk e => own_not h.r3 h.blk (by decide) (by rw [hk, e])) 5 T, h.stk.set h.blk (by decide) (by decide) 5 T⟩
end
end
end Go.Proofs.YtpkjekedgodccaaGreatDoor
