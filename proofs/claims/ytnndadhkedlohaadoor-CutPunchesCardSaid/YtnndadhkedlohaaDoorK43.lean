/- Words for CutOf and PunchOf, Pieces and Punch.. What pile.Open hands back, told at one world.. The closures of cut.Pieces and cut.Punch. -/
import Derived.Test.YtnndadhkedlohaaDoorK35
import Derived.Test.YtnndadhkedlohaaDoorK42
import Derived.Test.YtnndadhkedlohaaDoorK38
import Derived.Test.YtnndadhkedlohaaDoorK04
import Derived.Test.YtnndadhkedlohaaDoorK32
import Derived.Test.YtnndadhkedlohaaDoorK11
namespace Go.Proofs.YtnndadhkedlohaaDoor
set_option linter.unusedSimpArgs false
set_option linter.unusedVariables false
section
open Go.RowKit Go.Maps
theorem bool_info : (Tryd.prog.info? 4).map (fun i => (i.zero, i.size, i.bytes)) = some (some (.bool false), 1, 1) := by kernel_rfl
theorem make_bools (n : Nat) (hn : n ≤ 1000) (w : World) : (Instr.makeSlice 77 (.int .i64 (n : Int)) (.int .i64 (n : Int))).run Tryd.prog w = .ok (.slice (some ⟨w.heap.size, 0, none⟩) n n) (w.alloc (.cells (bcs (List.replicate n false)).toArray 4)) := by
 obtain ⟨i0, hi, hz0, hz1, hz2⟩ := info_parts bool_info
 have := run_makeSlice (P := Tryd.prog) w 77 4 i0 (.bool false) Tryd.underlying77 hi hz0 .i64 .i64 n n (by omega) (Int.le_refl _) (by rw [hz1]; simp; omega) (by rw [hz2]; omega) (by omega)
 rw [this, hz1]
 have e : madeCells #[Value.bool false] n = (bcs (List.replicate n false)).toArray := by
  apply Array.toList_inj.1
  rw [toList_madeCells_one]
  simp [bcs]
 simp [Value.cells, e]
theorem vis_rep (n : Nat) : (vis (List.replicate n 0)).toArray = Array.replicate n (.int .i64 0) := by
 apply Array.toList_inj.1
 simp
def fillG {α : Type} (n : Nat) (s : Nat → α) (z : α) (i : Nat) : List α := (List.range n).map fun j => if j < i then s j else z
section
variable {α : Type} {n i j : Nat} {s : Nat → α} {z : α}
theorem fillG_len : (fillG n s z i).length = n := by simp [fillG]
theorem fillG_zero : fillG n s z 0 = List.replicate n z := by
 apply List.ext_getElem?
 intro j
 simp only [fillG, List.getElem?_map, List.getElem?_replicate, Nat.not_lt_zero, if_false]
 by_cases hj : j < n
 ·simp [hj]
 ·simp [hj]
theorem fillG_set (s : Nat → α) (z : α) : (fillG n s z i).set i (s i) = fillG n s z (i + 1) := by
 apply List.ext_getElem?
 intro j
 by_cases e : i = j
 ·subst e
  by_cases hj : i < n
  ·rw [List.getElem?_set_self (by rw [fillG_len]; exact hj)]
   simp [fillG, hj]
  ·simp [fillG, hj]
 ·rw [List.getElem?_set_ne e]
  by_cases hj : j < n
  ·simp only [fillG, List.getElem?_map, List.getElem?_range hj, Option.map_some]
   by_cases h1 : j < i
   ·rw [if_pos h1, if_pos (by omega)]
   ·rw [if_neg h1, if_neg (by omega)]
  ·simp [fillG, hj]
theorem fillG_at (hj : j < n) (d : α) : (fillG n s z n).getD j d = s j := by
 rw [List.getD_eq_getElem?_getD]
 simp [fillG, hj]
end
theorem MapsP.call {L : List T3} {C : E4 → Bool} {ms : List V6} (h : MapsP L C ms) (hsm : ∀ t ∈ L, SmT t) {i : Nat} {t : T3} {m : V6} (ht : L[i]? = some t) (hm : ms[i]? = some m) :
  (∀ W : World, Calls Tryd.prog 25 #[aggM m, aggT t.1 t.2.1 t.2.2] W fun e' w' => e' = .returned (aggT3 (atI L ms i)) ∧ Below W.heap.size W w') ∧ triMay3 (atI L ms i) = true := by
 have hit := hsm t (List.mem_of_getElem? ht)
 have hgm : ms.getD i zeroV = m := by rw [List.getD_eq_getElem?_getD, hm]; rfl
 have hat : atI L ms i = moveV m t := by unfold atI; rw [hgm, List.getD_eq_getElem?_getD, ht]; rfl
 have hmy := h.may i (List.getElem?_eq_some_iff.1 ht).1
 have h0 : mapMayB m = true := by rw [← hgm]; exact hmy.1
 refine ⟨fun W => ?_, hmy.2⟩
 rw [hat]
 exact moveOf_any m.1 m.2.1 m.2.2.1 m.2.2.2.1 m.2.2.2.2.1 m.2.2.2.2.2 t.1 t.2.1 t.2.2 W (gb_sm (may_sm h0) (by omega)) (may_even h0).1 (may_even h0).2.1 (may_even h0).2.2 (by have := hit.1; omega) (by have := hit.1; omega) (by have := hit.2.1; omega) (by have := hit.2.1; omega) hit.2.2.1 hit.2.2.2
def sdI (v c : Int) (L : List T3) (ms : List V6) (i : Nat) : Int := sideB v c (atI L ms i).1 (atI L ms i).2.1 (atI L ms i).2.2
def sdT (v c : Int) (L : List T3) (ms : List V6) (t : T3) : Int := sdI v c L ms (L.idxOf t)
def hdL (v c : Int) (L : List T3) (ms : List V6) (t u : T3) : Bool := decide (sdT v c L ms t = sdT v c L ms u)
def noG (_ : T3) : Bool := false
def gnI (a : T3) (L : List T3) (ms : List V6) (i : Nat) : Bool := decide (atI L ms i = a)
def gnT (a : T3) (L : List T3) (ms : List V6) (t : T3) : Bool := decide (t ∈ L) && gnI a L ms (L.idxOf t)
def hdY (_ _ : T3) : Bool := true
theorem idx_at {L : List T3} (hnd : L.Nodup) {i : Nat} {t : T3} (ht : L[i]? = some t) : L.idxOf t = i := by
 obtain ⟨hi, he⟩ := List.getElem?_eq_some_iff.1 ht
 subst he
 exact hnd.idxOf_getElem i hi
theorem gnT_at {a : T3} {L : List T3} {ms : List V6} (hnd : L.Nodup) {i : Nat} {t : T3} (ht : L[i]? = some t) : gnT a L ms t = gnI a L ms i := by
 unfold gnT
 rw [idx_at hnd ht, decide_eq_true (List.mem_of_getElem? ht), Bool.true_and]
theorem cutE_any {L : List T3} {gn : T3 → Bool} {hd : T3 → T3 → Bool} (hl : ∀ t ∈ L, K4 t) (hs : ∀ t u, hd t u = hd u t) : CutE L (cutC L gn hd) gn hd := fun _ ht _ hi hn => cutC_at hl hs ht hi hn
theorem hdL_sym (v c : Int) (L : List T3) (ms : List V6) (t u : T3) : hdL v c L ms t u = hdL v c L ms u t := by
 unfold hdL
 rw [Bool.eq_iff_iff]
 simp only [decide_eq_true_eq]
 exact eq_comm
theorem cutI_line {v c : Int} {L : List T3} {ms : List V6} (hl : ∀ t ∈ L, K4 t) (hnd : L.Nodup) (f : List Bool) (z : List Int) (hf : ∀ i, i < L.length → f.getD i false = true) (hz : ∀ i, i < L.length → z.getD i 0 = sdI v c L ms i) : CutI L (cutC L noG (hdL v c L ms)) f z := by
 intro i j k t ht hk hj
 have htL := List.mem_of_getElem? ht
 have huL := List.mem_of_getElem? hj
 have hi := (List.getElem?_eq_some_iff.1 ht).1
 have hj2 := (List.getElem?_eq_some_iff.1 hj).1
 rw [cutC_at hl (hdL_sym v c L ms) htL hk huL, hf i hi, hf j hj2, hz i hi, hz j hj2]
 unfold hdL sdT
 rw [idx_at hnd ht, idx_at hnd hj]
 simp [noG]
theorem cutI_hole {a : T3} {L : List T3} {ms : List V6} (hl : ∀ t ∈ L, K4 t) (hnd : L.Nodup) (f : List Bool) (z : List Int) (hf : ∀ i, i < L.length → f.getD i false = !gnI a L ms i) (hz : ∀ i, i < L.length → z.getD i 0 = 0) : CutI L (cutC L (gnT a L ms) hdY) f z := by
 intro i j k t ht hk hj
 have htL := List.mem_of_getElem? ht
 have huL := List.mem_of_getElem? hj
 have hi := (List.getElem?_eq_some_iff.1 ht).1
 have hj2 := (List.getElem?_eq_some_iff.1 hj).1
 rw [cutC_at hl (fun _ _ => rfl) htL hk huL, hf i hi, hf j hj2, hz i hi, hz j hj2]
 rw [gnT_at hnd ht, gnT_at hnd hj]
 simp [hdY]
def outL (gn : T3 → Bool) (L : List T3) (i : Nat) : List T3 := (L.take i).filter gn
theorem mem_outL {gn : T3 → Bool} {L : List T3} {t : T3} : t ∈ outL gn L L.length ↔ t ∈ L ∧ gn t = true := by
 unfold outL
 rw [List.take_length, List.mem_filter]
theorem outL_yes {gn : T3 → Bool} {L : List T3} {i : Nat} {t : T3} (ht : L[i]? = some t) (hg : gn t = true) : outL gn L (i + 1) = outL gn L i ++ [t] := by
 unfold outL
 rw [List.take_add_one, ht, List.filter_append]
 simp [hg]
theorem outL_no {gn : T3 → Bool} {L : List T3} {i : Nat} {t : T3} (ht : L[i]? = some t) (hg : gn t = false) : outL gn L (i + 1) = outL gn L i := by
 unfold outL
 rw [List.take_add_one, ht, List.filter_append]
 simp [hg]
theorem outL_len (gn : T3 → Bool) (L : List T3) (i : Nat) : (outL gn L i).length ≤ i := by
 unfold outL
 refine Nat.le_trans (List.length_filter_le _ _) ?_
 simp
 omega
theorem set_far_c {w : World} {g j b o : Nat} {u x : Value} (h : w.cell? ⟨b, o, none⟩ = some x) (hne : b < g) : (w.setCell ⟨g, j, none⟩ u).cell? ⟨b, o, none⟩ = some x := (World.cell?_of_block (Below.heap_setCell _ _ _ _ (Nat.ne_of_lt hne))).trans h
structure CoI (w1 : World) (gt gs : Nat) (f : List Bool) (z : List Int) (wr : World) : Prop where
 bel : Below w1.heap.size w1 wr
 ff : BB wr gt f
 zz : IB wr gs z
 ge1 : w1.heap.size ≤ gt
 ge2 : w1.heap.size ≤ gs
section
variable {w1 wr w' : World} {gt gs i : Nat} {f : List Bool} {z : List Int}
theorem CoI.ne (h : CoI w1 gt gs f z wr) : gt ≠ gs := fun e => by
 have h1 : wr.heap[gt]? = _ := h.ff
 have h2 : wr.heap[gs]? = _ := h.zz
 rw [e, h2] at h1
 simp only [Option.some.injEq, Obj.cells.injEq] at h1
 exact absurd h1.2.1 (by decide)
theorem CoI.below (h : CoI w1 gt gs f z wr) (hb : Below wr.heap.size wr w') : CoI w1 gt gs f z w' := ⟨stay_b h.bel hb, h.ff.below hb, h.zz.below hb, h.ge1, h.ge2⟩
theorem CoI.setB (h : CoI w1 gt gs f z wr) (i : Nat) (b : Bool) : CoI w1 gt gs (f.set i b) z (wr.setCell ⟨gt, i, none⟩ (.bool b)) :=
 ⟨h.bel.setCell (p := ⟨gt, i, none⟩) h.ge1 _, h.ff.set i b, blk_far (show wr.heap[gs]? = _ from h.zz) (Ne.symm h.ne) _, h.ge1, h.ge2⟩
theorem CoI.setI (h : CoI w1 gt gs f z wr) (i : Nat) (b : Int) : CoI w1 gt gs f (z.set i b) (wr.setCell ⟨gs, i, none⟩ (.int .i64 b)) :=
 ⟨h.bel.setCell (p := ⟨gs, i, none⟩) h.ge2 _, blk_far (show wr.heap[gt]? = _ from h.ff) h.ne _, h.zz.set i b, h.ge1, h.ge2⟩
end
theorem eqL_tri (U a : T3) : eqL [(U.1, a.1), (U.2.1, a.2.1), (U.2.2, a.2.2)] = decide (U = a) := by
 obtain ⟨x, y, k⟩ := U
 obtain ⟨x', y', k'⟩ := a
 rw [Bool.eq_iff_iff]
 simp [eqL]
structure PuI (w1 : World) (gt : Nat) (f : List Bool) (l : List T3) (v : Value) (wr : World) : Prop where
 bel : Below w1.heap.size w1 wr
 ff : BB wr gt f
 ge1 : w1.heap.size ≤ gt
 own : wr.ownsRow w1.heap.size 31 3 v l.length (tcT l)
section
variable {w1 wr w' : World} {gt i : Nat} {f : List Bool} {l : List T3} {v v' : Value} {t : T3}
theorem PuI.below (h : PuI w1 gt f l v wr) (hb : Below wr.heap.size wr w') : PuI w1 gt f l v w' := ⟨stay_b h.bel hb, h.ff.below hb, h.ge1, od h.own hb⟩
theorem PuI.setB (h : PuI w1 gt f l v wr) (i : Nat) (b : Bool) : PuI w1 gt (f.set i b) l v (wr.setCell ⟨gt, i, none⟩ (.bool b)) :=
 ⟨h.bel.setCell (p := ⟨gt, i, none⟩) h.ge1 _, h.ff.set i b, h.ge1, own_set h.own (fun k hk e => own_not h.own (show wr.heap[gt]? = _ from h.ff) (by decide) (by rw [hk, e])) i _⟩
theorem PuI.app (h : PuI w1 gt f l v wr) (o1 : w'.ownsRow w1.heap.size 31 3 v' (l.length + 1) (tcT l ++ [.int .i64 t.1, .int .i64 t.2.1, .int .i64 t.2.2])) (o2 : Below w1.heap.size wr w') (o3 : GrowOf wr w' v v') : PuI w1 gt f (l ++ [t]) v' w' :=
 ⟨h.bel.trans o2, (o3.grown.block gt (blk_lt (show wr.heap[gt]? = _ from h.ff)) (fun e => own_not h.own (show wr.heap[gt]? = _ from h.ff) (by decide) e.symm)).trans h.ff, h.ge1, by rw [List.length_append, tcT_app]; exact o1⟩
end
end
section
open Go.RowKit Go.Maps
theorem Kp2.own {w w' : World} {gl mb base sz n : Nat} {e : TypeId} {v : Value} {xs : List Value} (h : Kp2 w w' gl mb) (ho : w.ownsRow base e sz v n xs) (hl : ∃ cs, w.heap[gl]? = some (.cells cs 3 (0, 0))) (hm : ∃ es c, w.heap[mb]? = some (.map es c)) (hne : e ≠ 3) : w'.ownsRow base e sz v n xs := by
 obtain ⟨cs, hl⟩ := hl
 have h1 := own_not ho hl hne
 have h2 := own_notmap ho hm
 refine ⟨ho.1, ?_⟩
 rcases ho.2 with h0 | ⟨g, cap, cur, rfl, hb, hg, rest⟩
 ·exact .inl h0
 ·exact .inr ⟨g, cap, cur, rfl, hb, h.ob hg (fun e => h1 (by rw [← e]; rfl)) (fun e => h2 (by rw [← e]; rfl)), rest⟩
structure OpnQ (w' : World) (B xb pb nb kb Wn Hn mn mk : Nat) (vm vc vt va vp vl : Value) (mb : Nat) (L : List T3) (ms : List V6) (fk : E4 → Option Int) : Prop where
 pap : PapI w' pb nb kb Wn Hn vm vc vt L mn mk fk
 own : w'.ownsRow B 31 3 vt L.length (tcT L)
 at_ : w'.ownsRow B 31 3 va L.length (tcT (atsL L ms))
 pil : PilB w' xb pb vp va vl mb
theorem OpnP.q {w w' : World} {xb : Nat} {W H : Int} {mask : List Int} {cs : List C5} {ms : List V6} {sts : List Stk} (h : OpnP w xb W H mask cs ms sts w') : ∃ (Wn Hn pb nb kb mn mb : Nat) (vm vc vt va vp vl : Value), W = (Wn : Int) ∧ H = (Hn : Int) ∧ (1 ≤ Wn ∧ Wn ≤ 8) ∧ (1 ≤ Hn ∧ Hn ≤ 8) ∧ mask.length = Wn * Hn ∧ StateP W H mask cs ms sts ∧ OpnQ w' w.heap.size xb pb nb kb Wn Hn mn cs.length vm vc vt va vp vl mb (trisL Wn mask) ms (kindF cs) := by
 obtain ⟨wb, pb, nb, kb, Wn, Hn, mn, gl, mb, gm, cm, vm, vc, vt, va, h⟩ := h
 obtain ⟨d1, d2, d3, d4, d5⟩ := h.dim
 obtain ⟨f1, f2, f3, f4, f5, f6, _⟩ := h.far
 refine ⟨Wn, Hn, pb, nb, kb, mn, mb, vm, vc, vt, va, _, _, d1, d2, d3, d4, d5, h.st, ⟨⟨h.kp.ob h.pap.blk f1 f2, h.pap.num.heap (h.kp.blk nb h.pap.num.lt f3 f4), h.pap.kin.heap (h.kp.blk kb h.pap.kin.lt f5 f6)⟩, h.kp.own h.own h.lw h.mw (by decide), h.kp.own h.at_ h.lw h.mw (by decide), h.lie.pil⟩⟩
section
variable {w w' : World} {B xb pb nb kb Wn Hn mn mk : Nat} {vm vc vt va vp vl : Value} {mb : Nat} {L : List T3} {ms : List V6} {fk : E4 → Option Int}
theorem OpnQ.below (h : OpnQ w B xb pb nb kb Wn Hn mn mk vm vc vt va vp vl mb L ms fk) (hb : Below w.heap.size w w') : OpnQ w' B xb pb nb kb Wn Hn mn mk vm vc vt va vp vl mb L ms fk :=
 ⟨h.pap.below hb, od h.own hb, od h.at_ hb, h.pil.below hb⟩
theorem OpnQ.at1 (h : OpnQ w B xb pb nb kb Wn Hn mn mk vm vc vt va vp vl mb L ms fk) {i : Nat} (hi : i < L.length) : ∃ g c, va = .slice (some ⟨g, 0, none⟩) L.length c ∧ w.cell? ⟨g, i * 3, none⟩ = some (.int .i64 (atI L ms i).1) ∧ w.cell? ⟨g, i * 3 + 1, none⟩ = some (.int .i64 (atI L ms i).2.1) ∧ w.cell? ⟨g, i * 3 + 2, none⟩ = some (.int .i64 (atI L ms i).2.2) := by
 obtain ⟨g, c, cur, hv, _⟩ := own_addr h.at_ (by omega)
 subst hv
 exact ⟨g, c, rfl, own_tri h.at_ (atsL_at hi)⟩
theorem OpnQ.look (h : OpnQ w B xb pb nb kb Wn Hn mn mk vm vc vt va vp vl mb L ms fk) {t : T3} (ht : t ∈ L) (hk : kT.ok t) : (Instr.lookup 60 (.map (some nb)) (aggT3 t) false).run Tryd.prog w = .ok (.int .i64 ((L.idxOf t : Nat) : Int)) w := by
 have := h.pap.num.look1 (a := t) hk
 rw [show (numF L t).getD 0 = ((L.idxOf t : Nat) : Int) from by unfold numF; rw [if_pos ht]; rfl] at this
 exact this
end
end
section
open Go.RowKit Go.Maps
theorem side1_enter (args : Array Value) (wx : World) : (callFunc 29 args).run Tryd.prog wx = .ok (.enter 29 args) wx := by kernel_rfl
theorem side2_enter (args : Array Value) (wx : World) : (callFunc 31 args).run Tryd.prog wx = .ok (.enter 31 args) wx := by kernel_rfl
theorem hole1_enter (args : Array Value) (wx : World) : (callFunc 18 args).run Tryd.prog wx = .ok (.enter 18 args) wx := by kernel_rfl
theorem hole1_any (t u : T3) (w : World) : Calls Tryd.prog 18 #[aggT3 t, aggT3 u] w fun r w' => r = .returned (.bool true) ∧ Below w.heap.size w w' := by
 have hb := ba (below_new w (.cells #[.int .i64 t.1, .int .i64 t.2.1, .int .i64 t.2.2] 31)) (.cells #[.int .i64 u.1, .int .i64 u.2.1, .int .i64 u.2.2] 31)
 go_enter Tryd.func18, Tryd.ntmps18
 go_wp2
 go_ret
 exact ⟨rfl, hb⟩
set_option maxRecDepth 100000 in
set_option maxHeartbeats 3200000 in
theorem side1_any (lb qb : Nat) (v c : Int) (B xb pb nb kb Wn Hn mn mk : Nat) (vm vc vt va vp vl : Value) (mb : Nat) (L : List T3) (ms : List V6) (fk : E4 → Option Int) (t : T3) (w : World) (hs : Steps w) (hq : OpnQ w B xb pb nb kb Wn Hn mn mk vm vc vt va vp vl mb L ms fk)
  (h0 : w.cell? ⟨lb, 0, none⟩ = some (.int .i64 v)) (h1 : w.cell? ⟨lb, 1, none⟩ = some (.int .i64 c)) (hp : w.cell? ⟨qb, 0, none⟩ = some (.pointer (some ⟨xb, 0, none⟩))) (ht : t ∈ L) (hk : kT.ok t) (hl : lineMayB v c = true) (hm : ∀ i, i < L.length → triMay3 (atI L ms i) = true) :
  Calls Tryd.prog 29 #[aggT3 t, .pointer (some ⟨lb, 0, none⟩), .pointer (some ⟨qb, 0, none⟩)] w fun r w' => r = .returned (.int .i64 (sdT v c L ms t)) ∧ Below w.heap.size w w' := by
 have kb0 := heap_alloc_new w (.cells #[.int .i64 t.1, .int .i64 t.2.1, .int .i64 t.2.2] 31)
 have hb0 := below_new w (.cells #[.int .i64 t.1, .int .i64 t.2.1, .int .i64 t.2.2] 31)
 have t0 := cell_of_blk kb0 0
 have t1 := cell_of_blk kb0 1
 have t2 := cell_of_blk kb0 2
 simp only [List.getElem?_toArray, List.getElem?_cons_zero, List.getElem?_cons_succ] at t0 t1 t2
 have hq0 := hq.below hb0
 have hs0 := hs.below hb0
 replace h0 := al_c h0 (.cells #[.int .i64 t.1, .int .i64 t.2.1, .int .i64 t.2.2] 31)
 replace h1 := al_c h1 (.cells #[.int .i64 t.1, .int .i64 t.2.1, .int .i64 t.2.2] 31)
 replace hp := al_c hp (.cells #[.int .i64 t.1, .int .i64 t.2.1, .int .i64 t.2.2] 31)
 have hn := List.idxOf_lt_length_of_mem ht
 obtain ⟨ga, ca, hva, u0, u1, u2⟩ := hq0.at1 hn
 subst hva
 have x0 := hq0.pil.c0
 have x2 := hq0.pil.c2
 have c5 := hq0.pap.c5
 have hty := hm _ hn
 have hsd : sideB v c (atI L ms (L.idxOf t)).1 (atI L ms (L.idxOf t)).2.1 (atI L ms (L.idxOf t)).2.2 = sdT v c L ms t := rfl
 obtain ⟨⟨b1, b2⟩, ⟨b3, b4⟩, b5, b6⟩ := triMayB_bd (show triMayB (atI L ms (L.idxOf t)).1 (atI L ms (L.idxOf t)).2.1 (atI L ms (L.idxOf t)).2.2 = true from hty)
 obtain ⟨_, ⟨b7, b8⟩, _⟩ := lineMayB_bd hl
 have cS := fun (W : World) (hb : Below (w.alloc (.cells #[.int .i64 t.1, .int .i64 t.2.1, .int .i64 t.2.2] 31)).heap.size (w.alloc (.cells #[.int .i64 t.1, .int .i64 t.2.1, .int .i64 t.2.2] 31)) W) => side_any v c (atI L ms (L.idxOf t)).1 (atI L ms (L.idxOf t)).2.1 (atI L ms (L.idxOf t)).2.2 W (hs0.below hb) b7 b8 b1 b2 b3 b4 b5 b6
 have hlk := fun (W : World) (hb : Below (w.alloc (.cells #[.int .i64 t.1, .int .i64 t.2.1, .int .i64 t.2.2] 31)).heap.size (w.alloc (.cells #[.int .i64 t.1, .int .i64 t.2.1, .int .i64 t.2.2] 31)) W) => (hq0.below hb).look ht hk
 rw [hsd] at cS
 clear hsd b1 b2 b3 b4 b5 b6 b7 b8 hty
 obtain ⟨n, hnn⟩ : ∃ n, n = L.idxOf t := ⟨_, rfl⟩
 rw [← hnn] at hn u0 u1 u2 hlk cS
 obtain ⟨U, hU⟩ : ∃ U, U = atI L ms n := ⟨_, rfl⟩
 rw [← hU] at u0 u1 u2 cS
 obtain ⟨s, hss⟩ : ∃ s, s = sdT v c L ms t := ⟨_, rfl⟩
 rw [← hss] at cS ⊢
 have hni : (n : Int) < (L.length : Int) := by omega
 have hn0 : (0 : Int) ≤ (n : Int) := by omega
 have CS := Lib.hid cS
 have HLK := Lib.hid hlk
 have HB0 := Lib.hid hb0
 clear cS hlk hq hs hq0 hs0 kb0 ht hk hl hm hnn hU hss hb0
 go_enter Tryd.func29, Tryd.ntmps29
 go_wp2_with fail
 generalize w.alloc (.cells #[.int .i64 t.1, .int .i64 t.2.1, .int .i64 t.2.2] 31) = w0 at t0 t1 t2 h0 h1 hp u0 u1 u2 x0 x2 c5 CS HLK HB0 ⊢
 refine rg_plain (fin := ?z1) [.agg #[.int .i64 v, .int .i64 c], .pointer (some ⟨xb, 0, none⟩), .pointer (some ⟨xb, 0, none⟩), .pointer (some ⟨xb, 2, none⟩), .slice (some ⟨ga, 0, none⟩) L.length ca, .pointer (some ⟨xb, 0, none⟩), .pointer (some ⟨xb, 0, none⟩), .pointer (some ⟨xb, 0, none⟩), .pointer (some ⟨pb, 0, none⟩), .pointer (some ⟨pb, 0, none⟩), .pointer (some ⟨pb, 5, none⟩), .map (some nb), .agg #[.int .i64 t.1, .int .i64 t.2.1, .int .i64 t.2.2], .int .i64 (n : Int), .pointer (some ⟨ga, n * 3, none⟩), .agg #[.int .i64 U.1, .int .i64 U.2.1, .int .i64 U.2.2], .int .i64 s, .int .i64 s] (fun WN => WN.cell? ⟨lb, 0, none⟩ = some (.int .i64 v) ∧ WN.cell? ⟨lb, 1, none⟩ = some (.int .i64 c) ∧ WN.cell? ⟨qb, 0, none⟩ = some (.pointer (some ⟨xb, 0, none⟩)) ∧ WN.cell? ⟨xb, 0, none⟩ = some (.pointer (some ⟨pb, 0, none⟩)) ∧ WN.cell? ⟨xb, 2, none⟩ = some (.slice (some ⟨ga, 0, none⟩) L.length ca) ∧ WN.cell? ⟨pb, 5, none⟩ = some (.map (some nb)) ∧ WN.cell? ⟨w.heap.size, 0, none⟩ = some (.int .i64 t.1) ∧ WN.cell? ⟨w.heap.size, 1, none⟩ = some (.int .i64 t.2.1) ∧ WN.cell? ⟨w.heap.size, 2, none⟩ = some (.int .i64 t.2.2) ∧ WN.cell? ⟨ga, n * 3, none⟩ = some (.int .i64 U.1) ∧ WN.cell? ⟨ga, n * 3 + 1, none⟩ = some (.int .i64 U.2.1) ∧ WN.cell? ⟨ga, n * 3 + 2, none⟩ = some (.int .i64 U.2.2) ∧ Below w0.heap.size w0 WN) ?hf (by kernel_rfl) (by kernel_rfl) rfl ⟨h0, h1, hp, x0, x2, c5, t0, t1, t2, u0, u1, u2, (Below.refl _ _).drew⟩ (fun WN hst => ?hs) (fun WN hst => ?he)
 case hf => simp only [putOps, Act.put, List.setIfInBounds_toArray, List.set_cons_succ, List.set_cons_zero]; exact rfl
 case hs =>
  have HST := Lib.hid hst
  obtain ⟨h0, h1, hp, x0, x2, c5, t0, t1, t2, u0, u1, u2, hbl⟩ := hst
  iterate 18 refine ⟨?_, fun K hK => ?_⟩
  ·trivial
  all_goals try (go_simp; exact hK _ HST.out; done)
  ·go_simp
   refine (CS.out WN hbl).mono ?_
   rintro e' wc ⟨he, hbc⟩
   subst he
   exact hK _ ⟨sd h0 hbc, sd h1 hbc, sd hp hbc, sd x0 hbc, sd x2 hbc, sd c5 hbc, sd t0 hbc, sd t1 hbc, sd t2 hbc, sd u0 hbc, sd u1 hbc, sd u2 hbc, stay_b hbl hbc⟩
  ·have hl1 := HLK.out WN hbl
   go_simp
   exact hK _ HST.out
 case he =>
  obtain ⟨h0, h1, hp, x0, x2, c5, t0, t1, t2, u0, u1, u2, hbl⟩ := hst
  have HBF := Lib.hid (stay_b HB0.out hbl)
  clear hbl
  go_wp2
  go_ret
  exact ⟨rfl, HBF.out⟩
set_option maxRecDepth 100000 in
set_option maxHeartbeats 3200000 in
theorem side2_any (lb qb fb : Nat) (v c : Int) (B xb pb nb kb Wn Hn mn mk : Nat) (vm vc vt va vp vl : Value) (mb : Nat) (L : List T3) (ms : List V6) (fk : E4 → Option Int) (t u : T3) (w : World) (hs : Steps w) (hq : OpnQ w B xb pb nb kb Wn Hn mn mk vm vc vt va vp vl mb L ms fk)
  (h0 : w.cell? ⟨lb, 0, none⟩ = some (.int .i64 v)) (h1 : w.cell? ⟨lb, 1, none⟩ = some (.int .i64 c)) (hp : w.cell? ⟨qb, 0, none⟩ = some (.pointer (some ⟨xb, 0, none⟩))) (hf : w.cell? ⟨fb, 0, none⟩ = some (.func (.func 29) #[] #[.pointer (some ⟨lb, 0, none⟩), .pointer (some ⟨qb, 0, none⟩)]))
  (ht : t ∈ L) (hk : kT.ok t) (hu : u ∈ L) (hku : kT.ok u) (hl : lineMayB v c = true) (hm : ∀ i, i < L.length → triMay3 (atI L ms i) = true) :
  Calls Tryd.prog 31 #[aggT3 t, aggT3 u, .pointer (some ⟨fb, 0, none⟩)] w fun r w' => r = .returned (.bool (hdL v c L ms t u)) ∧ Below w.heap.size w w' := by
 have hent := side1_enter
 have hb0 := ba (below_new w (.cells #[.int .i64 t.1, .int .i64 t.2.1, .int .i64 t.2.2] 31)) (.cells #[.int .i64 u.1, .int .i64 u.2.1, .int .i64 u.2.2] 31)
 have kt := blk_alloc (heap_alloc_new w (.cells #[.int .i64 t.1, .int .i64 t.2.1, .int .i64 t.2.2] 31)) (.cells #[.int .i64 u.1, .int .i64 u.2.1, .int .i64 u.2.2] 31)
 have ku := heap_alloc_new (w.alloc (.cells #[.int .i64 t.1, .int .i64 t.2.1, .int .i64 t.2.2] 31)) (.cells #[.int .i64 u.1, .int .i64 u.2.1, .int .i64 u.2.2] 31)
 rw [World.size_alloc] at ku
 have t0 := cell_of_blk kt 0
 have t1 := cell_of_blk kt 1
 have t2 := cell_of_blk kt 2
 have u0 := cell_of_blk ku 0
 have u1 := cell_of_blk ku 1
 have u2 := cell_of_blk ku 2
 simp only [List.getElem?_toArray, List.getElem?_cons_zero, List.getElem?_cons_succ] at t0 t1 t2 u0 u1 u2
 replace hf := sd hf hb0
 have c1 := fun (W : World) (hb : Below ((w.alloc (.cells #[.int .i64 t.1, .int .i64 t.2.1, .int .i64 t.2.2] 31)).alloc (.cells #[.int .i64 u.1, .int .i64 u.2.1, .int .i64 u.2.2] 31)).heap.size ((w.alloc (.cells #[.int .i64 t.1, .int .i64 t.2.1, .int .i64 t.2.2] 31)).alloc (.cells #[.int .i64 u.1, .int .i64 u.2.1, .int .i64 u.2.2] 31)) W) => side1_any lb qb v c B xb pb nb kb Wn Hn mn mk vm vc vt va vp vl mb L ms fk t W (hs.below (stay_b hb0 hb)) (hq.below (stay_b hb0 hb)) (sd h0 (stay_b hb0 hb)) (sd h1 (stay_b hb0 hb)) (sd hp (stay_b hb0 hb)) ht hk hl hm
 have c2 := fun (W : World) (hb : Below ((w.alloc (.cells #[.int .i64 t.1, .int .i64 t.2.1, .int .i64 t.2.2] 31)).alloc (.cells #[.int .i64 u.1, .int .i64 u.2.1, .int .i64 u.2.2] 31)).heap.size ((w.alloc (.cells #[.int .i64 t.1, .int .i64 t.2.1, .int .i64 t.2.2] 31)).alloc (.cells #[.int .i64 u.1, .int .i64 u.2.1, .int .i64 u.2.2] 31)) W) => side1_any lb qb v c B xb pb nb kb Wn Hn mn mk vm vc vt va vp vl mb L ms fk u W (hs.below (stay_b hb0 hb)) (hq.below (stay_b hb0 hb)) (sd h0 (stay_b hb0 hb)) (sd h1 (stay_b hb0 hb)) (sd hp (stay_b hb0 hb)) hu hku hl hm
 obtain ⟨D, hD⟩ : ∃ D, D = hdL v c L ms t u := ⟨_, rfl⟩
 obtain ⟨s1, hs1⟩ : ∃ s, s = sdT v c L ms t := ⟨_, rfl⟩
 obtain ⟨s2, hs2⟩ : ∃ s, s = sdT v c L ms u := ⟨_, rfl⟩
 have hd1 : decide (s1 = s2) = D := by rw [hD, hs1, hs2]; rfl
 have hd2 : (s1 == s2) = D := by rw [← hd1, Bool.eq_iff_iff]; simp
 rw [← hs1] at c1
 rw [← hs2] at c2
 rw [← hD]
 have C1 := Lib.hid c1
 have C2 := Lib.hid c2
 have HB0 := Lib.hid hb0
 clear c1 c2 hb0 hs hq h0 h1 hp ht hk hu hku hl hm hD hs1 hs2 kt ku
 go_enter Tryd.func31, Tryd.ntmps31
 go_wp2_with fail
 generalize (w.alloc (.cells #[.int .i64 t.1, .int .i64 t.2.1, .int .i64 t.2.2] 31)).alloc (.cells #[.int .i64 u.1, .int .i64 u.2.1, .int .i64 u.2.2] 31) = w0 at t0 t1 t2 u0 u1 u2 hf C1 C2 HB0 ⊢
 refine rg_plain (fin := ?z2) [.func (.func 29) #[] #[.pointer (some ⟨lb, 0, none⟩), .pointer (some ⟨qb, 0, none⟩)], .agg #[.int .i64 t.1, .int .i64 t.2.1, .int .i64 t.2.2], .int .i64 s1, .func (.func 29) #[] #[.pointer (some ⟨lb, 0, none⟩), .pointer (some ⟨qb, 0, none⟩)], .agg #[.int .i64 u.1, .int .i64 u.2.1, .int .i64 u.2.2], .int .i64 s2, .bool D, .bool D] (fun WN => WN.cell? ⟨fb, 0, none⟩ = some (.func (.func 29) #[] #[.pointer (some ⟨lb, 0, none⟩), .pointer (some ⟨qb, 0, none⟩)]) ∧ WN.cell? ⟨w.heap.size, 0, none⟩ = some (.int .i64 t.1) ∧ WN.cell? ⟨w.heap.size, 1, none⟩ = some (.int .i64 t.2.1) ∧ WN.cell? ⟨w.heap.size, 2, none⟩ = some (.int .i64 t.2.2) ∧ WN.cell? ⟨w.heap.size + 1, 0, none⟩ = some (.int .i64 u.1) ∧ WN.cell? ⟨w.heap.size + 1, 1, none⟩ = some (.int .i64 u.2.1) ∧ WN.cell? ⟨w.heap.size + 1, 2, none⟩ = some (.int .i64 u.2.2) ∧ Below w0.heap.size w0 WN) ?hf (by kernel_rfl) (by kernel_rfl) rfl ⟨hf, t0, t1, t2, u0, u1, u2, (Below.refl _ _).drew⟩ (fun WN hst => ?hs) (fun WN hst => ?he)
 case hf => simp only [putOps, Act.put, List.setIfInBounds_toArray, List.set_cons_succ, List.set_cons_zero]; exact rfl
 case hs =>
  have HST := Lib.hid hst
  obtain ⟨hf, t0, t1, t2, u0, u1, u2, hbl⟩ := hst
  iterate 8 refine ⟨?_, fun K hK => ?_⟩
  ·trivial
  all_goals try (go_simp; exact hK _ HST.out; done)
  ·go_simp
   refine (C2.out WN hbl).mono ?_
   rintro e' wc ⟨he, hbc⟩
   subst he
   exact hK _ ⟨sd hf hbc, sd t0 hbc, sd t1 hbc, sd t2 hbc, sd u0 hbc, sd u1 hbc, sd u2 hbc, stay_b hbl hbc⟩
  ·go_simp
   refine (C1.out WN hbl).mono ?_
   rintro e' wc ⟨he, hbc⟩
   subst he
   exact hK _ ⟨sd hf hbc, sd t0 hbc, sd t1 hbc, sd t2 hbc, sd u0 hbc, sd u1 hbc, sd u2 hbc, stay_b hbl hbc⟩
 case he =>
  obtain ⟨hf, t0, t1, t2, u0, u1, u2, hbl⟩ := hst
  have HBF := Lib.hid (stay_b HB0.out hbl)
  clear hbl
  go_wp2
  go_ret
  exact ⟨rfl, HBF.out⟩
end
end Go.Proofs.YtnndadhkedlohaaDoor
