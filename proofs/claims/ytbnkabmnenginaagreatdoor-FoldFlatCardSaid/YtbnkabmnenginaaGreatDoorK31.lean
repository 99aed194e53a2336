/- Heaping up: what holds while triangles are gathered by their places, and while each place is being sorted.. A range over a function that SeqGives: the loop is left by its end alone; what lay before it is told to lie still.. -/
import Derived.Test.YtbnkabmnenginaaGreatDoorK30
import Derived.Test.YtbnkabmnenginaaGreatDoorK13
import Derived.RangeFuncNested
import Derived.RangeFuncBound
import Derived.RangeFuncCalls
import Derived.RangeFuncLeaves
import Derived.Test.YtbnkabmnenginaaGreatDoorK25
import Derived.Test.YtbnkabmnenginaaGreatDoorK09
import Derived.Shelf.SlIterI.Keys
namespace Go.Proofs.YtbnkabmnenginaaGreatDoor
set_option linter.unusedSimpArgs false
set_option linter.unusedVariables false
section
open Go.RowKit Go.Maps Go.Sort
def grpA (ats : List T3) (i : Nat) (x : T3) : List Nat := (List.range i).filter fun j => decide (ats[j]? = some x)
theorem grpA_mem {ats : List T3} {i j : Nat} {x : T3} : j ∈ grpA ats i x ↔ j < i ∧ ats[j]? = some x := by
 unfold grpA
 simp
theorem grpA_nodup (ats : List T3) (i : Nat) (x : T3) : (grpA ats i x).Nodup := List.nodup_range.filter _
theorem grpA_len (ats : List T3) (i : Nat) (x : T3) : (grpA ats i x).length ≤ i := by
 have := List.length_filter_le (fun j => decide (ats[j]? = some x)) (List.range i)
 rw [List.length_range] at this
 exact this
theorem grpA_step {ats : List T3} {i : Nat} {a : T3} (h : ats[i]? = some a) : grpA ats (i + 1) = fun x => if x = a then grpA ats i a ++ [i] else grpA ats i x := by
 funext x
 unfold grpA
 rw [List.range_succ, List.filter_append]
 by_cases e : x = a
 ·subst e
  rw [if_pos rfl]
  simp [h]
 ·rw [if_neg e]
  have : ¬ a = x := fun h => e h.symm
  simp [h, this]
theorem blk_push3 {W0 W1 W2 W3 : World} {mb : Nat} {v v' : Value} (hg1 : W0.grownBy W1 (some mb)) (h2 : GrowOf W1 W2 v v') (hg3 : W2.grownBy W3 (some mb)) {b : Nat} {o : Obj} (hb : W0.heap[b]? = some o) (h1 : b ≠ mb) (h3 : v.ownBlock ≠ some b) : W3.heap[b]? = some o := by
 have a1 := (hg1.block b (blk_lt hb) (fun e => h1 (Option.some.inj e))).trans hb
 have a2 := (h2.grown.block b (blk_lt a1) (fun e => h3 e.symm)).trans a1
 exact (hg3.block b (blk_lt a2) (fun e => h1 (Option.some.inj e))).trans a2
structure HpA (w : World) (pb : Nat) (vm va vl : Value) (ats : List T3) (ls0 : List Nat) (xb gl mb i : Nat) (wr : World) : Prop where
 pil : PilB wr xb pb vm va vl mb
 lev : wr.heap[gl]? = some (.cells (visN ls0).toArray 3 (0, 0))
 map : ∃ (n : Nat) (f : T3 → Option Value), n ≤ i ∧ PilM wr w.heap.size mb n f (grpA ats i)
 kp : Kp2 w wr gl xb
section
variable {w wr w' W0 W1 W2 W3 : World} {pb : Nat} {vm va vl : Value} {ats : List T3} {ls0 : List Nat} {xb gl mb i : Nat}
theorem HpA.below (h : HpA w pb vm va vl ats ls0 xb gl mb i wr) (hb : Below wr.heap.size wr w') : HpA w pb vm va vl ats ls0 xb gl mb i w' := by
 obtain ⟨n, f, m1, m2⟩ := h.map
 exact ⟨h.pil.below hb, blk_below h.lev hb (blk_lt h.lev), ⟨n, f, m1, m2.below hb⟩, h.kp.below hb⟩
theorem HpA.pushed (h : HpA w pb vm va vl ats ls0 xb gl mb i W0) {n : Nat} {f : T3 → Option Value} (hn : n ≤ i) (hPM : PilM W0 w.heap.size mb n f (grpA ats i)) (hg1 : W0.grownBy W1 (some mb)) {a : T3} {v' : Value} (hgr : GrowOf W1 W2 ((f a).getD (.slice none 0 0)) v')
  (hrow : W2.ownsRow w.heap.size 3 1 v' ((grpA ats i a).length + 1) (visN (grpA ats i a ++ [i]))) (hm : MapV kPV W3 mb (n + 1) (setV f a v')) (hg3 : W2.grownBy W3 (some mb)) (ha : ats[i]? = some a)
  (hxb : xb < w.heap.size) (hgl : gl < w.heap.size) (hmb : w.heap.size ≤ mb) : HpA w pb vm va vl ats ls0 xb gl mb (i + 1) W3 := by
 have hv := hPM.val a
 have hown : ∀ b, b < w.heap.size → ((f a).getD (.slice none 0 0)).ownBlock ≠ some b := fun b hb e => by
  have := (hv.lt b e).1
  omega
 have hk0 := h.kp.size
 have hk1 := hg1.size
 refine ⟨blk_push3 hg1 hgr hg3 h.pil (by omega) (hown _ hxb), blk_push3 hg1 hgr hg3 h.lev (by omega) (hown _ hgl), ⟨n + 1, setV f a v', by omega, ?_⟩, ((h.kp.grown hg1 ?_).grown hgr.grown ?_).grown hg3 ?_⟩
 ·rw [grpA_step ha]
  refine hPM.put hg1 hrow hgr.grown ?_ hm hg3 (fun t v hv => own_notmap (hPM.row t v hv).1 hPM.map.is) (fun e => ?_)
  ·rcases hgr.at_ with h1 | ⟨g, h1, h2⟩
   ·exact .inl h1
   ·exact .inr ⟨g, h1, by omega⟩
  ·have hmm := hPM.map.is
   rcases hgr.at_ with h1 | ⟨g, h1, h2⟩
   ·rw [h1] at e
    exact own_notmap hv hmm e
   ·rw [h1] at e
    have := hPM.map.lt
    have := Option.some.inj e
    omega
 ·intro b hb; cases hb; exact .inr (.inr hmb)
 ·intro b hb
  exact .inr (.inr (hv.lt b hb).1)
 ·intro b hb; cases hb; exact .inr (.inr hmb)
end
def LevP (G : T3 → List Nat) (S : T3 → Prop) (a : T3) (h : Nat) (ls : List Nat) : Prop := (∀ (x : T3), S x → ∀ (p j : Nat), (G x)[p]? = some j → ls[j]? = some p) ∧ ∀ (p j : Nat), p < h → (G a)[p]? = some j → ls[j]? = some p
theorem LevP.step {G : T3 → List Nat} {ats : List T3} {S : T3 → Prop} {a : T3} {h j : Nat} {ls : List Nat} (hl : LevP G S a h ls) (hG : ∀ x, (G x).Perm (grpA ats ats.length x)) (ha : ¬ S a) (hj : (G a)[h]? = some j) (hn : ls.length = ats.length) : LevP G S a (h + 1) (ls.set j h) := by
 have hja := (grpA_mem.1 ((hG a).mem_iff.1 (List.mem_of_getElem? hj)))
 refine ⟨fun x hx p k hk => ?_, fun p k hp hk => ?_⟩
 ·have hkx := (grpA_mem.1 ((hG x).mem_iff.1 (List.mem_of_getElem? hk)))
  have hne : j ≠ k := fun e => by
   rw [e, hkx.2] at hja
   exact ha (Option.some.inj hja.2 ▸ hx)
  rw [List.getElem?_set_ne hne]
  exact hl.1 x hx p k hk
 ·by_cases e : p = h
  ·subst e
   rw [hj] at hk
   cases hk
   rw [List.getElem?_set_self (by omega)]
  ·have hp' : p < h := by omega
   have hnd : (G a).Nodup := (hG a).nodup_iff.2 (grpA_nodup _ _ _)
   have hne : j ≠ k := fun e2 => by
    subst e2
    obtain ⟨h1, h2⟩ := List.getElem?_eq_some_iff.1 hk
    obtain ⟨h3, h4⟩ := List.getElem?_eq_some_iff.1 hj
    exact (List.pairwise_iff_getElem.1 hnd) p h h1 h3 hp' (h2.trans h4.symm)
   rw [List.getElem?_set_ne hne]
   exact hl.2 p k (by omega) hk
structure HpB (w : World) (pb : Nat) (vm va vl : Value) (ats : List T3) (cf : Nat → Nat → Int) (xb gl mb : Nat) (f : T3 → Option Value) (ss : List T3) (a : T3) (h : Nat) (G : T3 → List Nat) (wr : World) : Prop where
 pil : PilB wr xb pb vm va vl mb
 lev : ∃ ls : List Nat, ls.length = ats.length ∧ wr.heap[gl]? = some (.cells (visN ls).toArray 3 (0, 0)) ∧ LevP G (fun x => x ∈ ss) a h ls
 perm : ∀ x, (G x).Perm (grpA ats ats.length x)
 srt : ∀ x ∈ ss, (G x).Pairwise fun i j => ltOf cf j i = false
 row : ∀ t v, f t = some v → wr.ownsRow w.heap.size 3 1 v (G t).length (visN (G t)) ∧ G t ≠ []
 kp : Kp2 w wr gl xb
section
variable {w wr w' : World} {pb : Nat} {vm va vl : Value} {ats : List T3} {cf : Nat → Nat → Int} {xb gl mb : Nat} {f : T3 → Option Value} {ss : List T3} {a : T3} {h : Nat} {G : T3 → List Nat}
theorem HpB.below (H : HpB w pb vm va vl ats cf xb gl mb f ss a h G wr) (hb : Below wr.heap.size wr w') : HpB w pb vm va vl ats cf xb gl mb f ss a h G w' := by
 obtain ⟨ls, l1, l2, l3⟩ := H.lev
 exact ⟨H.pil.below hb, ⟨ls, l1, blk_below l2 hb (blk_lt l2), l3⟩, H.perm, H.srt, fun t v hv => ⟨own_below (H.row t v hv).1 hb (Nat.le_refl _), (H.row t v hv).2⟩, H.kp.below hb⟩
theorem HpB.walk (H : HpB w pb vm va vl ats cf xb gl mb f ss a h G wr) {r : Nat} (hg : wr.grownBy w' (some r)) (hr : ∀ cs t q, wr.heap[r]? ≠ some (.cells cs t q)) (hw : w.heap.size ≤ r) : HpB w pb vm va vl ats cf xb gl mb f ss a h G w' := by
 obtain ⟨ls, l1, l2, l3⟩ := H.lev
 have hne : ∀ {b : Nat} {cs t q}, wr.heap[b]? = some (.cells cs t q) → some b ≠ some r := fun {b cs t q} hb e => by
  rw [Option.some.inj e] at hb
  exact hr _ _ _ hb
 refine ⟨(hg.block _ (blk_lt H.pil) (hne H.pil)).trans H.pil, ⟨ls, l1, (hg.block _ (blk_lt l2) (hne l2)).trans l2, l3⟩, H.perm, H.srt, fun t v hv => ⟨(H.row t v hv).1.kept hg (.inr fun e => ?_), (H.row t v hv).2⟩, H.kp.grown hg (fun b e => by cases e; exact .inr (.inr hw))⟩
 obtain ⟨cs, hc⟩ := own_cells (H.row t v hv).1 r e
 exact hne hc rfl
theorem HpB.level (H : HpB w pb vm va vl ats cf xb gl mb f ss a h G wr) (ha : a ∉ ss) {j : Nat} (hj : (G a)[h]? = some j) (hgl : gl < w.heap.size) : HpB w pb vm va vl ats cf xb gl mb f ss a (h + 1) G (wr.setCell ⟨gl, j, none⟩ (.int .i64 ((h : Nat) : Int))) := by
 obtain ⟨ls, l1, l2, l3⟩ := H.lev
 have hx : xb ≠ gl := fun e => by have h1 : wr.heap[xb]? = _ := H.pil; rw [e, l2] at h1; simp at h1
 refine ⟨blk_far H.pil hx _, ⟨ls.set j h, by simpa using l1, ?_, l3.step H.perm ha hj l1⟩, H.perm, H.srt, fun t v hv => ⟨own_set (H.row t v hv).1 (fun b hb e => ?_) _ _, (H.row t v hv).2⟩, H.kp.set _ _⟩
 ·have := blk_set l2 j (.int .i64 ((h : Nat) : Int))
  rw [visN_set] at this
  exact this
 ·have := ((H.row t v hv).1.lt b hb).1
  omega
theorem HpB.at0 (H : HpB w pb vm va vl ats cf xb gl mb f ss a 0 G wr) (b : T3) : HpB w pb vm va vl ats cf xb gl mb f ss b 0 G wr := by
 obtain ⟨ls, l1, l2, l3⟩ := H.lev
 exact ⟨H.pil, ⟨ls, l1, l2, ⟨l3.1, fun p j hp => by omega⟩⟩, H.perm, H.srt, H.row, H.kp⟩
theorem HpB.next (H : HpB w pb vm va vl ats cf xb gl mb f ss a (G a).length G wr) (hs : (G a).Pairwise fun i j => ltOf cf j i = false) (b : T3) : HpB w pb vm va vl ats cf xb gl mb f (ss ++ [a]) b 0 G wr := by
 obtain ⟨ls, l1, l2, l3⟩ := H.lev
 refine ⟨H.pil, ⟨ls, l1, l2, ⟨fun x hx p j hj => ?_, fun p j hp => by omega⟩⟩, H.perm, fun x hx => ?_, H.row, H.kp⟩
 ·rcases List.mem_append.1 hx with hx | hx
  ·exact l3.1 x hx p j hj
  ·rw [List.mem_singleton] at hx
   subst hx
   exact l3.2 p j (List.getElem?_eq_some_iff.1 hj).1 hj
 ·rcases List.mem_append.1 hx with hx | hx
  ·exact H.srt x hx
  ·rw [List.mem_singleton] at hx
   subst hx
   exact hs
theorem HpB.sorted (H : HpB w pb vm va vl ats cf xb gl mb f ss a 0 G wr) (ha : a ∉ ss) {g c : Nat} {l' : List Nat} (hv : f a = some (.slice (some ⟨g, 0, none⟩) (G a).length c)) (hfar : ∀ t v, t ≠ a → f t = some v → v.ownBlock ≠ some g) (hp : l'.Perm (G a))
  (hrow : w'.ownsRow w.heap.size 3 1 (.slice (some ⟨g, 0, none⟩) (G a).length c) (G a).length (visN l')) (hg : wr.grownBy w' (some g)) (hwg : w.heap.size ≤ g) (hxb : xb < w.heap.size) (hgl : gl < w.heap.size) : HpB w pb vm va vl ats cf xb gl mb f ss a 0 (fun x => if x = a then l' else G x) w' := by
 obtain ⟨ls, l1, l2, l3⟩ := H.lev
 have hG : ∀ x ∈ ss, (if x = a then l' else G x) = G x := fun x hx => by
  have : x ≠ a := fun e => by rw [e] at hx; exact ha hx
  rw [if_neg this]
 refine ⟨(hg.block _ (blk_lt H.pil) (fun e => by have := Option.some.inj e; omega)).trans H.pil, ⟨ls, l1, (hg.block _ (blk_lt l2) (fun e => by have := Option.some.inj e; omega)).trans l2, ⟨fun x hx p j hj => ?_, fun p j hp => by omega⟩⟩, fun x => ?_, fun x hx => ?_, fun t v ht => ?_, H.kp.grown hg (fun b e => by cases e; exact .inr (.inr hwg))⟩
 ·have hj : (if x = a then l' else G x)[p]? = some j := hj
  rw [hG x hx] at hj
  exact l3.1 x hx p j hj
 ·by_cases e : x = a
  ·subst e
   simp only [if_true]
   exact hp.trans (H.perm x)
  ·simp only [if_neg e]
   exact H.perm x
 ·have h1 := H.srt x hx
  rw [← hG x hx] at h1
  exact h1
 ·by_cases e : t = a
  ·subst e
   rw [if_pos rfl]
   rw [hv] at ht
   cases ht
   refine ⟨by rw [hp.length_eq]; exact hrow, fun e2 => ?_⟩
   have h1 := (H.row t _ hv).2
   rw [e2] at hp
   exact h1 hp.symm.eq_nil
  ·simp only [if_neg e]
   exact ⟨(H.row t v ht).1.kept hg (.inr (hfar t v e ht)), (H.row t v ht).2⟩
end
theorem grown_set (w : World) (g j : Nat) (v : Value) : w.grownBy (w.setCell ⟨g, j, none⟩ v) (some g) :=
 ⟨rfl, rfl, rfl, by simp, fun k _ h => Below.heap_setCell w ⟨g, j, none⟩ v k (fun e => h (congrArg some e))⟩
theorem ranges_iter {H : Type} {P : Program} {k : TypeId} {R : Value → Option (DataW H × List MemPlace)} {w : World} {b r n : Nat} {D : DataW H} {left : Lit → Bool} {cnt : Nat} (h : w.ranges P k R b r n D left cnt) : ∀ cs t q, w.heap[r]? ≠ some (.cells cs t q) := by
 obtain ⟨_, _, _, _, _, _, _, _, _, hr, _⟩ := h
 intro cs t q e
 rw [hr] at e
 cases e
theorem ranges_map {H : Type} {P : Program} {k : TypeId} {R : Value → Option (DataW H × List MemPlace)} {w : World} {b r n : Nat} {D : DataW H} {left : Lit → Bool} {cnt : Nat} (h : w.ranges P k R b r n D left cnt) : ∃ es c, w.heap[b]? = some (.map es c) := by
 obtain ⟨es, c, _, _, _, hb, _⟩ := h
 exact ⟨es, c, hb⟩
theorem own_num {w : World} {B n c g : Nat} {l : List Nat} (h : w.ownsRow B 3 1 (.slice (some ⟨g, 0, none⟩) n c) n (visN l)) {j z : Nat} (hz : l[j]? = some z) : w.cell? ⟨g, j, none⟩ = some (.int .i64 (z : Int)) := by
 rcases h.2 with ⟨e, _⟩ | ⟨g', c', cur, e, _, hg, _, _, _, ht⟩
 ·cases e
 ·cases e
  rw [cell_of_blk hg j]
  have hj : j < l.length := (List.getElem?_eq_some_iff.1 hz).1
  have hn := h.1
  rw [visN_len] at hn
  have h1 : (cur.toList.take (n * 1))[j]? = (visN l)[j]? := by rw [ht]
  rw [List.getElem?_take_of_lt (by omega), visN_at hj] at h1
  rw [← Array.getElem?_toList, h1, List.getD_eq_getElem?_getD, hz]
  rfl
end
section
section
open Go.RowKit
theorem one_new (w : World) (us : List Value) (e : TypeId) : ∀ (j : Nat) (u' : Value), us[j]? = some u' → (w.alloc (.cells us.toArray e)).cell? ((⟨w.heap.size, 0, none⟩ : Addr).add j) = some u' := by
 intro j u' h
 rw [addr_add, Nat.zero_add, cell_of_blk (heap_alloc_new w _) j]
 simpa using h
theorem put_cells {W : World} {g l : Nat} {o o' : Obj} {cs : Array Value} {t : TypeId} (h : W.heap[g]? = some (.cells cs t (0, 0))) (hl : W.heap[l]? = some o) (ho : o.isCells = false) : (W.putObj l o').heap[g]? = some (.cells cs t (0, 0)) := by
 refine (World.putObj_heap_other ?_).trans h
 rintro rfl
 rw [h] at hl
 rw [← Option.some.inj hl] at ho
 cases ho
theorem own_put {W : World} {base l n sz : Nat} {e : TypeId} {v : Value} {xs : List Value} {o o' : Obj} (h : W.ownsRow base e sz v n xs) (hl : W.heap[l]? = some o) (ho : o.isCells = false) : (W.putObj l o').ownsRow base e sz v n xs := by
 refine ⟨h.1, ?_⟩
 rcases h.2 with h0 | ⟨g, cap, cur, rfl, h1, h2, rest⟩
 ·exact .inl h0
 ·exact .inr ⟨g, cap, cur, rfl, h1, put_cells h2 hl ho, rest⟩
theorem below_put {B : Nat} {w W : World} {l : Nat} {o' : Obj} (h : Below B w W) (hB : B ≤ l) (hs : B ≤ W.heap.size) : Below B w (W.putObj l o') :=
 h.grown (grownBy_putObj' W l o') hs (fun k e => by cases e; exact hB)
theorem cells_walk {W W' : World} {row : Option Nat} {g : Nat} {cs : Array Value} {t : TypeId} (h : W.heap[g]? = some (.cells cs t (0, 0))) (hg : W.grownBy W' row) (hr : ∀ r, row = some r → ∃ o : Obj, W.heap[r]? = some o ∧ o.isWalk = true) : W'.heap[g]? = some (.cells cs t (0, 0)) :=
 (grownBy_keeps hg hr h rfl).trans h
theorem own_walk {W W' : World} {row : Option Nat} {base n sz : Nat} {e : TypeId} {v : Value} {xs : List Value} (h : W.ownsRow base e sz v n xs) (hg : W.grownBy W' row) (hr : ∀ r, row = some r → ∃ o : Obj, W.heap[r]? = some o ∧ o.isWalk = true) : W'.ownsRow base e sz v n xs := by
 refine ⟨h.1, ?_⟩
 rcases h.2 with h0 | ⟨g, cap, cur, rfl, h1, h2, rest⟩
 ·exact .inl h0
 ·exact .inr ⟨g, cap, cur, rfl, h1, cells_walk h2 hg hr, rest⟩
def endPost {α : Type} (I : List α → World → Prop) (xs : List α) (W : World) : Exit → Act → World → Prop
 | .normal, _, W' => KeepsOthers W W' ∧ I xs W'
 | .ret, _, _ => False
 | .exit _, _, _ => False
 | .goto _, _, _ => False
 | .panic _, _, _ => False
 | .outgrown, _, _ => False
variable {F : Fence} {n : Nat} {P : Program}
theorem rangeFunc_gives {α : Type} {g : Operand} {ps : Array Tmp} {assign body : Code} {Q : Exit → Act → World → Prop} {a : Act} {w : World}
  (hro : F.round = none) (h1 : 1 ≤ n) {gf : Nat} {lb : Array Value} (hg : a.eval g = .func (.func gf) #[] lb) (hFg : F.fn gf) (eg : ∀ args w, (callFunc gf args).run P w = .ok (.enter gf args) w)
  {enc : α → Value} {S : List α → Prop} {N : Nat} {w0 : World} (hseq : SeqGives F (n - 1) P gf lb enc S N w0)
  (hb0 : Below w0.heap.size w0 w) (hps : ps.size = 1)
  (I : List α → World → Prop) (hIa : AbidesFrom w.heap.size I) (hIp : ∀ s W l o o', w.heap.size ≤ l → I s W → W.heap[l]? = some o → o.isCells = false → I s (W.putObj l o'))
  (h0 : I [] w) (a₁ : α → World → Act) (I2 : List α → α → World → World → Prop) (hI2p : ∀ s x W0 W l o o', w.heap.size ≤ l → I2 s x W0 W → W.heap[l]? = some o → o.isCells = false → I2 s x W0 (W.putObj l o'))
  (hassign : ∀ (l : Nat) (pre : List α) (x : α) (W : World) (K : Act → World → Prop), I pre W → pre.length < N → (∀ W', KeepsOthers W W' → I2 pre x W W' → K (a₁ x W) W') →
   assign.wpIn (F.inRound l) (n - 1 - 1) P (Exit.then K (fun _ _ _ => False)) { tmps := (ps.zip #[enc x]).foldl (fun t (p, v) => t.setIfInBounds p v) a.tmps, defers := [] } W)
  (hbody : ∀ (l : Nat) (pre : List α) (x : α) (W0 W : World), pre.length < N → I2 pre x W0 W → body.wpIn (F.inRound l) (n - 1 - 1) P (endPost I (pre ++ [x]) W) (a₁ x W0) W)
  (hdone : ∀ (D : Nat) (xs : List α) (W : World), w.heap.size ≤ D → S xs → I xs W → W.heap[D]? = some (.deferred (some [])) → Q .normal { a with defers := { target := .collected D, args := #[] } :: a.defers } W) :
  (Code.rangeFunc g ps assign body).wpIn F n P Q a w := by
 refine wpIn_rangeFunc fun fn hfn => ?_
 rw [hro]
 obtain ⟨rec, hrec⟩ : ∃ rec : LoopState → Loop, rec = fun st => { state := st, pending := none, fn, tmps := a.tmps, params := ps, assign, body, defers := w.heap.size } := ⟨_, rfl⟩
 obtain ⟨W1, hW1⟩ : ∃ W1, (w.alloc (.deferred (some []))).alloc (.loop (rec .ready)) = W1 := ⟨_, rfl⟩
 have hL1 : W1.heap[w.heap.size + 1]? = some (.loop (rec .ready)) := by
  rw [← hW1]
  have := heap_alloc_new (w.alloc (.deferred (some []))) (.loop (rec .ready))
  rwa [World.size_alloc] at this
 have hK1 : W1.heap[w.heap.size]? = some (.deferred (some [])) := by
  rw [← hW1]
  exact blk_alloc (heap_alloc_new w _) _
 have hbw : Below w.heap.size w W1 := by
  rw [← hW1]
  exact (below_new w _).alloc (by simp) _
 have hsz1 : w.heap.size + 2 ≤ W1.heap.size := by
  rw [← hW1]
  simp
 have hI1 : I [] W1 := by
  rw [← hW1]
  exact hIa _ _ _ none (hIa _ _ _ none h0 (World.grownBy_alloc w _ none) (fun r e => by cases e)) (World.grownBy_alloc _ _ none) (fun r e => by cases e)
 refine ⟨w.heap.size + 1, [{ target := .collected w.heap.size, args := #[] }], W1, { target := .fn (.func gf) lb, args := #[.func (.yield (w.heap.size + 1)) #[] #[]] }, W1, gf,
  #[.func (.yield (w.heap.size + 1)) #[] #[]] ++ lb, W1, ?_, ?_, ?_, ?_, fun _ => h1, ?_⟩
 ·rw [← hW1, hrec]
  exact run_enterLoop_outer _ _ _ _ _
 ·simp only [resolve, hg]
  simp [go_sem]
 ·intro f' hf'
  simp [Target.leads] at hf'
  subst hf'
  exact hFg
 ·simp [invoke, go_sem, eg]
 ·refine (hseq (w.heap.size + 1) (fun pre W => I pre W ∧ W.heap[w.heap.size + 1]? = some (.loop (rec .ready)) ∧ W.heap[w.heap.size]? = some (.deferred (some []))) W1
   (hb0.trans (hbw.mono hb0.size)) (fun s A B row hs hg hr => ⟨hIa _ _ _ row hs.1 hg (fun r e => ⟨by have := (hr r e).1; omega, (hr r e).2⟩),
    (hg.block _ (blk_lt hs.2.1) (fun e => by have := (hr _ e.symm).1; omega)).trans hs.2.1, (hg.block _ (blk_lt hs.2.2) (fun e => by have := (hr _ e.symm).1; omega)).trans hs.2.2⟩) ?_ ⟨hI1, hL1, hK1⟩).mono ?_
  ·rintro pre x W ⟨hi, hl, hk⟩ hN
   have hlt := blk_lt hl
   have hy := run_yield (P := P) (args := #[enc x]) hl (by rw [hrec]; simp [hps])
   rw [hrec] at hy
   refine ⟨fn, _, assign, body, hy, roundIn_of_wpIn hfn (hassign _ pre x W _ hi hN (fun W' hk0 hi2 => ?_))⟩
   clear hy
   have hw0 := hk0.walks
   replace hl := hk0.same _ _ hl rfl
   replace hk := hk0.same _ _ hk rfl
   replace hlt := blk_lt hl
   generalize hWW : W = WW at hw0 hi2 hi hk0
   clear hWW hi hk0
   obtain ⟨W, hW'⟩ : ∃ W, W = W' := ⟨_, rfl⟩
   subst hW'
   refine ⟨_, run_beginRound hl (by rw [hrec]), ?_⟩
   have hl2 : (W.putObj (w.heap.size + 1) (.loop { rec .ready with state := .busy })).heap[w.heap.size + 1]? = some (.loop { rec .ready with state := .busy }) := World.putObj_heap_same hlt
   have hk2 : (W.putObj (w.heap.size + 1) (.loop { rec .ready with state := .busy })).heap[w.heap.size]? = some (.deferred (some [])) := (World.putObj_heap_other (by omega)).trans hk
   have hw2 : KeepsWalks W (W.putObj (w.heap.size + 1) (.loop { rec .ready with state := .busy })) := KeepsWalks.putObj _ hl rfl
   refine wpIn_mono (hbody _ pre x WW _ hN (hI2p _ _ _ _ _ _ _ (by omega) hi2 hl rfl)) ?_
   rintro e a3 W3 hp
   cases e with
   | normal =>
    obtain ⟨hk3, hi3⟩ := hp
    have hl3 := hk3.same _ _ hl2 rfl
    have hr := run_endRound (P := P) none hl3
    rw [hrec] at hr hl3
    refine ⟨_, _, hr, rfl, ⟨hIp _ _ _ _ _ (by omega) hi3 hl3 rfl, ?_, (World.putObj_heap_other (by omega)).trans (hk3.same _ _ hk2 rfl)⟩, (hw0.trans (hw2.trans hk3.walks)).trans (KeepsWalks.putObj _ hl3 rfl)⟩
    rw [World.putObj_heap_same (blk_lt hl3), hrec]
    rfl
   | ret => exact hp.elim
   | exit id => exact hp.elim
   | goto t => exact hp.elim
   | panic ch => exact hp.elim
   | outgrown => exact hp.elim
  ·rintro e W2 ⟨⟨v, rfl⟩, xs, hS, hi, hl, hk⟩
   have hr := run_endLoop (P := P) hl (by rw [hrec]; simp)
   rw [hrec] at hr
   exact ⟨none, _, hr, hdone _ xs _ (Nat.le_refl _) hS (hIp _ _ _ _ _ (by omega) hi hl rfl) ((World.putObj_heap_other (by omega)).trans hk)⟩
end
section
open Go.RowKit Go.Maps Go.Sort Go.Shelf
attribute [local go_sem] Oper.semAt_some
structure KeyL {α : Type} (k : KD α) (S : α → Prop) (ss : List α) : Prop where
 nodup : ss.Nodup
 mem : ∀ a, a ∈ ss ↔ k.ok a ∧ S a
theorem own_newne {w : World} {base sz n : Nat} {e : TypeId} {v : Value} {xs : List Value} (h : w.ownsRow base e sz v n xs) : v.ownBlock ≠ some w.heap.size := fun e => by
 have := (h.lt _ e).2
 omega
end
end
end Go.Proofs.YtbnkabmnenginaaGreatDoor
