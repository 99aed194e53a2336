/- What holds while stacks are being laid (lies).. A row of the pile's map grows; a stack is done; all stacks are done.. -/
import Derived.Test.YtpkjekedgodccaaGreatDoorK24
namespace Go.Proofs.YtpkjekedgodccaaGreatDoor
set_option linter.unusedSimpArgs false
set_option linter.unusedVariables false
section
open Go.RowKit Go.Maps
structure Kp2 (w w' : World) (gl mb : Nat) : Prop where
 os : w'.os = w.os
 tape : w'.tape = w.tape
 output : w'.output = w.output
 size : w.heap.size ≤ w'.heap.size
 blk : ∀ k, k < w.heap.size → k ≠ gl → k ≠ mb → w'.heap[k]? = w.heap[k]?
section
variable {w w1 w2 : World} {gl mb : Nat}
theorem Kp2.refl (w : World) (gl mb : Nat) : Kp2 w w gl mb := ⟨rfl, rfl, rfl, Nat.le_refl _, fun _ _ _ _ => rfl⟩
theorem Kp2.below (h : Kp2 w w1 gl mb) (hb : Below w1.heap.size w1 w2) : Kp2 w w2 gl mb :=
 ⟨hb.os.trans h.os, hb.tape.trans h.tape, hb.output.trans h.output, Nat.le_trans h.size hb.size, fun k hk h1 h2 => (hb.block k (Nat.lt_of_lt_of_le hk h.size)).trans (h.blk k hk h1 h2)⟩
theorem Kp2.grown (h : Kp2 w w1 gl mb) {r : Option Nat} (hg : w1.grownBy w2 r) (hr : ∀ b, r = some b → b = gl ∨ b = mb ∨ w.heap.size ≤ b) : Kp2 w w2 gl mb :=
 ⟨hg.os.trans h.os, hg.tape.trans h.tape, hg.output.trans h.output, Nat.le_trans h.size hg.size, fun k hk h1 h2 => (hg.block k (Nat.lt_of_lt_of_le hk h.size) (fun e => by
  rcases hr k e.symm with h3 | h3 | h3
  ·exact h1 h3
  ·exact h2 h3
  ·omega)).trans (h.blk k hk h1 h2)⟩
theorem Kp2.set (h : Kp2 w w1 gl mb) (i : Nat) (v : Value) : Kp2 w (w1.setCell ⟨gl, i, none⟩ v) gl mb :=
 ⟨h.os, h.tape, h.output, by simpa using h.size, fun k hk h1 h2 => (Below.heap_setCell w1 ⟨gl, i, none⟩ v k h1).trans (h.blk k hk h1 h2)⟩
theorem Kp2.out (h : Kp2 w w1 gl mb) {B : Nat} (hg : B ≤ gl) (hm : B ≤ mb) (hB : B ≤ w.heap.size) : Below B w w1 :=
 ⟨h.os, h.tape, h.output, h.size, fun k hk => h.blk k (by omega) (by omega) (by omega)⟩
theorem Kp2.cell (h : Kp2 w w1 gl mb) {b o : Nat} {v : Value} (hc : w.cell? ⟨b, o, none⟩ = some v) (h1 : b ≠ gl) (h2 : b ≠ mb) : w1.cell? ⟨b, o, none⟩ = some v := by
 have hb := World.block_lt_of_cell? w _ hc
 rw [← hc]
 exact World.cell?_of_block (h.blk b hb h1 h2)
theorem Kp2.ob (h : Kp2 w w1 gl mb) {b : Nat} {o : Obj} (hc : w.heap[b]? = some o) (h1 : b ≠ gl) (h2 : b ≠ mb) : w1.heap[b]? = some o := (h.blk b (blk_lt hc) h1 h2).trans hc
end
def grpL (L : List T3) (sts : List Stk) (i q : Nat) (x : T3) : List Nat :=
 if (sts.take i).any (fun s => decide (s.1 = x)) = true then (((sts.take i).find? fun s => decide (s.1 = x)).map fun s => s.2.map L.idxOf).getD []
 else match sts[i]? with
  | some s => if s.1 = x then (s.2.take q).map L.idxOf else []
  | none => []
def levP (L : List T3) (sts : List Stk) (i q : Nat) (ls : List Nat) : Prop := ∀ (j : Nat) (s : Stk) (p : Nat) (t : T3), (j < i ∨ j = i ∧ p < q) → sts[j]? = some s → s.2[p]? = some t → ls[L.idxOf t]? = some p
noncomputable def snF (L : List T3) (sts : List Stk) (i q : Nat) (z : Int) : Option Int := open Classical in if ∃ t ∈ earl sts i q, ((L.idxOf t : Nat) : Int) = z then some 1 else none
structure LiX (w : World) (pb : Nat) (vm va : Value) (L : List T3) (sts : List Stk) (xb gl mb i ql qm : Nat) (wr : World) : Prop where
 pil : PilB wr xb pb vm va (.slice (some ⟨gl, 0, none⟩) L.length L.length) mb
 lev : ∃ ls : List Nat, ls.length = L.length ∧ wr.heap[gl]? = some (.cells (visN ls).toArray 3 (0, 0)) ∧ levP L sts i ql ls
 map : ∃ (n : Nat) (f : T3 → Option Value), n ≤ (earl sts i qm).length ∧ PilM wr w.heap.size mb n f (grpL L sts i qm)
 kp : Kp2 w wr gl mb
structure LiS (w : World) (pb : Nat) (vm va : Value) (L : List T3) (ms : List V6) (sts : List Stk) (xb gl mb sb i q : Nat) (wr : World) : Prop where
 inv : LieI L ms sts i q
 nd : (earl sts i q).Nodup
 x : LiX w pb vm va L sts xb gl mb i q q wr
 seen : ∃ n : Nat, n ≤ (earl sts i q).length ∧ MapI kNI wr sb n (snF L sts i q)
section
variable {w wr w' : World} {pb : Nat} {vm va : Value} {L : List T3} {ms : List V6} {sts : List Stk} {xb gl mb sb i q ql qm : Nat}
theorem LiX.below (h : LiX w pb vm va L sts xb gl mb i ql qm wr) (hb : Below wr.heap.size wr w') : LiX w pb vm va L sts xb gl mb i ql qm w' := by
 obtain ⟨ls, l1, l2, l3⟩ := h.lev
 obtain ⟨n, f, m1, m2⟩ := h.map
 exact ⟨h.pil.below hb, ⟨ls, l1, blk_below l2 hb (blk_lt l2), l3⟩, ⟨n, f, m1, m2.below hb⟩, h.kp.below hb⟩
theorem LiX.other (h : LiX w pb vm va L sts xb gl mb i ql qm wr) (hg : wr.grownBy w' (some sb)) (hsb : ∃ es c, wr.heap[sb]? = some (.map es c)) (hw : w.heap.size ≤ sb) (hmb : mb < w.heap.size) : LiX w pb vm va L sts xb gl mb i ql qm w' := by
 obtain ⟨ls, l1, l2, l3⟩ := h.lev
 obtain ⟨n, f, m1, m2⟩ := h.map
 refine ⟨(hg.block _ (blk_lt h.pil) (cells_notmap h.pil hsb)).trans h.pil, ⟨ls, l1, (hg.block _ (blk_lt l2) (cells_notmap l2 hsb)).trans l2, l3⟩, ⟨n, f, m1, m2.other hg (by omega) fun t v hv => own_notmap (m2.row t v hv).1 hsb⟩, h.kp.grown hg (fun b e => by cases e; exact .inr (.inr hw))⟩
theorem LiX.level (h : LiX w pb vm va L sts xb gl mb i ql qm wr) (hgm : gl ≠ mb) {k r : Nat} (hk : k < L.length) {q' : Nat} (hp : ∀ ls : List Nat, ls.length = L.length → levP L sts i ql ls → levP L sts i q' (ls.set k r)) (hwl : gl < w.heap.size) : LiX w pb vm va L sts xb gl mb i q' qm (wr.setCell ⟨gl, k, none⟩ (.int .i64 ((r : Nat) : Int))) := by
 obtain ⟨ls, l1, l2, l3⟩ := h.lev
 obtain ⟨n, f, m1, m2⟩ := h.map
 have hx : xb ≠ gl := fun e => by have h1 : wr.heap[xb]? = _ := h.pil; rw [e, l2] at h1; simp at h1
 refine ⟨blk_far h.pil hx _, ⟨ls.set k r, by simpa using l1, ?_, hp ls l1 l3⟩, ⟨n, f, m1, ⟨m2.map.heap (Below.heap_setCell _ _ _ _ (fun e => hgm e.symm)), m2.no, fun t v hv => ⟨own_set (m2.row t v hv).1 (fun b hb e => ?_) _ _, (m2.row t v hv).2⟩, m2.far⟩⟩, h.kp.set _ _⟩
 ·have := blk_set l2 k (.int .i64 ((r : Nat) : Int))
  rw [visN_set] at this
  exact this
 ·have := ((m2.row t v hv).1.lt b hb).1
  omega
theorem LiS.below (h : LiS w pb vm va L ms sts xb gl mb sb i q wr) (hb : Below wr.heap.size wr w') : LiS w pb vm va L ms sts xb gl mb sb i q w' := by
 obtain ⟨n2, s1, s2⟩ := h.seen
 exact ⟨h.inv, h.nd, h.x.below hb, ⟨n2, s1, s2.stay hb⟩⟩
theorem LiS.len (h : LiS w pb vm va L ms sts xb gl mb sb i q wr) : (earl sts i q).length ≤ L.length := h.inv.many_le h.nd
end
theorem grpL_next {L : List T3} {ms : List V6} {sts : List Stk} {i : Nat} {s : Stk} (hs : sts[i]? = some s) (hlt : ∀ (j : Nat) (a : Stk), j < i → sts[j]? = some a → a.1 ≠ s.1) : grpL L sts i s.2.length = grpL L sts (i + 1) 0 := by
 funext x
 unfold grpL
 rw [List.take_add_one, hs, List.any_append, List.find?_append]
 simp only [Option.toList_some, List.any_cons, List.any_nil, Bool.or_false]
 by_cases h1 : (sts.take i).any (fun s => decide (s.1 = x)) = true
 ·rw [if_pos h1, if_pos (by rw [h1]; rfl)]
  cases hf : (sts.take i).find? fun s => decide (s.1 = x) with
  | some a => rfl
  | none =>
   rw [List.find?_eq_none] at hf
   obtain ⟨a, ha, hax⟩ := List.any_eq_true.1 h1
   exact absurd hax (hf a ha)
 ·have h1' : (sts.take i).any (fun s => decide (s.1 = x)) = false := by rw [← Bool.not_eq_true]; exact h1
  rw [if_neg h1, h1', Bool.false_or]
  by_cases h2 : s.1 = x
  ·rw [if_pos h2, if_pos (decide_eq_true h2)]
   have hf : (sts.take i).find? (fun s => decide (s.1 = x)) = none := by
    rw [List.find?_eq_none]
    intro a ha hax
    exact h1 (List.any_eq_true.2 ⟨a, ha, hax⟩)
   rw [hf]
   simp [h2]
  ·rw [if_neg h2, if_neg (by simpa using h2)]
   cases hn : sts[i + 1]? with
   | none => rfl
   | some b => simp
theorem grpL_step {L : List T3} {sts : List Stk} {i q : Nat} {s : Stk} {t : T3} (hs : sts[i]? = some s) (ht : s.2[q]? = some t) (hlt : ∀ (j : Nat) (a : Stk), j < i → sts[j]? = some a → a.1 ≠ s.1) : grpL L sts i (q + 1) = fun x => if x = s.1 then grpL L sts i q s.1 ++ [L.idxOf t] else grpL L sts i q x := by
 have hno : (sts.take i).any (fun a => decide (a.1 = s.1)) = false := by
  rw [← Bool.not_eq_true]
  intro h
  obtain ⟨a, ha, hax⟩ := List.any_eq_true.1 h
  obtain ⟨j, hj⟩ := List.getElem?_of_mem ha
  rw [List.getElem?_take] at hj
  split at hj
  ·exact hlt j a (by assumption) hj (of_decide_eq_true hax)
  ·cases hj
 funext x
 unfold grpL
 rw [hs]
 by_cases e : x = s.1
 ·subst e
  rw [hno]
  simp only [Bool.false_eq_true, if_false, if_true]
  rw [List.take_add_one, ht, List.map_append]
  rfl
 ·have : ¬ s.1 = x := fun h => e h.symm
  simp only [if_neg e, if_neg this]
theorem snF_step {L : List T3} {sts : List Stk} {i q : Nat} {s : Stk} {t : T3} (hs : sts[i]? = some s) (ht : s.2[q]? = some t) : setF (snF L sts i q) ((L.idxOf t : Nat) : Int) 1 = snF L sts i (q + 1) := by
 funext z
 unfold setF snF
 rw [earl_step hs ht]
 by_cases e : z = ((L.idxOf t : Nat) : Int)
 ·rw [if_pos e, if_pos ⟨t, by simp, e.symm⟩]
 ·rw [if_neg e]
  by_cases h : ∃ u ∈ earl sts i q, ((L.idxOf u : Nat) : Int) = z
  ·obtain ⟨u, hu, hz⟩ := h
   rw [if_pos ⟨u, hu, hz⟩, if_pos ⟨u, List.mem_append_left _ hu, hz⟩]
  ·rw [if_neg h, if_neg]
   rintro ⟨u, hu, hz⟩
   rcases List.mem_append.1 hu with hu | hu
   ·exact h ⟨u, hu, hz⟩
   ·rw [List.mem_singleton] at hu
    subst hu
    exact e hz.symm
theorem snF_at {L : List T3} {sts : List Stk} {i q : Nat} {t : T3} (hL : ∀ u ∈ earl sts i q, u ∈ L) (ht : t ∈ L) : (snF L sts i q ((L.idxOf t : Nat) : Int)).getD 0 = if t ∈ earl sts i q then 1 else 0 := by
 unfold snF
 by_cases h : t ∈ earl sts i q
 ·rw [if_pos ⟨t, h, rfl⟩, if_pos h]
  rfl
 ·rw [if_neg h, if_neg]
  ·rfl
  ·rintro ⟨u, hu, hz⟩
   have h1 : L.idxOf u = L.idxOf t := by exact_mod_cast hz
   have h2 : L[L.idxOf u]? = some u := by rw [List.getElem?_eq_getElem (List.idxOf_lt_length_of_mem (hL u hu))]; exact congrArg some (List.getElem_idxOf _)
   have h3 : L[L.idxOf t]? = some t := by rw [List.getElem?_eq_getElem (List.idxOf_lt_length_of_mem ht)]; exact congrArg some (List.getElem_idxOf _)
   rw [h1, h3] at h2
   exact h (Option.some.inj h2 ▸ hu)
theorem idx_inj {L : List T3} {a b : T3} (ha : a ∈ L) (hb : b ∈ L) (h : L.idxOf a = L.idxOf b) : a = b := by
 have h2 : L[L.idxOf a]? = some a := by rw [List.getElem?_eq_getElem (List.idxOf_lt_length_of_mem ha)]; exact congrArg some (List.getElem_idxOf _)
 have h3 : L[L.idxOf b]? = some b := by rw [List.getElem?_eq_getElem (List.idxOf_lt_length_of_mem hb)]; exact congrArg some (List.getElem_idxOf _)
 rw [h, h3] at h2
 exact (Option.some.inj h2).symm
theorem LieI.mem {L : List T3} {ms : List V6} {sts : List Stk} {i q : Nat} (h : LieI L ms sts i q) {t : T3} (ht : t ∈ earl sts i q) : t ∈ L := by
 rcases mem_earl ht with ⟨j, a, hj, ha, hta⟩ | ⟨s, hs, hts⟩
 ·obtain ⟨p, hp⟩ := List.getElem?_of_mem hta
  exact (h.tri j a p t (.inl hj) ha hp).1
 ·obtain ⟨p, hp⟩ := List.getElem?_of_mem hts
  rw [List.getElem?_take] at hp
  split at hp
  ·exact (h.tri i s p t (.inr ⟨rfl, by assumption⟩) hs hp).1
  ·cases hp
theorem earl_mem {sts : List Stk} {i q j p : Nat} {s : Stk} {t : T3} (h : j < i ∨ j = i ∧ p < q) (hs : sts[j]? = some s) (ht : s.2[p]? = some t) : t ∈ earl sts i q := by
 unfold earl
 rcases h with h | ⟨rfl, h⟩
 ·refine List.mem_append_left _ (List.mem_flatMap.2 ⟨s, ?_, List.mem_of_getElem? ht⟩)
  exact List.mem_of_getElem? (i := j) (by rw [List.getElem?_take, if_pos h]; exact hs)
 ·refine List.mem_append_right _ ?_
  rw [hs]
  exact List.mem_of_getElem? (i := p) (by simp only [Option.map_some, Option.getD_some]; rw [List.getElem?_take, if_pos h]; exact ht)
theorem levP_step {L : List T3} {ms : List V6} {sts : List Stk} {i q : Nat} {s : Stk} {t : T3} (hs : sts[i]? = some s) (ht : s.2[q]? = some t) (hi : LieI L ms sts i q) (htL : t ∈ L) (hn : t ∉ earl sts i q) (ls : List Nat) (hl : ls.length = L.length) (h : levP L sts i q ls) : levP L sts i (q + 1) (ls.set (L.idxOf t) q) := by
 intro j a p u hj ha hu
 by_cases e : j = i ∧ p = q
 ·obtain ⟨rfl, rfl⟩ := e
  rw [hs] at ha
  cases ha
  rw [ht] at hu
  cases hu
  have := List.idxOf_lt_length_of_mem htL
  simp [hl, this]
 ·have hj' : j < i ∨ j = i ∧ p < q := by omega
  have hm := earl_mem hj' ha hu
  have hne : L.idxOf t ≠ L.idxOf u := fun e2 => hn (by rw [idx_inj htL (hi.mem hm) e2]; exact hm)
  rw [List.getElem?_set_ne hne]
  exact h j a p u hj' ha hu
theorem grpL_here {L : List T3} {sts : List Stk} {i q : Nat} {s : Stk} (hs : sts[i]? = some s) (hq : q ≤ s.2.length) (hlt : ∀ (j : Nat) (a : Stk), j < i → sts[j]? = some a → a.1 ≠ s.1) : (grpL L sts i q s.1).length = q := by
 have hno : ¬ (sts.take i).any (fun a => decide (a.1 = s.1)) = true := by
  intro h
  obtain ⟨a, ha, hax⟩ := List.any_eq_true.1 h
  obtain ⟨j, hj⟩ := List.getElem?_of_mem ha
  rw [List.getElem?_take] at hj
  split at hj
  ·exact hlt j a (by assumption) hj (of_decide_eq_true hax)
  ·cases hj
 unfold grpL
 rw [if_neg hno, hs]
 simp
 omega
def scs : List Stk → List Value → List Value
 | s :: ss, v :: vs => .int .i64 s.1.1 :: .int .i64 s.1.2.1 :: .int .i64 s.1.2.2 :: v :: scs ss vs
 | _, _ => []
theorem scs_at : ∀ {ss : List Stk} {vs : List Value} {i : Nat} {s : Stk} {v : Value}, ss[i]? = some s → vs[i]? = some v → (scs ss vs)[i * 4]? = some (.int .i64 s.1.1) ∧ (scs ss vs)[i * 4 + 1]? = some (.int .i64 s.1.2.1) ∧ (scs ss vs)[i * 4 + 2]? = some (.int .i64 s.1.2.2) ∧ (scs ss vs)[i * 4 + 3]? = some v
 | [], _, i, s, v, h, _ => by simp at h
 | _ :: _, [], i, s, v, _, h => by simp at h
 | a :: ss, u :: vs, 0, s, v, h1, h2 => by
  simp at h1 h2
  subst h1 h2
  exact ⟨rfl, rfl, rfl, rfl⟩
 | a :: ss, u :: vs, i + 1, s, v, h1, h2 => by
  have := scs_at (ss := ss) (vs := vs) (i := i) (by simpa using h1) (by simpa using h2)
  rw [show (i + 1) * 4 = i * 4 + 1 + 1 + 1 + 1 by omega]
  simpa [scs] using this
structure StkR (w : World) (A : Option Addr) (n : Nat) (sts : List Stk) : Prop where
 len : n = sts.length
 ex : ∃ vs : List Value, Rd w 4 A n (scs sts vs) ∧ ∀ (i : Nat) (s : Stk), sts[i]? = some s → ∃ A' c', vs[i]? = some (.slice A' s.2.length c') ∧ Rd w 3 A' s.2.length (tcT s.2) ∧ s.2.length ≤ 140737488351232 ∧ s.2.length ≤ c' ∧ (A' = none → c' = 0)
 ok : ∀ s ∈ sts, (inR s.1.1 ∧ inR s.1.2.1 ∧ inR s.1.2.2) ∧ ∀ t ∈ s.2, inR t.1 ∧ inR t.2.1 ∧ inR t.2.2
 sz : n ≤ 140737488351232
theorem StkR.below {w w' : World} {A : Option Addr} {n : Nat} {sts : List Stk} (h : StkR w A n sts) (hb : Below w.heap.size w w') : StkR w' A n sts := by
 obtain ⟨vs, h1, h2⟩ := h.ex
 exact ⟨h.len, ⟨vs, h1.below hb, fun i s hs => by obtain ⟨A', c', h3, h4, h5⟩ := h2 i s hs; exact ⟨A', c', h3, h4.below hb, h5⟩⟩, h.ok, h.sz⟩
theorem StkR.at_ {w : World} {A : Option Addr} {n : Nat} {sts : List Stk} (h : StkR w A n sts) {i : Nat} {s : Stk} (hs : sts[i]? = some s) : ∃ b off A' c', A = some ⟨b, off, none⟩ ∧ Rd w 3 A' s.2.length (tcT s.2) ∧
  w.cell? ⟨b, off + i * 4, none⟩ = some (.int .i64 s.1.1) ∧ w.cell? ⟨b, off + i * 4 + 1, none⟩ = some (.int .i64 s.1.2.1) ∧ w.cell? ⟨b, off + i * 4 + 2, none⟩ = some (.int .i64 s.1.2.2) ∧ w.cell? ⟨b, off + i * 4 + 3, none⟩ = some (.slice A' s.2.length c') := by
 obtain ⟨vs, h1, h2⟩ := h.ex
 obtain ⟨A', c', h3, h4, _⟩ := h2 i s hs
 have hi := (List.getElem?_eq_some_iff.1 hs).1
 obtain ⟨b, off, e, _, hc⟩ := h1.2 (by rw [h.len]; omega)
 obtain ⟨e0, e1, e2, e3⟩ := scs_at hs h3
 refine ⟨b, off, A', c', e, h4, hc _ _ e0, ?_, ?_, ?_⟩ <;> (rw [Nat.add_assoc]; exact hc _ _ (by assumption))
theorem StkR.at3 {w : World} {A : Option Addr} {n : Nat} {sts : List Stk} (h : StkR w A n sts) {i : Nat} {s : Stk} (hs : sts[i]? = some s) : ∃ b off A' c', A = some ⟨b, off, none⟩ ∧ b < w.heap.size ∧ Rd w 3 A' s.2.length (tcT s.2) ∧ (s.2.length ≤ 140737488351232 ∧ s.2.length ≤ c' ∧ (A' = none → c' = 0)) ∧
  w.cell? ⟨b, off + i * 4, none⟩ = some (.int .i64 s.1.1) ∧ w.cell? ⟨b, off + i * 4 + 1, none⟩ = some (.int .i64 s.1.2.1) ∧ w.cell? ⟨b, off + i * 4 + 2, none⟩ = some (.int .i64 s.1.2.2) ∧ w.cell? ⟨b, off + i * 4 + 3, none⟩ = some (.slice A' s.2.length c') := by
 obtain ⟨vs, h1, h2⟩ := h.ex
 obtain ⟨A', c', h3, h4, h5⟩ := h2 i s hs
 have hi := (List.getElem?_eq_some_iff.1 hs).1
 obtain ⟨b, off, e, hb, hc⟩ := h1.2 (by rw [h.len]; omega)
 obtain ⟨e0, e1, e2, e3⟩ := scs_at hs h3
 refine ⟨b, off, A', c', e, hb, h4, h5, hc _ _ e0, ?_, ?_, ?_⟩ <;> (rw [Nat.add_assoc]; exact hc _ _ (by assumption))
theorem StkR.at2 {w : World} {A : Option Addr} {n : Nat} {sts : List Stk} (h : StkR w A n sts) {i : Nat} {s : Stk} (hs : sts[i]? = some s) : ∃ b off A' c', A = some ⟨b, off, none⟩ ∧ Rd w 3 A' s.2.length (tcT s.2) ∧ (s.2.length ≤ 140737488351232 ∧ s.2.length ≤ c') ∧
  w.cell? ⟨b, off + i * 4, none⟩ = some (.int .i64 s.1.1) ∧ w.cell? ⟨b, off + i * 4 + 1, none⟩ = some (.int .i64 s.1.2.1) ∧ w.cell? ⟨b, off + i * 4 + 2, none⟩ = some (.int .i64 s.1.2.2) ∧ w.cell? ⟨b, off + i * 4 + 3, none⟩ = some (.slice A' s.2.length c') := by
 obtain ⟨vs, h1, h2⟩ := h.ex
 obtain ⟨A', c', h3, h4, h50, h51, _⟩ := h2 i s hs
 have h5 := And.intro h50 h51
 have hi := (List.getElem?_eq_some_iff.1 hs).1
 obtain ⟨b, off, e, _, hc⟩ := h1.2 (by rw [h.len]; omega)
 obtain ⟨e0, e1, e2, e3⟩ := scs_at hs h3
 refine ⟨b, off, A', c', e, h4, h5, hc _ _ e0, ?_, ?_, ?_⟩ <;> (rw [Nat.add_assoc]; exact hc _ _ (by assumption))
theorem Rd.tr {w : World} {A : Option Addr} {n : Nat} {l : List T3} (h : Rd w 3 A n (tcT l)) {i : Nat} {t : T3} (ht : l[i]? = some t) (hn : n = l.length) : ∃ b off, A = some ⟨b, off, none⟩ ∧ w.cell? ⟨b, off + i * 3, none⟩ = some (.int .i64 t.1) ∧ w.cell? ⟨b, off + i * 3 + 1, none⟩ = some (.int .i64 t.2.1) ∧ w.cell? ⟨b, off + i * 3 + 2, none⟩ = some (.int .i64 t.2.2) := by
 have hi := (List.getElem?_eq_some_iff.1 ht).1
 obtain ⟨b, off, e, _, hc⟩ := h.2 (by omega)
 have h0 := hc _ _ (tcT_at l i 0 t ht (by decide))
 have h1 := hc _ _ (tcT_at l i 1 t ht (by decide))
 have h2 := hc _ _ (tcT_at l i 2 t ht (by decide))
 rw [show off + (3 * i + 0) = off + i * 3 by omega] at h0
 rw [show off + (3 * i + 1) = off + i * 3 + 1 by omega] at h1
 rw [show off + (3 * i + 2) = off + i * 3 + 2 by omega] at h2
 exact ⟨b, off, e, h0, h1, h2⟩
end
section
open Go.RowKit Go.Maps
section
variable {w W0 W1 W2 W3 : World} {pb : Nat} {vm va : Value} {L : List T3} {ms : List V6} {sts : List Stk} {xb gl mb sb i q ql qm : Nat}
theorem blk_push {v v' : Value} (hg1 : W0.grownBy W1 (some mb)) (h2 : GrowOf W1 W2 v v') (hg3 : W2.grownBy W3 (some mb)) {b : Nat} {o : Obj} (hb : W0.heap[b]? = some o) (h1 : b ≠ mb) (h3 : v.ownBlock ≠ some b) : W3.heap[b]? = some o := by
 have a1 := (hg1.block b (blk_lt hb) (fun e => h1 (Option.some.inj e))).trans hb
 have a2 := (h2.grown.block b (blk_lt a1) (fun e => h3 e.symm)).trans a1
 exact (hg3.block b (blk_lt a2) (fun e => h1 (Option.some.inj e))).trans a2
theorem LiX.pushed (h : LiX w pb vm va L sts xb gl mb i ql qm W0) {n : Nat} {f : T3 → Option Value} (hn : n ≤ (earl sts i qm).length) (hPM : PilM W0 w.heap.size mb n f (grpL L sts i qm)) (hg1 : W0.grownBy W1 (some mb)) {s : Stk} {t : T3} {v' : Value} (hgr : GrowOf W1 W2 ((f s.1).getD (.slice none 0 0)) v')
  (hrow : W2.ownsRow w.heap.size 3 1 v' ((grpL L sts i qm s.1).length + 1) (visN (grpL L sts i qm s.1 ++ [L.idxOf t]))) (hm : MapV kPV W3 mb (n + 1) (setV f s.1 v')) (hg3 : W2.grownBy W3 (some mb)) (hs : sts[i]? = some s) (ht : s.2[qm]? = some t)
  (hlt : ∀ (j : Nat) (a : Stk), j < i → sts[j]? = some a → a.1 ≠ s.1) (hxb : xb < w.heap.size) (hgl : gl < w.heap.size) (hmb : mb < w.heap.size) (hgm : gl ≠ mb) (hxm : xb ≠ mb) : LiX w pb vm va L sts xb gl mb i ql (qm + 1) W3 := by
 have hv := hPM.val s.1
 have hown : ∀ b, b < w.heap.size → ((f s.1).getD (.slice none 0 0)).ownBlock ≠ some b := fun b hb e => by
  have := (hv.lt b e).1
  omega
 have hk0 := h.kp.size
 have hk1 := hg1.size
 obtain ⟨ls, l1, l2, l3⟩ := h.lev
 refine ⟨blk_push hg1 hgr hg3 h.pil hxm (hown _ hxb), ⟨ls, l1, blk_push hg1 hgr hg3 l2 hgm (hown _ hgl), l3⟩, ⟨n + 1, setV f s.1 v', by rw [earl_step hs ht]; simp; omega, ?_⟩, ((h.kp.grown hg1 ?_).grown hgr.grown ?_).grown hg3 ?_⟩
 ·rw [grpL_step hs ht hlt]
  refine hPM.put hg1 hrow hgr.grown ?_ hm hg3 (fun t v hv => own_notmap (hPM.row t v hv).1 hPM.map.is) (fun e => ?_)
  ·rcases hgr.at_ with h1 | ⟨g, h1, h2⟩
   ·exact .inl h1
   ·exact .inr ⟨g, h1, by omega⟩
  ·have := (hrow.lt mb e).1
   omega
 ·intro b hb; cases hb; exact .inr (.inl rfl)
 ·intro b hb
  exact .inr (.inr (hv.lt b hb).1)
 ·intro b hb; cases hb; exact .inr (.inl rfl)
theorem LiS.next {s : Stk} (hs : sts[i]? = some s) (h0 : 0 < s.2.length) (hlt : ∀ (j : Nat) (a : Stk), j < i → sts[j]? = some a → a.1 ≠ s.1) (h : LiS w pb vm va L ms sts xb gl mb sb i s.2.length W0) : LiS w pb vm va L ms sts xb gl mb sb (i + 1) 0 W0 := by
 obtain ⟨h1, h2, h3, n4, h4, h5⟩ := h
 obtain ⟨x1, ⟨ls, l1, l2, l3⟩, ⟨n, f, m1, m2⟩, x4⟩ := h3
 have e1 := earl_next hs
 have e2 : snF L sts i s.2.length = snF L sts (i + 1) 0 := by
  funext z
  unfold snF
  rw [e1]
 refine ⟨h1.next hs h0, by rw [← e1]; exact h2, ⟨x1, ⟨ls, l1, l2, fun j a p t hj ha ht => ?_⟩, ⟨n, f, by rw [← e1]; exact m1, by rw [← grpL_next (ms := ms) hs hlt]; exact m2⟩, x4⟩, n4, by rw [← e1]; exact h4, by rw [← e2]; exact h5⟩
 have hj1 : j < i ∨ j = i := by omega
 rcases hj1 with hj1 | hj1
 ·exact l3 j a p t (.inl hj1) ha ht
 ·subst hj1
  rw [hs] at ha
  cases ha
  exact l3 j s p t (.inr ⟨rfl, (List.getElem?_eq_some_iff.1 ht).1⟩) hs ht
theorem LiS.step {s : Stk} {t : T3} (h : LiS w pb vm va L ms sts xb gl mb sb i q W0) (hs : sts[i]? = some s) (ht : s.2[q]? = some t) (hne : s.2 ≠ []) (hla : ∀ (j : Nat) (a : Stk), j + 1 = i → sts[j]? = some a → triLt a.1 s.1) (h1 : t ∈ L) (h2 : t ∉ earl sts i q) (h3 : atI L ms (L.idxOf t) = s.1)
  (hx : LiX w pb vm va L sts xb gl mb i (q + 1) (q + 1) W1) {n : Nat} (hn : n ≤ (earl sts i q).length) (hm : MapI kNI W1 sb (n + 1) (setF (snF L sts i q) ((L.idxOf t : Nat) : Int) 1)) : LiS w pb vm va L ms sts xb gl mb sb i (q + 1) W1 := by
 refine ⟨h.inv.tri_step hs ht hne hla h1 h3 h2, ?_, hx, n + 1, by rw [earl_step hs ht]; simp; omega, by rw [← snF_step hs ht]; exact hm⟩
 rw [earl_step hs ht, List.nodup_append]
 refine ⟨h.nd, by simp, fun a ha b hb e => ?_⟩
 rw [List.mem_singleton] at hb
 subst hb
 subst e
 exact h2 ha
end
end
end Go.Proofs.YtpkjekedgodccaaGreatDoor
