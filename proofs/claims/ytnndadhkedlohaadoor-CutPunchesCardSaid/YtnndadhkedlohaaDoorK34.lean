/- A drawn region with a chain of operations that change memory, and one more (an alloc) that waits for nobody.. What falls apart: the plain law. -/
import Derived.Test.YtnndadhkedlohaaDoorK25
import Derived.Test.YtnndadhkedlohaaDoorK06
namespace Go.Proofs.YtnndadhkedlohaaDoor
set_option linter.unusedSimpArgs false
set_option linter.unusedVariables false
section
open Go.RowKit
section
variable {P : Program} {ops : Array Oper}
def floB (ops : Array Oper) (T : List Nat) (f : Nat) (fs0 fs1 : List (List Bool)) (cl : List (List Nat)) (cf : List Nat) : Bool :=
 (T.all fun t => Nat.blt t ops.size) && (List.range T.length).all (fun q => Nat.beq q 0 || Region.waitsFor .any ops (T.getD q 0) (T.getD (q - 1) 0)) && (List.range T.length).all (fun q => cloB ops [T.getD q 0] (cl.getD q [])) &&
 (List.range ops.size).all (fun i => T.contains i || Nat.beq i f || (List.range (T.length + 1)).all fun j =>
  ((fs0.getD j []).getD i false || ((!Nat.beq j 0 && (cl.getD (j - 1) []).contains i) || ((T.drop j).any (fun t => Region.waitsFor .any ops i t) || Region.waitsFor .any ops i f))) &&
  ((fs1.getD j []).getD i false || ((!Nat.beq j 0 && (cl.getD (j - 1) []).contains i) || ((T.drop j).any (fun t => Region.waitsFor .any ops i t) || cf.contains i)))) && decide T.Nodup && Nat.blt f ops.size && cloB ops [f] cf && !T.contains f
theorem rg_flo {id : Nat} {a : Act} {w : World} {Q : Exit → Act → World → Prop} (T : List Nat) (f : Nat) (fs0 fs1 : List (List Bool)) (cl : List (List Nat)) (cf : List Nat) (vals : (Nat → Value) → List Value) (St : Nat → Bool → (Nat → Value) → World → Prop) {fin : (Nat → Value) → Act} (hf : ∀ x, putOps ops.toList (vals x) a = fin x) (hm : P.follows .mixedOrders = true) (hb : rgB ops = true) (hln : ∀ x, (vals x).length = ops.size)
  (hc : floB ops T f fs0 fs1 cl cf = true) (hvs : ∀ x j t v, T[j]? = some t → vals (updV x j v) = (vals x).set t v) (hvf : ∀ x v, vals (updV x T.length v) = (vals x).set f v) (h0 : St 0 false (fun _ => undef) w.drew)
  (hA : ∀ j b x W, j ≤ T.length → St j b x W → RgF P ops (fin x) (St j b x) W ops.toList ((bif b then fs1 else fs0).getD j []))
  (hT : ∀ j b t x W, T[j]? = some t → (Region.waitsFor .any ops t f = true → b = true) → St j b x W → ∀ o, ops[t]? = some o → ∀ K : Act → World → Prop, (∀ v W', St (j + 1) b (updV x j v) W' → K ((fin x).put o.dst v) W') →
    if Region.wanted o (yielded ops (fin x).tmps) = true then o.wp P (fin x) W K rgQ else K ((fin x).put o.dst undef) W)
  (hF : ∀ j x W, j ≤ T.length → St j false x W → ∀ o, ops[f]? = some o → ∀ K : Act → World → Prop, (∀ v W', St j true (updV x T.length v) W' → K ((fin x).put o.dst v) W') →
    if Region.wanted o (yielded ops (fin x).tmps) = true then o.wp P (fin x) W K rgQ else K ((fin x).put o.dst undef) W)
  (hend : ∀ x W, St T.length true x W → Q .normal (fin x) W) : (Code.region id ops true).wp P Q a w := by
 unfold floB at hc
 obtain ⟨hc, c8⟩ := (Bool.and_eq_true _ _).mp hc
 obtain ⟨hc, c7⟩ := (Bool.and_eq_true _ _).mp hc
 obtain ⟨hc, c6⟩ := (Bool.and_eq_true _ _).mp hc
 obtain ⟨hc, c5⟩ := (Bool.and_eq_true _ _).mp hc
 obtain ⟨hc, c4⟩ := (Bool.and_eq_true _ _).mp hc
 obtain ⟨hc, c3⟩ := (Bool.and_eq_true _ _).mp hc
 obtain ⟨c1, c2⟩ := (Bool.and_eq_true _ _).mp hc
 have hnd : T.Nodup := of_decide_eq_true c5
 have hfl : f < ops.size := Nat.le_of_ble_eq_true c6
 have hfT : ∀ q : Nat, T[q]? ≠ some f := fun q hq => by
  have h1 : T.contains f = true := List.contains_iff_mem.2 (List.mem_of_getElem? hq)
  rw [h1] at c8
  cases c8
 have hlt : ∀ q t, T[q]? = some t → t < ops.size := fun q t h => Nat.le_of_ble_eq_true (List.all_eq_true.1 c1 t (List.mem_of_getElem? h))
 have hww : ∀ q t s, T[q + 1]? = some t → T[q]? = some s → Region.waitsFor .any ops t s = true := fun q t s h1 h2 => by
  have h3 := (List.getElem?_eq_some_iff.1 h1).1
  have h := List.all_eq_true.1 c2 (q + 1) (List.mem_range.2 h3)
  simp only [List.getD_eq_getElem?_getD, h1, Nat.add_sub_cancel, h2, Option.getD_some] at h
  rcases Bool.or_eq_true _ _ |>.mp h with h | h
  ·simp at h
  ·exact h
 have hoff0 : ∀ i, (Array.replicate ops.size false).getD i false = false := fun i => by
  simp only [Array.getD_eq_getD_getElem?, Array.getElem?_replicate]
  split <;> rfl
 refine rg_val vals (fun x L W => ∃ j b, j ≤ T.length ∧ (∀ q t, T[q]? = some t → (L.getD t false = true ↔ q < j)) ∧ L.getD f false = b ∧ St j b x W) hf hm hb hln (fun _ => undef) ⟨0, false, Nat.zero_le _, fun q t _ => by rw [hoff0]; simp, hoff0 f, h0⟩ ?_ ?_
 ·rintro x L W hsz hcl ⟨j, b, hj, hon, hbf, hst⟩ i o ho hoff hdep K hK hKx
  have hi := (Array.getElem?_eq_some_iff.1 ho).1
  have hself : (L.setIfInBounds i true).getD i false = true := by
   have : i < L.size := by omega
   simp [this]
  have hoff2 : L.getD i false = false := off_of hoff
  by_cases hT' : ∃ q : Nat, T[q]? = some i
  ·obtain ⟨q, hq⟩ := hT'
   have h1 : ¬ q < j := fun h => by rw [(hon q i hq).2 h] at hoff2; cases hoff2
   have h2 : q = j := by
    cases q with
    | zero => omega
    | succ q =>
     have hql := (List.getElem?_eq_some_iff.1 hq).1
     obtain ⟨s, hs⟩ : ∃ s, T[q]? = some s := ⟨_, List.getElem?_eq_getElem (by omega)⟩
     have := (hon q s hs).1 (hdep s (hww q i s hq hs))
     omega
   subst h2
   have hql := (List.getElem?_eq_some_iff.1 hq).1
   refine hT q b i x W hq (fun hw => by rw [← hbf]; exact hdep f hw) hst o ho K fun v W' h => hKx v (updV x q v) W' (hvs x q i v hq) ⟨q + 1, b, by omega, fun q' t' hq' => ?_, ?_, h⟩
   ·by_cases e : i = t'
    ·subst e
     have : q' = q := by
      have a1 := (List.getElem?_eq_some_iff.1 hq')
      have a2 := (List.getElem?_eq_some_iff.1 hq)
      exact (List.getElem_inj hnd).1 (a1.2.trans a2.2.symm)
     subst this
     rw [hself]
     simp
    ·rw [getD_set_ne false e, hon q' t' hq']
     have : q' ≠ q := fun e2 => by rw [e2, hq] at hq'; exact e (Option.some.inj hq')
     omega
   ·rw [getD_set_ne false (fun e => hfT q (by rw [← e]; exact hq))]
    exact hbf
  ·by_cases hif : i = f
   ·subst hif
    have hb0 : b = false := by rw [← hbf]; exact hoff2
    subst hb0
    refine hF j x W hj hst o ho K fun v W' h => hKx v (updV x T.length v) W' (hvf x v) ⟨j, true, hj, fun q t hq => ?_, hself, h⟩
    have : i ≠ t := fun e => hT' ⟨q, by rw [e]; exact hq⟩
    rw [getD_set_ne false this]
    exact hon q t hq
   have hni : T.contains i = false := by
    rw [← Bool.not_eq_true, List.contains_iff_mem]
    intro hm'
    obtain ⟨q, hq⟩ := List.getElem?_of_mem hm'
    exact hT' ⟨q, hq⟩
   have hnf : Nat.beq i f = false := by
    rw [← Bool.not_eq_true]
    exact fun h => hif (Nat.eq_of_beq_eq_true h)
   have h4 := List.all_eq_true.1 c4 i (List.mem_range.2 hi)
   rw [hni, hnf, Bool.false_or, Bool.false_or] at h4
   have h4 := List.all_eq_true.1 h4 j (List.mem_range.2 (by omega))
   obtain ⟨h40, h41⟩ := (Bool.and_eq_true _ _).mp h4
   have key : ∀ W', St j b x W' → K (fin x) W' := fun W' h => hK W' ⟨j, b, hj, fun q t hq => by
    have : i ≠ t := fun e => hT' ⟨q, by rw [e]; exact hq⟩
    rw [getD_set_ne false this]
    exact hon q t hq, by rw [getD_set_ne false hif]; exact hbf, h⟩
   have fl : ∀ fs : List (List Bool), (fs.getD j []).getD i false = true → (fs.getD j [])[i]? = some true := fun fs h => by
    rw [List.getD_eq_getElem?_getD] at h
    cases hq : (fs.getD j [])[i]? with
    | none => rw [hq] at h; cases h
    | some b => rw [hq] at h; simp at h; rw [h]
   have exc : (!Nat.beq j 0 && (cl.getD (j - 1) []).contains i) = true → False := fun h5 => by
    obtain ⟨h6, h5⟩ := (Bool.and_eq_true _ _).mp h5
    cases j with
    | zero => cases h6
    | succ j =>
     rw [Nat.add_sub_cancel, List.contains_iff_mem] at h5
     obtain ⟨s, hs⟩ : ∃ s, T[j]? = some s := ⟨_, List.getElem?_eq_getElem (by omega)⟩
     have hs2 : T.getD j 0 = s := by rw [List.getD_eq_getElem?_getD, hs]; rfl
     have := cloB_on hcl (cl.getD j []) [T.getD j 0] (List.all_eq_true.1 c3 j (List.mem_range.2 (by omega))) (by intro k hk; rw [List.mem_singleton] at hk; subst hk; rw [hs2]; exact (hon j s hs).2 (by omega)) i h5
     rw [hoff2] at this
     cases this
   have exd : (T.drop j).any (fun t => Region.waitsFor .any ops i t) = true → False := fun h5 => by
    obtain ⟨t, ht, hw⟩ := List.any_eq_true.1 h5
    obtain ⟨q, hq⟩ := List.getElem?_of_mem ht
    rw [List.getElem?_drop] at hq
    have := (hon (j + q) t hq).1 (hdep t hw)
    omega
   refine (hA j b x W hj hst).at_ (by simpa using ho) ?_ K key
   cases b with
   | false =>
    refine fl fs0 ?_
    rcases Bool.or_eq_true _ _ |>.mp h40 with h5 | h5
    ·exact h5
    ·exfalso
     rcases Bool.or_eq_true _ _ |>.mp h5 with h5 | h5
     ·exact exc h5
     ·rcases Bool.or_eq_true _ _ |>.mp h5 with h5 | h5
      ·exact exd h5
      ·have := hdep f h5
       rw [hbf] at this
       cases this
   | true =>
    refine fl fs1 ?_
    rcases Bool.or_eq_true _ _ |>.mp h41 with h5 | h5
    ·exact h5
    ·exfalso
     rcases Bool.or_eq_true _ _ |>.mp h5 with h5 | h5
     ·exact exc h5
     ·rcases Bool.or_eq_true _ _ |>.mp h5 with h5 | h5
      ·exact exd h5
      ·rw [List.contains_iff_mem] at h5
       have := cloB_on hcl cf [f] c7 (by intro k hk; rw [List.mem_singleton] at hk; subst hk; exact hbf) i h5
       rw [hoff2] at this
       cases this
 ·rintro x L W ⟨j, b, hj, hon, hbf, hst⟩ hall
  have : j = T.length := by
   by_cases h : j < T.length
   ·exfalso
    obtain ⟨s, hs⟩ : ∃ s, T[j]? = some s := ⟨_, List.getElem?_eq_getElem h⟩
    have := (hon j s hs).1 (hall s (hlt j s hs))
    omega
   ·omega
  subst this
  have hb1 : b = true := by rw [← hbf]; exact hall f hfl
  subst hb1
  exact hend x W hst
end
end
section
def cutC (L : List T3) (gn : T3 → Bool) (hd : T3 → T3 → Bool) (e : E4) : Bool := L.any fun t => (List.range 3).any fun i => decide (eT t i = e) && (decide (nT t i ∈ L) && (!gn t && (!gn (nT t i) && hd t (nT t i))))
section
variable {L : List T3} {gn : T3 → Bool} {hd : T3 → T3 → Bool}
theorem cutC_iff {e : E4} : cutC L gn hd e = true ↔ ∃ t ∈ L, ∃ i, i < 3 ∧ eT t i = e ∧ nT t i ∈ L ∧ gn t = false ∧ gn (nT t i) = false ∧ hd t (nT t i) = true := by
 simp [cutC]
theorem cutC_at (hl : ∀ t ∈ L, K4 t) (hs : ∀ t u, hd t u = hd u t) {t : T3} (ht : t ∈ L) {i : Nat} (hi : i < 3) (hn : nT t i ∈ L) : cutC L gn hd (eT t i) = true ↔ gn t = false ∧ gn (nT t i) = false ∧ hd t (nT t i) = true := by
 rw [cutC_iff]
 constructor
 ·rintro ⟨u, hu, j, hj, e, h1, h2, h3, h4⟩
  rcases e_two (hl t ht) (hl u hu) hi hj e with h | h
  ·subst h
   have := e_inj (hl u hu) hj hi e
   subst this
   exact ⟨h2, h3, h4⟩
  ·subst h
   have hb := e_sym (hl t ht) hi
   have := e_inj (nT_k (hl t ht) hi) hj (bk_lt i) (e.trans hb.2.symm)
   subst this
   rw [hb.1] at h3 h4
   exact ⟨h3, h2, by rw [hs]; exact h4⟩
 ·rintro ⟨h1, h2, h3⟩
  exact ⟨t, ht, i, hi, rfl, hn, h1, h2, h3⟩
end
def CutE (L : List T3) (C : E4 → Bool) (gn : T3 → Bool) (hd : T3 → T3 → Bool) : Prop := ∀ t ∈ L, ∀ i, i < 3 → nT t i ∈ L → (C (eT t i) = true ↔ gn t = false ∧ gn (nT t i) = false ∧ hd t (nT t i) = true)
noncomputable def pcsL (l : List T3) (c : E4 → Bool) (gn : T3 → Bool) (i : Nat) : List (List T3) := (List.range i).filterMap fun j => match l[j]? with
 | some t => if firstB l c j = true ∧ gn t = false then some (compL l c t) else none
 | none => none
theorem pcsL_succ {l : List T3} {c : E4 → Bool} {gn : T3 → Bool} {i : Nat} {t : T3} (hi : l[i]? = some t) : pcsL l c gn (i + 1) = pcsL l c gn i ++ if firstB l c i = true ∧ gn t = false then [compL l c t] else [] := by
 unfold pcsL
 rw [List.range_succ, List.filterMap_append]
 congr 1
 simp only [List.filterMap_cons, List.filterMap_nil, hi]
 split <;> simp_all
theorem pcsL_yes {l : List T3} {c : E4 → Bool} {gn : T3 → Bool} {i : Nat} {t : T3} (hi : l[i]? = some t) (hf : firstB l c i = true) (hg : gn t = false) : pcsL l c gn (i + 1) = pcsL l c gn i ++ [compL l c t] := by rw [pcsL_succ hi, if_pos ⟨hf, hg⟩]
theorem pcsL_no {l : List T3} {c : E4 → Bool} {gn : T3 → Bool} {i : Nat} {t : T3} (hi : l[i]? = some t) (h : ¬ (firstB l c i = true ∧ gn t = false)) : pcsL l c gn (i + 1) = pcsL l c gn i := by rw [pcsL_succ hi, if_neg h, List.append_nil]
theorem pcsL_len (l : List T3) (c : E4 → Bool) (gn : T3 → Bool) (i : Nat) : (pcsL l c gn i).length ≤ i := by
 have := List.length_filterMap_le (fun j => match l[j]? with | some t => if firstB l c j = true ∧ gn t = false then some (compL l c t) else none | none => none) (List.range i)
 simpa [pcsL] using this
def SnP (L : List T3) (C : E4 → Bool) (gn : T3 → Bool) (i : Nat) (x : T3) : Prop := ∃ j y, j < i ∧ L[j]? = some y ∧ gn y = false ∧ Rch L C y x
structure PcO (L : List T3) (C : E4 → Bool) (gn : T3 → Bool) (i : Nat) (old : List T3) : Prop where
 nd : old.Nodup
 sub : ∀ x ∈ old, x ∈ L
 iff : ∀ x, x ∈ old ↔ SnP L C gn i x
section
variable {L : List T3} {C : E4 → Bool} {gn : T3 → Bool} {hd : T3 → T3 → Bool} {i : Nat} {old q : List T3} {a t x : T3}
theorem Rch.there (hC : CutE L C gn hd) (ha : a ∈ L) (hg : gn a = false) (h : Rch L C a x) : gn x = false := by
 induction h with
 | refl => exact hg
 | @step t i hr hi hc hm ih => exact ((hC t (hr.mem ha) i hi hm).1 hc).2.1
theorem PcO.start (L : List T3) (C : E4 → Bool) (gn : T3 → Bool) : PcO L C gn 0 [] := ⟨List.nodup_nil, by simp, fun x => by simp [SnP]⟩
theorem PcO.disj (h : PcO L C gn i old) (hl : ∀ t ∈ L, K4 t) (ha : a ∈ L) (hn : a ∉ old) (hr : Rch L C a x) : x ∉ old := by
 intro hx
 obtain ⟨j, y, h1, h2, h3, h4⟩ := (h.iff x).1 hx
 exact hn ((h.iff a).2 ⟨j, y, h1, h2, h3, h4.trans (hr.symm hl ha)⟩)
theorem PcO.first (h : PcO L C gn i old) (hC : CutE L C gn hd) (hl : ∀ t ∈ L, K4 t) (hi : L[i]? = some t) (hg : gn t = false) : firstB L C i = true ↔ t ∉ old := by
 rw [firstB_iff hi]
 constructor
 ·intro hf ho
  obtain ⟨j, y, h1, h2, h3, h4⟩ := (h.iff t).1 ho
  exact hf j y h1 h2 h4
 ·intro hn j u hj hu hr
  have hut := List.mem_of_getElem? hu
  have hgu : gn u = false := (hr.symm hl hut).there hC (List.mem_of_getElem? hi) hg
  exact hn ((h.iff t).2 ⟨j, u, hj, hu, hgu, hr⟩)
theorem PcO.gone (h : PcO L C gn i old) (hi : L[i]? = some t) (hg : gn t = true) : PcO L C gn (i + 1) old := by
 refine ⟨h.nd, h.sub, fun x => (h.iff x).trans ⟨fun ⟨j, y, h1, h2⟩ => ⟨j, y, by omega, h2⟩, ?_⟩⟩
 rintro ⟨j, y, h1, h2, h3, h4⟩
 by_cases hj : j < i
 ·exact ⟨j, y, hj, h2, h3, h4⟩
 ·have : j = i := by omega
  subst this
  rw [hi] at h2
  cases h2
  rw [hg] at h3
  cases h3
theorem PcO.seen (h : PcO L C gn i old) (hi : L[i]? = some t) (ho : t ∈ old) : PcO L C gn (i + 1) old := by
 refine ⟨h.nd, h.sub, fun x => (h.iff x).trans ⟨fun ⟨j, y, h1, h2⟩ => ⟨j, y, by omega, h2⟩, ?_⟩⟩
 rintro ⟨j, y, h1, h2, h3, h4⟩
 by_cases hj : j < i
 ·exact ⟨j, y, hj, h2, h3, h4⟩
 ·have : j = i := by omega
  subst this
  rw [hi] at h2
  cases h2
  obtain ⟨j0, y0, a1, a2, a3, a4⟩ := (h.iff t).1 ho
  exact ⟨j0, y0, a1, a2, a3, a4.trans h4⟩
theorem PcO.next (h : PcO L C gn i old) (hl : ∀ t ∈ L, K4 t) (hi : L[i]? = some t) (hg : gn t = false) (hn : t ∉ old) (hq : Closed L C t q) : PcO L C gn (i + 1) (old ++ q) := by
 have htL := List.mem_of_getElem? hi
 refine ⟨?_, ?_, fun x => ?_⟩
 ·rw [List.nodup_append]
  exact ⟨h.nd, hq.nd, fun x hx y hy e => h.disj hl htL hn (hq.rch y hy) (e ▸ hx)⟩
 ·intro x hx
  rcases List.mem_append.1 hx with hx | hx
  ·exact h.sub x hx
  ·exact (hq.rch x hx).mem htL
 ·rw [List.mem_append, h.iff, hq.iff]
  constructor
  ·rintro (⟨j, y, h1, h2⟩ | h1)
   ·exact ⟨j, y, by omega, h2⟩
   ·exact ⟨i, t, by omega, hi, hg, h1⟩
  ·rintro ⟨j, y, h1, h2, h3, h4⟩
   by_cases hj : j < i
   ·exact .inl ⟨j, y, hj, h2, h3, h4⟩
   ·have : j = i := by omega
    subst this
    rw [hi] at h2
    cases h2
    exact .inr h4
end
end
end Go.Proofs.YtnndadhkedlohaaDoor
