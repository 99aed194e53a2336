/- A drawn region with a chain whose last operation assigns what is read ahead of it.. -/
import Derived.Test.YtpkjekedgodccaaGreatDoorK23
namespace Go.Proofs.YtpkjekedgodccaaGreatDoor
set_option linter.unusedSimpArgs false
set_option linter.unusedVariables false
section
open Go.RowKit
section
variable {P : Program} {ops : Array Oper}
theorem rg_valA {a : Act} {w : World} {σ : Type} (vals : σ → List Value) (I : σ → Array Bool → World → Prop) {fin : σ → Act} (hf : ∀ x, putOps ops.toList (vals x) a = fin x) (hb : rgB ops = true) (hln : ∀ x, (vals x).length = ops.size)
  (x0 : σ) (h0 : I x0 (Array.replicate ops.size false) w.drew)
  (hstep : ∀ x L W, L.size = ops.size → (∀ i k, Region.waitsFor .any ops i k = true → L.getD i false = true → L.getD k false = true) → I x L W → ∀ i o, ops[i]? = some o → L.getD i true = false → (∀ k, Region.waitsFor .any ops i k = true → L.getD k false = true) →
   ∀ K : Act → World → Prop, (∀ W', I x (L.setIfInBounds i true) W' → K (fin x) W') → (∀ v x' W', vals x' = (vals x).set i v → I x' (L.setIfInBounds i true) W' → K ((fin x).put o.dst v) W') →
    if Region.wanted o (yielded ops (fin x).tmps) = true then o.wp P (fin x) W K rgQ else K ((fin x).put o.dst undef) W) :
  ∃ INV : Array Bool → Act → World → Prop, INV (Array.replicate ops.size false) a w.drew ∧ (∀ L a' W i, INV L a' W → i ∈ Region.ready .any ops L → L.size = ops.size ∧ ∀ Q, wpOp P ops Q i (fun a'' W' => INV (L.setIfInBounds i true) a'' W') a' W) ∧ ∀ L a' W, INV L a' W → Region.ready .any ops L = [] → L.size = ops.size ∧ ∃ x, a' = fin x ∧ I x L W ∧ ∀ k, k < ops.size → L.getD k false = true := by
 have hoff0 : ∀ i, (Array.replicate ops.size false).getD i false = false := fun i => by
  simp only [Array.getD_eq_getD_getElem?, Array.getElem?_replicate]
  split <;> rfl
 refine ⟨fun L a' W => L.size = ops.size ∧ (∀ i k, Region.waitsFor .any ops i k = true → L.getD i false = true → L.getD k false = true) ∧ ∃ x, Fr ops (fin x) L a' ∧ I x L W, ⟨by simp, (fun i k _ h => by rw [hoff0] at h; cases h), x0, Fr.start (hf x0), h0⟩, ?_, ?_⟩
 ·rintro L a' W i ⟨hsz, hcl, x, hF, hI⟩ hr
  refine ⟨hsz, fun Q => ?_⟩
  obtain ⟨hoff, o, ho, hdep⟩ := mem_ready.1 hr
  have hgo := hstep x L W hsz hcl hI i o ho hoff (fun k hk => ready_dep hr hk)
   (fun b W' => (b = fin x ∧ I x (L.setIfInBounds i true) W') ∨ ∃ v x', b = (fin x).put o.dst v ∧ vals x' = (vals x).set i v ∧ I x' (L.setIfInBounds i true) W') (fun W' h => .inl ⟨rfl, h⟩) (fun v x' W' hv h => .inr ⟨v, x', rfl, hv, h⟩)
  obtain ⟨e1, e2⟩ := hF.eval hb ho hr
  have key : ∀ u W', (((fin x).put o.dst u = fin x ∧ I x (L.setIfInBounds i true) W') ∨ ∃ v x', (fin x).put o.dst u = (fin x).put o.dst v ∧ vals x' = (vals x).set i v ∧ I x' (L.setIfInBounds i true) W') →
    (L.setIfInBounds i true).size = ops.size ∧ (∀ j k, Region.waitsFor .any ops j k = true → (L.setIfInBounds i true).getD j false = true → (L.setIfInBounds i true).getD k false = true) ∧ ∃ x, Fr ops (fin x) (L.setIfInBounds i true) (a'.put o.dst u) ∧ I x (L.setIfInBounds i true) W' := by
   intro u W' hh
   refine ⟨by simpa using hsz, (fun j k hw hj => ?_), ?_⟩
   ·by_cases e : i = j
    ·subst e
     exact getD_set_true (ready_dep hr hw)
    ·exact getD_set_true (hcl j k hw (up e hj))
   ·rcases hh with ⟨hv, hI'⟩ | ⟨v, x', hu, hv, hI'⟩
    ·exact ⟨x, hF.put hb ho hv, hI'⟩
    ·exact ⟨x', hF.turn hf hln hb ho hu hv, hI'⟩
  unfold wpOp
  simp only [ho]
  rw [e2]
  split
  ·rename_i hw
   rw [if_pos hw] at hgo
   refine .inl ?_
   unfold Oper.wp at hgo ⊢
   rw [e1]
   generalize (execOp (fin x).eval o).run P W = r at hgo ⊢
   cases r with
   | ok nx W' =>
    cases nx <;> simp only [Oper.upon] at hgo ⊢
    case value v => exact key v W' hgo
    case skip => exact key undef W' hgo
    case defer d =>
     exfalso
     rcases hgo with ⟨h1, _⟩ | ⟨v, x', h1, _, _⟩ <;> (have := congrArg Act.defers h1; cases hd : o.dst <;> simp [hd, Act.put] at this)
    case enter f args =>
     refine Calls.mono hgo fun e W'' he => ?_
     cases e with
     | returned v => exact key v W'' he
     | panicked c => exact he.elim
     | outgrown =>
      obtain ⟨_, _, h⟩ := he
      exact h.elim
    case row r args => exact Rows.mono hgo fun v W'' he => key v W'' he
   | halt x W' => cases x <;> simp only [Oper.upon] at hgo ⊢ <;> exact hgo.elim
  ·rename_i hw
   rw [if_neg hw] at hgo
   exact key undef W hgo
 ·rintro L a' W ⟨hsz, hcl, x, hF, hI⟩ hr
  have hall := all_listedM hr hsz ((Bool.and_eq_true _ _).mp hb).1
  have : a' = fin x := by
   obtain ⟨t1, d1⟩ := a'
   have hfx := hf x
   revert hF
   generalize fin x = fx
   intro hF
   obtain ⟨t2, d2⟩ := fx
   have h1 := hF.df
   simp only at h1
   subst h1
   congr 1
   apply Array.ext_getElem?
   intro j
   by_cases hq : ∀ (k : Nat) (p : Oper), ops[k]? = some p → p.dst ≠ some j
   ·exact hF.out j hq
   ·simp only [Classical.not_forall, Classical.not_not] at hq
    obtain ⟨k, p, hk, hp⟩ := hq
    exact hF.val k p j hk hp (hall k (Array.getElem?_eq_some_iff.1 hk).1)
  exact ⟨hsz, x, this, hI, hall⟩
theorem rg_chnA {a : Act} {w : World} (T : List Nat) (fs : List (List Bool)) (cl : List (List Nat)) (vals : (Nat → Value) → List Value) (St : Nat → (Nat → Value) → World → Prop) {fin : (Nat → Value) → Act} (hf : ∀ x, putOps ops.toList (vals x) a = fin x) (hb : rgB ops = true) (hln : ∀ x, (vals x).length = ops.size)
  (hc : chnB ops T fs cl = true) (hvs : ∀ x j t v, T[j]? = some t → vals (updV x j v) = (vals x).set t v) (h0 : St 0 (fun _ => undef) w.drew)
  (hA : ∀ j x W, j ≤ T.length → St j x W → RgF P ops (fin x) (St j x) W ops.toList (fs.getD j []))
  (hT : ∀ j t x W, T[j]? = some t → St j x W → ∀ o, ops[t]? = some o → ∀ K : Act → World → Prop, (∀ v W', St (j + 1) (updV x j v) W' → K ((fin x).put o.dst v) W') →
    if Region.wanted o (yielded ops (fin x).tmps) = true then o.wp P (fin x) W K rgQ else K ((fin x).put o.dst undef) W) :
  ∃ INV : Array Bool → Act → World → Prop, INV (Array.replicate ops.size false) a w.drew ∧ (∀ L a' W i, INV L a' W → i ∈ Region.ready .any ops L → L.size = ops.size ∧ ∀ Q, wpOp P ops Q i (fun a'' W' => INV (L.setIfInBounds i true) a'' W') a' W) ∧ ∀ L a' W, INV L a' W → Region.ready .any ops L = [] → L.size = ops.size ∧ (∀ k, k < ops.size → L.getD k false = true) ∧ ∃ x, a' = fin x ∧ St T.length x W := by
 unfold chnB at hc
 obtain ⟨hc, c5⟩ := (Bool.and_eq_true _ _).mp hc
 obtain ⟨hc, c4⟩ := (Bool.and_eq_true _ _).mp hc
 obtain ⟨hc, c3⟩ := (Bool.and_eq_true _ _).mp hc
 obtain ⟨c1, c2⟩ := (Bool.and_eq_true _ _).mp hc
 have hnd : T.Nodup := of_decide_eq_true c5
 have hlt : ∀ q t, T[q]? = some t → t < ops.size := fun q t h => Nat.le_of_ble_eq_true (List.all_eq_true.1 c1 t (List.mem_of_getElem? h))
 have hww : ∀ q t s, T[q + 1]? = some t → T[q]? = some s → Region.waitsFor .any ops t s = true := fun q t s h1 h2 => by
  have h3 := (List.getElem?_eq_some_iff.1 h1).1
  have h := List.all_eq_true.1 c2 (q + 1) (List.mem_range.2 h3)
  simp only [List.getD_eq_getElem?_getD, h1, Nat.add_sub_cancel, h2, Option.getD_some] at h
  rcases Bool.or_eq_true _ _ |>.mp h with h | h
  ·simp at h
  ·exact h
 have hoff0 : ∀ i, (Array.replicate ops.size false).getD i false = false := fun i => by
  simp only [Array.getD_eq_getD_getElem?, Array.getElem?_replicate]
  split <;> rfl
 suffices h : _ by
  obtain ⟨INV, i1, i2, i3⟩ := rg_valA vals (fun x L W => ∃ j, j ≤ T.length ∧ (∀ q t, T[q]? = some t → (L.getD t false = true ↔ q < j)) ∧ St j x W) hf hb hln (fun _ => undef) ⟨0, Nat.zero_le _, fun q t _ => by rw [hoff0]; simp, h0⟩ h
  refine ⟨INV, i1, i2, fun L a' W hI hr => ?_⟩
  obtain ⟨hsz, x, hx, ⟨j, hj, hon, hst⟩, hall⟩ := i3 L a' W hI hr
  have : j = T.length := by
   by_cases h : j < T.length
   ·exfalso
    obtain ⟨s, hs⟩ : ∃ s, T[j]? = some s := ⟨_, List.getElem?_eq_getElem h⟩
    have := (hon j s hs).1 (hall s (hlt j s hs))
    omega
   ·omega
  subst this
  exact ⟨hsz, hall, x, hx, hst⟩
 rintro x L W hsz hcl ⟨j, hj, hon, hst⟩ i o ho hoff hdep K hK hKx
 have hi := (Array.getElem?_eq_some_iff.1 ho).1
 have hself : (L.setIfInBounds i true).getD i false = true := by
  have : i < L.size := by omega
  simp [this]
 have hoff2 : L.getD i false = false := off_of hoff
 by_cases hT' : ∃ q : Nat, T[q]? = some i
 ·obtain ⟨q, hq⟩ := hT'
  have h1 : ¬ q < j := fun h => by rw [(hon q i hq).2 h] at hoff2; cases hoff2
  have h2 : q = j := by
   cases q with
   | zero => omega
   | succ q =>
    have hql := (List.getElem?_eq_some_iff.1 hq).1
    obtain ⟨s, hs⟩ : ∃ s, T[q]? = some s := ⟨_, List.getElem?_eq_getElem (by omega)⟩
    have := (hon q s hs).1 (hdep s (hww q i s hq hs))
    omega
  subst h2
  have hql := (List.getElem?_eq_some_iff.1 hq).1
  refine hT q i x W hq hst o ho K fun v W' h => hKx v (updV x q v) W' (hvs x q i v hq) ⟨q + 1, by omega, fun q' t' hq' => ?_, h⟩
  by_cases e : i = t'
  ·subst e
   have : q' = q := by
    have a1 := (List.getElem?_eq_some_iff.1 hq')
    have a2 := (List.getElem?_eq_some_iff.1 hq)
    exact (List.getElem_inj hnd).1 (a1.2.trans a2.2.symm)
   subst this
   rw [hself]
   simp
  ·rw [getD_set_ne false e, hon q' t' hq']
   have : q' ≠ q := fun e2 => by rw [e2, hq] at hq'; exact e (Option.some.inj hq')
   omega
 ·have hni : T.contains i = false := by
   rw [← Bool.not_eq_true, List.contains_iff_mem]
   intro hm'
   obtain ⟨q, hq⟩ := List.getElem?_of_mem hm'
   exact hT' ⟨q, hq⟩
  have h4 := List.all_eq_true.1 c4 i (List.mem_range.2 hi)
  rw [hni, Bool.false_or] at h4
  have h4 := List.all_eq_true.1 h4 j (List.mem_range.2 (by omega))
  have key : ∀ W', St j x W' → K (fin x) W' := fun W' h => hK W' ⟨j, hj, fun q t hq => by
   have : i ≠ t := fun e => hT' ⟨q, by rw [e]; exact hq⟩
   rw [getD_set_ne false this]
   exact hon q t hq, h⟩
  have fl : (fs.getD j []).getD i false = true → (fs.getD j [])[i]? = some true := fun h => by
   rw [List.getD_eq_getElem?_getD] at h
   cases hq : (fs.getD j [])[i]? with
   | none => rw [hq] at h; cases h
   | some b => rw [hq] at h; simp at h; rw [h]
  refine (hA j x W hj hst).at_ (by simpa using ho) (fl ?_) K key
  rcases Bool.or_eq_true _ _ |>.mp h4 with h5 | h5
  ·exact h5
  ·exfalso
   rcases Bool.or_eq_true _ _ |>.mp h5 with h5 | h5
   case inr =>
    obtain ⟨t, ht, hw⟩ := List.any_eq_true.1 h5
    obtain ⟨q, hq⟩ := List.getElem?_of_mem ht
    rw [List.getElem?_drop] at hq
    have := (hon (j + q) t hq).1 (hdep t hw)
    omega
   obtain ⟨h6, h5⟩ := (Bool.and_eq_true _ _).mp h5
   cases j with
   | zero => cases h6
   | succ j =>
    rw [Nat.add_sub_cancel, List.contains_iff_mem] at h5
    obtain ⟨s, hs⟩ : ∃ s, T[j]? = some s := ⟨_, List.getElem?_eq_getElem (by omega)⟩
    have hs2 : T.getD j 0 = s := by rw [List.getD_eq_getElem?_getD, hs]; rfl
    have := cloB_on hcl (cl.getD j []) [T.getD j 0] (List.all_eq_true.1 c3 j (List.mem_range.2 (by omega))) (by intro k hk; rw [List.mem_singleton] at hk; subst hk; rw [hs2]; exact (hon j s hs).2 (by omega)) i h5
    rw [hoff2] at this
    cases this
def dropDst : List Oper → List Oper
 | [] => []
 | [o] => [{ o with dst := none }]
 | o :: p :: os => o :: dropDst (p :: os)
theorem dropDst_len : ∀ l : List Oper, (dropDst l).length = l.length
 | [] => rfl
 | [o] => rfl
 | o :: p :: os => by simp only [dropDst, List.length_cons, dropDst_len (p :: os)]
theorem dropDst_at : ∀ (l : List Oper) (i : Nat), i ≠ l.length - 1 → (dropDst l)[i]? = l[i]?
 | [], i, _ => rfl
 | [o], 0, h => absurd rfl h
 | [o], i + 1, _ => by simp [dropDst]
 | o :: p :: os, 0, _ => rfl
 | o :: p :: os, i + 1, h => by
  have := dropDst_at (p :: os) i (by simp only [List.length_cons] at h ⊢; omega)
  simp only [dropDst, List.getElem?_cons_succ]
  exact this
theorem dropDst_last : ∀ (l : List Oper) (o : Oper), l[l.length - 1]? = some o → (dropDst l)[l.length - 1]? = some { o with dst := none }
 | [], o, h => by simp at h
 | [p], o, h => by simp at h; subst h; rfl
 | q :: p :: os, o, h => by
  have := dropDst_last (p :: os) o (by simpa using h)
  simpa [dropDst] using this
def noLast (ops : Array Oper) : Array Oper := (dropDst ops.toList).toArray
theorem noLast_size (ops : Array Oper) : (noLast ops).size = ops.size := by
 simp [noLast, dropDst_len]
theorem noLast_at {i : Nat} (h : i ≠ ops.size - 1) : (noLast ops)[i]? = ops[i]? := by
 have := dropDst_at ops.toList i (by rw [Array.length_toList]; exact h)
 simpa [noLast] using this
theorem noLast_last {o : Oper} (h : ops[ops.size - 1]? = some o) : (noLast ops)[ops.size - 1]? = some { o with dst := none } := by
 have := dropDst_last ops.toList o (by rw [Array.length_toList]; simpa using h)
 simpa [noLast] using this
theorem noLast_after (i : Nat) : ((noLast ops)[i]?).map (·.after) = (ops[i]?).map (·.after) := by
 by_cases h : i = ops.size - 1
 ·subst h
  cases h1 : ops[ops.size - 1]? with
  | some o => rw [noLast_last h1] <;> rfl
  | none =>
   have h2 : (noLast ops)[ops.size - 1]? = none := by
    rw [Array.getElem?_eq_none_iff] at h1 ⊢
    rw [noLast_size]
    exact h1
   rw [h2]
 ·rw [noLast_at h]
theorem noLast_ready (L : Array Bool) : Region.ready .any (noLast ops) L = Region.ready .any ops L := by
 unfold Region.ready
 rw [noLast_size]
 refine List.filter_congr fun i _ => ?_
 congr 1
 have h := noLast_after (ops := ops) i
 cases h1 : (noLast ops)[i]? with
 | none =>
  rw [h1] at h
  cases h2 : ops[i]? with
  | none => rfl
  | some o => rw [h2] at h; cases h
 | some o1 =>
  rw [h1] at h
  cases h2 : ops[i]? with
  | none => rw [h2] at h; cases h
  | some o => rw [h2] at h; simp only [Option.map_some, Option.some.injEq] at h; simp only [Option.map_some, Option.getD_some, h]
def lastB (ops : Array Oper) : Bool := (match ops[ops.size - 1]? with
 | some o => (match o.op with | .assign (.tmp _) => true | _ => false) && o.guard.isNone && (List.range (ops.size - 1)).all fun k => Region.waitsFor .any ops (ops.size - 1) k
 | none => false) && (List.range ops.size).all fun i => match ops[i]? with
 | some o => (match o.guard with | some (g, _) => Nat.blt g (ops.size - 1) | none => true)
 | none => true
theorem rg_acc {id : Nat} {a : Act} {w : World} {Q : Exit → Act → World → Prop} {F : Act → World → Prop} (hm : P.follows .mixedOrders = true) (hb : lastB ops = true) {s : Tmp} {o : Oper} (ho : ops[ops.size - 1]? = some o) (hs : o.op = .assign (.tmp s))
  (hI : ∃ INV : Array Bool → Act → World → Prop, INV (Array.replicate (noLast ops).size false) a w.drew ∧ (∀ L a' W i, INV L a' W → i ∈ Region.ready .any (noLast ops) L → L.size = (noLast ops).size ∧ ∀ Q, wpOp P (noLast ops) Q i (fun a'' W' => INV (L.setIfInBounds i true) a'' W') a' W) ∧ ∀ L a' W, INV L a' W → Region.ready .any (noLast ops) L = [] → L.size = (noLast ops).size ∧ (∀ k, k < (noLast ops).size → L.getD k false = true) ∧ F a' W)
  (hF : ∀ a' W, F a' W → Q .normal (a'.put o.dst (a'.eval (.tmp s))) W) : (Code.region id ops true).wp P Q a w := by
 obtain ⟨INV, i1, i2, i3⟩ := hI
 rw [noLast_size] at i1
 have hbb := hb
 unfold lastB at hb
 rw [ho] at hb
 simp only [hs, Bool.and_eq_true, Bool.true_and] at hb
 obtain ⟨⟨hg, hw⟩, hgs⟩ := hb
 have hg : o.guard = none := by cases h : o.guard with | none => rfl | some x => rw [h] at hg; cases hg
 have hn := (Array.getElem?_eq_some_iff.1 ho).1
 refine wp_region_inv (fun L a' W => (L.getD (ops.size - 1) false = false ∧ INV L a' W) ∨ (L.getD (ops.size - 1) false = true ∧ (∀ k, k < ops.size → L.getD k false = true) ∧ ∃ a0, a' = a0.put o.dst (a0.eval (.tmp s)) ∧ F a0 W)) hm (.inl ⟨by simp [Array.getD_eq_getD_getElem?, Array.getElem?_replicate]; split <;> rfl, i1⟩) ?_ ?_
 ·rintro L a' W i (⟨hoff, hI⟩ | ⟨_, hall, _⟩) hr
  ·obtain ⟨hsz, hstep⟩ := i2 L a' W i hI (by rw [noLast_ready]; exact hr)
   rw [noLast_size] at hsz
   have hil := ready_lt hr
   by_cases e : i = ops.size - 1
   ·have hst := hstep rgQ
    unfold wpOp at hst ⊢
    rw [e] at hst ⊢
    rw [noLast_last ho] at hst
    rw [ho]
    simp only at hst ⊢
    have hwn : Region.wanted o (yielded ops a'.tmps) = true := by simp [Region.wanted, hg]
    have hwn2 : Region.wanted { o with dst := none } (yielded (noLast ops) a'.tmps) = true := by simp [Region.wanted, hg]
    rw [if_pos hwn]
    rw [if_pos hwn2] at hst
    have hlet : ¬ LetsOut rgQ := fun h => by obtain ⟨_, _, h⟩ := h; exact h
    have hst := hst.resolve_right (fun h => hlet h.2)
    refine .inl ?_
    unfold Oper.wp at hst ⊢
    simp only [execOp, hs, Sem.run_pure, Oper.upon] at hst ⊢
    have hdone : ∀ k, k < ops.size → (L.setIfInBounds (ops.size - 1) true).getD k false = true := fun k hk => by
     by_cases ek : k = ops.size - 1
     ·subst ek
      simp [show ops.size - 1 < L.size by omega]
     ·refine getD_set_true (ready_dep hr ?_)
      rw [e]
      exact List.all_eq_true.1 hw k (List.mem_range.2 (by omega))
    have hnil : Region.ready .any (noLast ops) (L.setIfInBounds (ops.size - 1) true) = [] := by
     rw [noLast_ready]
     apply List.eq_nil_iff_forall_not_mem.2
     intro j hj
     have h1 := (mem_ready.1 hj).1
     have h2 := hdone j (ready_lt hj)
     rw [off_of h1] at h2
     cases h2
    have h4 := i3 _ _ _ hst hnil
    exact .inr ⟨hdone _ (by omega), hdone, a', rfl, h4.2.2⟩
   ·have hst := hstep Q
    have hopeq := noLast_at (ops := ops) e
    unfold wpOp at hst ⊢
    rw [hopeq] at hst
    cases hoi : ops[i]? with
    | none =>
     rw [hoi] at hst
     exact .inl ⟨by rw [getD_set_ne false (fun e2 => e e2)]; exact hoff, hst⟩
    | some oi =>
     rw [hoi] at hst
     simp only at hst ⊢
     have hwy : Region.wanted oi (yielded (noLast ops) a'.tmps) = Region.wanted oi (yielded ops a'.tmps) := by
      unfold Region.wanted
      cases hgi : oi.guard with
      | none => rfl
      | some gb =>
       obtain ⟨g, b⟩ := gb
       have h1 := List.all_eq_true.1 hgs i (List.mem_range.2 hil)
       rw [hoi] at h1
       simp only [hgi] at h1
       have hlt : g < ops.size - 1 := Nat.le_of_ble_eq_true h1
       simp only [yielded, noLast_at (ops := ops) (show g ≠ ops.size - 1 by omega)]
     rw [hwy] at hst
     have up' : ∀ a'' W', INV (L.setIfInBounds i true) a'' W' → ((L.setIfInBounds i true).getD (ops.size - 1) false = false ∧ INV (L.setIfInBounds i true) a'' W') ∨ ((L.setIfInBounds i true).getD (ops.size - 1) false = true ∧ (∀ k, k < ops.size → (L.setIfInBounds i true).getD k false = true) ∧ ∃ a0, a'' = a0.put o.dst (a0.eval (.tmp s)) ∧ F a0 W') := fun a'' W' h => .inl ⟨by rw [getD_set_ne false (fun e2 => e e2)]; exact hoff, h⟩
     split at hst
     ·rename_i hw1
      rw [if_pos hw1]
      rcases hst with hst | hst
      ·exact .inl (Oper.wp_mono up' hst)
      ·exact .inr hst
     ·rename_i hw1
      rw [if_neg hw1]
      exact up' _ _ hst
  ·exfalso
   have h1 := hall i (ready_lt hr)
   rw [off_of (mem_ready.1 hr).1] at h1
   cases h1
 ·rintro L a' W (⟨hoff, hI⟩ | ⟨_, _, a0, rfl, hF0⟩) hr
  ·exfalso
   have h4 := i3 L a' W hI (by rw [noLast_ready]; exact hr)
   rw [noLast_size] at h4
   rw [h4.2.1 (ops.size - 1) (by omega)] at hoff
   cases hoff
  ·exact hF a0 W hF0
end
end
end Go.Proofs.YtpkjekedgodccaaGreatDoor
