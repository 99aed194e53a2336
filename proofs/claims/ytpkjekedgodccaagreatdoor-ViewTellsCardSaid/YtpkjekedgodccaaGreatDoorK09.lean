/- A region that draws its order, told by the frame that it ends with: each operation is asked for once, at that frame.. -/
import Derived.Test.YtpkjekedgodccaaGreatDoorK01
import Derived.StillTail
namespace Go.Proofs.YtpkjekedgodccaaGreatDoor
set_option linter.unusedSimpArgs false
set_option linter.unusedVariables false
section
open Go.RowKit
theorem filter_lt {α : Type} (p q : α → Bool) : ∀ (l : List α), (∀ x, q x = true → p x = true) → (∃ x ∈ l, p x = true ∧ q x = false) → (l.filter q).length < (l.filter p).length := by
 intro l hpq
 have hle : ∀ l : List α, (l.filter q).length ≤ (l.filter p).length := by
  intro l
  induction l with
  | nil => simp
  | cons x l ih =>
   simp only [List.filter_cons]
   cases hq : q x
   ·simp only [Bool.false_eq_true, if_false]
    split <;> (try simp only [List.length_cons]) <;> omega
   ·rw [hpq x hq]
    simp only [if_true, List.length_cons]
    omega
 induction l with
 | nil => rintro ⟨x, hx, _⟩; cases hx
 | cons y l ih =>
  rintro ⟨x, hx, h1, h2⟩
  simp only [List.filter_cons]
  rcases List.mem_cons.1 hx with rfl | hx
  ·rw [h1, h2]
   have := hle l
   simp only [Bool.false_eq_true, if_false, if_true, List.length_cons]
   omega
  ·have := ih ⟨x, hx, h1, h2⟩
   cases hq : q y
   ·simp only [Bool.false_eq_true, if_false]
    split <;> (try simp only [List.length_cons]) <;> omega
   ·rw [hpq y hq]
    simp only [if_true, List.length_cons]
    omega
section
variable {P : Program} {ops : Array Oper} {Q : Exit → Act → World → Prop} {md : Region.Mode}
def unlisted (ops : Array Oper) (listed : Array Bool) : Nat := ((List.range ops.size).filter (fun j => listed.getD j true == false)).length
theorem ready_lt {listed : Array Bool} {i : Nat} (h : i ∈ Region.ready md ops listed) : i < ops.size := by
 obtain ⟨_, o, ho, _⟩ := mem_ready.1 h
 exact (Array.getElem?_eq_some_iff.1 ho).1
theorem ready_dep {listed : Array Bool} {i k : Nat} (h : i ∈ Region.ready md ops listed) (hw : Region.waitsFor md ops i k = true) : listed.getD k false = true := by
 obtain ⟨_, o, ho, hall⟩ := mem_ready.1 h
 obtain ⟨oj, hoj, e, he, hb, hon⟩ := Region.waitsFor_spec hw
 obtain rfl : o = oj := Option.some.inj (ho.symm.trans hoj)
 rw [← hon]
 exact hall e he hb
theorem wpAny_inv (I : Array Bool → Act → World → Prop)
  (hstep : ∀ listed a w i, I listed a w → i ∈ Region.ready md ops listed → wpOp P ops Q i (fun a' w' => I (listed.setIfInBounds i true) a' w') a w)
  (hend : ∀ listed a w, I listed a w → Region.ready md ops listed = [] → Q .normal a w) :
  ∀ (fuel : Nat) (listed : Array Bool) (a : Act) (w : World), unlisted ops listed ≤ fuel → I listed a w → wpAny P md ops Q fuel listed a w := by
 intro fuel
 induction fuel with
 | zero =>
  intro listed a w hc hI
  have hr : Region.ready md ops listed = [] := by
   apply List.eq_nil_iff_forall_not_mem.2
   intro j hj
   have h1 := ready_lt hj
   have h2 := (mem_ready.1 hj).1
   have h3 : j ∈ (List.range ops.size).filter (fun j => listed.getD j true == false) := List.mem_filter.2 ⟨List.mem_range.2 h1, by rw [h2]; rfl⟩
   have h4 := List.length_pos_of_mem h3
   unfold unlisted at hc
   omega
  exact ⟨hr, hend listed a w hI hr⟩
 | succ fuel ih =>
  intro listed a w hc hI
  refine ⟨fun h => hend listed a w hI h, fun i hi => ?_⟩
  refine wpOp_mono (fun a' w' hI' => ih _ a' w' ?_ hI') (hstep listed a w i hI hi)
  have h1 := ready_lt hi
  have h2 := (mem_ready.1 hi).1
  have h3 : i < listed.size := by
   rcases Nat.lt_or_ge i listed.size with h | h
   ·exact h
   ·simp [h] at h2
  have h4 : unlisted ops (listed.setIfInBounds i true) < unlisted ops listed := by
   unfold unlisted
   apply filter_lt
   ·intro x hx
    by_cases hxi : i = x
    ·subst hxi
     simp [h3] at hx
    ·rw [getD_set_ne true hxi] at hx
     exact hx
   ·exact ⟨i, List.mem_range.2 h1, by rw [h2]; rfl, by simp [h3]⟩
  omega
theorem unlisted_le (listed : Array Bool) : unlisted ops listed ≤ ops.size := by
 unfold unlisted
 exact Nat.le_trans (List.length_filter_le _ _) (by simp)
theorem wp_region_inv {id : Nat} {a : Act} {w : World} (I : Array Bool → Act → World → Prop) (hm : P.follows .mixedOrders = true)
  (h0 : I (Array.replicate ops.size false) a w.drew)
  (hstep : ∀ listed a w i, I listed a w → i ∈ Region.ready .any ops listed → wpOp P ops Q i (fun a' w' => I (listed.setIfInBounds i true) a' w') a w)
  (hend : ∀ listed a w, I listed a w → Region.ready .any ops listed = [] → Q .normal a w) : (Code.region id ops true).wp P Q a w :=
 wp_region_any hm (wpAny_inv I hstep hend ops.size _ a w.drew (unlisted_le _) h0)
theorem end_listed {listed : Array Bool} (h : Region.ready md ops listed = []) {k : Nat} {o : Oper} (ho : ops[k]? = some o) (hs : listed.size = ops.size)
  (hd : ∀ e ∈ o.after, Region.binds md e = true → listed.getD e.on false = true) : listed.getD k false = true := by
 have hk := (Array.getElem?_eq_some_iff.1 ho).1
 cases hl : listed.getD k false with
 | true => rfl
 | false =>
  have h2 : listed.getD k true = false := by
   have : k < listed.size := by omega
   simp [this] at hl ⊢
   exact hl
  have : k ∈ Region.ready md ops listed := mem_ready.2 ⟨h2, o, ho, hd⟩
  rw [h] at this
  cases this
theorem up {listed : Array Bool} {i j : Nat} (hne : i ≠ j) (h : (listed.setIfInBounds i true).getD j false = true) : listed.getD j false = true := by rwa [getD_set_ne false hne] at h
def backM (md : Region.Mode) (ops : Array Oper) : Bool := (List.range ops.size).all fun k => match ops[k]? with
 | some o => o.after.all fun e => !Region.binds md e || decide (e.on < k)
 | none => true
theorem all_listedM {md : Region.Mode} {ops : Array Oper} {listed : Array Bool} (h : Region.ready md ops listed = []) (hs : listed.size = ops.size) (hb : backM md ops = true) : ∀ k, k < ops.size → listed.getD k false = true := by
 intro k
 induction k using Nat.strongRecOn with
 | _ k ih =>
  intro hk
  have h1 := List.all_eq_true.1 hb k (List.mem_range.2 hk)
  have h2 : ops[k]? = some ops[k] := Array.getElem?_eq_getElem hk
  rw [h2] at h1
  simp only at h1
  refine end_listed h h2 hs fun e he hbd => ?_
  have h3 := Array.all_eq_true'.1 h1 e he
  rw [hbd] at h3
  have h4 := of_decide_eq_true (by simpa using h3 : decide (e.on < k) = true)
  exact ih e.on h4 (by omega)
end
def rgQ : Exit → Act → World → Prop := fun _ _ _ => False
def putOps : List Oper → List Value → Act → Act
 | o :: os, v :: vs, a => putOps os vs (a.put o.dst v)
 | _, _, a => a
def rgB (ops : Array Oper) : Bool := backM .any ops && (List.range ops.size).all fun i => match ops[i]? with
 | none => true
 | some o => (match o.op with | .select _ _ => false | _ => true) &&
   (o.op.operands.all fun x => match x with
     | .tmp t => (List.range ops.size).all fun k => match ops[k]? with
       | some p => !(p.dst == some t) || Region.waitsFor .any ops i k
       | none => true
     | _ => true) &&
   (match o.guard with | none => true | some (g, _) => Region.waitsFor .any ops i g) &&
   (List.range ops.size).all fun k => match ops[k]? with
     | some p => k == i || p.dst == none || !(p.dst == o.dst)
     | none => true
section
variable {P : Program} {ops : Array Oper}
theorem rgB_op {i : Nat} {o : Oper} (h : rgB ops = true) (ho : ops[i]? = some o) :
  (∀ cs b, o.op ≠ .select cs b) ∧ (∀ t, Operand.tmp t ∈ o.op.operands → ∀ k p, ops[k]? = some p → p.dst = some t → Region.waitsFor .any ops i k = true) ∧
  (∀ g b, o.guard = some (g, b) → Region.waitsFor .any ops i g = true) ∧ (∀ k p d, ops[k]? = some p → k ≠ i → p.dst = some d → o.dst ≠ some d) := by
 have hi := (Array.getElem?_eq_some_iff.1 ho).1
 have h1 := List.all_eq_true.1 ((Bool.and_eq_true _ _).mp h).2 i (List.mem_range.2 hi)
 rw [ho] at h1
 simp only [Bool.and_eq_true] at h1
 obtain ⟨⟨⟨h1, h2⟩, h3⟩, h4⟩ := h1
 refine ⟨fun cs b e => (by rw [e] at h1; cases h1), fun t ht k p hk hp => ?_, fun g b hg => (by rw [hg] at h3; exact h3), fun k p d hk hn hp e => ?_⟩
 ·have h5 := Array.all_eq_true'.1 h2 _ ht
  simp only at h5
  have h6 := List.all_eq_true.1 h5 k (List.mem_range.2 (Array.getElem?_eq_some_iff.1 hk).1)
  rw [hk] at h6
  simpa [hp] using h6
 ·have h6 := List.all_eq_true.1 h4 k (List.mem_range.2 (Array.getElem?_eq_some_iff.1 hk).1)
  rw [hk] at h6
  simp [hp, e, hn] at h6
structure Fr (ops : Array Oper) (fin : Act) (L : Array Bool) (a : Act) : Prop where
 df : a.defers = fin.defers
 ts : a.tmps.size = fin.tmps.size
 out : ∀ j : Nat, (∀ (k : Nat) (p : Oper), ops[k]? = some p → p.dst ≠ some j) → a.tmps[j]? = fin.tmps[j]?
 val : ∀ (k : Nat) (p : Oper) (d : Tmp), ops[k]? = some p → p.dst = some d → L.getD k false = true → a.tmps[d]? = fin.tmps[d]?
theorem putOps_out : ∀ (os : List Oper) (vs : List Value) (a : Act), (putOps os vs a).defers = a.defers ∧ (putOps os vs a).tmps.size = a.tmps.size ∧ ∀ j : Nat, (∀ p ∈ os, p.dst ≠ some j) → (putOps os vs a).tmps[j]? = a.tmps[j]?
 | [], _, a => ⟨rfl, rfl, fun _ _ => rfl⟩
 | _ :: _, [], a => ⟨rfl, rfl, fun _ _ => rfl⟩
 | o :: os, v :: vs, a => by
  obtain ⟨h1, h2, h3⟩ := putOps_out os vs (a.put o.dst v)
  refine ⟨h1.trans (by cases o.dst <;> rfl), h2.trans (by cases o.dst <;> simp [Act.put]), fun j hj => (h3 j fun p hp => hj p (List.mem_cons_of_mem _ hp)).trans ?_⟩
  have h4 := hj o (List.mem_cons_self ..)
  cases hd : o.dst with
  | none => rfl
  | some d =>
   have h5 : d ≠ j := fun e => h4 (by rw [hd, e])
   simp [Act.put, Array.getElem?_setIfInBounds_ne h5]
theorem Fr.start {vals : List Value} {a fin : Act} (hf : putOps ops.toList vals a = fin) : Fr ops fin (Array.replicate ops.size false) a := by
 obtain ⟨h1, h2, h3⟩ := putOps_out ops.toList vals a
 rw [hf] at h1 h2 h3
 refine ⟨h1.symm, h2.symm, fun j hj => (h3 j fun p hp => ?_).symm, fun k p d _ _ hL => ?_⟩
 ·obtain ⟨k, hk⟩ := List.getElem?_of_mem hp
  exact hj k p (by simpa using hk)
 ·simp only [Array.getD_eq_getD_getElem?, Array.getElem?_replicate] at hL
  split at hL <;> simp at hL
theorem Fr.put {fin a : Act} {L : Array Bool} (h : Fr ops fin L a) (hb : rgB ops = true) {i : Nat} {o : Oper} (ho : ops[i]? = some o) {v : Value} (hv : fin.put o.dst v = fin) : Fr ops fin (L.setIfInBounds i true) (a.put o.dst v) := by
 cases hd : o.dst with
 | none =>
  refine ⟨h.df, h.ts, h.out, fun k p d hk hp hL => h.val k p d hk hp (up (fun e => ?_) hL)⟩
  subst e
  rw [ho] at hk
  cases hk
  rw [hd] at hp
  cases hp
 | some c =>
  have hc : fin.tmps[c]? = (a.put (some c) v).tmps[c]? := by
   have h1 : (fin.put (some c) v).tmps[c]? = (a.put (some c) v).tmps[c]? := by simp [Act.put, Array.getElem?_setIfInBounds, h.ts]
   rw [hd] at hv
   rwa [hv] at h1
  refine ⟨h.df, by simpa [Act.put] using h.ts, fun j hj => ?_, fun k p d hk hp hL => ?_⟩
  ·have : c ≠ j := fun e => hj i o ho (by rw [hd, e])
   rw [← h.out j hj]
   simp [Act.put, Array.getElem?_setIfInBounds_ne this]
  ·by_cases e : c = d
   ·subst e
    exact hc.symm
   ·have hki : i ≠ k := by
     rintro rfl
     rw [ho] at hk
     cases hk
     rw [hd] at hp
     exact e (Option.some.inj hp)
    rw [← h.val k p d hk hp (up hki hL)]
    simp [Act.put, Array.getElem?_setIfInBounds_ne e]
theorem Fr.eval {fin a : Act} {L : Array Bool} (h : Fr ops fin L a) (hb : rgB ops = true) {i : Nat} {o : Oper} (ho : ops[i]? = some o) (hr : i ∈ Region.ready .any ops L) : execOp a.eval o = execOp fin.eval o ∧ Region.wanted o (yielded ops a.tmps) = Region.wanted o (yielded ops fin.tmps) := by
 obtain ⟨b1, b2, b3, b4⟩ := rgB_op hb ho
 refine ⟨execOp_congr o b1 fun x hx => ?_, ?_⟩
 ·cases x with
  | tmp t =>
   have : a.tmps[t]? = fin.tmps[t]? := by
    by_cases hq : ∀ (k : Nat) (p : Oper), ops[k]? = some p → p.dst ≠ some t
    ·exact h.out t hq
    ·simp only [Classical.not_forall, Classical.not_not] at hq
     obtain ⟨k, p, hk, hp⟩ := hq
     exact h.val k p t hk hp (ready_dep hr (b2 t hx k p hk hp))
   simp only [Act.eval, Array.getD_eq_getD_getElem?, this]
  | const v => rfl
  | global g => rfl
  | func f => rfl
 ·unfold Region.wanted
  cases hg : o.guard with
  | none => rfl
  | some gb =>
   obtain ⟨g, b⟩ := gb
   have hw := b3 g b hg
   have hon := ready_dep hr hw
   have : yielded ops a.tmps g = yielded ops fin.tmps g := by
    unfold yielded
    cases hp : ops[g]? with
    | none => rfl
    | some p =>
     cases hd : p.dst with
     | none => simp [hd]
     | some d =>
      simp only [Option.bind_some, hd]
      rw [h.val g p d hp hd hon]
   simp only [this]
theorem putOps_at : ∀ (os : List Oper) (vs : List Value) (a : Act) (k : Nat) (o : Oper) (d : Tmp), os[k]? = some o → o.dst = some d → (∀ (k' : Nat) (o' : Oper), os[k']? = some o' → k' ≠ k → o'.dst ≠ some d) →
  (putOps os vs a).tmps[d]? = match vs[k]? with | some v => (if d < a.tmps.size then some v else none) | none => a.tmps[d]?
 | [], _, _, k, _, _, h, _, _ => by simp at h
 | _ :: _, [], a, k, _, _, _, _, _ => by simp [putOps]
 | p :: os, v :: vs, a, 0, o, d, h, hd, hn => by
  simp at h
  subst h
  have h3 := (putOps_out os vs (a.put p.dst v)).2.2 d fun q hq => by
   obtain ⟨k, hk⟩ := List.getElem?_of_mem hq
   exact hn (k + 1) q (by simpa using hk) (by omega)
  rw [putOps, h3, hd]
  simp [Act.put, Array.getElem?_setIfInBounds]
 | p :: os, v :: vs, a, k + 1, o, d, h, hd, hn => by
  have h3 := putOps_at os vs (a.put p.dst v) k o d (by simpa using h) hd fun k' o' hk hne => hn (k' + 1) o' (by simpa using hk) (by omega)
  have hp := hn 0 p (by simp) (by omega)
  rw [putOps, h3]
  have hsz : (a.put p.dst v).tmps.size = a.tmps.size := by cases p.dst <;> simp [Act.put]
  have h4 : (a.put p.dst v).tmps[d]? = a.tmps[d]? := by
   cases hq : p.dst with
   | none => rfl
   | some c =>
    have : c ≠ d := fun e => hp (by rw [hq, e])
    simp [Act.put, Array.getElem?_setIfInBounds_ne this]
  simp only [List.getElem?_cons_succ, hsz, h4]
theorem Fr.turn {σ : Type} {vals : σ → List Value} {a0 : Act} {fin : σ → Act} (hf : ∀ x, putOps ops.toList (vals x) a0 = fin x) (hln : ∀ x, (vals x).length = ops.size) (hb : rgB ops = true) {x x' : σ} {L : Array Bool} {a : Act} (h : Fr ops (fin x) L a) {i : Nat} {o : Oper} (ho : ops[i]? = some o)
  {u v : Value} (hu : (fin x).put o.dst u = (fin x).put o.dst v) (hv : vals x' = (vals x).set i v) : Fr ops (fin x') (L.setIfInBounds i true) (a.put o.dst u) := by
 have b4 := fun (k : Nat) (p : Oper) (hk : ops[k]? = some p) => (rgB_op hb hk).2.2.2
 have hi := (Array.getElem?_eq_some_iff.1 ho).1
 have at_ : ∀ (y : σ) (k : Nat) (p : Oper) (d : Tmp), ops[k]? = some p → p.dst = some d → (fin y).tmps[d]? = match (vals y)[k]? with | some v => (if d < a0.tmps.size then some v else none) | none => a0.tmps[d]? := fun y k p d hk hd => by
  rw [← hf y]
  exact putOps_at _ _ _ k p d (by simpa using hk) hd fun k' o' hk' hne e => b4 k p hk k' o' d (by simpa using hk') hne e hd
 have sz : ∀ y, (fin y).tmps.size = a0.tmps.size := fun y => by rw [← hf y]; exact (putOps_out _ _ _).2.1
 have df : ∀ y, (fin y).defers = a0.defers := fun y => by rw [← hf y]; exact (putOps_out _ _ _).1
 have out : ∀ y (j : Nat), (∀ (k : Nat) (p : Oper), ops[k]? = some p → p.dst ≠ some j) → (fin y).tmps[j]? = a0.tmps[j]? := fun y j hj => by
  rw [← hf y]
  refine (putOps_out _ _ _).2.2 j fun p hp => ?_
  obtain ⟨k, hk⟩ := List.getElem?_of_mem hp
  exact hj k p (by simpa using hk)
 have psz : ∀ (b : Act), (b.put o.dst u).tmps.size = b.tmps.size := fun b => by cases o.dst <;> simp [Act.put]
 refine ⟨?_, ?_, ?_, ?_⟩
 ·rw [df]
  have := h.df
  rw [df] at this
  rw [← this]
  cases o.dst <;> rfl
 ·rw [psz, h.ts, sz, sz]
 ·intro j hj
  rw [out x' j hj, ← out x j hj, ← h.out j hj]
  cases hd : o.dst with
  | none => rfl
  | some c =>
   have : c ≠ j := fun e => hj i o ho (by rw [hd, e])
   simp [Act.put, Array.getElem?_setIfInBounds_ne this]
 ·intro k p d hk hp hL
  by_cases e : i = k
  ·subst e
   rw [ho] at hk
   cases hk
   rw [at_ x' i o d ho hp, hv]
   have h1 : ((vals x).set i v)[i]? = some v := by
    have : i < (vals x).length := by rw [hln]; exact hi
    simp [this]
   rw [h1, hp]
   rw [hp] at hu
   have h2 := congrArg (fun b : Act => b.tmps[d]?) hu
   have h3 := h.ts
   have h4 := sz x
   simp only [Act.put, Array.getElem?_setIfInBounds] at h2 ⊢
   simp only [h3, h4] at h2 ⊢
   by_cases h5 : d < a0.tmps.size
   ·simp [h5] at h2 ⊢
    exact h2
   ·simp [h5]
  ·have hne : o.dst ≠ some d := fun e2 => b4 k p hk i o d ho e e2 hp
   have h1 : (fin x').tmps[d]? = (fin x).tmps[d]? := by
    rw [at_ x' k p d hk hp, at_ x k p d hk hp, hv]
    simp [e]
   rw [h1, ← h.val k p d hk hp (up e hL)]
   cases hd : o.dst with
   | none => rfl
   | some c =>
    have : c ≠ d := fun e3 => hne (by rw [hd, e3])
    simp [Act.put, Array.getElem?_setIfInBounds_ne this]
theorem rg_val {id : Nat} {a : Act} {w : World} {Q : Exit → Act → World → Prop} {σ : Type} (vals : σ → List Value) (I : σ → Array Bool → World → Prop) {fin : σ → Act} (hf : ∀ x, putOps ops.toList (vals x) a = fin x) (hm : P.follows .mixedOrders = true) (hb : rgB ops = true) (hln : ∀ x, (vals x).length = ops.size)
  (x0 : σ) (h0 : I x0 (Array.replicate ops.size false) w.drew)
  (hstep : ∀ x L W, L.size = ops.size → (∀ i k, Region.waitsFor .any ops i k = true → L.getD i false = true → L.getD k false = true) → I x L W → ∀ i o, ops[i]? = some o → L.getD i true = false → (∀ k, Region.waitsFor .any ops i k = true → L.getD k false = true) →
   ∀ K : Act → World → Prop, (∀ W', I x (L.setIfInBounds i true) W' → K (fin x) W') → (∀ v x' W', vals x' = (vals x).set i v → I x' (L.setIfInBounds i true) W' → K ((fin x).put o.dst v) W') →
    if Region.wanted o (yielded ops (fin x).tmps) = true then o.wp P (fin x) W K rgQ else K ((fin x).put o.dst undef) W)
  (hend : ∀ x L W, I x L W → (∀ k, k < ops.size → L.getD k false = true) → Q .normal (fin x) W) : (Code.region id ops true).wp P Q a w := by
 have hoff0 : ∀ i, (Array.replicate ops.size false).getD i false = false := fun i => by
  simp only [Array.getD_eq_getD_getElem?, Array.getElem?_replicate]
  split <;> rfl
 refine wp_region_inv (fun L a' W => L.size = ops.size ∧ (∀ i k, Region.waitsFor .any ops i k = true → L.getD i false = true → L.getD k false = true) ∧ ∃ x, Fr ops (fin x) L a' ∧ I x L W) hm ⟨by simp, (fun i k _ h => by rw [hoff0] at h; cases h), x0, Fr.start (hf x0), h0⟩ ?_ ?_
 ·rintro L a' W i ⟨hsz, hcl, x, hF, hI⟩ hr
  obtain ⟨hoff, o, ho, hdep⟩ := mem_ready.1 hr
  have hgo := hstep x L W hsz hcl hI i o ho hoff (fun k hk => ready_dep hr hk)
   (fun b W' => (b = fin x ∧ I x (L.setIfInBounds i true) W') ∨ ∃ v x', b = (fin x).put o.dst v ∧ vals x' = (vals x).set i v ∧ I x' (L.setIfInBounds i true) W') (fun W' h => .inl ⟨rfl, h⟩) (fun v x' W' hv h => .inr ⟨v, x', rfl, hv, h⟩)
  obtain ⟨e1, e2⟩ := hF.eval hb ho hr
  have key : ∀ u W', (((fin x).put o.dst u = fin x ∧ I x (L.setIfInBounds i true) W') ∨ ∃ v x', (fin x).put o.dst u = (fin x).put o.dst v ∧ vals x' = (vals x).set i v ∧ I x' (L.setIfInBounds i true) W') →
    (L.setIfInBounds i true).size = ops.size ∧ (∀ j k, Region.waitsFor .any ops j k = true → (L.setIfInBounds i true).getD j false = true → (L.setIfInBounds i true).getD k false = true) ∧ ∃ x, Fr ops (fin x) (L.setIfInBounds i true) (a'.put o.dst u) ∧ I x (L.setIfInBounds i true) W' := by
   intro u W' hh
   refine ⟨by simpa using hsz, (fun j k hw hj => ?_), ?_⟩
   ·by_cases e : i = j
    ·subst e
     exact getD_set_true (ready_dep hr hw)
    ·exact getD_set_true (hcl j k hw (up e hj))
   ·rcases hh with ⟨hv, hI'⟩ | ⟨v, x', hu, hv, hI'⟩
    ·exact ⟨x, hF.put hb ho hv, hI'⟩
    ·exact ⟨x', hF.turn hf hln hb ho hu hv, hI'⟩
  unfold wpOp
  simp only [ho]
  rw [e2]
  split
  ·rename_i hw
   rw [if_pos hw] at hgo
   refine .inl ?_
   unfold Oper.wp at hgo ⊢
   rw [e1]
   generalize (execOp (fin x).eval o).run P W = r at hgo ⊢
   cases r with
   | ok nx W' =>
    cases nx <;> simp only [Oper.upon] at hgo ⊢
    case value v => exact key v W' hgo
    case skip => exact key undef W' hgo
    case defer d =>
     exfalso
     rcases hgo with ⟨h1, _⟩ | ⟨v, x', h1, _, _⟩ <;> (have := congrArg Act.defers h1; cases hd : o.dst <;> simp [hd, Act.put] at this)
    case enter f args =>
     refine Calls.mono hgo fun e W'' he => ?_
     cases e with
     | returned v => exact key v W'' he
     | panicked c => exact he.elim
     | outgrown =>
      obtain ⟨_, _, h⟩ := he
      exact h.elim
    case row r args => exact Rows.mono hgo fun v W'' he => key v W'' he
   | halt x W' => cases x <;> simp only [Oper.upon] at hgo ⊢ <;> exact hgo.elim
  ·rename_i hw
   rw [if_neg hw] at hgo
   exact key undef W hgo
 ·rintro L a' W ⟨hsz, hcl, x, hF, hI⟩ hr
  have hall := all_listedM hr hsz ((Bool.and_eq_true _ _).mp hb).1
  have : a' = fin x := by
   obtain ⟨t1, d1⟩ := a'
   have hfx := hf x
   revert hF
   generalize fin x = fx
   intro hF
   obtain ⟨t2, d2⟩ := fx
   have h1 := hF.df
   simp only at h1
   subst h1
   congr 1
   apply Array.ext_getElem?
   intro j
   by_cases hq : ∀ (k : Nat) (p : Oper), ops[k]? = some p → p.dst ≠ some j
   ·exact hF.out j hq
   ·simp only [Classical.not_forall, Classical.not_not] at hq
    obtain ⟨k, p, hk, hp⟩ := hq
    exact hF.val k p j hk hp (hall k (Array.getElem?_eq_some_iff.1 hk).1)
  subst this
  exact hend x L W hI hall
def RgF (P : Program) (ops : Array Oper) (fin : Act) (post : World → Prop) (W : World) : List Oper → List Bool → Prop
 | o :: os, true :: fs => RgF P ops fin post W os fs ∧ ∀ K : Act → World → Prop, (∀ W', post W' → K fin W') →
    if Region.wanted o (yielded ops fin.tmps) = true then o.wp P fin W K rgQ else K (fin.put o.dst undef) W
 | _ :: os, false :: fs => RgF P ops fin post W os fs
 | _, _ => True
theorem RgF.at_ {fin : Act} {post : World → Prop} {W : World} : ∀ {os : List Oper} {fs : List Bool}, RgF P ops fin post W os fs → ∀ {i : Nat} {o : Oper}, os[i]? = some o → fs[i]? = some true → ∀ K : Act → World → Prop, (∀ W', post W' → K fin W') →
    if Region.wanted o (yielded ops fin.tmps) = true then o.wp P fin W K rgQ else K (fin.put o.dst undef) W
 | [], _, _, i, o, h, _ => by simp at h
 | _ :: _, [], _, i, o, _, h => by simp at h
 | p :: os, true :: fs, h, 0, o, ho, _ => by
  simp at ho
  subst ho
  exact h.2
 | p :: os, false :: fs, h, 0, o, ho, hf => by simp at hf
 | p :: os, true :: fs, h, i + 1, o, ho, hf => RgF.at_ (os := os) (fs := fs) h.1 (by simpa using ho) (by simpa using hf)
 | p :: os, false :: fs, h, i + 1, o, ho, hf => RgF.at_ (os := os) (fs := fs) h (by simpa using ho) (by simpa using hf)
theorem off_of {L : Array Bool} {i : Nat} (h : L.getD i true = false) : L.getD i false = false := by
 simp only [Array.getD] at h ⊢
 split at h <;> simp_all
def cloB (ops : Array Oper) : List Nat → List Nat → Bool
 | _, [] => true
 | acc, i :: is => (acc.any fun k => Region.waitsFor .any ops k i) && cloB ops (i :: acc) is
theorem cloB_on {L : Array Bool} (hcl : ∀ i k, Region.waitsFor .any ops i k = true → L.getD i false = true → L.getD k false = true) : ∀ (is acc : List Nat), cloB ops acc is = true → (∀ k ∈ acc, L.getD k false = true) → ∀ i ∈ is, L.getD i false = true
 | [], _, _, _ => by simp
 | i :: is, acc, h, ha => by
  obtain ⟨h1, h2⟩ := (Bool.and_eq_true _ _).mp h
  obtain ⟨k, hk, hw⟩ := List.any_eq_true.1 h1
  have hi := hcl k i hw (ha k hk)
  have := cloB_on hcl is (i :: acc) h2 (by intro x hx; rcases List.mem_cons.1 hx with rfl | hx; exact hi; exact ha x hx)
  intro x hx
  rcases List.mem_cons.1 hx with rfl | hx
  ·exact hi
  ·exact this x hx
def chainB (ops : Array Oper) (T clo : List Nat) (f0 f1 : List Bool) : Bool :=
 (T.all fun t => Nat.blt t ops.size) && (List.range T.length).all (fun q => Nat.beq q 0 || Region.waitsFor .any ops (T.getD q 0) (T.getD (q - 1) 0)) && cloB ops [T.getD 0 0] clo &&
 (List.range ops.size).all (fun i => T.contains i || f0.getD i false && (clo.contains i || f1.getD i false)) && decide T.Nodup
def updV (x : Nat → Value) (j : Nat) (v : Value) : Nat → Value := fun k => bif Nat.beq k j then v else x k
theorem rg_chain {id : Nat} {a : Act} {w : World} {Q : Exit → Act → World → Prop} (T clo : List Nat) (f0 f1 : List Bool) (vals : (Nat → Value) → List Value) (St : Nat → (Nat → Value) → World → Prop) {fin : (Nat → Value) → Act} (hf : ∀ x, putOps ops.toList (vals x) a = fin x) (hm : P.follows .mixedOrders = true) (hb : rgB ops = true) (hln : ∀ x, (vals x).length = ops.size)
  (hc : chainB ops T clo f0 f1 = true) (hvs : ∀ x j t v, T[j]? = some t → vals (updV x j v) = (vals x).set t v) (h0 : St 0 (fun _ => undef) w.drew)
  (hA : ∀ x W, St 0 x W → RgF P ops (fin x) (St 0 x) W ops.toList f0)
  (hB : ∀ j x W, 0 < j → j ≤ T.length → St j x W → RgF P ops (fin x) (St j x) W ops.toList f1)
  (hT : ∀ j t x W, T[j]? = some t → St j x W → ∀ o, ops[t]? = some o → ∀ K : Act → World → Prop, (∀ v W', St (j + 1) (updV x j v) W' → K ((fin x).put o.dst v) W') →
    if Region.wanted o (yielded ops (fin x).tmps) = true then o.wp P (fin x) W K rgQ else K ((fin x).put o.dst undef) W)
  (hend : ∀ x W, St T.length x W → Q .normal (fin x) W) : (Code.region id ops true).wp P Q a w := by
 unfold chainB at hc
 obtain ⟨hc, c5⟩ := (Bool.and_eq_true _ _).mp hc
 obtain ⟨hc, c4⟩ := (Bool.and_eq_true _ _).mp hc
 obtain ⟨hc, c3⟩ := (Bool.and_eq_true _ _).mp hc
 obtain ⟨c1, c2⟩ := (Bool.and_eq_true _ _).mp hc
 have hnd : T.Nodup := of_decide_eq_true c5
 have hlt : ∀ q t, T[q]? = some t → t < ops.size := fun q t h => Nat.le_of_ble_eq_true (List.all_eq_true.1 c1 t (List.mem_of_getElem? h))
 have hww : ∀ q t s, T[q + 1]? = some t → T[q]? = some s → Region.waitsFor .any ops t s = true := fun q t s h1 h2 => by
  have h3 := (List.getElem?_eq_some_iff.1 h1).1
  have h := List.all_eq_true.1 c2 (q + 1) (List.mem_range.2 h3)
  simp only [List.getD_eq_getElem?_getD, h1, Nat.add_sub_cancel, h2, Option.getD_some] at h
  rcases Bool.or_eq_true _ _ |>.mp h with h | h
  ·simp at h
  ·exact h
 have hoff0 : ∀ i, (Array.replicate ops.size false).getD i false = false := fun i => by
  simp only [Array.getD_eq_getD_getElem?, Array.getElem?_replicate]
  split <;> rfl
 refine rg_val vals (fun x L W => ∃ j, j ≤ T.length ∧ (∀ q t, T[q]? = some t → (L.getD t false = true ↔ q < j)) ∧ St j x W) hf hm hb hln (fun _ => undef) ⟨0, Nat.zero_le _, fun q t _ => by rw [hoff0]; simp, h0⟩ ?_ ?_
 ·rintro x L W hsz hcl ⟨j, hj, hon, hst⟩ i o ho hoff hdep K hK hKx
  have hi := (Array.getElem?_eq_some_iff.1 ho).1
  have hself : (L.setIfInBounds i true).getD i false = true := by
   have : i < L.size := by omega
   simp [this]
  have hoff2 : L.getD i false = false := off_of hoff
  by_cases hT' : ∃ q : Nat, T[q]? = some i
  ·obtain ⟨q, hq⟩ := hT'
   have h1 : ¬ q < j := fun h => by rw [(hon q i hq).2 h] at hoff2; cases hoff2
   have h2 : q = j := by
    cases q with
    | zero => omega
    | succ q =>
     have hql := (List.getElem?_eq_some_iff.1 hq).1
     obtain ⟨s, hs⟩ : ∃ s, T[q]? = some s := ⟨_, List.getElem?_eq_getElem (by omega)⟩
     have := (hon q s hs).1 (hdep s (hww q i s hq hs))
     omega
   subst h2
   have hql := (List.getElem?_eq_some_iff.1 hq).1
   refine hT q i x W hq hst o ho K fun v W' h => hKx v (updV x q v) W' (hvs x q i v hq) ⟨q + 1, by omega, fun q' t' hq' => ?_, h⟩
   by_cases e : i = t'
   ·subst e
    have : q' = q := by
     have a1 := (List.getElem?_eq_some_iff.1 hq')
     have a2 := (List.getElem?_eq_some_iff.1 hq)
     exact (List.getElem_inj hnd).1 (a1.2.trans a2.2.symm)
    subst this
    rw [hself]
    simp
   ·rw [getD_set_ne false e, hon q' t' hq']
    have : q' ≠ q := fun e2 => by rw [e2, hq] at hq'; exact e (Option.some.inj hq')
    omega
  ·have hni : T.contains i = false := by
    rw [← Bool.not_eq_true, List.contains_iff_mem]
    intro hm'
    obtain ⟨q, hq⟩ := List.getElem?_of_mem hm'
    exact hT' ⟨q, hq⟩
   have h4 := List.all_eq_true.1 c4 i (List.mem_range.2 hi)
   rw [hni, Bool.false_or, Bool.and_eq_true] at h4
   have key : ∀ W', St j x W' → K (fin x) W' := fun W' h => hK W' ⟨j, hj, fun q t hq => by
    have : i ≠ t := fun e => hT' ⟨q, by rw [e]; exact hq⟩
    rw [getD_set_ne false this]
    exact hon q t hq, h⟩
   have fl : ∀ f : List Bool, f.getD i false = true → f[i]? = some true := fun f h => by
    rw [List.getD_eq_getElem?_getD] at h
    cases hq : f[i]? with
    | none => rw [hq] at h; cases h
    | some b => rw [hq] at h; simp at h; rw [h]
   cases j with
   | zero => exact (hA x W hst).at_ (by simpa using ho) (fl _ h4.1) K key
   | succ j =>
    refine (hB (j + 1) x W (by omega) hj hst).at_ (by simpa using ho) (fl _ ?_) K key
    obtain ⟨s, hs⟩ : ∃ s, T[0]? = some s := ⟨_, List.getElem?_eq_getElem (by omega)⟩
    have hs2 : T.getD 0 0 = s := by rw [List.getD_eq_getElem?_getD, hs]; rfl
    rcases Bool.or_eq_true _ _ |>.mp h4.2 with h5 | h5
    ·exfalso
     rw [List.contains_iff_mem] at h5
     have := cloB_on hcl clo [T.getD 0 0] c3 (by intro k hk; rw [List.mem_singleton] at hk; subst hk; rw [hs2]; exact (hon 0 s hs).2 (by omega)) i h5
     rw [hoff2] at this
     cases this
    ·exact h5
 ·rintro x L W ⟨j, hj, hon, hst⟩ hall
  have : j = T.length := by
   by_cases h : j < T.length
   ·exfalso
    obtain ⟨s, hs⟩ : ∃ s, T[j]? = some s := ⟨_, List.getElem?_eq_getElem h⟩
    have := (hon j s hs).1 (hall s (hlt j s hs))
    omega
   ·omega
  subst this
  exact hend x W hst
theorem rg_plain {id : Nat} {a : Act} {w : World} {Q : Exit → Act → World → Prop} (vals : List Value) (S : World → Prop) {fin : Act} (hf : putOps ops.toList vals a = fin) (hm : P.follows .mixedOrders = true) (hb : rgB ops = true) (hln : vals.length = ops.size)
  (h0 : S w.drew) (hstep : ∀ W, S W → RgF P ops fin S W ops.toList (List.replicate ops.size true)) (hend : ∀ W, S W → Q .normal fin W) : (Code.region id ops true).wp P Q a w := by
 refine rg_val (σ := Unit) (fun _ => vals) (fun _ _ W => S W) (fun _ => hf) hm hb (fun _ => hln) () h0 (fun _ L W _ _ h i o ho _ _ K hK _ => ?_) (fun _ _ W h _ => hend W h)
 exact (hstep W h).at_ (by simpa using ho) (by rw [List.getElem?_replicate, if_pos (Array.getElem?_eq_some_iff.1 ho).1]) K hK
end
end
end Go.Proofs.YtpkjekedgodccaaGreatDoor
