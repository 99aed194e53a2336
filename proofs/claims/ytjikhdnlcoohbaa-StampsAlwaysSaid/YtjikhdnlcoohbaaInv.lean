/- A region that draws its order, by an invariant: what holds of every set of operations that have come up; three of them change memory, one behind the other. -/
import Derived.Test.YtjikhdnlcoohbaaSt1
import Derived.StillTail
namespace Go.Proofs.Ytjikhdnlcoohbaa
set_option linter.unusedSimpArgs false
set_option linter.unusedVariables false
open Go.RowKit

theorem filter_lt {α : Type} (p q : α → Bool) : ∀ (l : List α), (∀ x, q x = true → p x = true) → (∃ x ∈ l, p x = true ∧ q x = false) → (l.filter q).length < (l.filter p).length := by
  intro l hpq
  have hle : ∀ l : List α, (l.filter q).length ≤ (l.filter p).length := by
    intro l
    induction l with
    | nil => simp
    | cons x l ih =>
      simp only [List.filter_cons]
      cases hq : q x
      · simp only [Bool.false_eq_true, if_false]
        split <;> (try simp only [List.length_cons]) <;> omega
      · rw [hpq x hq]
        simp only [if_true, List.length_cons]
        omega
  induction l with
  | nil => rintro ⟨x, hx, _⟩; cases hx
  | cons y l ih =>
    rintro ⟨x, hx, h1, h2⟩
    simp only [List.filter_cons]
    rcases List.mem_cons.1 hx with rfl | hx
    · rw [h1, h2]
      have := hle l
      simp only [Bool.false_eq_true, if_false, if_true, List.length_cons]
      omega
    · have := ih ⟨x, hx, h1, h2⟩
      cases hq : q y
      · simp only [Bool.false_eq_true, if_false]
        split <;> (try simp only [List.length_cons]) <;> omega
      · rw [hpq y hq]
        simp only [if_true, List.length_cons]
        omega

section
variable {P : Program} {ops : Array Oper} {Q : Exit → Act → World → Prop} {md : Region.Mode}
def unlisted (ops : Array Oper) (listed : Array Bool) : Nat := ((List.range ops.size).filter (fun j => listed.getD j true == false)).length
theorem ready_lt {listed : Array Bool} {i : Nat} (h : i ∈ Region.ready md ops listed) : i < ops.size := by
  obtain ⟨_, o, ho, _⟩ := mem_ready.1 h
  exact (Array.getElem?_eq_some_iff.1 ho).1
theorem ready_dep {listed : Array Bool} {i k : Nat} (h : i ∈ Region.ready md ops listed) (hw : Region.waitsFor md ops i k = true) : listed.getD k false = true := by
  obtain ⟨_, o, ho, hall⟩ := mem_ready.1 h
  obtain ⟨oj, hoj, e, he, hb, hon⟩ := Region.waitsFor_spec hw
  obtain rfl : o = oj := Option.some.inj (ho.symm.trans hoj)
  rw [← hon]
  exact hall e he hb
theorem wpAny_inv (I : Array Bool → Act → World → Prop)
    (hstep : ∀ listed a w i, I listed a w → i ∈ Region.ready md ops listed → wpOp P ops Q i (fun a' w' => I (listed.setIfInBounds i true) a' w') a w)
    (hend : ∀ listed a w, I listed a w → Region.ready md ops listed = [] → Q .normal a w) :
    ∀ (fuel : Nat) (listed : Array Bool) (a : Act) (w : World), unlisted ops listed ≤ fuel → I listed a w → wpAny P md ops Q fuel listed a w := by
  intro fuel
  induction fuel with
  | zero =>
    intro listed a w hc hI
    have hr : Region.ready md ops listed = [] := by
      apply List.eq_nil_iff_forall_not_mem.2
      intro j hj
      have h1 := ready_lt hj
      have h2 := (mem_ready.1 hj).1
      have h3 : j ∈ (List.range ops.size).filter (fun j => listed.getD j true == false) := List.mem_filter.2 ⟨List.mem_range.2 h1, by rw [h2]; rfl⟩
      have h4 := List.length_pos_of_mem h3
      unfold unlisted at hc
      omega
    exact ⟨hr, hend listed a w hI hr⟩
  | succ fuel ih =>
    intro listed a w hc hI
    refine ⟨fun h => hend listed a w hI h, fun i hi => ?_⟩
    refine wpOp_mono (fun a' w' hI' => ih _ a' w' ?_ hI') (hstep listed a w i hI hi)
    have h1 := ready_lt hi
    have h2 := (mem_ready.1 hi).1
    have h3 : i < listed.size := by
      rcases Nat.lt_or_ge i listed.size with h | h
      · exact h
      · simp [h] at h2
    have h4 : unlisted ops (listed.setIfInBounds i true) < unlisted ops listed := by
      unfold unlisted
      apply filter_lt
      · intro x hx
        by_cases hxi : i = x
        · subst hxi
          simp [h3] at hx
        · rw [getD_set_ne true hxi] at hx
          exact hx
      · exact ⟨i, List.mem_range.2 h1, by rw [h2]; rfl, by simp [h3]⟩
    omega
theorem unlisted_le (listed : Array Bool) : unlisted ops listed ≤ ops.size := by
  unfold unlisted
  exact Nat.le_trans (List.length_filter_le _ _) (by simp)
theorem wp_region_inv {id : Nat} {a : Act} {w : World} (I : Array Bool → Act → World → Prop) (hm : P.follows .mixedOrders = true)
    (h0 : I (Array.replicate ops.size false) a w.drew)
    (hstep : ∀ listed a w i, I listed a w → i ∈ Region.ready .any ops listed → wpOp P ops Q i (fun a' w' => I (listed.setIfInBounds i true) a' w') a w)
    (hend : ∀ listed a w, I listed a w → Region.ready .any ops listed = [] → Q .normal a w) : (Code.region id ops true).wp P Q a w :=
  wp_region_any hm (wpAny_inv I hstep hend ops.size _ a w.drew (unlisted_le _) h0)
/-- At the end all operations have come up, one after the other: number k, if those for which it waits have. -/
theorem end_listed {listed : Array Bool} (h : Region.ready md ops listed = []) {k : Nat} {o : Oper} (ho : ops[k]? = some o) (hs : listed.size = ops.size)
    (hd : ∀ e ∈ o.after, Region.binds md e = true → listed.getD e.on false = true) : listed.getD k false = true := by
  have hk := (Array.getElem?_eq_some_iff.1 ho).1
  cases hl : listed.getD k false with
  | true => rfl
  | false =>
    have h2 : listed.getD k true = false := by
      have : k < listed.size := by omega
      simp [this] at hl ⊢
      exact hl
    have : k ∈ Region.ready md ops listed := mem_ready.2 ⟨h2, o, ho, hd⟩
    rw [h] at this
    cases this
def backB (ops : Array Oper) : Bool := (List.range ops.size).all fun k => match ops[k]? with
  | some o => o.after.all fun e => decide (e.on < k)
  | none => true
theorem all_listed {listed : Array Bool} (h : Region.ready md ops listed = []) (hs : listed.size = ops.size) (hb : backB ops = true) : ∀ k, k < ops.size → listed.getD k false = true := by
  intro k
  induction k using Nat.strongRecOn with
  | _ k ih =>
    intro hk
    have h1 := List.all_eq_true.1 hb k (List.mem_range.2 hk)
    have h2 : ops[k]? = some ops[k] := Array.getElem?_eq_getElem hk
    rw [h2] at h1
    simp only at h1
    refine end_listed h h2 hs fun e he _ => ?_
    have h3 := Array.all_eq_true'.1 h1 e he
    have h4 := of_decide_eq_true h3
    exact ih e.on h4 (by omega)
theorem up {listed : Array Bool} {i j : Nat} (hne : i ≠ j) (h : (listed.setIfInBounds i true).getD j false = true) : listed.getD j false = true := by rwa [getD_set_ne false hne] at h
end
def backM (md : Region.Mode) (ops : Array Oper) : Bool := (List.range ops.size).all fun k => match ops[k]? with
  | some o => o.after.all fun e => !Region.binds md e || decide (e.on < k)
  | none => true
theorem all_listedM {md : Region.Mode} {ops : Array Oper} {listed : Array Bool} (h : Region.ready md ops listed = []) (hs : listed.size = ops.size) (hb : backM md ops = true) : ∀ k, k < ops.size → listed.getD k false = true := by
  intro k
  induction k using Nat.strongRecOn with
  | _ k ih =>
    intro hk
    have h1 := List.all_eq_true.1 hb k (List.mem_range.2 hk)
    have h2 : ops[k]? = some ops[k] := Array.getElem?_eq_getElem hk
    rw [h2] at h1
    simp only at h1
    refine end_listed h h2 hs fun e he hbd => ?_
    have h3 := Array.all_eq_true'.1 h1 e he
    rw [hbd] at h3
    have h4 := of_decide_eq_true (by simpa using h3 : decide (e.on < k) = true)
    exact ih e.on h4 (by omega)
/-- The values of the region's operations, by their numbers. -/
def upd (s : Nat → Value) (i : Nat) (v : Value) : Nat → Value := fun j => bif Nat.beq j i then v else s j
theorem nbeq {j i : Nat} : Nat.beq j i = false ↔ j ≠ i := by rw [← Bool.not_eq_true, Nat.beq_eq]
theorem upd_eq (s : Nat → Value) (i : Nat) (v : Value) : upd s i v i = v := by simp [upd]
theorem upd_ne {s : Nat → Value} {i j : Nat} {v : Value} (h : j ≠ i) : upd s i v j = s j := by
  have : Nat.beq j i = false := nbeq.2 h
  simp [upd, this]
def listF (l : List Value) (i : Nat) : Value := l.getD i undef
/-- What has come up holds its value. -/
structure Sv (n : Nat) (vals : List (Option Value)) (L : Array Bool) (s : Nat → Value) : Prop where
  sz : L.size = n
  val : ∀ i v, vals[i]? = some (some v) → L.getD i false = true → s i = v
theorem Sv.start (n : Nat) (vals : List (Option Value)) (s : Nat → Value) : Sv n vals (Array.replicate n false) s :=
  ⟨by simp, fun i v _ hL => by simp only [Array.getD_eq_getD_getElem?, Array.getElem?_replicate] at hL; split at hL <;> simp at hL⟩
theorem Sv.v {n : Nat} {vals : List (Option Value)} {L : Array Bool} {s : Nat → Value} (h : Sv n vals L s) {i : Nat} {v : Value} (hL : L.getD i false = true) (hv : vals[i]? = some (some v)) : s i = v := h.val i v hv hL
theorem Sv.re {n : Nat} {vals : List (Option Value)} {L : Array Bool} {s : Nat → Value} (h : Sv n vals L s) {j : Nat} {v : Value} (e : s j = v) : Sv n vals L (upd s j v) := by
  have : upd s j v = s := by
    funext k
    by_cases hk : k = j
    · subst hk
      rw [upd_eq, e]
    · rw [upd_ne hk]
  rw [this]
  exact h
theorem Sv.put {n : Nat} {vals : List (Option Value)} {L : Array Bool} {s : Nat → Value} (h : Sv n vals L s) {i : Nat} {v : Value} (hv : ∀ u, vals[i]? = some (some u) → u = v) : Sv n vals (L.setIfInBounds i true) (upd s i v) := by
  refine ⟨by simpa using h.sz, ?_⟩
  intro j u hj hL
  by_cases hji : j = i
  · subst hji
    rw [upd_eq, hv u hj]
  · rw [upd_ne hji]
    exact h.val j u hj (up (fun e => hji e.symm) hL)
/-- Three operations that change memory, one behind the other. -/
def Stg (A B : World → Prop) (C : Value → World → Prop) (D : World → Prop) (la lb lc : Bool) (v : Value) (W : World) : Prop :=
  match lc, lb, la with
  | true, _, _ => D W
  | false, true, _ => C v W
  | false, false, true => B W
  | false, false, false => A W
theorem set_self {L : Array Bool} {i n : Nat} (h : L.size = n) (hi : i < n) : (L.setIfInBounds i true).getD i false = true := by
  subst h
  simp [hi]
theorem set_other {L : Array Bool} {i j : Nat} (h : i ≠ j) : (L.setIfInBounds i true).getD j false = L.getD j false := getD_set_ne false h
end Go.Proofs.Ytjikhdnlcoohbaa
