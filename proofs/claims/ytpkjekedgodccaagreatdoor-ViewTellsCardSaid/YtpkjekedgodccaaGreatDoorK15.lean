/- A region that draws its order, by one invariant for all such regions: which operations have come up, what their slots hold, which boxes they made and what lies in them. Words for rows of rows; which edges may be crossed within a face.. -/
import Derived.Test.YtpkjekedgodccaaGreatDoorK14
import Derived.WideKeyEntry
namespace Go.Proofs.YtpkjekedgodccaaGreatDoor
set_option linter.unusedSimpArgs false
set_option linter.unusedVariables false
section
section
open Go.RowKit
def updN (b : Nat → Nat) (i n : Nat) : Nat → Nat := fun j => bif Nat.beq j i then n else b j
theorem updN_eq (s : Nat → Nat) (i v : Nat) : updN s i v i = v := by simp [updN]
theorem updN_ne {s : Nat → Nat} {i j v : Nat} (h : j ≠ i) : updN s i v j = s j := by
 have : Nat.beq j i = false := nbeq.2 h
 simp [updN, this]
def listN (l : List Nat) (i : Nat) : Nat := l.getD i 0
structure Bx where
 al : Nat
 st : Nat
 d : Nat
 z : Obj
 f : Value → Obj
def isOn (n : Nat) (L : Array Bool) (i : Nat) : Bool := Nat.ble n i || L.getD i false
theorem isOn_lt {n : Nat} {L : Array Bool} {i : Nat} (hi : i < n) (h : isOn n L i = true) : L.getD i false = true := by
 have : Nat.ble n i = false := by
  cases hb : Nat.ble n i
  ·rfl
  ·exact absurd (Nat.le_of_ble_eq_true hb) (by omega)
 simpa [isOn, this] using h
theorem isOn_of {n : Nat} {L : Array Bool} {i : Nat} (h : L.getD i false = true) : isOn n L i = true := by simp only [isOn, h, Bool.or_true]
theorem isOn_set {n : Nat} {L : Array Bool} {i j : Nat} (h : isOn n (L.setIfInBounds i true) j = true) (hne : j ≠ i) : isOn n L j = true := by
 unfold isOn at *
 rwa [getD_set_ne false (Ne.symm hne)] at h
theorem isOn_keep {n : Nat} {L : Array Bool} {i j : Nat} (h : isOn n L j = true) : isOn n (L.setIfInBounds i true) j = true := by
 unfold isOn at *
 rcases Bool.or_eq_true _ _ ▸ h with h | h
 ·rw [h, Bool.true_or]
 ·rw [getD_set_true h, Bool.or_true]
theorem isOn_no {n : Nat} {L : Array Bool} {i : Nat} (hi : i < n) (h : L.getD i true = false) : isOn n L i = false := by
 cases hc : isOn n L i
 ·rfl
 ·have h1 := isOn_lt hi hc
  simp only [Array.getD] at h h1
  split at h1 <;> simp_all
def Foot (F : Value → World → Prop) (v : Value) (w : World) (X : Nat → Prop) : Prop := ∀ w' : World, w.heap.size ≤ w'.heap.size → (∀ k, X k → w'.heap[k]? = w.heap[k]?) → F v w'
structure RI (n B : Nat) (w1 : World) (vals : List (Option Value)) (mems : List (Option (Value → World → Prop))) (bxs : List Bx) (L : Array Bool) (s : Nat → Value) (b : Nat → Nat) (w : World) : Prop where
 sz : L.size = n
 bel : Below B w1 w
 hB : B ≤ w.heap.size
 val : ∀ i v, vals[i]? = some (some v) → isOn n L i = true → s i = v
 mem : ∀ i F, mems[i]? = some (some F) → isOn n L i = true → ∃ X : Nat → Prop, (∀ k, X k → k < w.heap.size) ∧ Foot F (s i) w X ∧ ∀ q ∈ bxs, isOn n L q.al = true → ¬ X (b q.al)
 box : ∀ q ∈ bxs, isOn n L q.al = true → s q.al = .pointer (some ⟨b q.al, 0, none⟩) ∧ B ≤ b q.al ∧ b q.al < w.heap.size ∧ (isOn n L q.st = false → w.heap[b q.al]? = some q.z) ∧ (isOn n L q.st = true → isOn n L q.d = true ∧ w.heap[b q.al]? = some (q.f (s q.d)))
 dep : ∀ q ∈ bxs, isOn n L q.st = true → isOn n L q.al = true
 dist : ∀ q ∈ bxs, ∀ q' ∈ bxs, isOn n L q.al = true → isOn n L q'.al = true → q.al ≠ q'.al → b q.al ≠ b q'.al
section
variable {n B : Nat} {w1 : World} {vals : List (Option Value)} {mems : List (Option (Value → World → Prop))} {bxs : List Bx} {L : Array Bool} {s : Nat → Value} {b : Nat → Nat} {w w' : World}
theorem RI.v (h : RI n B w1 vals mems bxs L s b w) {i : Nat} {v : Value} (hL : L.getD i false = true) (hv : vals[i]? = some (some v)) : s i = v := h.val i v hv (isOn_of hL)
theorem RI.m (h : RI n B w1 vals mems bxs L s b w) {i : Nat} {F : Value → World → Prop} (hL : L.getD i false = true) (hv : mems[i]? = some (some F)) : F (s i) w := by
 obtain ⟨X, _, h2, _⟩ := h.mem i F hv (isOn_of hL)
 exact h2 w (Nat.le_refl _) (fun _ _ => rfl)
theorem RI.below (h : RI n B w1 vals mems bxs L s b w) (hb : Below w.heap.size w w') : RI n B w1 vals mems bxs L s b w' := by
 refine ⟨h.sz, h.bel.trans (hb.mono h.hB), Nat.le_trans h.hB hb.size, h.val, ?_, ?_, h.dep, h.dist⟩
 ·intro i F hF hL
  obtain ⟨X, h1, h2, h3⟩ := h.mem i F hF hL
  refine ⟨X, fun k hk => Nat.lt_of_lt_of_le (h1 k hk) hb.size, ?_, h3⟩
  intro w'' hs hk
  exact h2 w'' (Nat.le_trans hb.size hs) (fun k hX => (hk k hX).trans (hb.block k (h1 k hX)))
 ·intro q hq hL
  obtain ⟨h1, h2, h3, h4, h5⟩ := h.box q hq hL
  exact ⟨h1, h2, Nat.lt_of_lt_of_le h3 hb.size, fun hn => (hb.block _ h3).trans (h4 hn), fun hy => ⟨(h5 hy).1, (hb.block _ h3).trans (h5 hy).2⟩⟩
def noBox (bxs : List Bx) (i : Nat) : Bool := bxs.all fun q => !(Nat.beq q.al i) && !(Nat.beq q.st i)
theorem noBox_al {i : Nat} (h : noBox bxs i = true) {q : Bx} (hq : q ∈ bxs) : q.al ≠ i ∧ q.st ≠ i := by
 have := List.all_eq_true.1 h q hq
 simp only [Bool.and_eq_true, Bool.not_eq_true', nbeq] at this
 exact this
theorem RI.put (h : RI n B w1 vals mems bxs L s b w) {i : Nat} {v : Value} (hno : isOn n L i = false) (hb : noBox bxs i = true)
  (hv : ∀ v', vals[i]? = some (some v') → v = v')
  (hm : ∀ F, mems[i]? = some (some F) → ∃ X : Nat → Prop, (∀ k, X k → k < w.heap.size) ∧ Foot F v w X ∧ ∀ q ∈ bxs, isOn n L q.al = true → ¬ X (b q.al)) :
  RI n B w1 vals mems bxs (L.setIfInBounds i true) (upd s i v) b w := by
 have hne : ∀ {j}, isOn n L j = true → j ≠ i := fun hj e => by rw [e, hno] at hj; cases hj
 refine ⟨by simpa using h.sz, h.bel, h.hB, ?_, ?_, ?_, ?_, ?_⟩
 ·intro j v' hj hL
  by_cases e : j = i
  ·subst e
   rw [upd_eq]
   exact hv v' hj
  ·rw [upd_ne e]
   exact h.val j v' hj (isOn_set hL e)
 ·intro j F hj hL
  by_cases e : j = i
  ·subst e
   rw [upd_eq]
   obtain ⟨X, h1, h2, h3⟩ := hm F hj
   exact ⟨X, h1, h2, fun q hq hq1 => h3 q hq (isOn_set hq1 (noBox_al hb hq).1)⟩
  ·rw [upd_ne e]
   obtain ⟨X, h1, h2, h3⟩ := h.mem j F hj (isOn_set hL e)
   exact ⟨X, h1, h2, fun q hq hq1 => h3 q hq (isOn_set hq1 (noBox_al hb hq).1)⟩
 ·intro q hq hL
  obtain ⟨n1, n2⟩ := noBox_al hb hq
  obtain ⟨h1, h2, h3, h4, h5⟩ := h.box q hq (isOn_set hL n1)
  refine ⟨by rw [upd_ne n1]; exact h1, h2, h3, fun hn => h4 ?_, fun hy => ?_⟩
  ·cases hc : isOn n L q.st
   ·rfl
   ·rw [isOn_keep hc] at hn; cases hn
  ·obtain ⟨h6, h7⟩ := h5 (isOn_set hy n2)
   exact ⟨isOn_keep h6, by rw [upd_ne (hne h6)]; exact h7⟩
 ·exact fun q hq hL => isOn_keep (h.dep q hq (isOn_set hL (noBox_al hb hq).2))
 ·exact fun q hq q' hq' h1 h2 h3 => h.dist q hq q' hq' (isOn_set h1 (noBox_al hb hq).1) (isOn_set h2 (noBox_al hb hq').1) h3
theorem RI.putV (h : RI n B w1 vals mems bxs L s b w) {i : Nat} {v : Value} (hno : isOn n L i = false) (hb : noBox bxs i = true)
  (hv : vals[i]? = some (some v)) (hm : mems[i]? = some none) : RI n B w1 vals mems bxs (L.setIfInBounds i true) (upd s i v) b w :=
 h.put hno hb (fun v' h' => by rw [hv] at h'; exact Option.some.inj (Option.some.inj h')) (fun F hF => by rw [hm] at hF; cases hF)
theorem RI.callV (h : RI n B w1 vals mems bxs L s b w) {i : Nat} {v : Value} (hbl : Below w.heap.size w w') (hno : isOn n L i = false) (hb : noBox bxs i = true)
  (hv : vals[i]? = some (some v)) (hm : mems[i]? = some none) : RI n B w1 vals mems bxs (L.setIfInBounds i true) (upd s i v) b w' :=
 (h.below hbl).putV hno hb hv hm
theorem RI.new (h : RI n B w1 vals mems bxs L s b w) {i : Nat} {o : Obj} (hno : isOn n L i = false)
  (hq : (bxs.all fun q => !(Nat.beq q.st i)) = true) (hz : ∀ q ∈ bxs, q.al = i → q.z = o) (hv : vals[i]? = some none) (hm : mems[i]? = some none) :
  RI n B w1 vals mems bxs (L.setIfInBounds i true) (upd s i (.pointer (some ⟨w.heap.size, 0, none⟩))) (updN b i w.heap.size) (w.alloc o) := by
 have h0 := h.below (below_new w o)
 have hne : ∀ {j}, isOn n L j = true → j ≠ i := fun hj e => by rw [e, hno] at hj; cases hj
 have hst : ∀ {q : Bx}, q ∈ bxs → q.st ≠ i := fun hq' => by have := List.all_eq_true.1 hq _ hq'; simpa only [Bool.not_eq_true', nbeq] using this
 refine ⟨by simpa using h.sz, h0.bel, h0.hB, ?_, ?_, ?_, ?_, ?_⟩
 ·intro j v' hj hL
  by_cases e : j = i
  ·subst e
   rw [hv] at hj; cases hj
  ·rw [upd_ne e]
   exact h.val j v' hj (isOn_set hL e)
 ·intro j F hj hL
  by_cases e : j = i
  ·subst e
   rw [hm] at hj; cases hj
  ·rw [upd_ne e]
   obtain ⟨X, h1, h2, h3⟩ := h.mem j F hj (isOn_set hL e)
   obtain ⟨X', h1', h2', h3'⟩ := h0.mem j F hj (isOn_set hL e)
   refine ⟨X, fun k hk => Nat.lt_of_lt_of_le (h1 k hk) (below_new w o).size, ?_, ?_⟩
   ·intro w'' hs hk
    exact h2 w'' (Nat.le_trans (below_new w o).size hs) (fun k hX => (hk k hX).trans ((below_new w o).block k (h1 k hX)))
   ·intro q hq' hL'
    by_cases e2 : q.al = i
    ·rw [e2, updN_eq]
     intro hX
     exact absurd (h1 _ hX) (Nat.lt_irrefl _)
    ·rw [updN_ne e2]
     exact h3 q hq' (isOn_set hL' e2)
 ·intro q hq' hL
  by_cases e2 : q.al = i
  ·have hzz := hz q hq' e2
   rw [e2, upd_eq, updN_eq]
   have hs0 : isOn n L q.st = false := by
    cases hc : isOn n L q.st
    ·rfl
    ·have := h.dep q hq' hc
     rw [e2, hno] at this; cases this
   refine ⟨rfl, h.hB, by simp, fun _ => by rw [hzz]; exact heap_alloc_new w o, fun hy => ?_⟩
   have := isOn_set hy (hst hq')
   rw [hs0] at this; cases this
  ·rw [upd_ne e2, updN_ne e2]
   obtain ⟨h1, h2, h3, h4, h5⟩ := h0.box q hq' (isOn_set hL e2)
   refine ⟨h1, h2, h3, fun hn => h4 ?_, fun hy => ?_⟩
   ·cases hc : isOn n L q.st
    ·rfl
    ·rw [isOn_keep hc] at hn; cases hn
   ·obtain ⟨h6, h7⟩ := h5 (isOn_set hy (hst hq'))
    exact ⟨isOn_keep h6, by rw [upd_ne (hne h6)]; exact h7⟩
 ·exact fun q hq' hL => isOn_keep (h.dep q hq' (isOn_set hL (hst hq')))
 ·intro q hq1 q' hq2 hL1 hL2 hnn
  by_cases e1 : q.al = i
  ·have e2 : q'.al ≠ i := fun e => hnn (e1.trans e.symm)
   rw [e1, updN_eq, updN_ne e2]
   have := (h.box q' hq2 (isOn_set hL2 e2)).2.2.1
   omega
  ·by_cases e2 : q'.al = i
   ·rw [e2, updN_eq, updN_ne e1]
    have := (h.box q hq1 (isOn_set hL1 e1)).2.2.1
    omega
   ·rw [updN_ne e1, updN_ne e2]
    exact h.dist q hq1 q' hq2 (isOn_set hL1 e1) (isOn_set hL2 e2) hnn
theorem RI.set (h : RI n B w1 vals mems bxs L s b w) {i : Nat} {q : Bx} {v : Value} (hq : q ∈ bxs) (hno : isOn n L i = false) (hst : q.st = i) (hal : isOn n L q.al = true) (hd : isOn n L q.d = true)
  (hall : (bxs.all fun q' => !(Nat.beq q'.al i) && (Nat.beq q'.al q.al || !(Nat.beq q'.st i))) = true) (hsame : ∀ q' ∈ bxs, q'.al = q.al → q' = q)
  (hv : vals[i]? = some none) (hm : mems[i]? = some none)
  (hbl : Below B w1 w') (hs : w'.heap.size = w.heap.size) (hfar : ∀ k, k ≠ b q.al → w'.heap[k]? = w.heap[k]?) (hf : w'.heap[b q.al]? = some (q.f (s q.d))) :
  RI n B w1 vals mems bxs (L.setIfInBounds i true) (upd s i v) b w' := by
 have hne : ∀ {j}, isOn n L j = true → j ≠ i := fun hj e => by rw [e, hno] at hj; cases hj
 have hal' : ∀ {q' : Bx}, q' ∈ bxs → q'.al ≠ i := fun hq' => by have := List.all_eq_true.1 hall _ hq'; simp only [Bool.and_eq_true, Bool.not_eq_true', nbeq] at this; exact this.1
 have hst' : ∀ {q' : Bx}, q' ∈ bxs → q'.al ≠ q.al → q'.st ≠ i := fun hq' hn => by have := List.all_eq_true.1 hall _ hq'; simp only [Bool.and_eq_true, Bool.or_eq_true, Bool.not_eq_true', nbeq, Nat.beq_eq] at this; exact this.2.resolve_left hn
 refine ⟨by simpa using h.sz, hbl, by rw [hs]; exact h.hB, ?_, ?_, ?_, ?_, ?_⟩
 ·intro j v' hj hL
  by_cases e : j = i
  ·subst e
   rw [hv] at hj; cases hj
  ·rw [upd_ne e]
   exact h.val j v' hj (isOn_set hL e)
 ·intro j F hj hL
  by_cases e : j = i
  ·subst e
   rw [hm] at hj; cases hj
  ·rw [upd_ne e]
   obtain ⟨X, h1, h2, h3⟩ := h.mem j F hj (isOn_set hL e)
   refine ⟨X, fun k hk => by rw [hs]; exact h1 k hk, ?_, fun q' hq' hL' => h3 q' hq' (isOn_set hL' (hal' hq'))⟩
   intro w'' hs' hk
   refine h2 w'' (by omega) (fun k hX => (hk k hX).trans (hfar k ?_))
   intro e'
   subst e'
   exact h3 q hq hal hX
 ·intro q' hq' hL
  have hL0 := isOn_set hL (hal' hq')
  rw [upd_ne (hal' hq')]
  by_cases e : q'.al = q.al
  ·obtain rfl := hsame q' hq' e
   obtain ⟨h1, h2, h3, h4, h5⟩ := h.box q' hq' hL0
   refine ⟨h1, h2, by rw [hs]; exact h3, fun hn => ?_, fun _ => ⟨isOn_keep hd, by rw [upd_ne (hne hd)]; exact hf⟩⟩
   rw [hst] at hn
   unfold isOn at hn hno
   cases hb : Nat.ble n i
   ·rw [hb, Bool.false_or] at hn
    rw [hb, Bool.false_or] at hno
    have hlt : i < L.size := by
     rw [h.sz]
     exact Nat.lt_of_not_le (fun hc => by rw [Nat.ble_eq_true_of_le hc] at hb; cases hb)
    simp [hlt] at hn
   ·rw [hb] at hno; cases hno
  ·obtain ⟨h1, h2, h3, h4, h5⟩ := h.box q' hq' hL0
   have hfk := hfar (b q'.al) (h.dist q' hq' q hq hL0 hal e)
   refine ⟨h1, h2, by rw [hs]; exact h3, fun hn => ?_, fun hy => ?_⟩
   ·rw [hfk]
    refine h4 ?_
    cases hc : isOn n L q'.st
    ·rfl
    ·rw [isOn_keep hc] at hn; cases hn
   ·obtain ⟨h6, h7⟩ := h5 (isOn_set hy (hst' hq' e))
    exact ⟨isOn_keep h6, by rw [hfk, upd_ne (hne h6)]; exact h7⟩
 ·intro q' hq' hL
  by_cases e : q'.al = q.al
  ·obtain rfl := hsame q' hq' e
   exact isOn_keep hal
  ·exact isOn_keep (h.dep q' hq' (isOn_set hL (hst' hq' e)))
 ·exact fun q1 hq1 q2 hq2 h1 h2 h3 => h.dist q1 hq1 q2 hq2 (isOn_set h1 (hal' hq1)) (isOn_set h2 (hal' hq2)) h3
theorem RI.bx (h : RI n B w1 vals mems bxs L s b w) {q : Bx} (hq : q ∈ bxs) (hL : isOn n L q.al = true) : s q.al = .pointer (some ⟨b q.al, 0, none⟩) ∧ B ≤ b q.al := ⟨(h.box q hq hL).1, (h.box q hq hL).2.1⟩
theorem RI.fresh (h : RI n B w1 vals mems bxs L s b w) {q : Bx} (hq : q ∈ bxs) (hL : isOn n L q.al = true) (hn : isOn n L q.st = false) : w.heap[b q.al]? = some q.z := (h.box q hq hL).2.2.2.1 hn
theorem RI.full (h : RI n B w1 vals mems bxs L s b w) {q : Bx} (hq : q ∈ bxs) (hL : isOn n L q.al = true) (hn : isOn n L q.st = true) : w.heap[b q.al]? = some (q.f (s q.d)) := ((h.box q hq hL).2.2.2.2 hn).2
end
theorem ri_start {n B : Nat} {w1 : World} {vals : List (Option Value)} {mems : List (Option (Value → World → Prop))} {bxs : List Bx} {s : Nat → Value} {b : Nat → Nat} (hB : B ≤ w1.heap.size)
  (hv : vals.length ≤ n) (hm : mems.length ≤ n) (hb : (bxs.all fun q => Nat.blt q.al n && Nat.blt q.st n) = true) :
  RI n B w1 vals mems bxs (Array.replicate n false) s b w1.drew := by
 have hoff : ∀ {i}, i < n → isOn n (Array.replicate n false) i = false := by
  intro i hi
  have : Nat.ble n i = false := by
   cases hb : Nat.ble n i
   ·rfl
   ·exact absurd (Nat.le_of_ble_eq_true hb) (by omega)
  simp [isOn, this, hi]
 have hq : ∀ {q : Bx}, q ∈ bxs → q.al < n ∧ q.st < n := by
  intro q hq
  have := List.all_eq_true.1 hb q hq
  rw [Bool.and_eq_true] at this
  exact ⟨Nat.le_of_ble_eq_true this.1, Nat.le_of_ble_eq_true this.2⟩
 refine ⟨by simp, (Below.refl _ _).drew, hB, ?_, ?_, ?_, ?_, ?_⟩
 ·intro i v hi hL
  have := (List.getElem?_eq_some_iff.1 hi).1
  rw [hoff (by omega)] at hL; cases hL
 ·intro i v hi hL
  have := (List.getElem?_eq_some_iff.1 hi).1
  rw [hoff (by omega)] at hL; cases hL
 ·intro q hq' hL
  rw [hoff (hq hq').1] at hL; cases hL
 ·intro q hq' hL
  rw [hoff (hq hq').2] at hL; cases hL
 ·intro q hq' q' _ hL
  rw [hoff (hq hq').1] at hL; cases hL
theorem RI.re {n B : Nat} {w1 : World} {vals : List (Option Value)} {mems : List (Option (Value → World → Prop))} {bxs : List Bx} {L : Array Bool} {s : Nat → Value} {b : Nat → Nat} {w : World} (h : RI n B w1 vals mems bxs L s b w) {j : Nat} {v : Value} (e : s j = v) : RI n B w1 vals mems bxs L (upd s j v) b w := by
 have : upd s j v = s := by
  funext k
  by_cases hk : k = j
  ·subst hk
   rw [upd_eq, e]
  ·rw [upd_ne hk]
 rw [this]
 exact h
def setsW : World → Nat → Nat → List Value → World
 | w, _, _, [] => w
 | w, g, i, v :: r => setsW (w.setCell ⟨g, i, none⟩ v) g (i + 1) r
theorem setsW_size (w : World) (g i : Nat) (vs : List Value) : (setsW w g i vs).heap.size = w.heap.size := by
 induction vs generalizing w i with
 | nil => rfl
 | cons v r ih => rw [setsW, ih, World.size_setCell]
theorem setsW_below {B g : Nat} {w : World} (h : B ≤ g) (i : Nat) (vs : List Value) : Below B w (setsW w g i vs) := by
 induction vs generalizing w i with
 | nil => exact Below.refl _ _
 | cons v r ih => exact ((Below.refl B w).setCell h v).trans (ih (i + 1))
theorem setsW_far {g k : Nat} {w : World} (h : k ≠ g) (i : Nat) (vs : List Value) : (setsW w g i vs).heap[k]? = w.heap[k]? := by
 induction vs generalizing w i with
 | nil => rfl
 | cons v r ih => exact (ih (i + 1)).trans (Below.heap_setCell w ⟨g, i, none⟩ v k h)
theorem setsW_gen {g : Nat} {t : TypeId} : ∀ (vs : List Value) (w : World) (pre rest : List Value), rest.length = vs.length → w.heap[g]? = some (.cells (pre ++ rest).toArray t (0, 0)) →
  (setsW w g pre.length vs).heap[g]? = some (.cells (pre ++ vs).toArray t (0, 0)) := by
 intro vs
 induction vs with
 | nil =>
  intro w pre rest hl h
  have : rest = [] := List.length_eq_zero_iff.1 hl
  subst this
  exact h
 | cons v r ih =>
  intro w pre rest hl h
  cases rest with
  | nil => simp at hl
  | cons x rest =>
   have h1 := blk_set h pre.length v
   have h2 := ih (w.setCell ⟨g, pre.length, none⟩ v) (pre ++ [v]) rest (by simpa using hl) (by
    rw [h1]
    simp)
   simp only [List.length_append, List.length_cons, List.length_nil, List.append_assoc, List.cons_append, List.nil_append] at h2
   exact h2
theorem setsW_blk {g : Nat} {t : TypeId} {w : World} {cs : Array Value} {vs : List Value} (h : w.heap[g]? = some (.cells cs t (0, 0))) (hl : cs.size = vs.length) : (setsW w g 0 vs).heap[g]? = some (.cells vs.toArray t (0, 0)) := by
 have := setsW_gen (g := g) (t := t) vs w [] cs.toList (by simpa using hl) (by simpa using h)
 simpa using this
end
section
open Go.RowKit Go.Maps
def visN (who : List Nat) : List Value := who.map fun (z : Nat) => .int .i64 ((z : Nat) : Int)
theorem visN_at {who : List Nat} {i : Nat} (hi : i < who.length) : (visN who)[i]? = some (.int .i64 ((who.getD i 0 : Nat) : Int)) := by
 simp [visN, hi, List.getD_eq_getElem?_getD]
theorem visN_set (who : List Nat) (i v : Nat) : (visN who).toArray.setIfInBounds i (.int .i64 (v : Int)) = (visN (who.set i v)).toArray := by
 simp [visN, List.map_set]
def crsF (cr : Bool) (cs : List C5) (e : E4) : Bool := cr || decide (kindD cs e = 0)
structure GW (w1 : World) (gw : Nat) (who : List Nat) (wr : World) : Prop where
 bel : Below w1.heap.size w1 wr
 row : wr.heap[gw]? = some (.cells (visN who).toArray 3 (0, 0))
 ge : w1.heap.size ≤ gw
section
variable {w1 wr w' : World} {gw : Nat} {who : List Nat}
theorem GW.below (h : GW w1 gw who wr) (hb : Below wr.heap.size wr w') : GW w1 gw who w' := ⟨stay_b h.bel hb, blk_below h.row hb (blk_lt h.row), h.ge⟩
theorem GW.at_ (h : GW w1 gw who wr) {i : Nat} (hi : i < who.length) : wr.cell? ⟨gw, i, none⟩ = some (.int .i64 ((who.getD i 0 : Nat) : Int)) := by
 rw [cell_of_blk h.row i, List.getElem?_toArray]
 exact visN_at hi
theorem GW.fz (h : GW w1 gw who wr) (i : Nat) : wr.frozen? ⟨gw, i, none⟩ = false := frozen_of_blk h.row i
theorem GW.set (h : GW w1 gw who wr) (i v : Nat) : GW w1 gw (who.set i v) (wr.setCell ⟨gw, i, none⟩ (.int .i64 (v : Int))) :=
 ⟨h.bel.setCell (p := ⟨gw, i, none⟩) h.ge _, by rw [blk_set h.row, visN_set], h.ge⟩
end
def sumW (wr : World) (gw : Nat) : Nat := match wr.heap[gw]? with
 | some (.cells cs _ _) => (cs.toList.map fun v => (intOf v).toNat).sum
 | _ => 0
theorem sumW_eq {w1 wr : World} {gw : Nat} {who : List Nat} (h : GW w1 gw who wr) : sumW wr gw = who.sum := by
 unfold sumW
 rw [h.row]
 simp only [visN, List.map_map]
 congr 1
 have : ((fun v => (intOf v).toNat) ∘ fun z : Nat => Value.int .i64 (z : Int)) = id := by funext z; rfl
 rw [this, List.map_id]
def fillW (n j : Nat) : List Nat := (List.range n).map fun i => if i < j then i else 0
theorem fillW_zero (n : Nat) : fillW n 0 = List.replicate n 0 := by
 unfold fillW
 apply List.ext_getElem?
 intro i
 by_cases h : i < n <;> simp [h]
theorem fillW_all (n : Nat) : fillW n n = List.range n := by
 unfold fillW
 apply List.ext_getElem?
 intro i
 by_cases h : i < n <;> simp [h]
theorem fillW_set (n j : Nat) : (fillW n j).set j j = fillW n (j + 1) := by
 unfold fillW
 apply List.ext_getElem?
 intro i
 rw [List.getElem?_set]
 by_cases h : j = i
 ·subst h
  by_cases hn : j < n
  ·simp [hn]
  ·simp [hn]
 ·rw [if_neg h]
  by_cases hn : i < n
  ·simp only [List.getElem?_map, List.getElem?_range hn, Option.map_some]
   congr 1
   by_cases h2 : i < j
   ·rw [if_pos h2, if_pos (by omega)]
   ·rw [if_neg h2, if_neg (by omega)]
  ·simp [hn]
theorem fillW_len (n j : Nat) : (fillW n j).length = n := by simp [fillW]
theorem vis_arr (n : Nat) : (vis (List.replicate n 0)).toArray = Array.replicate n (.int .i64 0) := by simp [vis]
theorem make_ints (n : Nat) (hn : n ≤ 1000) (w : World) : (Instr.makeSlice 22 (.int .i64 (n : Int)) (.int .i64 (n : Int))).run Tryz.prog w = .ok (.slice (some ⟨w.heap.size, 0, none⟩) n n) (w.alloc (.cells (Array.replicate n (.int .i64 0)) 3)) := by
 rw [← vis_arr]
 obtain ⟨i0, hi, hz0, hz1, hz2⟩ := info_parts int_info
 have := run_makeSlice (P := Tryz.prog) w 22 3 i0 (.int .i64 0) Tryz.underlying22 hi hz0 .i64 .i64 n n (by omega) (Int.le_refl _) (by rw [hz1]; simp; omega) (by rw [hz2]; omega) (by omega)
 rw [this, hz1]
 have e : madeCells #[Value.int .i64 0] n = (vis (List.replicate n 0)).toArray := by
  apply Array.toList_inj.1
  rw [toList_madeCells_one]
  simp [vis]
 simp [Value.cells, e]
theorem vis_zero (n : Nat) : vis (List.replicate n 0) = visN (fillW n 0) := by
 rw [fillW_zero]
 simp [vis, visN]
def EdB (w : World) (ge : Nat) (t : T3) : Prop := w.heap[ge]? = some (.cells #[.int .i64 (eT t 0).1, .int .i64 (eT t 0).2.1, .int .i64 (eT t 0).2.2.1, .int .i64 (eT t 0).2.2.2, .int .i64 (eT t 1).1, .int .i64 (eT t 1).2.1, .int .i64 (eT t 1).2.2.1, .int .i64 (eT t 1).2.2.2, .int .i64 (eT t 2).1, .int .i64 (eT t 2).2.1, .int .i64 (eT t 2).2.2.1, .int .i64 (eT t 2).2.2.2] 100 (0, 0))
theorem EdB.at_ {w : World} {ge k : Nat} {t : T3} (h : EdB w ge t) (hk : k < 3) : w.cell? ⟨ge, k * 4, none⟩ = some (.int .i64 (eT t k).1) ∧ w.cell? ⟨ge, k * 4 + 1, none⟩ = some (.int .i64 (eT t k).2.1) ∧ w.cell? ⟨ge, k * 4 + 2, none⟩ = some (.int .i64 (eT t k).2.2.1) ∧ w.cell? ⟨ge, k * 4 + 3, none⟩ = some (.int .i64 (eT t k).2.2.2) := by
 have h' : w.heap[ge]? = _ := h
 rcases i3_cases hk with rfl | rfl | rfl <;> exact ⟨(cell_of_blk h' _).trans rfl, (cell_of_blk h' _).trans rfl, (cell_of_blk h' _).trans rfl, (cell_of_blk h' _).trans rfl⟩
theorem EdB.below {w w' : World} {ge : Nat} {t : T3} (h : EdB w ge t) (hb : Below w.heap.size w w') : EdB w' ge t := blk_below h hb (blk_lt h)
theorem EdB.set {w1 w : World} {ge gw : Nat} {t : T3} {who : List Nat} (h : EdB w ge t) (hg : GW w1 gw who w) (i : Nat) (v : Value) : EdB (w.setCell ⟨gw, i, none⟩ v) ge t := by
 refine blk_far (p := ⟨gw, i, none⟩) h ?_ v
 intro e
 subst e
 have h1 := hg.row
 have h2 : w.heap[ge]? = _ := h
 rw [h2] at h1
 simp at h1
end
end
section
open Go.RowKit Go.Maps
def facF (fk : E4 → Option Int) (e : E4) : Bool := decide ((fk e).getD 0 = 0)
theorem SmT.edge {t : T3} (h : SmT t) {i : Nat} (hi : i < 3) : kE.ok (eT t i) := by
 obtain ⟨h1, h2, h3⟩ := h
 obtain ⟨x, y, e⟩ := k4_cases h3
 show inR _ ∧ inR _ ∧ inR _ ∧ inR _
 unfold inR
 rcases i3_cases hi with rfl | rfl | rfl <;> rcases e with rfl | rfl | rfl | rfl <;> simp [e00, e01, e02, e10, e11, e12, e20, e21, e22, e30, e31, e32] at h1 h2 ⊢ <;> omega
structure RowsT (w : World) (base : Nat) (v : Value) (fs : List (List T3)) (vs : List Value) : Prop where
 own : w.ownsRow base 52 1 v fs.length vs
 len : vs.length = fs.length
 row : ∀ (j : Nat) (f : List T3), fs[j]? = some f → ∃ vj, vs[j]? = some vj ∧ w.ownsRow base 44 3 vj f.length (tcT f)
section
variable {w w' : World} {base : Nat} {v v' : Value} {fs : List (List T3)} {vs : List Value}
theorem RowsT.nil (w : World) (base : Nat) : RowsT w base (.slice none 0 0) [] [] := ⟨World.ownsRow_nil _ _ _ _, rfl, fun j f h => by simp at h⟩
theorem RowsT.below (h : RowsT w base v fs vs) (hb : Below w.heap.size w w') : RowsT w' base v fs vs :=
 ⟨od h.own hb, h.len, fun j f hf => by
  obtain ⟨vj, h1, h2⟩ := h.row j f hf
  exact ⟨vj, h1, od h2 hb⟩⟩
theorem own_apart {w : World} {b1 b2 : Nat} {e1 e2 : TypeId} {s1 s2 n1 n2 : Nat} {v1 v2 : Value} {x1 x2 : List Value} (h1 : w.ownsRow b1 e1 s1 v1 n1 x1) (h2 : w.ownsRow b2 e2 s2 v2 n2 x2) (hne : e1 ≠ e2) : v1.ownBlock = none ∨ v1.ownBlock ≠ v2.ownBlock := by
 cases hv : v1.ownBlock with
 | none => exact .inl rfl
 | some g =>
  right
  intro e
  obtain ⟨c1, g1⟩ := own_cells h1 g hv
  obtain ⟨c2, g2⟩ := own_cells h2 g e.symm
  rw [g1] at g2
  simp at g2
  exact hne g2.2
theorem RowsT.app (h : RowsT w base v fs vs) {f : List T3} {vf : Value} (hf : w.ownsRow base 44 3 vf f.length (tcT f)) (ho : w'.ownsRow base 52 1 v' (fs.length + 1) (vs ++ [vf])) (hg : GrowOf w w' v v') : RowsT w' base v' (fs ++ [f]) (vs ++ [vf]) := by
 refine ⟨by rw [List.length_append]; exact ho, by simp [h.len], fun j x hx => ?_⟩
 have hd : (44 : TypeId) ≠ 52 := by decide
 by_cases hj : j < fs.length
 ·rw [List.getElem?_append_left hj] at hx
  obtain ⟨vj, h1, h2⟩ := h.row j x hx
  refine ⟨vj, ?_, own_grow h2 hg (own_apart h2 h.own hd)⟩
  rw [List.getElem?_append_left (by rw [h.len]; exact hj)]
  exact h1
 ·have hj2 : j = fs.length := by
   have := (List.getElem?_eq_some_iff.1 hx).1
   simp at this
   omega
  subst hj2
  simp at hx
  subst hx
  refine ⟨vf, ?_, own_grow hf hg (own_apart hf h.own hd)⟩
  rw [← h.len]
  simp
theorem RowsT.grown (h : RowsT w base v fs vs) {row : Option Nat} (hg : w.grownBy w' row) (hm : ∀ b, row = some b → ∃ es c, w.heap[b]? = some (.map es c)) : RowsT w' base v fs vs := by
 have key : ∀ {e : TypeId} {s n : Nat} {u : Value} {xs : List Value}, w.ownsRow base e s u n xs → w'.ownsRow base e s u n xs := by
  intro e s n u xs hu
  refine World.ownsRow.kept hu hg ?_
  cases hv : u.ownBlock with
  | none => exact .inl rfl
  | some g =>
   right
   intro er
   exact own_notmap hu (hm g er.symm) hv
 exact ⟨key h.own, h.len, fun j f hf => by
  obtain ⟨vj, h1, h2⟩ := h.row j f hf
  exact ⟨vj, h1, key h2⟩⟩
end
end
end Go.Proofs.YtpkjekedgodccaaGreatDoor
