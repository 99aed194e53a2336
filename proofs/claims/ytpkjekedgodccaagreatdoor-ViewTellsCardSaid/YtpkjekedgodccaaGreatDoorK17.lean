/- Plain laws: how many edges; points; faces one by one; values handed on along a graph. -/
import Derived.Test.YtpkjekedgodccaaGreatDoorK15
namespace Go.Proofs.YtpkjekedgodccaaGreatDoor
set_option linter.unusedSimpArgs false
set_option linter.unusedVariables false
section
section
open Go.RowKit
abbrev P2 := Int × Int
def crT (t : T3) (i : Nat) : P2 := match i with
 | 0 => (2 * t.1 + 1, 2 * t.2.1 + 1)
 | 1 => (cornX t.1 t.2.2, cornY t.2.1 t.2.2)
 | _ => (cornX t.1 (t.2.2 + 1), cornY t.2.1 (t.2.2 + 1))
def ltP (a b : P2) : Prop := a.1 < b.1 ∨ a.1 = b.1 ∧ a.2 < b.2
instance (a b : P2) : Decidable (ltP a b) := inferInstanceAs (Decidable (a.1 < b.1 ∨ a.1 = b.1 ∧ a.2 < b.2))
theorem ltP_trans {a b c : P2} (h : ltP a b) (g : ltP b c) : ltP a c := by unfold ltP at *; omega
theorem ltP_tri (a b : P2) : ltP a b ∨ a = b ∨ ltP b a := by
 obtain ⟨a1, a2⟩ := a
 obtain ⟨b1, b2⟩ := b
 simp only [ltP, Prod.mk.injEq]
 omega
def cornersA (l : List T3) : List P2 := l.flatMap fun t => [crT t 0, crT t 1, crT t 2]
theorem cornersA_mem {l : List T3} {p : P2} : p ∈ cornersA l ↔ ∃ t ∈ l, ∃ i, i < 3 ∧ crT t i = p := by
 unfold cornersA
 simp only [List.mem_flatMap, List.mem_cons, List.not_mem_nil, or_false]
 constructor
 ·rintro ⟨t, ht, rfl | rfl | rfl⟩
  ·exact ⟨t, ht, 0, by omega, rfl⟩
  ·exact ⟨t, ht, 1, by omega, rfl⟩
  ·exact ⟨t, ht, 2, by omega, rfl⟩
 ·rintro ⟨t, ht, i, hi, rfl⟩
  refine ⟨t, ht, ?_⟩
  rcases i3_cases hi with rfl | rfl | rfl <;> simp
def Crn (l : List T3) (i k : Nat) (p : P2) : Prop := ∃ j t m, l[j]? = some t ∧ m < 3 ∧ (j < i ∨ j = i ∧ m < k) ∧ crT t m = p
theorem Crn.step {l : List T3} {i k : Nat} {t : T3} (ht : l[i]? = some t) (hk : k < 3) (p : P2) : Crn l i (k + 1) p ↔ Crn l i k p ∨ p = crT t k := by
 constructor
 ·rintro ⟨j, u, m, h1, h2, h3, h4⟩
  by_cases h : j < i ∨ j = i ∧ m < k
  ·exact .inl ⟨j, u, m, h1, h2, h, h4⟩
  ·obtain ⟨rfl, rfl⟩ : j = i ∧ m = k := by omega
   rw [ht] at h1
   cases h1
   exact .inr h4.symm
 ·rintro (⟨j, u, m, h1, h2, h3, h4⟩ | rfl)
  ·exact ⟨j, u, m, h1, h2, by omega, h4⟩
  ·exact ⟨i, t, k, ht, hk, by omega, rfl⟩
theorem Crn.row {l : List T3} {i : Nat} (p : P2) : Crn l i 3 p ↔ Crn l (i + 1) 0 p := by
 constructor
 ·rintro ⟨j, u, m, h1, h2, h3, h4⟩
  exact ⟨j, u, m, h1, h2, by omega, h4⟩
 ·rintro ⟨j, u, m, h1, h2, h3, h4⟩
  exact ⟨j, u, m, h1, h2, by omega, h4⟩
theorem Crn.all {l : List T3} {i : Nat} (hi : l.length ≤ i) (p : P2) : Crn l i 0 p ↔ p ∈ cornersA l := by
 rw [cornersA_mem]
 constructor
 ·rintro ⟨j, u, m, h1, h2, h3, h4⟩
  exact ⟨u, List.mem_of_getElem? h1, m, h2, h4⟩
 ·rintro ⟨u, hu, m, h2, h4⟩
  obtain ⟨j, hj, e⟩ := List.getElem_of_mem hu
  exact ⟨j, u, m, by rw [List.getElem?_eq_getElem hj, e], h2, by omega, h4⟩
structure PtI (S : P2 → Prop) (o : List P2) : Prop where
 sorted : o.Pairwise ltP
 mem : ∀ p, p ∈ o ↔ S p
theorem PtI.re {S S' : P2 → Prop} {o : List P2} (h : PtI S o) (hs : ∀ p, S p ↔ S' p) : PtI S' o := ⟨h.sorted, fun p => (h.mem p).trans (hs p)⟩
structure PosAt (o : List P2) (c : P2) (a : Nat) : Prop where
 le : a ≤ o.length
 lt : ∀ j p, j < a → o[j]? = some p → ltP p c
 ge : ∀ p, o[a]? = some p → ¬ ltP p c
theorem PosAt.new {S : P2 → Prop} {o : List P2} {c : P2} {a : Nat} (h : PtI S o) (hp : PosAt o c a) (hn : o[a]? ≠ some c) : PtI (fun p => S p ∨ p = c) (o.take a ++ c :: o.drop a) := by
 refine ⟨?_, fun p => ?_⟩
 ·rw [List.pairwise_append]
  refine ⟨h.sorted.sublist (List.take_sublist _ _), ?_, ?_⟩
  ·rw [List.pairwise_cons]
   refine ⟨fun x hx => ?_, h.sorted.sublist (List.drop_sublist _ _)⟩
   obtain ⟨j, hj, e⟩ := List.getElem_of_mem hx
   simp at hj e
   have hlt : a < o.length := by omega
   have h0 : o[a]? = some o[a] := List.getElem?_eq_getElem hlt
   have h1 := hp.ge _ h0
   have h2 : ltP c o[a] := by
    rcases ltP_tri o[a] c with h3 | h3 | h3
    ·exact absurd h3 h1
    ·rw [h0, h3] at hn
     exact absurd rfl hn
    ·exact h3
   by_cases hj0 : j = 0
   ·subst hj0
    simp at e
    rw [← e]
    exact h2
   ·refine ltP_trans h2 ?_
    rw [← e]
    have := List.pairwise_iff_getElem.1 h.sorted a (a + j) hlt (by omega) (by omega)
    exact this
  ·intro x hx y hy
   obtain ⟨j, hj, e⟩ := List.getElem_of_mem hx
   simp at hj e
   have hxc : ltP x c := hp.lt j x (by omega) (by rw [List.getElem?_eq_getElem (by omega), e])
   rcases List.mem_cons.1 hy with rfl | hy
   ·exact hxc
   ·obtain ⟨m, hm, e2⟩ := List.getElem_of_mem hy
    simp at hm e2
    have := List.pairwise_iff_getElem.1 h.sorted j (a + m) (by omega) (by omega) (by omega)
    rw [e, e2] at this
    exact this
 ·have hm : p ∈ o.take a ++ c :: o.drop a ↔ p ∈ o ∨ p = c := by
   rw [List.mem_append, List.mem_cons]
   constructor
   ·rintro (h1 | h1 | h1)
    ·exact .inl (List.mem_of_mem_take h1)
    ·exact .inr h1
    ·exact .inl (List.mem_of_mem_drop h1)
   ·rintro (h1 | h1)
    ·rw [← List.take_append_drop a o, List.mem_append] at h1
     rcases h1 with h1 | h1
     ·exact .inl h1
     ·exact .inr (.inr h1)
    ·exact .inr (.inl h1)
  rw [hm, h.mem p]
structure ShI (o : List P2) (j : Nat) (q : List P2) : Prop where
 len : q.length = o.length + 1
 lo : ∀ i, i ≤ j → i < o.length → q[i]? = o[i]?
 hi : ∀ i, j < i → i ≤ o.length → q[i]? = o[i - 1]?
theorem ShI.start (o : List P2) (c : P2) : ShI o o.length (o ++ [c]) :=
 ⟨by simp, fun i _ h => by rw [List.getElem?_append_left h], fun i h1 h2 => by omega⟩
theorem ShI.step {o : List P2} {j : Nat} {q : List P2} {p : P2} (h : ShI o (j + 1) q) (hj : j + 1 ≤ o.length) (hp : q[j]? = some p) : ShI o j (q.set (j + 1) p) := by
 refine ⟨by simp [h.len], fun i h1 h2 => ?_, fun i h1 h2 => ?_⟩
 ·rw [List.getElem?_set_ne (by omega)]
  exact h.lo i (by omega) h2
 ·by_cases e : i = j + 1
  ·subst e
   rw [List.getElem?_set_self (by rw [h.len]; omega), ← hp, h.lo j (by omega) (by omega)]
   rfl
  ·rw [List.getElem?_set_ne (by omega)]
   exact h.hi i (by omega) h2
theorem ShI.done {o : List P2} {a : Nat} {q : List P2} (h : ShI o a q) (ha : a ≤ o.length) (c : P2) : q.set a c = o.take a ++ c :: o.drop a := by
 apply List.ext_getElem?
 intro i
 by_cases e : i = a
 ·subst e
  rw [List.getElem?_set_self (by rw [h.len]; omega), List.getElem?_append_right (by simp; omega)]
  have : i - (o.take i).length = 0 := by simp; omega
  rw [this]
  rfl
 ·rw [List.getElem?_set_ne (by omega)]
  by_cases hl : i < a
  ·rw [h.lo i (by omega) (by omega), List.getElem?_append_left (by simp; omega), List.getElem?_take, if_pos hl]
  ·rw [List.getElem?_append_right (by simp; omega)]
   have e1 : i - (o.take a).length = (i - a - 1) + 1 := by simp; omega
   rw [e1, List.getElem?_cons_succ, List.getElem?_drop]
   by_cases hh : i ≤ o.length
   ·rw [h.hi i (by omega) hh]
    congr 1
    omega
   ·rw [List.getElem?_eq_none (by rw [h.len]; omega), List.getElem?_eq_none (by omega)]
section
variable {V : Type} (n : Nat) (nb : Nat → Nat → Option Nat) (stp : Nat → Nat → V → V) (v0 : V)
structure Cns (M : Nat → V) : Prop where
 root : M 0 = v0
 edge : ∀ i k j, i < n → k < 3 → nb i k = some j → M j = stp i k (M i)
variable {n nb stp v0}
variable (z : V) (G : Nat → V → Prop)
def knownN [DecidableEq V] (l : List V) : Nat := l.countP fun v => decide (v ≠ z)
structure BfI [DecidableEq V] (n : Nat) (nb : Nat → Nat → Option Nat) (stp : Nat → Nat → V → V) (v0 z : V) (G : Nat → V → Prop) (l : List V) (q : List Nat) (i k : Nat) : Prop where
 len : l.length = n
 root : l[0]? = some v0
 nz : v0 ≠ z
 good : ∀ (j : Nat) (v : V), l[j]? = some v → v ≠ z → G (knownN z l) v
 todo : ∀ j ∈ q, j < n ∧ l.getD j z ≠ z
 done : ∀ (j : Nat) (v : V), l[j]? = some v → v ≠ z → j ∉ q → ∀ m u, m < 3 → (j ≠ i ∨ m < k) → nb j m = some u → l.getD u z = stp j m v ∧ l.getD u z ≠ z
 cns : ∀ M, Cns n nb stp v0 M → ∀ (j : Nat) (v : V), l[j]? = some v → v ≠ z → v = M j
variable {z G} {l : List V} {q : List Nat} {i k j : Nat} {v : V}
theorem getD_of {l : List V} {j : Nat} {v : V} (h : l[j]? = some v) : l.getD j z = v := by simp [h]
section
variable [DecidableEq V]
theorem known_set {l : List V} {j : Nat} {v : V} (hj : l[j]? = some z) (hv : v ≠ z) : knownN z (l.set j v) = knownN z l + 1 := by
 unfold knownN
 have hlt := (List.getElem?_eq_some_iff.1 hj).1
 rw [List.countP_set hlt]
 have e : l[j] = z := (List.getElem?_eq_some_iff.1 hj).2
 simp [e, hv]
theorem BfI.start (hn : 0 < n) (hv : v0 ≠ z) (hg : G 1 v0) : BfI n nb stp v0 z G ((List.replicate n z).set 0 v0) [0] n 0 := by
 have h0 : ∀ j v, ((List.replicate n z).set 0 v0)[j]? = some v → v ≠ z → j = 0 ∧ v = v0 := by
  intro j v h hz
  by_cases hj : j = 0
  ·subst hj
   rw [List.getElem?_set_self (by simpa using hn)] at h
   exact ⟨rfl, (Option.some.inj h).symm⟩
  ·rw [List.getElem?_set_ne (by omega), List.getElem?_replicate] at h
   split at h
   ·exact absurd (Option.some.inj h).symm hz
   ·cases h
 have hk : knownN z ((List.replicate n z).set 0 v0) = 1 := by
  rw [known_set (by simp [hn]) hv]
  have : knownN z (List.replicate n z) = 0 := by
   unfold knownN
   rw [List.countP_eq_zero]
   intro a ha
   simp [List.eq_of_mem_replicate ha]
  omega
 refine ⟨by simp, List.getElem?_set_self (by simpa using hn), hv, ?_, ?_, ?_, ?_⟩
 ·intro j v h hz
  rw [hk, (h0 j v h hz).2]
  exact hg
 ·intro j hj
  simp at hj
  subst hj
  refine ⟨hn, ?_⟩
  rw [getD_of (List.getElem?_set_self (by simpa using hn))]
  exact hv
 ·intro j v h hz hq
  exact absurd (by simp [(h0 j v h hz).1]) hq
 ·intro M hM j v h hz
  obtain ⟨rfl, rfl⟩ := h0 j v h hz
  exact hM.root.symm
theorem BfI.same (h : BfI n nb stp v0 z G l q i k) (hi : l[i]? = some v) (hn : nb i k = some j) (hz : stp i k v ≠ z) (hj : l[j]? = some (stp i k v)) : BfI n nb stp v0 z G l q i (k + 1) := by
 refine ⟨h.len, h.root, h.nz, h.good, h.todo, ?_, h.cns⟩
 intro j' v' hj' hz' hq m u hm hc hnu
 by_cases hk : j' ≠ i ∨ m < k
 ·exact h.done j' v' hj' hz' hq m u hm hk hnu
 ·obtain ⟨rfl, rfl⟩ : j' = i ∧ m = k := by omega
  rw [hn] at hnu
  cases hnu
  rw [hi] at hj'
  cases hj'
  rw [getD_of hj]
  exact ⟨rfl, hz⟩
theorem BfI.new (h : BfI n nb stp v0 z G l q i k) (hk : k < 3) (hi : l[i]? = some v) (hvz : v ≠ z) (hn : nb i k = some j) (hz : stp i k v ≠ z) (hj : l[j]? = some z)
  (hG : ∀ b u, G b u → u ≠ z → G (b + 1) u) (hS : G (knownN z l) v → G (knownN z l + 1) (stp i k v)) : BfI n nb stp v0 z G (l.set j (stp i k v)) (q ++ [j]) i (k + 1) := by
 have hjl := (List.getElem?_eq_some_iff.1 hj).1
 have hil := (List.getElem?_eq_some_iff.1 hi).1
 have hij : i ≠ j := by
  intro e
  subst e
  rw [hi] at hj
  cases hj
  exact hvz rfl
 have hne : ∀ u, l.getD u z ≠ z → u ≠ j := by
  intro u hu e
  subst e
  rw [getD_of hj] at hu
  exact hu rfl
 have hkeep : ∀ u, u ≠ j → (l.set j (stp i k v)).getD u z = l.getD u z := by
  intro u hu
  rw [List.getD_eq_getElem?_getD, List.getElem?_set_ne (Ne.symm hu), ← List.getD_eq_getElem?_getD]
 have hat : (l.set j (stp i k v)).getD j z = stp i k v := getD_of (List.getElem?_set_self hjl)
 have hroot : 0 ≠ j := by
  intro e
  have h1 := h.root
  rw [e, hj] at h1
  exact h.nz (Option.some.inj h1).symm
 have hkn := known_set (v := stp i k v) hj hz
 refine ⟨by simp [h.len], by rw [List.getElem?_set_ne (Ne.symm hroot)]; exact h.root, h.nz, ?_, ?_, ?_, ?_⟩
 ·intro u x hu hx
  rw [hkn]
  by_cases e : u = j
  ·subst e
   rw [List.getElem?_set_self hjl] at hu
   cases hu
   exact hS (h.good i v hi hvz)
  ·rw [List.getElem?_set_ne (Ne.symm e)] at hu
   exact hG _ _ (h.good u x hu hx) hx
 ·intro u hu
  rcases List.mem_append.1 hu with hu | hu
  ·obtain ⟨h1, h2⟩ := h.todo u hu
   exact ⟨h1, by rw [hkeep u (hne u h2)]; exact h2⟩
  ·simp at hu
   subst hu
   exact ⟨by have := h.len; omega, by rw [hat]; exact hz⟩
 ·intro u x hu hx hq m y hm hc hnu
  have huj : u ≠ j := fun e => hq (by simp [e])
  rw [List.getElem?_set_ne (Ne.symm huj)] at hu
  have hq' : u ∉ q := fun hh => hq (by simp [hh])
  by_cases hk' : u ≠ i ∨ m < k
  ·obtain ⟨g1, g2⟩ := h.done u x hu hx hq' m y hm hk' hnu
   have := hkeep y (hne y g2)
   rw [this]
   exact ⟨g1, g2⟩
  ·obtain ⟨rfl, rfl⟩ : u = i ∧ m = k := by omega
   rw [hn] at hnu
   cases hnu
   rw [hi] at hu
   cases hu
   rw [hat]
   exact ⟨rfl, hz⟩
 ·intro M hM u x hu hx
  by_cases e : u = j
  ·subst e
   rw [List.getElem?_set_self hjl] at hu
   cases hu
   have h1 := h.cns M hM i v hi hvz
   have h2 := hM.edge i k u (by have := h.len; omega) hk hn
   rw [h2, ← h1]
  ·rw [List.getElem?_set_ne (Ne.symm e)] at hu
   exact h.cns M hM u x hu hx
end
def trueN (f : List Bool) : Nat := f.countP id
structure RdI (n : Nat) (nb : Nat → Nat → Option Nat) (stp : Nat → Nat → V → V) (v0 : V) (G : Nat → V → Prop) (K : Nat → Prop) (l : List V) (f : List Bool) (i k : Nat) : Prop where
 len : l.length = n
 lenf : f.length = n
 rootv : l[0]? = some v0
 rootk : f[0]? = some true
 good : ∀ (j : Nat) (v : V), l[j]? = some v → f[j]? = some true → G (trueN f) v
 cns : ∀ M, Cns n nb stp v0 M → ∀ (j : Nat) (v : V), l[j]? = some v → f[j]? = some true → v = M j
 sub : ∀ j, K j → f[j]? = some true
 done : ∀ (j : Nat) (v : V), K j → l[j]? = some v → ∀ m u, m < 3 → (j < i ∨ j = i ∧ m < k) → nb j m = some u → l[u]? = some (stp j m v) ∧ f[u]? = some true
variable {f : List Bool} {K : Nat → Prop}
theorem RdI.start (hn : 0 < n) (hg : G 1 v0) (z : V) : RdI n nb stp v0 G (fun j => j = 0) ((List.replicate n z).set 0 v0) ((List.replicate n false).set 0 true) 0 0 := by
 have h0 : ∀ j, ((List.replicate n false).set 0 true)[j]? = some true → j = 0 := by
  intro j h
  by_cases hj : j = 0
  ·exact hj
  ·rw [List.getElem?_set_ne (by omega), List.getElem?_replicate] at h
   split at h
   ·cases h
   ·cases h
 have hk : trueN ((List.replicate n false).set 0 true) = 1 := by
  unfold trueN
  rw [List.countP_set (by simpa using hn)]
  simp [List.countP_replicate]
 have hv : ((List.replicate n z).set 0 v0)[0]? = some v0 := List.getElem?_set_self (by simpa using hn)
 refine ⟨by simp, by simp, hv, List.getElem?_set_self (by simpa using hn), ?_, ?_, ?_, ?_⟩
 ·intro j v hj hf
  obtain rfl := h0 j hf
  rw [hv] at hj
  cases hj
  rw [hk]
  exact hg
 ·intro M hM j v hj hf
  obtain rfl := h0 j hf
  rw [hv] at hj
  cases hj
  exact hM.root.symm
 ·rintro j rfl
  exact List.getElem?_set_self (by simpa using hn)
 ·intro j v hK hj m u hm hc
  omega
theorem RdI.skip (h : RdI n nb stp v0 G K l f i k) (hf : f[i]? = some false) : RdI n nb stp v0 G K l f (i + 1) 0 := by
 refine ⟨h.len, h.lenf, h.rootv, h.rootk, h.good, h.cns, h.sub, ?_⟩
 intro j v hK hj m u hm hc hn
 by_cases e : j = i
 ·subst e
  have := h.sub j hK
  rw [hf] at this
  cases this
 ·exact h.done j v hK hj m u hm (by omega) hn
theorem RdI.row (h : RdI n nb stp v0 G K l f i 3) : RdI n nb stp v0 G K l f (i + 1) 0 := by
 refine ⟨h.len, h.lenf, h.rootv, h.rootk, h.good, h.cns, h.sub, ?_⟩
 intro j v hK hj m u hm hc hn
 exact h.done j v hK hj m u hm (by omega) hn
theorem set_id {α : Type} {l : List α} {j : Nat} {x : α} (h : l[j]? = some x) : l.set j x = l := by
 apply List.ext_getElem?
 intro i
 by_cases e : i = j
 ·subst e
  rw [List.getElem?_set_self (List.getElem?_eq_some_iff.1 h).1, h]
 ·rw [List.getElem?_set_ne (Ne.symm e)]
theorem RdI.put (h : RdI n nb stp v0 G K l f i k) (hk : k < 3) (hi : l[i]? = some v) (hfi : f[i]? = some true) (hn : nb i k = some j) (hjn : j < n) (hok : f[j]? = some true → l[j]? = some (stp i k v))
  (hG : ∀ b u, G b u → G (b + 1) u) (hS : G (trueN f) v → G (trueN f + 1) (stp i k v)) : RdI n nb stp v0 G K (l.set j (stp i k v)) (f.set j true) i (k + 1) := by
 have hjl : j < l.length := by rw [h.len]; exact hjn
 have hjf : j < f.length := by rw [h.lenf]; exact hjn
 cases hfj : f[j] with
 | true =>
  have hfj' : f[j]? = some true := by rw [List.getElem?_eq_getElem hjf, hfj]
  rw [set_id hfj', set_id (hok hfj')]
  refine ⟨h.len, h.lenf, h.rootv, h.rootk, h.good, h.cns, h.sub, ?_⟩
  intro j' v' hK hj' m u hm hc hnu
  by_cases hk' : j' < i ∨ j' = i ∧ m < k
  ·exact h.done j' v' hK hj' m u hm hk' hnu
  ·obtain ⟨rfl, rfl⟩ : j' = i ∧ m = k := by omega
   rw [hn] at hnu
   cases hnu
   rw [hi] at hj'
   cases hj'
   exact ⟨hok hfj', hfj'⟩
 | false =>
  have hfj' : f[j]? = some false := by rw [List.getElem?_eq_getElem hjf, hfj]
  have hne : ∀ u : Nat, f[u]? = some true → u ≠ j := by
   intro u hu e
   subst e
   rw [hfj'] at hu
   cases hu
  have hkn : trueN (f.set j true) = trueN f + 1 := by
   unfold trueN
   rw [List.countP_set hjf]
   simp [hfj]
  have hset : ∀ u : Nat, (f.set j true)[u]? = some true → u = j ∨ f[u]? = some true := by
   intro u hu
   by_cases e : u = j
   ·exact .inl e
   ·rw [List.getElem?_set_ne (Ne.symm e)] at hu
    exact .inr hu
  have hkeepf : ∀ u : Nat, f[u]? = some true → (f.set j true)[u]? = some true := by
   intro u hu
   rw [List.getElem?_set_ne (Ne.symm (hne u hu))]
   exact hu
  have hkeep : ∀ (u : Nat) (x : V), f[u]? = some true → l[u]? = some x → (l.set j (stp i k v))[u]? = some x := by
   intro u x hu hx
   rw [List.getElem?_set_ne (Ne.symm (hne u hu))]
   exact hx
  refine ⟨by simp [h.len], by simp [h.lenf], hkeep 0 _ h.rootk h.rootv, hkeepf 0 h.rootk, ?_, ?_, fun u hu => hkeepf u (h.sub u hu), ?_⟩
  ·intro u x hu hfu
   rw [hkn]
   by_cases e : u = j
   ·subst e
    rw [List.getElem?_set_self hjl] at hu
    cases hu
    exact hS (h.good i v hi hfi)
   ·rw [List.getElem?_set_ne (Ne.symm e)] at hu hfu
    exact hG _ _ (h.good u x hu hfu)
  ·intro M hM u x hu hfu
   by_cases e : u = j
   ·subst e
    rw [List.getElem?_set_self hjl] at hu
    cases hu
    rw [hM.edge i k u (by have := (List.getElem?_eq_some_iff.1 hi).1; have := h.len; omega) hk hn, ← h.cns M hM i v hi hfi]
   ·rw [List.getElem?_set_ne (Ne.symm e)] at hu hfu
    exact h.cns M hM u x hu hfu
  ·intro u x hK hu m y hm hc hnu
   rw [List.getElem?_set_ne (Ne.symm (hne u (h.sub u hK)))] at hu
   by_cases hk' : u < i ∨ u = i ∧ m < k
   ·obtain ⟨g1, g2⟩ := h.done u x hK hu m y hm hk' hnu
    exact ⟨hkeep y _ g2 g1, hkeepf y g2⟩
   ·obtain ⟨rfl, rfl⟩ : u = i ∧ m = k := by omega
    rw [hn] at hnu
    cases hnu
    rw [hi] at hu
    cases hu
    exact ⟨List.getElem?_set_self hjl, List.getElem?_set_self hjf⟩
theorem RdI.next (h : RdI n nb stp v0 G K l f n 0) : RdI n nb stp v0 G (fun j => f[j]? = some true) l f 0 0 :=
 ⟨h.len, h.lenf, h.rootv, h.rootk, h.good, h.cns, fun _ hj => hj, fun j v _ _ m u _ hc => by omega⟩
end
end
section
open Go.RowKit
def CoB (w : World) (gc : Nat) (t : T3) : Prop := w.heap[gc]? = some (.cells #[.int .i64 (crT t 0).1, .int .i64 (crT t 0).2, .int .i64 (crT t 1).1, .int .i64 (crT t 1).2, .int .i64 (crT t 2).1, .int .i64 (crT t 2).2] 98 (0, 0))
theorem CoB.at_ {w : World} {gc k : Nat} {t : T3} (h : CoB w gc t) (hk : k < 3) : w.cell? ⟨gc, k * 2, none⟩ = some (.int .i64 (crT t k).1) ∧ w.cell? ⟨gc, k * 2 + 1, none⟩ = some (.int .i64 (crT t k).2) := by
 have h' : w.heap[gc]? = _ := h
 rcases i3_cases hk with rfl | rfl | rfl <;> exact ⟨(cell_of_blk h' _).trans rfl, (cell_of_blk h' _).trans rfl⟩
theorem CoB.below {w w' : World} {gc : Nat} {t : T3} (h : CoB w gc t) (hb : Below w.heap.size w w') : CoB w' gc t := blk_below h hb (blk_lt h)
theorem CoB.set {w : World} {gc g j : Nat} {t : T3} {v : Value} (h : CoB w gc t) (hne : gc ≠ g) : CoB (w.setCell ⟨g, j, none⟩ v) gc t := blk_far (p := ⟨g, j, none⟩) h hne v
theorem CoB.grow {w w' : World} {gc : Nat} {t : T3} {v v' : Value} (h : CoB w gc t) (hg : GrowOf w w' v v') (hne : v.ownBlock ≠ some gc) : CoB w' gc t := (hg.grown.block gc (blk_lt h) (fun e => hne e.symm)).trans h
end
end
end Go.Proofs.YtpkjekedgodccaaGreatDoor
