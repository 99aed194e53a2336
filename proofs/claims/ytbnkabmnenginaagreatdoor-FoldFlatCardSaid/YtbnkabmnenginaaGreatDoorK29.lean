/- 'm[k]++' on a map of numbers: the entry, then the store.. Words for lies: what holds while stacks are being laid. -/
import Derived.Test.YtbnkabmnenginaaGreatDoorK19
import Derived.Test.YtbnkabmnenginaaGreatDoorK28
namespace Go.Proofs.YtbnkabmnenginaaGreatDoor
set_option linter.unusedSimpArgs false
set_option linter.unusedVariables false
section
open Go.RowKit Go.Maps Go.WideElems Go.ChangeMaps
structure EntI {α : Type} [DecidableEq α] (k : KE α) (w1 : World) (b n : Nat) (f : α → Option Int) (a : α) (st : Value) : Prop where
 lt : b < w1.heap.size
 look : (Instr.lookup k.T (.map (some b)) (k.enc a) false).run Tryz.prog w1 = .ok (.int .i64 ((f a).getD 0)) w1
 store : ∀ v : Int, (Lit.int .i64 v).wf = true → ∃ w2, (Instr.entryStore k.T (.map (some b)) st (.int .i64 v)).run Tryz.prog w1 = .ok () w2 ∧ MapI k w2 b (n + 1) (setF f a v) ∧ w1.grownBy w2 (some b)
section
variable {α : Type} [DecidableEq α] {k : KE α} {w : World} {b n : Nat} {f : α → Option Int}
theorem grown_setBlock {w : World} {b : Nat} {o' : Obj} {es : Array MapEntry} {c : Nat} (h : w.heap[b]? = some (.map es c)) : w.grownBy (setBlock w b o') (some b) := ⟨rfl, rfl, rfl, by simp [setBlock], fun i _ hi => heap_setBlock_other h _ (fun e => hi (by rw [e]))⟩
theorem setBlock_two (w : World) (b : Nat) (o o' : Obj) : setBlock (setBlock w b o) b o' = setBlock w b o' := by simp [setBlock]
theorem MapI.enter (K : WideMaps.KeyLaw Tryz.prog k.K) (h : MapI k w b n f) (hn : n < maxLen) {a : α} (ha : k.ok a) :
  ∃ (v0 st : Value) (w1 : World), (Instr.mapEntry k.T (.map (some b)) (k.enc a)).run Tryz.prog w = .ok (.tuple #[v0, st]) w1 ∧ EntI k w1 b n f a st ∧ w.grownBy w1 (some b) := by
 obtain ⟨l, hl⟩ := k.key a ha
 have hput := fun (v : Int) (hv : (Lit.int .i64 v).wf = true) => h.put hn ha hv
 have h0 := h
 obtain ⟨D, ⟨es, c, hb, F, hs, hD⟩, h2, h3⟩ := h
 obtain ⟨v0, st, es1, c1, hrun, _, hst⟩ := entry_then_store K k.ht zeroInt hb F hl
 have hb1 : (setBlock w b (.map es1 c1)).heap[b]? = some (.map es1 c1) := heap_setBlock_same hb _
 refine ⟨v0, _, _, hrun, ⟨blk_lt hb1, ?_, ?_⟩, grown_setBlock hb⟩
 ·-- what is read there
  rcases K.find w hl es.toList F.keys with ⟨f1, f2⟩ | ⟨j, e0, f1, f2, f3⟩
  ·obtain ⟨w', e1, e2, _⟩ := hput 0 (by decide)
   have e3 : (Instr.mapUpdate k.T (.map (some b)) (k.enc a) (.int .i64 0)).run Tryz.prog w = .ok () (setBlock w b (.map (es.push ⟨k.enc a, .int .i64 0, c⟩) (c + 1))) := by
    simp [Instr.mapUpdate, run_underlying k.ht, MapKept.run_getObj_map hb, K.check w false hl, f1, MapKept.run_setObj_map _ hb, Result.andThen, setBlock]
   have e4 : (Instr.mapEntry k.T (.map (some b)) (k.enc a)).run Tryz.prog w = .ok (.tuple #[.int .i64 0, goInt c]) (setBlock w b (.map (es.push ⟨k.enc a, .int .i64 0, c⟩) (c + 1))) := by
    simp [Instr.mapEntry, run_underlying k.ht, MapKept.run_getObj_map hb, K.check w false hl, f1, zeroInt, MapKept.run_setObj_map _ hb, Result.andThen, setBlock]
   rw [hrun] at e4
   rw [e1] at e3
   have e5 := (Result.ok.inj e4).2
   have e6 := (Result.ok.inj e3).2
   rw [e5, ← e6]
   have e7 := e2.look1 ha
   have hnone : (f a).getD 0 = 0 := by
    have h4 := (h0.look1 ha)
    have h5 : (Instr.lookup k.T (.map (some b)) (k.enc a) false).run Tryz.prog w = .ok (.int .i64 0) w := by
     simp [Instr.lookup, run_underlying k.ht, MapKept.run_getObj_map hb, K.check w _ hl, f1, zeroInt, Result.andThen]
    rw [h4] at h5
    have := (Result.ok.inj h5).1
    simpa using this
   rw [show (setF f a 0 a).getD 0 = (f a).getD 0 by rw [hnone]; simp [setF]] at e7
   exact e7
  ·have hj : es[j]? = some e0 := by simpa using f2
   have hsame : es.modify j (fun e => { e with key := k.enc a }) = es := by
    apply Array.ext'
    rw [Array.toList_modify, ChangeMaps.modify_eq_set _ _ _ _ f2]
    have : ({ e0 with key := k.enc a } : MapEntry) = e0 := by rw [← f3]
    rw [this]
    exact WideElems.set_self _ _ _ f2
   have e4 : (Instr.mapEntry k.T (.map (some b)) (k.enc a)).run Tryz.prog w = .ok (.tuple #[e0.val, goInt e0.born]) (setBlock w b (.map es c)) := by
    simp [Instr.mapEntry, run_underlying k.ht, MapKept.run_getObj_map hb, K.check w false hl, f1, hj, f3, K.stays w hl, hsame, MapKept.run_setObj_map _ hb, Result.andThen, setBlock]
   rw [hrun] at e4
   rw [(Result.ok.inj e4).2]
   exact (h0.heap (w' := setBlock w b (.map es c)) ((heap_setBlock_same hb _).trans hb.symm)).look1 ha
 ·intro v hv
  obtain ⟨es', c', g1, g2⟩ := hst _ (.int .i64 v) hb1
  obtain ⟨w', e1, e2, _⟩ := hput v hv
  rw [e1] at g2
  have e6 := (Result.ok.inj g2).2
  refine ⟨_, g1, ?_, grown_setBlock hb1⟩
  rw [setBlock_two, ← e6]
  exact e2
end
theorem grown_trans {a b c : World} {r : Option Nat} (h : a.grownBy b r) (g : b.grownBy c r) : a.grownBy c r :=
 ⟨g.os.trans h.os, g.tape.trans h.tape, g.output.trans h.output, Nat.le_trans h.size g.size, fun k hk hr => (g.block k (Nat.lt_of_lt_of_le hk h.size) hr).trans (h.block k hk hr)⟩
theorem grown_of_below {a b : World} {r : Option Nat} (h : Below a.heap.size a b) : a.grownBy b r := ⟨h.os, h.tape, h.output, h.size, fun k hk _ => h.block k hk⟩
section
variable {α : Type} [DecidableEq α]
def EnB (k : KE α) (wd : World) (mb n : Nat) (f : α → Option Int) (a : α) (v : Value) (W : World) : Prop := ∃ v0 st, v = .tuple #[v0, st] ∧ EntI k W mb n f a st ∧ wd.grownBy W (some mb)
structure EnC (k : KE α) (wd : World) (mb n : Nat) (f : α → Option Int) (a : α) (z : Int) (W : World) : Prop where
 map : MapI k W mb (n + 1) (setF f a z)
 grown : wd.grownBy W (some mb)
def EnS (k : KE α) (wd : World) (mb n : Nat) (f : α → Option Int) (a : α) (z : Int) (la lb : Bool) (v : Value) (W : World) : Prop := match lb, la with
 | true, _ => EnC k wd mb n f a z W
 | false, true => EnB k wd mb n f a v W
 | false, false => Below wd.heap.size wd W
variable {k : KE α} {wd : World} {mb n : Nat} {f : α → Option Int} {a : α} {z : Int} {la lb : Bool} {v : Value} {W : World}
theorem EnS.grown (h : EnS k wd mb n f a z la lb v W) : wd.grownBy W (some mb) := by
 cases lb
 ·cases la
  ·exact grown_of_below h
  ·obtain ⟨_, _, _, _, h⟩ := h
   exact h
 ·exact EnC.grown h
theorem EnS.look (h : EnS k wd mb n f a z la false v W) (hm : MapI k wd mb n f) (ha : k.ok a) : (Instr.lookup k.T (.map (some mb)) (k.enc a) false).run Tryz.prog W = .ok (.int .i64 ((f a).getD 0)) W := by
 cases la
 ·exact (hm.stay h).look1 ha
 ·obtain ⟨_, _, _, h, _⟩ := h
  exact h.look
theorem EnS.atA (h : EnS k wd mb n f a z la lb v W) (h1 : la = false) (h2 : lb = false) : Below wd.heap.size wd W := by subst h1 h2; exact h
theorem EnS.keep {L : Array Bool} {e s i : Nat} {v' : Value} (h : EnS k wd mb n f a z (L.getD e false) (L.getD s false) v W) (h1 : i ≠ e) (h2 : i ≠ s) (hv : v' = v) :
  EnS k wd mb n f a z ((L.setIfInBounds i true).getD e false) ((L.setIfInBounds i true).getD s false) v' W := by
 rw [set_other h1, set_other h2, hv]
 exact h
theorem EnS.call {L : Array Bool} {e s i : Nat} {v' : Value} {W' : World} (h : EnS k wd mb n f a z (L.getD e false) (L.getD s false) v W) (he : L.getD e false = false) (hs : L.getD s false = false) (h1 : i ≠ e) (h2 : i ≠ s) (hb : Below W.heap.size W W') :
  EnS k wd mb n f a z ((L.setIfInBounds i true).getD e false) ((L.setIfInBounds i true).getD s false) v' W' := by
 rw [set_other h1, set_other h2, he, hs]
 exact stay_b (EnS.atA h he hs) hb
theorem EnS.stored {L : Array Bool} {e s m : Nat} {v' : Value} {w1 : World} (h : EnS k wd mb n f a z (L.getD e false) (L.getD s false) v W) (hsz : L.size = m) (hem : s < m) (hm : MapI k w1 mb (n + 1) (setF f a z)) (hg : W.grownBy w1 (some mb)) :
  EnS k wd mb n f a z ((L.setIfInBounds s true).getD e false) ((L.setIfInBounds s true).getD s false) v' w1 := by
 rw [set_self hsz hem]
 exact ⟨hm, grown_trans h.grown hg⟩
end
def Cl (ps : List (Nat × Nat)) (L : Array Bool) : Prop := ∀ p ∈ ps, L.getD p.1 false = true → L.getD p.2 false = true
theorem Cl.start (ps : List (Nat × Nat)) (n : Nat) : Cl ps (Array.replicate n false) := fun p _ h => by
 rw [getD_replicate_false] at h
 cases h
theorem Cl.set {ps : List (Nat × Nat)} {L : Array Bool} {i : Nat} (h : Cl ps L) (hi : ∀ p ∈ ps, p.1 = i → L.getD p.2 false = true) : Cl ps (L.setIfInBounds i true) := by
 intro p hp h1
 by_cases e : p.1 = i
 ·exact getD_set_true (hi p hp e)
 ·rw [set_other (fun e' => e e'.symm)] at h1
  exact getD_set_true (h p hp h1)
theorem Cl.no {ps : List (Nat × Nat)} {L : Array Bool} {i s : Nat} (h : Cl ps L) (hp : (s, i) ∈ ps) (hn : L.getD i true = false) : L.getD s false = false := by
 cases hs : L.getD s false
 ·rfl
 ·have := h (s, i) hp hs
  rw [getD_both hn] at this
  cases this
end
section
section
open Go.RowKit Go.Maps Go.WideElems Go.ChangeMaps
theorem MapV.enter {α β : Type} [DecidableEq α] {k : KV α β} {w : World} {b n : Nat} {f : α → Option β} (K : WideMaps.KeyLaw Tryz.prog k.K) (h : MapV k w b n f) (hn : n < maxLen) {a : α} (ha : k.ok a) :
  ∃ (st : Value) (w1 : World) (o : Obj), (Instr.mapEntry k.T (.map (some b)) (k.enc a)).run Tryz.prog w = .ok (.tuple #[k.val ((f a).getD k.z), st]) w1 ∧ w.grownBy w1 (some b) ∧ w1.heap[b]? = some o ∧
   ∀ (v : β) (w2 : World), w2.heap[b]? = some o → ∃ w3, (Instr.entryStore k.T (.map (some b)) st (k.val v)).run Tryz.prog w2 = .ok () w3 ∧ MapV k w3 b (n + 1) (setV f a v) ∧ w2.grownBy w3 (some b) := by
 obtain ⟨l, hl⟩ := k.key a ha
 have hput := fun v : β => h.put hn ha v
 have hlook := h.look1 ha
 obtain ⟨D, ⟨es, c, hb, F, hs, hD⟩, h2, h3⟩ := h
 obtain ⟨v0, st, es1, c1, hrun, hv0, hst⟩ := entry_then_store K k.ht k.hz hb F hl
 have hb1 : (setBlock w b (.map es1 c1)).heap[b]? = some (.map es1 c1) := heap_setBlock_same hb _
 refine ⟨goInt st, setBlock w b (.map es1 c1), .map es1 c1, ?_, grown_setBlock hb, hb1, fun v w2 hw2 => ?_⟩
 ·rw [hrun]
  have hv : v0 = k.val ((f a).getD k.z) := by
   rcases K.find w hl es.toList F.keys with ⟨f1, f2⟩ | ⟨j, e0, f1, f2, f3⟩
   ·have h5 : (Instr.lookup k.T (.map (some b)) (k.enc a) false).run Tryz.prog w = .ok (k.val k.z) w := by
     simp [Instr.lookup, run_underlying k.ht, MapKept.run_getObj_map hb, K.check w _ hl, f1, k.hz, Result.andThen]
    rw [hlook] at h5
    rw [(Result.ok.inj h5).1]
    rcases hv0 with ⟨e0, he0, hk0, _⟩ | ⟨_, h6⟩
    ·exact absurd hk0 (f2 e0 he0)
    ·exact h6
   ·have hj : es[j]? = some e0 := by simpa using f2
    have h5 : (Instr.lookup k.T (.map (some b)) (k.enc a) false).run Tryz.prog w = .ok e0.val w := by
     simp [Instr.lookup, run_underlying k.ht, MapKept.run_getObj_map hb, K.check w _ hl, f1, hj, Result.andThen]
    have hsame : es.modify j (fun e => { e with key := k.enc a }) = es := by
     apply Array.ext'
     rw [Array.toList_modify, ChangeMaps.modify_eq_set _ _ _ _ f2]
     have : ({ e0 with key := k.enc a } : MapEntry) = e0 := by rw [← f3]
     rw [this]
     exact WideElems.set_self _ _ _ f2
    have e4 : (Instr.mapEntry k.T (.map (some b)) (k.enc a)).run Tryz.prog w = .ok (.tuple #[e0.val, goInt e0.born]) (setBlock w b (.map es c)) := by
     simp [Instr.mapEntry, run_underlying k.ht, MapKept.run_getObj_map hb, K.check w false hl, f1, hj, f3, K.stays w hl, hsame, MapKept.run_setObj_map _ hb, Result.andThen, setBlock]
    rw [hrun] at e4
    rw [hlook] at h5
    have e5 := (Result.ok.inj e4).1
    simp at e5
    rw [e5.1, (Result.ok.inj h5).1]
  rw [hv]
 ·obtain ⟨es', c', g1, g2⟩ := hst w2 (k.val v) hw2
  obtain ⟨w', e1, e2, _⟩ := hput v
  rw [e1] at g2
  have e6 := (Result.ok.inj g2).2
  refine ⟨_, g1, ?_, grown_setBlock hw2⟩
  refine e2.heap ?_
  rw [heap_setBlock_same hw2, e6, heap_setBlock_same hb]
end
section
open Go.RowKit Go.Maps
variable {w w' : World} {base b n : Nat} {f : T3 → Option Value} {g : T3 → List Nat}
theorem PilM.made (w : World) (base : Nat) : PilM (w.alloc (.map #[] 0)) base w.heap.size 0 (fun _ => none) (fun _ => []) :=
 ⟨MapV.made _ _, fun _ _ => rfl, fun t v h => (by cases h), fun t t' v v' _ h => (by cases h)⟩
theorem PilM.below (h : PilM w base b n f g) (hb : Below w.heap.size w w') : PilM w' base b n f g :=
 ⟨h.map.stay hb, h.no, fun t v hv => ⟨own_below (h.row t v hv).1 hb (Nat.le_refl _), (h.row t v hv).2⟩, h.far⟩
theorem PilM.val (h : PilM w base b n f g) (t : T3) : w.ownsRow base 3 1 ((f t).getD (.slice none 0 0)) (g t).length (visN (g t)) := by
 cases hf : f t with
 | none => rw [h.no t hf]; exact World.ownsRow_nil _ _ _ _
 | some v => exact (h.row t v hf).1
theorem PilM.put {w1 w2 w3 : World} (h : PilM w base b n f g) (hg1 : w.grownBy w1 (some b)) {t : T3} {v' : Value} {z : Nat} (ho : w2.ownsRow base 3 1 v' ((g t).length + 1) (visN (g t ++ [z]))) (hg2 : w1.grownBy w2 ((f t).getD (.slice none 0 0)).ownBlock)
  (hat : v'.ownBlock = ((f t).getD (.slice none 0 0)).ownBlock ∨ ∃ q, v'.ownBlock = some q ∧ w.heap.size ≤ q) (hm : MapV kPV w3 b (n + 1) (setV f t v')) (hg3 : w2.grownBy w3 (some b)) (hnb : ∀ t v, f t = some v → v.ownBlock ≠ some b) (hvb : v'.ownBlock ≠ some b) :
  PilM w3 base b (n + 1) (setV f t v') (fun x => if x = t then g t ++ [z] else g x) := by
 refine ⟨hm, fun x hx => ?_, fun x v hx => ?_, fun x y v u hxy hx hy => ?_⟩
 ·by_cases e : x = t
  ·subst e
   rw [setV_self] at hx
   cases hx
  ·rw [setV_ne _ _ e] at hx
   rw [if_neg e]
   exact h.no x hx
 ·by_cases e : x = t
  ·subst e
   rw [setV_self] at hx
   cases hx
   rw [if_pos rfl]
   refine ⟨?_, by simp⟩
   have := ho.kept hg3 (.inr hvb)
   simpa using this
  ·rw [setV_ne _ _ e] at hx
   rw [if_neg e]
   have h0 := h.row x v hx
   have h1 := h0.1.kept hg1 (.inr (hnb x v hx))
   refine ⟨(h1.kept hg2 (.inr ?_)).kept hg3 (.inr (hnb x v hx)), h0.2⟩
   cases hf : f t with
   | none => intro e2; cases hv : v.ownBlock with
    | none => 
      rcases h0.1.2 with ⟨hv0, hl⟩ | ⟨g0, _, _, hv0, _⟩
      ·have := h0.2; rw [List.length_eq_zero_iff] at hl; exact this hl
      ·subst hv0; cases hv
    | some q => rw [hv] at e2; cases e2
   | some u => exact h.far x t v u e hx hf
 ·by_cases e : x = t
  ·subst e
   rw [setV_self] at hx
   cases hx
   rw [setV_ne _ _ (Ne.symm hxy)] at hy
   have hu := h.row y u hy
   intro e2
   rcases hat with h1 | ⟨q, h1, h2⟩
   ·cases hf : f x with
    | none =>
     rw [hf] at h1
     rw [h1] at e2
     rcases hu.1.2 with ⟨_, hl⟩ | ⟨g0, _, _, hv0, _⟩
     ·rw [List.length_eq_zero_iff] at hl
      exact hu.2 hl
     ·subst hv0; cases e2
    | some v0 =>
     rw [hf] at h1
     exact h.far x y v0 u hxy hf hy (h1.symm.trans e2)
   ·rw [h1] at e2
    have := (hu.1.lt q e2.symm).2
    omega
  ·rw [setV_ne _ _ e] at hx
   by_cases e3 : y = t
   ·subst e3
    rw [setV_self] at hy
    cases hy
    have hu := h.row x v hx
    intro e2
    rcases hat with h1 | ⟨q, h1, h2⟩
    ·cases hf : f y with
     | none =>
      rw [hf] at h1
      rw [h1] at e2
      rcases hu.1.2 with ⟨_, hl⟩ | ⟨g0, _, _, hv0, _⟩
      ·rw [List.length_eq_zero_iff] at hl
       exact hu.2 hl
      ·subst hv0; cases e2
     | some v0 =>
      rw [hf] at h1
      exact h.far x y v v0 hxy hx hf (e2.trans h1)
    ·rw [h1] at e2
     have := (hu.1.lt q e2).2
     omega
   ·rw [setV_ne _ _ e3] at hy
    exact h.far x y v u hxy hx hy
end
end
end Go.Proofs.YtbnkabmnenginaaGreatDoor
