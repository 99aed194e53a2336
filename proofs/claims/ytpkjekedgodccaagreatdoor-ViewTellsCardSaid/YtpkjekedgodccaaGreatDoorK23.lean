/- States of folded paper, in plain words: where triangles come to, whether maps go together, whether stacks are those of all triangles.. Piles as they lie: a pile's struct; its map of stacks.. A drawn region with a chain of operations that change memory.. -/
import Derived.Test.YtpkjekedgodccaaGreatDoorK21
import Derived.Test.YtpkjekedgodccaaGreatDoorK22
import Derived.Test.YtpkjekedgodccaaGreatDoorK09
namespace Go.Proofs.YtpkjekedgodccaaGreatDoor
set_option linter.unusedSimpArgs false
set_option linter.unusedVariables false
section
open Go.RowKit Go.Maps
def moveV (m : V6) (t : T3) : T3 := moveT m.1 m.2.1 m.2.2.1 m.2.2.2.1 m.2.2.2.2.1 m.2.2.2.2.2 t.1 t.2.1 t.2.2
def triMay3 (t : T3) : Bool := triMayB t.1 t.2.1 t.2.2
def zT : T3 := (0, 0, 0)
def atI (L : List T3) (ms : List V6) (i : Nat) : T3 := moveV (ms.getD i zeroV) (L.getD i zT)
def atsL (L : List T3) (ms : List V6) : List T3 := (List.range L.length).map (atI L ms)
def mayI (L : List T3) (ms : List V6) (i : Nat) : Prop := mapMayB (ms.getD i zeroV) = true ∧ triMay3 (atI L ms i) = true
def okI (L : List T3) (C : E4 → Bool) (ms : List V6) (i k : Nat) : Prop := ∀ j, nbL L i k = some j → ms.getD j zeroV = stpL L C i k (ms.getD i zeroV)
structure MapsP (L : List T3) (C : E4 → Bool) (ms : List V6) : Prop where
 len : ms.length = L.length
 may : ∀ i, i < L.length → mayI L ms i
 ok : ∀ i k, i < L.length → k < 3 → okI L C ms i k
abbrev Stk := T3 × List T3
def triP (L : List T3) (ms : List V6) (s : Stk) (q : Nat) (t : T3) : Prop := t ∈ L ∧ atI L ms (L.idxOf t) = s.1 ∧ t ∉ s.2.take q
structure StksP (L : List T3) (ms : List V6) (sts : List Stk) : Prop where
 ne : ∀ (i : Nat) (s : Stk), sts[i]? = some s → s.2 ≠ []
 lt : ∀ (i : Nat) (p s : Stk), sts[i]? = some p → sts[i + 1]? = some s → triLt p.1 s.1
 tri : ∀ (i : Nat) (s : Stk) (q : Nat) (t : T3), sts[i]? = some s → s.2[q]? = some t → triP L ms s q t
 many : (sts.flatMap (·.2)).length = L.length
structure StateP (W H : Int) (mask : List Int) (cs : List C5) (ms : List V6) (sts : List Stk) : Prop where
 sheet : newB W H mask cs = true
 maps : MapsP (trisL W.toNat mask) (crsF false cs) ms
 stks : StksP (trisL W.toNat mask) ms sts
theorem atsL_len (L : List T3) (ms : List V6) : (atsL L ms).length = L.length := by simp [atsL]
theorem atsL_at {L : List T3} {ms : List V6} {i : Nat} (h : i < L.length) : (atsL L ms)[i]? = some (atI L ms i) := by simp [atsL, h]
def earl (sts : List Stk) (i q : Nat) : List T3 := (sts.take i).flatMap (·.2) ++ ((sts[i]?.map (·.2)).getD []).take q
structure LieI (L : List T3) (ms : List V6) (sts : List Stk) (i q : Nat) : Prop where
 ne : ∀ (j : Nat) (s : Stk), (j < i ∨ j = i ∧ 0 < q) → sts[j]? = some s → s.2 ≠ []
 lt : ∀ (j : Nat) (p s : Stk), (j + 1 < i ∨ j + 1 = i ∧ 0 < q) → sts[j]? = some p → sts[j + 1]? = some s → triLt p.1 s.1
 tri : ∀ (j : Nat) (s : Stk) (p : Nat) (t : T3), (j < i ∨ j = i ∧ p < q) → sts[j]? = some s → s.2[p]? = some t → triP L ms s p t
theorem LieI.start (L : List T3) (ms : List V6) (sts : List Stk) : LieI L ms sts 0 0 := ⟨fun j s h => by omega, fun j p s h => by omega, fun j s p t h => by omega⟩
section
variable {L : List T3} {ms : List V6} {sts : List Stk} {i q : Nat}
theorem LieI.done (h : LieI L ms sts sts.length 0) (hm : (sts.flatMap (·.2)).length = L.length) : StksP L ms sts where
 ne i s hs := h.ne i s (.inl (List.getElem?_eq_some_iff.1 hs).1) hs
 lt i p s hp hs := h.lt i p s (.inl (List.getElem?_eq_some_iff.1 hs).1) hp hs
 tri i s q t hs ht := h.tri i s q t (.inl (List.getElem?_eq_some_iff.1 hs).1) hs ht
 many := hm
theorem LieI.next {s : Stk} (hs : sts[i]? = some s) (h : LieI L ms sts i s.2.length) (h0 : 0 < s.2.length) : LieI L ms sts (i + 1) 0 where
 ne j u hj hu := h.ne j u (by rcases Nat.lt_or_ge j i with h1 | h1; exact .inl h1; exact .inr ⟨by omega, h0⟩) hu
 lt j p u hj hp hu := h.lt j p u (by rcases Nat.lt_or_ge (j + 1) i with h1 | h1; exact .inl h1; exact .inr ⟨by omega, h0⟩) hp hu
 tri j u p t hj hu ht := by
  rcases Nat.lt_or_ge j i with h1 | h1
  ·exact h.tri j u p t (.inl h1) hu ht
  ·obtain rfl : j = i := by omega
   rw [hs] at hu
   cases hu
   exact h.tri j _ p t (.inr ⟨rfl, (List.getElem?_eq_some_iff.1 ht).1⟩) hs ht
theorem LieI.apart (h : LieI L ms sts i q) (hlt : ∀ (j : Nat) (p s : Stk), j + 1 ≤ i → sts[j]? = some p → sts[j + 1]? = some s → triLt p.1 s.1) {j : Nat} (hj : j < i) {a s : Stk} (ha : sts[j]? = some a) (hs : sts[i]? = some s) : triLt a.1 s.1 := by
 have key : ∀ (d j : Nat) (a : Stk), i = j + 1 + d → sts[j]? = some a → triLt a.1 s.1 := by
  intro d
  induction d with
  | zero =>
   intro j a e ha
   subst e
   exact hlt j a s (by omega) ha hs
  | succ d ih =>
   intro j a e ha
   obtain ⟨b, hb⟩ : ∃ b, sts[j + 1]? = some b := ⟨_, List.getElem?_eq_getElem (by have := (List.getElem?_eq_some_iff.1 hs).1; omega)⟩
   exact triLt_trans (hlt j a b (by omega) ha hb) (ih (j + 1) b (by omega) hb)
 exact key (i - j - 1) j a (by omega) ha
theorem mem_earl {t : T3} (h : t ∈ earl sts i q) : (∃ (j : Nat) (a : Stk), j < i ∧ sts[j]? = some a ∧ t ∈ a.2) ∨ ∃ s : Stk, sts[i]? = some s ∧ t ∈ s.2.take q := by
 unfold earl at h
 rcases List.mem_append.1 h with h | h
 ·left
  obtain ⟨a, ha, ht⟩ := List.mem_flatMap.1 h
  obtain ⟨j, hj⟩ := List.getElem?_of_mem ha
  rw [List.getElem?_take] at hj
  split at hj
  ·exact ⟨j, a, by assumption, hj, ht⟩
  ·cases hj
 ·right
  cases hs : sts[i]? with
  | none => rw [hs] at h; simp at h
  | some s => rw [hs] at h; exact ⟨s, rfl, h⟩
theorem LieI.twice (h : LieI L ms sts i q) {s : Stk} (hs : sts[i]? = some s) {t : T3} (ht : s.2[q]? = some t) (hm : t ∈ earl sts i q) : ¬ StksP L ms sts := by
 intro hP
 obtain ⟨_, p2, p3⟩ := hP.tri i s q t hs ht
 rcases mem_earl hm with ⟨j, a, hj, ha, hta⟩ | ⟨s', hs', hts⟩
 ·obtain ⟨p, hp⟩ := List.getElem?_of_mem hta
  obtain ⟨_, r2, _⟩ := hP.tri j a p t ha hp
  have := h.apart (fun j p s _ => hP.lt j p s) hj ha hs
  rw [← r2, ← p2] at this
  exact triLt_irrefl _ this
 ·rw [hs] at hs'
  cases hs'
  exact p3 hts
theorem earl_step {s : Stk} (hs : sts[i]? = some s) {t : T3} (ht : s.2[q]? = some t) : earl sts i (q + 1) = earl sts i q ++ [t] := by
 unfold earl
 rw [hs]
 simp only [Option.map_some, Option.getD_some]
 rw [List.take_add_one, ht, List.append_assoc]
 rfl
theorem earl_zero (sts : List Stk) (i : Nat) : earl sts i 0 = (sts.take i).flatMap (·.2) := by simp [earl]
theorem earl_next {s : Stk} (hs : sts[i]? = some s) : earl sts i s.2.length = earl sts (i + 1) 0 := by
 rw [earl_zero, List.take_add_one, hs]
 unfold earl
 rw [hs]
 simp
theorem LieI.tri_step (h : LieI L ms sts i q) {s : Stk} (hs : sts[i]? = some s) {t : T3} (ht : s.2[q]? = some t) (hne : s.2 ≠ []) (hlt : ∀ (j : Nat) (p : Stk), j + 1 = i → sts[j]? = some p → triLt p.1 s.1) (h1 : t ∈ L) (h2 : atI L ms (L.idxOf t) = s.1) (h3 : t ∉ earl sts i q) : LieI L ms sts i (q + 1) where
 ne j u hj hu := by
  by_cases e : j = i
  ·subst e
   rw [hs] at hu
   cases hu
   exact hne
  ·exact h.ne j u (.inl (by omega)) hu
 lt j p u hj hp hu := by
  by_cases e : j + 1 = i
  ·subst e
   rw [hs] at hu
   cases hu
   exact hlt j p rfl hp
  ·exact h.lt j p u (.inl (by omega)) hp hu
 tri j u p t' hj hu ht' := by
  by_cases e : j = i ∧ p = q
  ·obtain ⟨rfl, rfl⟩ := e
   rw [hs] at hu
   cases hu
   rw [ht] at ht'
   cases ht'
   refine ⟨h1, h2, fun hm => h3 ?_⟩
   unfold earl
   rw [hs]
   exact List.mem_append_right _ hm
  ·exact h.tri j u p t' (by omega) hu ht'
theorem LieI.many_le (h : LieI L ms sts i q) (hnd : (earl sts i q).Nodup) : (earl sts i q).length ≤ L.length := by
 refine nodup_sub_len hnd fun t ht => ?_
 rcases mem_earl ht with ⟨j, a, hj, ha, hta⟩ | ⟨s, hs, hts⟩
 ·obtain ⟨p, hp⟩ := List.getElem?_of_mem hta
  exact (h.tri j a p t (.inl hj) ha hp).1
 ·obtain ⟨p, hp⟩ := List.getElem?_of_mem hts
  rw [List.getElem?_take] at hp
  split at hp
  ·exact (h.tri i s p t (.inr ⟨rfl, by assumption⟩) hs hp).1
  ·cases hp
end
end
section
open Go.RowKit Go.Maps
theorem zeroSl (w : World) : (zeroValue 22).run Tryz.prog w = .ok (.slice none 0 0) w := by kernel_rfl
def kPV : KV T3 Value where
 K := 44
 enc t := aggT3 t
 ok t := inR t.1 ∧ inR t.2.1 ∧ inR t.2.2
 law := Keyed.of_law lawT
 key a h := keyOf_T h.1 h.2.1 h.2.2
 inj a b h := kT.inj a b h
 T := 78
 E := 22
 val v := v
 z := .slice none 0 0
 ht := Tryz.underlying78
 hz := zeroSl
structure PilM (w : World) (base b n : Nat) (f : T3 → Option Value) (g : T3 → List Nat) : Prop where
 map : MapV kPV w b n f
 no : ∀ t, f t = none → g t = []
 row : ∀ t v, f t = some v → w.ownsRow base 3 1 v (g t).length (visN (g t)) ∧ g t ≠ []
 far : ∀ t t' v v', t ≠ t' → f t = some v → f t' = some v' → v.ownBlock ≠ v'.ownBlock
theorem MapV.is {α β : Type} {k : KV α β} {w : World} {b n : Nat} {f : α → Option β} (h : MapV k w b n f) : ∃ es c, w.heap[b]? = some (.map es c) := by
 obtain ⟨D, ⟨es, c, h1, _⟩, _⟩ := h
 exact ⟨es, c, h1⟩
def PilB (w : World) (xb pb : Nat) (vm va vl : Value) (mb : Nat) : Prop := w.heap[xb]? = some (.cells #[.pointer (some ⟨pb, 0, none⟩), vm, va, vl, .map (some mb)] 80 (0, 0))
section
variable {w w' : World} {xb pb mb : Nat} {vm va vl : Value}
theorem PilB.below (h : PilB w xb pb vm va vl mb) (hb : Below w.heap.size w w') : PilB w' xb pb vm va vl mb := blk_below h hb (blk_lt h)
theorem PilB.c0 (h : PilB w xb pb vm va vl mb) : w.cell? ⟨xb, 0, none⟩ = some (.pointer (some ⟨pb, 0, none⟩)) := (cell_of_blk (show w.heap[xb]? = _ from h) 0).trans rfl
theorem PilB.c1 (h : PilB w xb pb vm va vl mb) : w.cell? ⟨xb, 1, none⟩ = some vm := (cell_of_blk (show w.heap[xb]? = _ from h) 1).trans rfl
theorem PilB.c2 (h : PilB w xb pb vm va vl mb) : w.cell? ⟨xb, 2, none⟩ = some va := (cell_of_blk (show w.heap[xb]? = _ from h) 2).trans rfl
theorem PilB.c3 (h : PilB w xb pb vm va vl mb) : w.cell? ⟨xb, 3, none⟩ = some vl := (cell_of_blk (show w.heap[xb]? = _ from h) 3).trans rfl
theorem PilB.c4 (h : PilB w xb pb vm va vl mb) : w.cell? ⟨xb, 4, none⟩ = some (.map (some mb)) := (cell_of_blk (show w.heap[xb]? = _ from h) 4).trans rfl
theorem PilB.fz (h : PilB w xb pb vm va vl mb) (i : Nat) : w.frozen? ⟨xb, i, none⟩ = false := frozen_of_blk (show w.heap[xb]? = _ from h) i
theorem PilB.setA (h : PilB w xb pb vm va vl mb) (v : Value) : PilB (w.setCell ⟨xb, 2, none⟩ v) xb pb vm v vl mb := by
 have := blk_set (show w.heap[xb]? = _ from h) 2 v
 unfold PilB
 simpa using this
end
theorem Rd.mp {w : World} {A : Option Addr} {ms : List V6} (h : Rd w 6 A ms.length (mcs ms)) {i : Nat} (hi : i < ms.length) : ∃ b off m, A = some ⟨b, off, none⟩ ∧ ms[i]? = some m ∧ b < w.heap.size ∧
  w.cell? ⟨b, off + i * 6, none⟩ = some (.int .i64 m.1) ∧ w.cell? ⟨b, off + i * 6 + 1, none⟩ = some (.int .i64 m.2.1) ∧ w.cell? ⟨b, off + i * 6 + 2, none⟩ = some (.int .i64 m.2.2.1) ∧ w.cell? ⟨b, off + i * 6 + 3, none⟩ = some (.int .i64 m.2.2.2.1) ∧ w.cell? ⟨b, off + i * 6 + 4, none⟩ = some (.int .i64 m.2.2.2.2.1) ∧ w.cell? ⟨b, off + i * 6 + 5, none⟩ = some (.int .i64 m.2.2.2.2.2) := by
 obtain ⟨b, off, e, hb, hc⟩ := h.2 (by omega)
 obtain ⟨m, hm⟩ : ∃ m, ms[i]? = some m := ⟨_, List.getElem?_eq_getElem hi⟩
 obtain ⟨e0, e1, e2, e3, e4, e5⟩ := mcs_at hm
 refine ⟨b, off, m, e, hm, hb, hc _ _ e0, ?_, ?_, ?_, ?_, ?_⟩ <;> (rw [Nat.add_assoc]; exact hc _ _ (by assumption))
end
section
open Go.RowKit
section
variable {P : Program} {ops : Array Oper}
def chnB (ops : Array Oper) (T : List Nat) (fs : List (List Bool)) (cl : List (List Nat)) : Bool :=
 (T.all fun t => Nat.blt t ops.size) && (List.range T.length).all (fun q => Nat.beq q 0 || Region.waitsFor .any ops (T.getD q 0) (T.getD (q - 1) 0)) && (List.range T.length).all (fun q => cloB ops [T.getD q 0] (cl.getD q [])) &&
 (List.range ops.size).all (fun i => T.contains i || (List.range (T.length + 1)).all fun j => (fs.getD j []).getD i false || ((!Nat.beq j 0 && (cl.getD (j - 1) []).contains i) || (T.drop j).any fun t => Region.waitsFor .any ops i t)) && decide T.Nodup
theorem rg_chn {id : Nat} {a : Act} {w : World} {Q : Exit → Act → World → Prop} (T : List Nat) (fs : List (List Bool)) (cl : List (List Nat)) (vals : (Nat → Value) → List Value) (St : Nat → (Nat → Value) → World → Prop) {fin : (Nat → Value) → Act} (hf : ∀ x, putOps ops.toList (vals x) a = fin x) (hm : P.follows .mixedOrders = true) (hb : rgB ops = true) (hln : ∀ x, (vals x).length = ops.size)
  (hc : chnB ops T fs cl = true) (hvs : ∀ x j t v, T[j]? = some t → vals (updV x j v) = (vals x).set t v) (h0 : St 0 (fun _ => undef) w.drew)
  (hA : ∀ j x W, j ≤ T.length → St j x W → RgF P ops (fin x) (St j x) W ops.toList (fs.getD j []))
  (hT : ∀ j t x W, T[j]? = some t → St j x W → ∀ o, ops[t]? = some o → ∀ K : Act → World → Prop, (∀ v W', St (j + 1) (updV x j v) W' → K ((fin x).put o.dst v) W') →
    if Region.wanted o (yielded ops (fin x).tmps) = true then o.wp P (fin x) W K rgQ else K ((fin x).put o.dst undef) W)
  (hend : ∀ x W, St T.length x W → Q .normal (fin x) W) : (Code.region id ops true).wp P Q a w := by
 unfold chnB at hc
 obtain ⟨hc, c5⟩ := (Bool.and_eq_true _ _).mp hc
 obtain ⟨hc, c4⟩ := (Bool.and_eq_true _ _).mp hc
 obtain ⟨hc, c3⟩ := (Bool.and_eq_true _ _).mp hc
 obtain ⟨c1, c2⟩ := (Bool.and_eq_true _ _).mp hc
 have hnd : T.Nodup := of_decide_eq_true c5
 have hlt : ∀ q t, T[q]? = some t → t < ops.size := fun q t h => Nat.le_of_ble_eq_true (List.all_eq_true.1 c1 t (List.mem_of_getElem? h))
 have hww : ∀ q t s, T[q + 1]? = some t → T[q]? = some s → Region.waitsFor .any ops t s = true := fun q t s h1 h2 => by
  have h3 := (List.getElem?_eq_some_iff.1 h1).1
  have h := List.all_eq_true.1 c2 (q + 1) (List.mem_range.2 h3)
  simp only [List.getD_eq_getElem?_getD, h1, Nat.add_sub_cancel, h2, Option.getD_some] at h
  rcases Bool.or_eq_true _ _ |>.mp h with h | h
  ·simp at h
  ·exact h
 have hoff0 : ∀ i, (Array.replicate ops.size false).getD i false = false := fun i => by
  simp only [Array.getD_eq_getD_getElem?, Array.getElem?_replicate]
  split <;> rfl
 refine rg_val vals (fun x L W => ∃ j, j ≤ T.length ∧ (∀ q t, T[q]? = some t → (L.getD t false = true ↔ q < j)) ∧ St j x W) hf hm hb hln (fun _ => undef) ⟨0, Nat.zero_le _, fun q t _ => by rw [hoff0]; simp, h0⟩ ?_ ?_
 ·rintro x L W hsz hcl ⟨j, hj, hon, hst⟩ i o ho hoff hdep K hK hKx
  have hi := (Array.getElem?_eq_some_iff.1 ho).1
  have hself : (L.setIfInBounds i true).getD i false = true := by
   have : i < L.size := by omega
   simp [this]
  have hoff2 : L.getD i false = false := off_of hoff
  by_cases hT' : ∃ q : Nat, T[q]? = some i
  ·obtain ⟨q, hq⟩ := hT'
   have h1 : ¬ q < j := fun h => by rw [(hon q i hq).2 h] at hoff2; cases hoff2
   have h2 : q = j := by
    cases q with
    | zero => omega
    | succ q =>
     have hql := (List.getElem?_eq_some_iff.1 hq).1
     obtain ⟨s, hs⟩ : ∃ s, T[q]? = some s := ⟨_, List.getElem?_eq_getElem (by omega)⟩
     have := (hon q s hs).1 (hdep s (hww q i s hq hs))
     omega
   subst h2
   have hql := (List.getElem?_eq_some_iff.1 hq).1
   refine hT q i x W hq hst o ho K fun v W' h => hKx v (updV x q v) W' (hvs x q i v hq) ⟨q + 1, by omega, fun q' t' hq' => ?_, h⟩
   by_cases e : i = t'
   ·subst e
    have : q' = q := by
     have a1 := (List.getElem?_eq_some_iff.1 hq')
     have a2 := (List.getElem?_eq_some_iff.1 hq)
     exact (List.getElem_inj hnd).1 (a1.2.trans a2.2.symm)
    subst this
    rw [hself]
    simp
   ·rw [getD_set_ne false e, hon q' t' hq']
    have : q' ≠ q := fun e2 => by rw [e2, hq] at hq'; exact e (Option.some.inj hq')
    omega
  ·have hni : T.contains i = false := by
    rw [← Bool.not_eq_true, List.contains_iff_mem]
    intro hm'
    obtain ⟨q, hq⟩ := List.getElem?_of_mem hm'
    exact hT' ⟨q, hq⟩
   have h4 := List.all_eq_true.1 c4 i (List.mem_range.2 hi)
   rw [hni, Bool.false_or] at h4
   have h4 := List.all_eq_true.1 h4 j (List.mem_range.2 (by omega))
   have key : ∀ W', St j x W' → K (fin x) W' := fun W' h => hK W' ⟨j, hj, fun q t hq => by
    have : i ≠ t := fun e => hT' ⟨q, by rw [e]; exact hq⟩
    rw [getD_set_ne false this]
    exact hon q t hq, h⟩
   have fl : (fs.getD j []).getD i false = true → (fs.getD j [])[i]? = some true := fun h => by
    rw [List.getD_eq_getElem?_getD] at h
    cases hq : (fs.getD j [])[i]? with
    | none => rw [hq] at h; cases h
    | some b => rw [hq] at h; simp at h; rw [h]
   refine (hA j x W hj hst).at_ (by simpa using ho) (fl ?_) K key
   rcases Bool.or_eq_true _ _ |>.mp h4 with h5 | h5
   ·exact h5
   ·exfalso
    rcases Bool.or_eq_true _ _ |>.mp h5 with h5 | h5
    case inr =>
     obtain ⟨t, ht, hw⟩ := List.any_eq_true.1 h5
     obtain ⟨q, hq⟩ := List.getElem?_of_mem ht
     rw [List.getElem?_drop] at hq
     have := (hon (j + q) t hq).1 (hdep t hw)
     omega
    obtain ⟨h6, h5⟩ := (Bool.and_eq_true _ _).mp h5
    cases j with
    | zero => cases h6
    | succ j =>
     rw [Nat.add_sub_cancel, List.contains_iff_mem] at h5
     obtain ⟨s, hs⟩ : ∃ s, T[j]? = some s := ⟨_, List.getElem?_eq_getElem (by omega)⟩
     have hs2 : T.getD j 0 = s := by rw [List.getD_eq_getElem?_getD, hs]; rfl
     have := cloB_on hcl (cl.getD j []) [T.getD j 0] (List.all_eq_true.1 c3 j (List.mem_range.2 (by omega))) (by intro k hk; rw [List.mem_singleton] at hk; subst hk; rw [hs2]; exact (hon j s hs).2 (by omega)) i h5
     rw [hoff2] at this
     cases this
 ·rintro x L W ⟨j, hj, hon, hst⟩ hall
  have : j = T.length := by
   by_cases h : j < T.length
   ·exfalso
    obtain ⟨s, hs⟩ : ∃ s, T[j]? = some s := ⟨_, List.getElem?_eq_getElem h⟩
    have := (hon j s hs).1 (hall s (hlt j s hs))
    omega
   ·omega
  subst this
  exact hend x W hst
end
end
end Go.Proofs.YtpkjekedgodccaaGreatDoor
