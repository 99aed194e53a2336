/- Heaped in general: plain words; appends of what lies in memory.. -/
import Derived.Test.YtbnkabmnenginaaGreatDoorK41
namespace Go.Proofs.YtbnkabmnenginaaGreatDoor
set_option linter.unusedSimpArgs false
set_option linter.unusedVariables false
section
open Go.RowKit Go.Maps
set_option maxRecDepth 100000 in
theorem step_appM {T E : TypeId} {z : Value} {sz bytes : Nat} (hT : Tryz.prog.underlying T = some (.slice E)) (hE : (Tryz.prog.info? E).map (fun i => (i.zero, i.size, i.bytes)) = some (some z, sz, bytes))
  (hzs : z.cells.size = sz) (hsz : 0 < sz)
  {w : World} {ops : Array Oper} {o : Oper} {a : Act} {K : Act → World → Prop} {Q : Exit → Act → World → Prop} {Z : Prop} (hgd : o.guard = none) (s x : Operand)
  (ho : o.op = .call { callee := .builtin .append, args := #[s, x], argTypes := #[T, T] })
  (base : Nat) (v : Value) (n : Nat) (xs news : List Value) (hs : a.eval s = v) (hown : w.ownsRow base E sz v n xs) (hbase : base ≤ w.heap.size)
  (A : Option Addr) (m c : Nat) (hx : a.eval x = .slice A m c) (hA : A = none → c = 0) (hr : Rd w sz A m news) (h1 : ∀ u ∈ news, u.oneCell' = true) (hn : (n + m) * bytes ≤ 140737488351232) (hn2 : n + m ≤ 140737488351232)
  (h : ∀ v' w', w'.ownsRow base E sz v' (n + m) (xs ++ news) → Below base w w' → K (a.put o.dst v') w') :
  if Region.wanted o (yielded ops a.tmps) = true then Oper.wp Tryz.prog o a w K Q else Z := by
 have hw : Region.wanted o (yielded ops a.tmps) = true := by simp [Region.wanted, hgd]
 rw [if_pos hw]
 obtain ⟨i0, hi, hz0, hz1, hz2⟩ := info_parts hE
 cases A with
 | some ad =>
  have hnews : ∀ j u, news[j]? = some u → w.cell? (ad.add j) = some u := by
   intro j u hu
   rcases Nat.eq_zero_or_pos m with h0 | h0
   ·subst h0
    have : news = [] := List.length_eq_zero_iff.1 (by simpa using hr.1)
    subst this
    simp at hu
   ·obtain ⟨b, off, e, _, hc⟩ := hr.2 h0
    injection e with e
    subst e
    rw [addr_add]
    exact hc j u hu
  obtain ⟨v', w', hrun, h2, h3, _, h5⟩ := run_append_own_at (P := Tryz.prog) w base T o.type E i0 z sz bytes hT hi hz0 hz1 hz2 hzs hsz v n xs hown ad m c news hr.1 hnews h1 (by simp only [maxLen]; omega) (by omega) hbase
  unfold Oper.wp execOp
  simp only [ho, resolve, invoke, builtin, Sem.run_bind, Sem.run_pure, Result.andThen_ok, List.map_toArray, List.map_cons, List.map_nil, hs, hx, hrun]
  exact h v' w' h2 ((Below.refl _ _).grown h3 hbase (fun k hk => (hown.lt k hk).1))
 | none =>
  have hm : m = 0 := by
   rcases Nat.eq_zero_or_pos m with hm | hm
   ·exact hm
   ·obtain ⟨b, off, e, _⟩ := hr.2 hm
    cases e
  subst hm
  have hc := hA rfl
  subst hc
  have hnews : news = [] := List.length_eq_zero_iff.1 (by simpa using hr.1)
  subst hnews
  have hrun := run_append_owned_none (P := Tryz.prog) (w := w) base T o.type E i0 sz hT hi v n xs hown
  unfold Oper.wp
  simp [execOp, ho, resolve, invoke, builtin, hs, hx, hrun, Result.andThen]
  exact h _ _ (by simpa using hown) (Below.refl _ _)
theorem eqL_tr3 (U a : T3) : eqL [(U.1, a.1), (U.2.1, a.2.1), (U.2.2, a.2.2)] = decide (U = a) := by
 obtain ⟨x, y, k⟩ := U
 obtain ⟨x', y', k'⟩ := a
 rw [Bool.eq_iff_iff]
 simp [eqL]
theorem tw_step {α : Type} {p : α → Bool} : ∀ {l : List α} {k : Nat} {s : α}, l[k]? = some s → p s = true → k ≤ (l.takeWhile p).length → k + 1 ≤ (l.takeWhile p).length
 | [], k, s, h, _, _ => by simp at h
 | a :: l, 0, s, h, hp, _ => by simp at h; subst h; simp [List.takeWhile_cons, hp]
 | a :: l, k + 1, s, h, hp, hk => by
  cases ha : p a with
  | true =>
   simp only [List.takeWhile_cons, ha, if_true, List.length_cons] at hk ⊢
   have := tw_step (l := l) (by simpa using h) hp (by omega : k ≤ _)
   omega
  | false => simp [List.takeWhile_cons, ha] at hk
theorem tw_stop {α : Type} {p : α → Bool} : ∀ {l : List α} {k : Nat} {s : α}, l[k]? = some s → p s = false → k ≤ (l.takeWhile p).length → (l.takeWhile p).length = k
 | [], k, s, h, _, _ => by simp at h
 | a :: l, 0, s, h, hp, _ => by simp at h; subst h; simp [List.takeWhile_cons, hp]
 | a :: l, k + 1, s, h, hp, hk => by
  cases ha : p a with
  | true =>
   simp only [List.takeWhile_cons, ha, if_true, List.length_cons] at hk ⊢
   have := tw_stop (l := l) (by simpa using h) hp (by omega : k ≤ _)
   omega
  | false => simp [List.takeWhile_cons, ha] at hk
theorem tw_len {α : Type} (p : α → Bool) (l : List α) : (l.takeWhile p).length ≤ l.length := by
 have h := congrArg List.length (List.takeWhile_append_dropWhile (p := p) (l := l))
 rw [List.length_append] at h
 omega
theorem tw_take {α : Type} (p : α → Bool) (l : List α) : l.take (l.takeWhile p).length = l.takeWhile p := by
 have h := List.takeWhile_append_dropWhile (p := p) (l := l)
 generalize l.takeWhile p = a at h ⊢
 generalize l.dropWhile p = b at h
 rw [← h, List.take_left]
theorem tw_drop {α : Type} (p : α → Bool) (l : List α) : l.drop (l.takeWhile p).length = l.dropWhile p := by
 have h := List.takeWhile_append_dropWhile (p := p) (l := l)
 generalize l.takeWhile p = a at h ⊢
 generalize l.dropWhile p = b at h ⊢
 rw [← h, List.drop_left]
noncomputable def kOf (a : T3) (sts : List Stk) : Nat := (sts.takeWhile fun s => ltT s.1 a).length
noncomputable def hasA (a : T3) (sts : List Stk) : Bool := match sts[kOf a sts]? with | some s => decide (s.1 = a) | none => false
noncomputable def insS (a : T3) (sts : List Stk) : List Stk := if hasA a sts = true then sts else sts.take (kOf a sts) ++ (a, []) :: sts.drop (kOf a sts)
def insT (p : T3 → Bool) (l : List T3) (t : T3) : List T3 := l.takeWhile p ++ t :: l.dropWhile p
noncomputable def hstep (a : T3) (p : T3 → Bool) (t : T3) (sts : List Stk) : List Stk := match (insS a sts)[kOf a sts]? with | some s => (insS a sts).set (kOf a sts) (a, insT p s.2 t) | none => sts
def lowB (L : List T3) (hz : List Int) (i : Nat) (u : T3) : Bool := decide (hz.getD (L.idxOf u) 0 < hz.getD i 0)
noncomputable def heapN (L : List T3) (A : Nat → T3) (hz : List Int) : Nat → List Stk
 | 0 => []
 | n + 1 => hstep (A n) (lowB L hz n) (L.getD n (0, 0, 0)) (heapN L A hz n)
theorem kOf_le (a : T3) (sts : List Stk) : kOf a sts ≤ sts.length := tw_len _ _
theorem hasA_at {a : T3} {sts : List Stk} (h : hasA a sts = true) : ∃ l, sts[kOf a sts]? = some (a, l) := by
 unfold hasA at h
 split at h
 ·next s hs => exact ⟨s.2, by rw [hs, ← of_decide_eq_true h]⟩
 ·cases h
theorem hasA_some {a : T3} {sts : List Stk} {s : Stk} (h : sts[kOf a sts]? = some s) : hasA a sts = decide (s.1 = a) := by
 unfold hasA
 rw [h]
theorem hasA_end {a : T3} {sts : List Stk} (h : kOf a sts = sts.length) : hasA a sts = false := by
 unfold hasA
 rw [List.getElem?_eq_none (by omega)]
theorem ins_at (a : T3) (sts : List Stk) : ∃ l, (insS a sts)[kOf a sts]? = some (a, l) := by
 unfold insS
 split
 ·next h => exact hasA_at h
 ·have h := kOf_le a sts
  exact ⟨[], by rw [List.getElem?_append_right (by rw [List.length_take]; omega), List.length_take, Nat.min_eq_left h, Nat.sub_self]; rfl⟩
theorem hstep_eq {a : T3} {p : T3 → Bool} {t : T3} {sts : List Stk} {l : List T3} (h : (insS a sts)[kOf a sts]? = some (a, l)) : hstep a p t sts = (insS a sts).set (kOf a sts) (a, insT p l t) := by
 unfold hstep
 rw [h]
structure HpQ (L : List T3) (n : Nat) (sts : List Stk) : Prop where
 len : sts.length ≤ n
 few : ∀ s ∈ sts, s.2.length ≤ n ∧ ∀ u ∈ s.2, u ∈ L
theorem HpQ.ins {L : List T3} {n : Nat} {sts : List Stk} (h : HpQ L n sts) (a : T3) : (insS a sts).length ≤ n + 1 ∧ ∀ s ∈ insS a sts, s.2.length ≤ n ∧ ∀ u ∈ s.2, u ∈ L := by
 have hl := h.len
 unfold insS
 split
 ·exact ⟨by omega, h.few⟩
 ·refine ⟨by simp [List.length_take, List.length_drop]; omega, fun s hs => ?_⟩
  rcases List.mem_append.1 hs with h1 | h1
  ·exact h.few s (List.mem_of_mem_take h1)
  ·rcases List.mem_cons.1 h1 with h2 | h2
   ·subst h2; exact ⟨by simp, by simp⟩
   ·exact h.few s (List.mem_of_mem_drop h2)
theorem insT_len (p : T3 → Bool) (l : List T3) (t : T3) : (insT p l t).length = l.length + 1 := by
 have h := congrArg List.length (List.takeWhile_append_dropWhile (p := p) (l := l))
 rw [List.length_append] at h
 simp only [insT, List.length_append, List.length_cons]
 omega
theorem insT_mem {p : T3 → Bool} {l : List T3} {t u : T3} : u ∈ insT p l t ↔ u = t ∨ u ∈ l := by
 have h := List.takeWhile_append_dropWhile (p := p) (l := l)
 have : u ∈ l ↔ u ∈ l.takeWhile p ++ l.dropWhile p := by rw [h]
 rw [this]
 simp only [insT, List.mem_append, List.mem_cons]
 constructor
 ·rintro (h | h | h)
  ·exact .inr (.inl h)
  ·exact .inl h
  ·exact .inr (.inr h)
 ·rintro (h | h | h)
  ·exact .inr (.inl h)
  ·exact .inl h
  ·exact .inr (.inr h)
theorem HpQ.step {L : List T3} {n : Nat} {sts : List Stk} (h : HpQ L n sts) (a : T3) (p : T3 → Bool) {t : T3} (ht : t ∈ L) : HpQ L (n + 1) (hstep a p t sts) := by
 obtain ⟨l, hl⟩ := ins_at a sts
 obtain ⟨h1, h2⟩ := h.ins a
 rw [hstep_eq hl]
 refine ⟨by simpa using h1, fun s hs => ?_⟩
 rcases List.mem_or_eq_of_mem_set hs with h3 | h3
 ·exact ⟨by have := (h2 s h3).1; omega, (h2 s h3).2⟩
 ·subst h3
  have h4 := h2 _ (List.mem_of_getElem? hl)
  exact ⟨by simp only [insT_len]; have := h4.1; simp only at this; omega, fun u hu => by
   rcases insT_mem.1 hu with rfl | h5
   ·exact ht
   ·exact h4.2 u h5⟩
theorem heapN_B {L : List T3} (A : Nat → T3) (hs : List Int) : ∀ {n : Nat}, n ≤ L.length → HpQ L n (heapN L A hs n)
 | 0, _ => ⟨by simp [heapN], by simp [heapN]⟩
 | n + 1, h => (heapN_B A hs (by omega)).step _ _ (by rw [List.getD_eq_getElem?_getD, List.getElem?_eq_getElem (by omega)]; exact List.getElem_mem _)
def upS (z : Stk) (sts : List Stk) (j : Nat) : List Stk := (sts ++ [z]).take (j + 1) ++ sts.drop j
theorem upS_start (z : Stk) (sts : List Stk) : upS z sts sts.length = sts ++ [z] := by
 unfold upS
 rw [List.drop_length, List.append_nil, List.take_of_length_le (by simp)]
theorem upS_len {z : Stk} {sts : List Stk} {j : Nat} (h : j ≤ sts.length) : (upS z sts j).length = sts.length + 1 := by
 unfold upS
 simp only [List.length_append, List.length_take, List.length_drop, List.length_cons, List.length_nil]
 omega
theorem upS_at {z : Stk} {sts : List Stk} {j : Nat} {s : Stk} (h : sts[j]? = some s) : (upS z sts (j + 1))[j]? = some s := by
 have hj := (List.getElem?_eq_some_iff.1 h).1
 unfold upS
 rw [List.getElem?_append_left (by simp; omega), List.getElem?_take_of_lt (by omega), List.getElem?_append_left hj, h]
theorem upS_step {z : Stk} {sts : List Stk} {j : Nat} {s : Stk} (h : sts[j]? = some s) : (upS z sts (j + 1)).set (j + 1) s = upS z sts j := by
 have hj := (List.getElem?_eq_some_iff.1 h).1
 have hl : ((sts ++ [z]).take (j + 1 + 1)).length = j + 2 := by simp; omega
 unfold upS
 rw [List.set_append_left _ _ (by omega), List.drop_eq_getElem_cons (i := j) hj, show sts[j] = s by have := List.getElem?_eq_getElem hj; rw [h] at this; exact (Option.some.inj this).symm, List.take_add_one (i := j + 1)]
 have h2 : (sts ++ [z])[j + 1]? = some ((sts ++ [z])[j + 1]'(by simp; omega)) := List.getElem?_eq_getElem _
 rw [h2]
 have h3 : ((sts ++ [z]).take (j + 1)).length = j + 1 := by simp; omega
 rw [List.set_append_right _ _ (by omega), h3, Nat.sub_self]
 simp
theorem upS_end {z x : Stk} {sts : List Stk} {k : Nat} (h : k ≤ sts.length) : (upS z sts k).set k x = sts.take k ++ x :: sts.drop k := by
 unfold upS
 have h2 : (sts ++ [z])[k]? = some ((sts ++ [z])[k]'(by simp; omega)) := List.getElem?_eq_getElem _
 rw [List.take_add_one, h2, List.take_append_of_le_length h, List.append_assoc, List.set_append_right _ _ (by rw [List.length_take]; omega), List.length_take, Nat.min_eq_left h, Nat.sub_self]
 rfl
theorem rdTake {w : World} {A : Option Addr} {l : List T3} (h : Rd w 3 A l.length (tcT l)) {q : Nat} (hq : q ≤ l.length) : Rd w 3 A q (tcT (l.take q)) := by
 have e : tcT l = tcT (l.take q) ++ tcT (l.drop q) := by rw [← tcT_app, List.take_append_drop]
 refine ⟨by rw [tcT_len]; simp; omega, fun h0 => ?_⟩
 obtain ⟨b, off, e1, e2, e3⟩ := h.2 (by omega)
 refine ⟨b, off, e1, e2, fun j u hj => e3 j u ?_⟩
 rw [e, List.getElem?_append_left (List.getElem?_eq_some_iff.1 hj).1]
 exact hj
theorem rdDrop {w : World} {b off : Nat} {l : List T3} (h : Rd w 3 (some ⟨b, off, none⟩) l.length (tcT l)) {q : Nat} (hq : q ≤ l.length) : Rd w 3 (some ⟨b, off + q * 3, none⟩) (l.length - q) (tcT (l.drop q)) := by
 have e : tcT l = tcT (l.take q) ++ tcT (l.drop q) := by rw [← tcT_app, List.take_append_drop]
 refine ⟨by rw [tcT_len, List.length_drop], fun h0 => ?_⟩
 obtain ⟨b', off', e1, e2, e3⟩ := h.2 (by omega)
 cases e1
 refine ⟨b, _, rfl, e2, fun j u hj => ?_⟩
 have hl : (tcT (l.take q)).length = q * 3 := by rw [tcT_len, List.length_take]; omega
 have := e3 (q * 3 + j) u (by rw [e, List.getElem?_append_right (by omega), hl, Nat.add_sub_cancel_left]; exact hj)
 rw [← Nat.add_assoc] at this
 exact this
theorem rdSuf {w : World} {A : Option Addr} {l : List T3} {c : Nat} (h : Rd w 3 A l.length (tcT l)) {q : Nat} (hq : q ≤ l.length) (hc : l.length ≤ c) : Rd w 3 (if c = q then A else Option.map (fun x => x.add (q * 3)) A) (l.length - q) (tcT (l.drop q)) := by
 rcases Nat.lt_or_ge q l.length with h0 | h0
 ·obtain ⟨b, off, e1, _, _⟩ := h.2 (by omega)
  subst e1
  rw [if_neg (by omega)]
  simp only [Option.map_some, addr_add]
  exact rdDrop h hq
 ·exact ⟨by rw [tcT_len, List.length_drop], fun h1 => by omega⟩
theorem rdSuf_none {A : Option Addr} {c q : Nat} (h : A = none → c = 0) : (if c = q then A else Option.map (fun x => x.add (q * 3)) A) = none → c - q = 0 := by
 intro e
 split at e
 ·omega
 ·cases A with
  | none => have := h rfl; omega
  | some ad => simp at e
theorem insT_tc {p : T3 → Bool} {l : List T3} {t : T3} {n : Nat} (hn : n = (l.takeWhile p).length) : (tcT (l.take n) ++ [.int .i64 t.1, .int .i64 t.2.1, .int .i64 t.2.2]) ++ tcT (l.drop n) = tcT (insT p l t) := by
 subst hn
 rw [tw_take, tw_drop, insT, tcT_app, show tcT (t :: l.dropWhile p) = [.int .i64 t.1, .int .i64 t.2.1, .int .i64 t.2.2] ++ tcT (l.dropWhile p) from rfl, List.append_assoc]
theorem kOf_all {a : T3} : ∀ {sts : List Stk}, (∀ s ∈ sts, ltT s.1 a = true) → kOf a sts = sts.length
 | [], _ => rfl
 | s :: sts, h => by
  have h1 := h s (by simp)
  have h2 := kOf_all (sts := sts) fun x hx => h x (List.mem_cons_of_mem _ hx)
  unfold kOf at h2 ⊢
  rw [List.takeWhile_cons, if_pos (by simpa using h1), List.length_cons, h2, List.length_cons]
theorem heapN_ones {L : List T3} {A : Nat → T3} {hs : List Int} (hso : L.Pairwise triLt) (hA : ∀ i t, L[i]? = some t → A i = t) : ∀ {n : Nat}, n ≤ L.length → heapN L A hs n = ones (L.take n)
 | 0, _ => rfl
 | n + 1, h => by
  obtain ⟨t, ht⟩ : ∃ t, L[n]? = some t := ⟨_, List.getElem?_eq_getElem (by omega)⟩
  rw [heapN, heapN_ones hso hA (by omega : n ≤ _), hA n t ht, ones_take ht]
  have hk : kOf t (ones (L.take n)) = (ones (L.take n)).length := kOf_all fun s hs => by
   obtain ⟨u, hu, rfl⟩ := List.mem_map.1 hs
   obtain ⟨k, hk⟩ := List.getElem?_of_mem hu
   have hkn : k < n := by have := (List.getElem?_eq_some_iff.1 hk).1; rw [List.length_take] at this; omega
   rw [List.getElem?_take_of_lt hkn] at hk
   have e1 := (List.getElem?_eq_some_iff.1 hk)
   have e2 := (List.getElem?_eq_some_iff.1 ht)
   have := (List.pairwise_iff_getElem.1 hso) k n e1.1 e2.1 hkn
   rw [e1.2, e2.2] at this
   exact ltT_yes this
  have hi : insS t (ones (L.take n)) = ones (L.take n) ++ [(t, [])] := by
   unfold insS
   rw [hasA_end hk, if_neg (by simp), hk, List.take_length, List.drop_length]
  have ha : (insS t (ones (L.take n)))[kOf t (ones (L.take n))]? = some (t, []) := by rw [hi, hk]; simp
  rw [hstep_eq ha, hi, hk, set_last, List.getD_eq_getElem?_getD, ht]
  rfl
end
end Go.Proofs.YtbnkabmnenginaaGreatDoor
