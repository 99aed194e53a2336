/- (*Pile).State: what holds while its stacks are told.. A drawn region with a chain of operations that change memory, and one more (an alloc) that waits for nobody.. -/
import Derived.Test.YtbnkabmnenginaaGreatDoorK31
import Derived.Test.YtbnkabmnenginaaGreatDoorK32
import Derived.Test.YtbnkabmnenginaaGreatDoorK33
import Derived.Test.YtbnkabmnenginaaGreatDoorK27
namespace Go.Proofs.YtbnkabmnenginaaGreatDoor
set_option linter.unusedSimpArgs false
set_option linter.unusedVariables false
section
open Go.RowKit Go.Maps
def trsOf (L : List T3) (l : List Nat) : List T3 := l.map fun i => L.getD i (0, 0, 0)
theorem trsOf_len (L : List T3) (l : List Nat) : (trsOf L l).length = l.length := by simp [trsOf]
theorem trsOf_take {L : List T3} {l : List Nat} {h j : Nat} {t : T3} (hj : l[h]? = some j) (ht : L[j]? = some t) : trsOf L (l.take (h + 1)) = trsOf L (l.take h) ++ [t] := by
 unfold trsOf
 rw [List.take_add_one, hj, List.map_append]
 simp [List.getD_eq_getElem?_getD, ht]
def stkOf (L : List T3) (G : T3 → List Nat) (xs : List T3) : List Stk := xs.map fun x => (x, trsOf L (G x))
theorem stkOf_take {L : List T3} {G : T3 → List Nat} {xs : List T3} {i : Nat} {x : T3} (hx : xs[i]? = some x) : stkOf L G (xs.take (i + 1)) = stkOf L G (xs.take i) ++ [(x, trsOf L (G x))] := by
 unfold stkOf
 rw [List.take_add_one, hx, List.map_append]
 rfl
section
variable {w w' wr : World} {g gl mb : Nat}
theorem own_kp2 {base sz n : Nat} {e : TypeId} {v : Value} {xs : List Value} (h : w.ownsRow base e sz v n xs) (hk : Kp2 w w' gl mb) (h1 : v.ownBlock ≠ some gl) (h2 : v.ownBlock ≠ some mb) : w'.ownsRow base e sz v n xs := by
 rcases h.2 with ⟨hv, hn⟩ | ⟨b, cap, cur, hv, hb, hg, r1, r2, r3, r4⟩
 ·exact ⟨h.1, .inl ⟨hv, hn⟩⟩
 ·subst hv
  exact ⟨h.1, .inr ⟨b, cap, cur, rfl, hb, hk.ob hg (fun e => h1 (by rw [e]; rfl)) (fun e => h2 (by rw [e]; rfl)), r1, r2, r3, r4⟩⟩
structure StI (w : World) (g : Nat) (W H : Int) (M C P S T : Value) (sts : List Stk) (wr : World) : Prop where
 kp : Kp2 w wr g g
 blk : wr.heap[g]? = some (.cells #[.int .i64 W, .int .i64 H, M, C, P, S] 29 (0, 0))
 stk : StkW wr w.heap.size T sts
 lt : g < w.heap.size
variable {W H : Int} {M C P S T : Value} {sts : List Stk}
theorem StI.below (h : StI w g W H M C P S T sts wr) (hb : Below wr.heap.size wr w') : StI w g W H M C P S T sts w' :=
 ⟨h.kp.below hb, blk_below h.blk hb (blk_lt h.blk), h.stk.below hb, h.lt⟩
theorem StI.cell (h : StI w g W H M C P S T sts wr) : wr.cell? ⟨g, 5, none⟩ = some S := by rw [cell_of_blk h.blk 5]; rfl
theorem StI.push (h : StI w g W H M C P S T sts wr) {s : Stk} {u : Value} (hu : wr.ownsRow w.heap.size 59 3 u s.2.length (tcT s.2)) : ∃ xs, wr.ownsRow w.heap.size 62 4 T sts.length xs ∧ ∀ (T' : Value) (w' : World), w'.ownsRow w.heap.size 62 4 T' (sts.length + 1) (xs ++ [.int .i64 s.1.1, .int .i64 s.1.2.1, .int .i64 s.1.2.2, u]) → GrowOf wr w' T T' → StI w g W H M C P S T' (sts ++ [s]) w' := by
 obtain ⟨xs, h1, h2⟩ := h.stk.row
 refine ⟨xs, h1, fun T' w' o1 o3 => ⟨h.kp.grown o3.grown (fun b hb => .inr (.inr (h1.lt b hb).1)), (o3.grown.block g (blk_lt h.blk) (fun e => own_not h1 h.blk (by decide) e.symm)).trans h.blk, h2 s o3 hu o1, h.lt⟩⟩
theorem StI.store (h : StI w g W H M C P S T sts wr) : StI w g W H M C P T T sts (wr.setCell ⟨g, 5, none⟩ T) :=
 ⟨h.kp.set 5 T, by simpa using blk_set h.blk 5 T, h.stk.set h.blk (by decide) (by decide) 5 T, h.lt⟩
structure StP (wo w7 : World) (b : Nat) (x : T3) (U : Value) (l : List T3) (wr : World) : Prop where
 bel : Below wo.heap.size wo wr
 blk : wr.heap[b]? = some (.cells #[.int .i64 x.1, .int .i64 x.2.1, .int .i64 x.2.2, U] 62 (0, 0))
 row : wr.ownsRow w7.heap.size 59 3 U l.length (tcT l)
 ge : wo.heap.size ≤ b ∧ wo.heap.size ≤ w7.heap.size ∧ w7.heap.size ≤ wr.heap.size
variable {wo w7 : World} {b : Nat} {x : T3} {U U' : Value} {l : List T3}
theorem StP.below (h : StP wo w7 b x U l wr) (hb : Below wr.heap.size wr w') : StP wo w7 b x U l w' :=
 ⟨stay_b h.bel hb, blk_below h.blk hb (blk_lt h.blk), od h.row hb, h.ge.1, h.ge.2.1, Nat.le_trans h.ge.2.2 hb.size⟩
theorem StP.grow (h : StP wo w7 b x U l wr) {t : T3} (o1 : w'.ownsRow w7.heap.size 59 3 U' (l.length + 1) (tcT l ++ [.int .i64 t.1, .int .i64 t.2.1, .int .i64 t.2.2])) (o2 : Below w7.heap.size wr w') (o3 : GrowOf wr w' U U') :
  Below wo.heap.size wo w' ∧ w'.heap[b]? = some (.cells #[.int .i64 x.1, .int .i64 x.2.1, .int .i64 x.2.2, U] 62 (0, 0)) ∧ w'.ownsRow w7.heap.size 59 3 U' (l ++ [t]).length (tcT (l ++ [t])) ∧ w7.heap.size ≤ w'.heap.size :=
 ⟨h.bel.trans (o2.mono h.ge.2.1), (o3.grown.block b (blk_lt h.blk) (fun e => own_not h.row h.blk (by decide) e.symm)).trans h.blk, by rw [List.length_append, tcT_app, show tcT [t] = [.int .i64 t.1, .int .i64 t.2.1, .int .i64 t.2.2] from rfl]; exact o1, Nat.le_trans h.ge.2.2 o2.size⟩
theorem StP.set (h1 : Below wo.heap.size wo wr) (h2 : wr.heap[b]? = some (.cells #[.int .i64 x.1, .int .i64 x.2.1, .int .i64 x.2.2, U] 62 (0, 0))) (h3 : wr.ownsRow w7.heap.size 59 3 U' l.length (tcT l)) (h4 : wo.heap.size ≤ b ∧ wo.heap.size ≤ w7.heap.size) (h5 : w7.heap.size ≤ wr.heap.size) : StP wo w7 b x U' l (wr.setCell ⟨b, 3, none⟩ U') :=
 ⟨h1.setCell (p := ⟨b, 3, none⟩) h4.1 _, by simpa using blk_set h2 3 U', own_step h3 h2 (by decide) 3 U', h4.1, h4.2, by simpa using h5⟩
theorem StP.cell (h : StP wo w7 b x U l wr) : wr.cell? ⟨b, 3, none⟩ = some U := by rw [cell_of_blk h.blk 3]; rfl
end
end
section
open Go.RowKit
section
variable {P : Program} {ops : Array Oper}
def floB (ops : Array Oper) (T : List Nat) (f : Nat) (fs0 fs1 : List (List Bool)) (cl : List (List Nat)) (cf : List Nat) : Bool :=
 (T.all fun t => Nat.blt t ops.size) && (List.range T.length).all (fun q => Nat.beq q 0 || Region.waitsFor .any ops (T.getD q 0) (T.getD (q - 1) 0)) && (List.range T.length).all (fun q => cloB ops [T.getD q 0] (cl.getD q [])) &&
 (List.range ops.size).all (fun i => T.contains i || Nat.beq i f || (List.range (T.length + 1)).all fun j =>
  ((fs0.getD j []).getD i false || ((!Nat.beq j 0 && (cl.getD (j - 1) []).contains i) || ((T.drop j).any (fun t => Region.waitsFor .any ops i t) || Region.waitsFor .any ops i f))) &&
  ((fs1.getD j []).getD i false || ((!Nat.beq j 0 && (cl.getD (j - 1) []).contains i) || ((T.drop j).any (fun t => Region.waitsFor .any ops i t) || cf.contains i)))) && decide T.Nodup && Nat.blt f ops.size && cloB ops [f] cf && !T.contains f
theorem rg_flo {id : Nat} {a : Act} {w : World} {Q : Exit → Act → World → Prop} (T : List Nat) (f : Nat) (fs0 fs1 : List (List Bool)) (cl : List (List Nat)) (cf : List Nat) (vals : (Nat → Value) → List Value) (St : Nat → Bool → (Nat → Value) → World → Prop) {fin : (Nat → Value) → Act} (hf : ∀ x, putOps ops.toList (vals x) a = fin x) (hm : P.follows .mixedOrders = true) (hb : rgB ops = true) (hln : ∀ x, (vals x).length = ops.size)
  (hc : floB ops T f fs0 fs1 cl cf = true) (hvs : ∀ x j t v, T[j]? = some t → vals (updV x j v) = (vals x).set t v) (hvf : ∀ x v, vals (updV x T.length v) = (vals x).set f v) (h0 : St 0 false (fun _ => undef) w.drew)
  (hA : ∀ j b x W, j ≤ T.length → St j b x W → RgF P ops (fin x) (St j b x) W ops.toList ((bif b then fs1 else fs0).getD j []))
  (hT : ∀ j b t x W, T[j]? = some t → (Region.waitsFor .any ops t f = true → b = true) → St j b x W → ∀ o, ops[t]? = some o → ∀ K : Act → World → Prop, (∀ v W', St (j + 1) b (updV x j v) W' → K ((fin x).put o.dst v) W') →
    if Region.wanted o (yielded ops (fin x).tmps) = true then o.wp P (fin x) W K rgQ else K ((fin x).put o.dst undef) W)
  (hF : ∀ j x W, j ≤ T.length → St j false x W → ∀ o, ops[f]? = some o → ∀ K : Act → World → Prop, (∀ v W', St j true (updV x T.length v) W' → K ((fin x).put o.dst v) W') →
    if Region.wanted o (yielded ops (fin x).tmps) = true then o.wp P (fin x) W K rgQ else K ((fin x).put o.dst undef) W)
  (hend : ∀ x W, St T.length true x W → Q .normal (fin x) W) : (Code.region id ops true).wp P Q a w := by
 unfold floB at hc
 obtain ⟨hc, c8⟩ := (Bool.and_eq_true _ _).mp hc
 obtain ⟨hc, c7⟩ := (Bool.and_eq_true _ _).mp hc
 obtain ⟨hc, c6⟩ := (Bool.and_eq_true _ _).mp hc
 obtain ⟨hc, c5⟩ := (Bool.and_eq_true _ _).mp hc
 obtain ⟨hc, c4⟩ := (Bool.and_eq_true _ _).mp hc
 obtain ⟨hc, c3⟩ := (Bool.and_eq_true _ _).mp hc
 obtain ⟨c1, c2⟩ := (Bool.and_eq_true _ _).mp hc
 have hnd : T.Nodup := of_decide_eq_true c5
 have hfl : f < ops.size := Nat.le_of_ble_eq_true c6
 have hfT : ∀ q : Nat, T[q]? ≠ some f := fun q hq => by
  have h1 : T.contains f = true := List.contains_iff_mem.2 (List.mem_of_getElem? hq)
  rw [h1] at c8
  cases c8
 have hlt : ∀ q t, T[q]? = some t → t < ops.size := fun q t h => Nat.le_of_ble_eq_true (List.all_eq_true.1 c1 t (List.mem_of_getElem? h))
 have hww : ∀ q t s, T[q + 1]? = some t → T[q]? = some s → Region.waitsFor .any ops t s = true := fun q t s h1 h2 => by
  have h3 := (List.getElem?_eq_some_iff.1 h1).1
  have h := List.all_eq_true.1 c2 (q + 1) (List.mem_range.2 h3)
  simp only [List.getD_eq_getElem?_getD, h1, Nat.add_sub_cancel, h2, Option.getD_some] at h
  rcases Bool.or_eq_true _ _ |>.mp h with h | h
  ·simp at h
  ·exact h
 have hoff0 : ∀ i, (Array.replicate ops.size false).getD i false = false := fun i => by
  simp only [Array.getD_eq_getD_getElem?, Array.getElem?_replicate]
  split <;> rfl
 refine rg_val vals (fun x L W => ∃ j b, j ≤ T.length ∧ (∀ q t, T[q]? = some t → (L.getD t false = true ↔ q < j)) ∧ L.getD f false = b ∧ St j b x W) hf hm hb hln (fun _ => undef) ⟨0, false, Nat.zero_le _, fun q t _ => by rw [hoff0]; simp, hoff0 f, h0⟩ ?_ ?_
 ·rintro x L W hsz hcl ⟨j, b, hj, hon, hbf, hst⟩ i o ho hoff hdep K hK hKx
  have hi := (Array.getElem?_eq_some_iff.1 ho).1
  have hself : (L.setIfInBounds i true).getD i false = true := by
   have : i < L.size := by omega
   simp [this]
  have hoff2 : L.getD i false = false := off_of hoff
  by_cases hT' : ∃ q : Nat, T[q]? = some i
  ·obtain ⟨q, hq⟩ := hT'
   have h1 : ¬ q < j := fun h => by rw [(hon q i hq).2 h] at hoff2; cases hoff2
   have h2 : q = j := by
    cases q with
    | zero => omega
    | succ q =>
     have hql := (List.getElem?_eq_some_iff.1 hq).1
     obtain ⟨s, hs⟩ : ∃ s, T[q]? = some s := ⟨_, List.getElem?_eq_getElem (by omega)⟩
     have := (hon q s hs).1 (hdep s (hww q i s hq hs))
     omega
   subst h2
   have hql := (List.getElem?_eq_some_iff.1 hq).1
   refine hT q b i x W hq (fun hw => by rw [← hbf]; exact hdep f hw) hst o ho K fun v W' h => hKx v (updV x q v) W' (hvs x q i v hq) ⟨q + 1, b, by omega, fun q' t' hq' => ?_, ?_, h⟩
   ·by_cases e : i = t'
    ·subst e
     have : q' = q := by
      have a1 := (List.getElem?_eq_some_iff.1 hq')
      have a2 := (List.getElem?_eq_some_iff.1 hq)
      exact (List.getElem_inj hnd).1 (a1.2.trans a2.2.symm)
     subst this
     rw [hself]
     simp
    ·rw [getD_set_ne false e, hon q' t' hq']
     have : q' ≠ q := fun e2 => by rw [e2, hq] at hq'; exact e (Option.some.inj hq')
     omega
   ·rw [getD_set_ne false (fun e => hfT q (by rw [← e]; exact hq))]
    exact hbf
  ·by_cases hif : i = f
   ·subst hif
    have hb0 : b = false := by rw [← hbf]; exact hoff2
    subst hb0
    refine hF j x W hj hst o ho K fun v W' h => hKx v (updV x T.length v) W' (hvf x v) ⟨j, true, hj, fun q t hq => ?_, hself, h⟩
    have : i ≠ t := fun e => hT' ⟨q, by rw [e]; exact hq⟩
    rw [getD_set_ne false this]
    exact hon q t hq
   have hni : T.contains i = false := by
    rw [← Bool.not_eq_true, List.contains_iff_mem]
    intro hm'
    obtain ⟨q, hq⟩ := List.getElem?_of_mem hm'
    exact hT' ⟨q, hq⟩
   have hnf : Nat.beq i f = false := by
    rw [← Bool.not_eq_true]
    exact fun h => hif (Nat.eq_of_beq_eq_true h)
   have h4 := List.all_eq_true.1 c4 i (List.mem_range.2 hi)
   rw [hni, hnf, Bool.false_or, Bool.false_or] at h4
   have h4 := List.all_eq_true.1 h4 j (List.mem_range.2 (by omega))
   obtain ⟨h40, h41⟩ := (Bool.and_eq_true _ _).mp h4
   have key : ∀ W', St j b x W' → K (fin x) W' := fun W' h => hK W' ⟨j, b, hj, fun q t hq => by
    have : i ≠ t := fun e => hT' ⟨q, by rw [e]; exact hq⟩
    rw [getD_set_ne false this]
    exact hon q t hq, by rw [getD_set_ne false hif]; exact hbf, h⟩
   have fl : ∀ fs : List (List Bool), (fs.getD j []).getD i false = true → (fs.getD j [])[i]? = some true := fun fs h => by
    rw [List.getD_eq_getElem?_getD] at h
    cases hq : (fs.getD j [])[i]? with
    | none => rw [hq] at h; cases h
    | some b => rw [hq] at h; simp at h; rw [h]
   have exc : (!Nat.beq j 0 && (cl.getD (j - 1) []).contains i) = true → False := fun h5 => by
    obtain ⟨h6, h5⟩ := (Bool.and_eq_true _ _).mp h5
    cases j with
    | zero => cases h6
    | succ j =>
     rw [Nat.add_sub_cancel, List.contains_iff_mem] at h5
     obtain ⟨s, hs⟩ : ∃ s, T[j]? = some s := ⟨_, List.getElem?_eq_getElem (by omega)⟩
     have hs2 : T.getD j 0 = s := by rw [List.getD_eq_getElem?_getD, hs]; rfl
     have := cloB_on hcl (cl.getD j []) [T.getD j 0] (List.all_eq_true.1 c3 j (List.mem_range.2 (by omega))) (by intro k hk; rw [List.mem_singleton] at hk; subst hk; rw [hs2]; exact (hon j s hs).2 (by omega)) i h5
     rw [hoff2] at this
     cases this
   have exd : (T.drop j).any (fun t => Region.waitsFor .any ops i t) = true → False := fun h5 => by
    obtain ⟨t, ht, hw⟩ := List.any_eq_true.1 h5
    obtain ⟨q, hq⟩ := List.getElem?_of_mem ht
    rw [List.getElem?_drop] at hq
    have := (hon (j + q) t hq).1 (hdep t hw)
    omega
   refine (hA j b x W hj hst).at_ (by simpa using ho) ?_ K key
   cases b with
   | false =>
    refine fl fs0 ?_
    rcases Bool.or_eq_true _ _ |>.mp h40 with h5 | h5
    ·exact h5
    ·exfalso
     rcases Bool.or_eq_true _ _ |>.mp h5 with h5 | h5
     ·exact exc h5
     ·rcases Bool.or_eq_true _ _ |>.mp h5 with h5 | h5
      ·exact exd h5
      ·have := hdep f h5
       rw [hbf] at this
       cases this
   | true =>
    refine fl fs1 ?_
    rcases Bool.or_eq_true _ _ |>.mp h41 with h5 | h5
    ·exact h5
    ·exfalso
     rcases Bool.or_eq_true _ _ |>.mp h5 with h5 | h5
     ·exact exc h5
     ·rcases Bool.or_eq_true _ _ |>.mp h5 with h5 | h5
      ·exact exd h5
      ·rw [List.contains_iff_mem] at h5
       have := cloB_on hcl cf [f] c7 (by intro k hk; rw [List.mem_singleton] at hk; subst hk; exact hbf) i h5
       rw [hoff2] at this
       cases this
 ·rintro x L W ⟨j, b, hj, hon, hbf, hst⟩ hall
  have : j = T.length := by
   by_cases h : j < T.length
   ·exfalso
    obtain ⟨s, hs⟩ : ∃ s, T[j]? = some s := ⟨_, List.getElem?_eq_getElem h⟩
    have := (hon j s hs).1 (hall s (hlt j s hs))
    omega
   ·omega
  subst this
  have hb1 : b = true := by rw [← hbf]; exact hall f hfl
  subst hb1
  exact hend x W hst
end
end
end Go.Proofs.YtbnkabmnenginaaGreatDoor
