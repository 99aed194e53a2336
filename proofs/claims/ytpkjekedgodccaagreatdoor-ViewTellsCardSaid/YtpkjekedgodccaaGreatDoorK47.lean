/- A drawn region with a chain of operations that change memory, and one more (an alloc) that waits for nobody.. 'append(nil, x...)' of what lies in memory, in a drawn region.. SheetOf: the copies are rows of the call's own.. -/
import Derived.Test.YtpkjekedgodccaaGreatDoorK23
import Derived.Test.YtpkjekedgodccaaGreatDoorK46
import Derived.Test.YtpkjekedgodccaaGreatDoorK22
namespace Go.Proofs.YtpkjekedgodccaaGreatDoor
set_option linter.unusedSimpArgs false
set_option linter.unusedVariables false
section
open Go.RowKit
section
variable {P : Program} {ops : Array Oper}
def floB (ops : Array Oper) (T : List Nat) (f : Nat) (fs0 fs1 : List (List Bool)) (cl : List (List Nat)) (cf : List Nat) : Bool :=
 (T.all fun t => Nat.blt t ops.size) && (List.range T.length).all (fun q => Nat.beq q 0 || Region.waitsFor .any ops (T.getD q 0) (T.getD (q - 1) 0)) && (List.range T.length).all (fun q => cloB ops [T.getD q 0] (cl.getD q [])) &&
 (List.range ops.size).all (fun i => T.contains i || Nat.beq i f || (List.range (T.length + 1)).all fun j =>
  ((fs0.getD j []).getD i false || ((!Nat.beq j 0 && (cl.getD (j - 1) []).contains i) || ((T.drop j).any (fun t => Region.waitsFor .any ops i t) || Region.waitsFor .any ops i f))) &&
  ((fs1.getD j []).getD i false || ((!Nat.beq j 0 && (cl.getD (j - 1) []).contains i) || ((T.drop j).any (fun t => Region.waitsFor .any ops i t) || cf.contains i)))) && decide T.Nodup && Nat.blt f ops.size && cloB ops [f] cf && !T.contains f
theorem rg_flo {id : Nat} {a : Act} {w : World} {Q : Exit → Act → World → Prop} (T : List Nat) (f : Nat) (fs0 fs1 : List (List Bool)) (cl : List (List Nat)) (cf : List Nat) (vals : (Nat → Value) → List Value) (St : Nat → Bool → (Nat → Value) → World → Prop) {fin : (Nat → Value) → Act} (hf : ∀ x, putOps ops.toList (vals x) a = fin x) (hm : P.follows .mixedOrders = true) (hb : rgB ops = true) (hln : ∀ x, (vals x).length = ops.size)
  (hc : floB ops T f fs0 fs1 cl cf = true) (hvs : ∀ x j t v, T[j]? = some t → vals (updV x j v) = (vals x).set t v) (hvf : ∀ x v, vals (updV x T.length v) = (vals x).set f v) (h0 : St 0 false (fun _ => undef) w.drew)
  (hA : ∀ j b x W, j ≤ T.length → St j b x W → RgF P ops (fin x) (St j b x) W ops.toList ((bif b then fs1 else fs0).getD j []))
  (hT : ∀ j b t x W, T[j]? = some t → (Region.waitsFor .any ops t f = true → b = true) → St j b x W → ∀ o, ops[t]? = some o → ∀ K : Act → World → Prop, (∀ v W', St (j + 1) b (updV x j v) W' → K ((fin x).put o.dst v) W') →
    if Region.wanted o (yielded ops (fin x).tmps) = true then o.wp P (fin x) W K rgQ else K ((fin x).put o.dst undef) W)
  (hF : ∀ j x W, j ≤ T.length → St j false x W → ∀ o, ops[f]? = some o → ∀ K : Act → World → Prop, (∀ v W', St j true (updV x T.length v) W' → K ((fin x).put o.dst v) W') →
    if Region.wanted o (yielded ops (fin x).tmps) = true then o.wp P (fin x) W K rgQ else K ((fin x).put o.dst undef) W)
  (hend : ∀ x W, St T.length true x W → Q .normal (fin x) W) : (Code.region id ops true).wp P Q a w := by
 unfold floB at hc
 obtain ⟨hc, c8⟩ := (Bool.and_eq_true _ _).mp hc
 obtain ⟨hc, c7⟩ := (Bool.and_eq_true _ _).mp hc
 obtain ⟨hc, c6⟩ := (Bool.and_eq_true _ _).mp hc
 obtain ⟨hc, c5⟩ := (Bool.and_eq_true _ _).mp hc
 obtain ⟨hc, c4⟩ := (Bool.and_eq_true _ _).mp hc
 obtain ⟨hc, c3⟩ := (Bool.and_eq_true _ _).mp hc
 obtain ⟨c1, c2⟩ := (Bool.and_eq_true _ _).mp hc
 have hnd : T.Nodup := of_decide_eq_true c5
 have hfl : f < ops.size := Nat.le_of_ble_eq_true c6
 have hfT : ∀ q : Nat, T[q]? ≠ some f := fun q hq => by
  have h1 : T.contains f = true := List.contains_iff_mem.2 (List.mem_of_getElem? hq)
  rw [h1] at c8
  cases c8
 have hlt : ∀ q t, T[q]? = some t → t < ops.size := fun q t h => Nat.le_of_ble_eq_true (List.all_eq_true.1 c1 t (List.mem_of_getElem? h))
 have hww : ∀ q t s, T[q + 1]? = some t → T[q]? = some s → Region.waitsFor .any ops t s = true := fun q t s h1 h2 => by
  have h3 := (List.getElem?_eq_some_iff.1 h1).1
  have h := List.all_eq_true.1 c2 (q + 1) (List.mem_range.2 h3)
  simp only [List.getD_eq_getElem?_getD, h1, Nat.add_sub_cancel, h2, Option.getD_some] at h
  rcases Bool.or_eq_true _ _ |>.mp h with h | h
  ·simp at h
  ·exact h
 have hoff0 : ∀ i, (Array.replicate ops.size false).getD i false = false := fun i => by
  simp only [Array.getD_eq_getD_getElem?, Array.getElem?_replicate]
  split <;> rfl
 refine rg_val vals (fun x L W => ∃ j b, j ≤ T.length ∧ (∀ q t, T[q]? = some t → (L.getD t false = true ↔ q < j)) ∧ L.getD f false = b ∧ St j b x W) hf hm hb hln (fun _ => undef) ⟨0, false, Nat.zero_le _, fun q t _ => by rw [hoff0]; simp, hoff0 f, h0⟩ ?_ ?_
 ·rintro x L W hsz hcl ⟨j, b, hj, hon, hbf, hst⟩ i o ho hoff hdep K hK hKx
  have hi := (Array.getElem?_eq_some_iff.1 ho).1
  have hself : (L.setIfInBounds i true).getD i false = true := by
   have : i < L.size := by omega
   simp [this]
  have hoff2 : L.getD i false = false := off_of hoff
  by_cases hT' : ∃ q : Nat, T[q]? = some i
  ·obtain ⟨q, hq⟩ := hT'
   have h1 : ¬ q < j := fun h => by rw [(hon q i hq).2 h] at hoff2; cases hoff2
   have h2 : q = j := by
    cases q with
    | zero => omega
    | succ q =>
     have hql := (List.getElem?_eq_some_iff.1 hq).1
     obtain ⟨s, hs⟩ : ∃ s, T[q]? = some s := ⟨_, List.getElem?_eq_getElem (by omega)⟩
     have := (hon q s hs).1 (hdep s (hww q i s hq hs))
     omega
   subst h2
   have hql := (List.getElem?_eq_some_iff.1 hq).1
   refine hT q b i x W hq (fun hw => by rw [← hbf]; exact hdep f hw) hst o ho K fun v W' h => hKx v (updV x q v) W' (hvs x q i v hq) ⟨q + 1, b, by omega, fun q' t' hq' => ?_, ?_, h⟩
   ·by_cases e : i = t'
    ·subst e
     have : q' = q := by
      have a1 := (List.getElem?_eq_some_iff.1 hq')
      have a2 := (List.getElem?_eq_some_iff.1 hq)
      exact (List.getElem_inj hnd).1 (a1.2.trans a2.2.symm)
     subst this
     rw [hself]
     simp
    ·rw [getD_set_ne false e, hon q' t' hq']
     have : q' ≠ q := fun e2 => by rw [e2, hq] at hq'; exact e (Option.some.inj hq')
     omega
   ·rw [getD_set_ne false (fun e => hfT q (by rw [← e]; exact hq))]
    exact hbf
  ·by_cases hif : i = f
   ·subst hif
    have hb0 : b = false := by rw [← hbf]; exact hoff2
    subst hb0
    refine hF j x W hj hst o ho K fun v W' h => hKx v (updV x T.length v) W' (hvf x v) ⟨j, true, hj, fun q t hq => ?_, hself, h⟩
    have : i ≠ t := fun e => hT' ⟨q, by rw [e]; exact hq⟩
    rw [getD_set_ne false this]
    exact hon q t hq
   have hni : T.contains i = false := by
    rw [← Bool.not_eq_true, List.contains_iff_mem]
    intro hm'
    obtain ⟨q, hq⟩ := List.getElem?_of_mem hm'
    exact hT' ⟨q, hq⟩
   have hnf : Nat.beq i f = false := by
    rw [← Bool.not_eq_true]
    exact fun h => hif (Nat.eq_of_beq_eq_true h)
   have h4 := List.all_eq_true.1 c4 i (List.mem_range.2 hi)
   rw [hni, hnf, Bool.false_or, Bool.false_or] at h4
   have h4 := List.all_eq_true.1 h4 j (List.mem_range.2 (by omega))
   obtain ⟨h40, h41⟩ := (Bool.and_eq_true _ _).mp h4
   have key : ∀ W', St j b x W' → K (fin x) W' := fun W' h => hK W' ⟨j, b, hj, fun q t hq => by
    have : i ≠ t := fun e => hT' ⟨q, by rw [e]; exact hq⟩
    rw [getD_set_ne false this]
    exact hon q t hq, by rw [getD_set_ne false hif]; exact hbf, h⟩
   have fl : ∀ fs : List (List Bool), (fs.getD j []).getD i false = true → (fs.getD j [])[i]? = some true := fun fs h => by
    rw [List.getD_eq_getElem?_getD] at h
    cases hq : (fs.getD j [])[i]? with
    | none => rw [hq] at h; cases h
    | some b => rw [hq] at h; simp at h; rw [h]
   have exc : (!Nat.beq j 0 && (cl.getD (j - 1) []).contains i) = true → False := fun h5 => by
    obtain ⟨h6, h5⟩ := (Bool.and_eq_true _ _).mp h5
    cases j with
    | zero => cases h6
    | succ j =>
     rw [Nat.add_sub_cancel, List.contains_iff_mem] at h5
     obtain ⟨s, hs⟩ : ∃ s, T[j]? = some s := ⟨_, List.getElem?_eq_getElem (by omega)⟩
     have hs2 : T.getD j 0 = s := by rw [List.getD_eq_getElem?_getD, hs]; rfl
     have := cloB_on hcl (cl.getD j []) [T.getD j 0] (List.all_eq_true.1 c3 j (List.mem_range.2 (by omega))) (by intro k hk; rw [List.mem_singleton] at hk; subst hk; rw [hs2]; exact (hon j s hs).2 (by omega)) i h5
     rw [hoff2] at this
     cases this
   have exd : (T.drop j).any (fun t => Region.waitsFor .any ops i t) = true → False := fun h5 => by
    obtain ⟨t, ht, hw⟩ := List.any_eq_true.1 h5
    obtain ⟨q, hq⟩ := List.getElem?_of_mem ht
    rw [List.getElem?_drop] at hq
    have := (hon (j + q) t hq).1 (hdep t hw)
    omega
   refine (hA j b x W hj hst).at_ (by simpa using ho) ?_ K key
   cases b with
   | false =>
    refine fl fs0 ?_
    rcases Bool.or_eq_true _ _ |>.mp h40 with h5 | h5
    ·exact h5
    ·exfalso
     rcases Bool.or_eq_true _ _ |>.mp h5 with h5 | h5
     ·exact exc h5
     ·rcases Bool.or_eq_true _ _ |>.mp h5 with h5 | h5
      ·exact exd h5
      ·have := hdep f h5
       rw [hbf] at this
       cases this
   | true =>
    refine fl fs1 ?_
    rcases Bool.or_eq_true _ _ |>.mp h41 with h5 | h5
    ·exact h5
    ·exfalso
     rcases Bool.or_eq_true _ _ |>.mp h5 with h5 | h5
     ·exact exc h5
     ·rcases Bool.or_eq_true _ _ |>.mp h5 with h5 | h5
      ·exact exd h5
      ·rw [List.contains_iff_mem] at h5
       have := cloB_on hcl cf [f] c7 (by intro k hk; rw [List.mem_singleton] at hk; subst hk; exact hbf) i h5
       rw [hoff2] at this
       cases this
 ·rintro x L W ⟨j, b, hj, hon, hbf, hst⟩ hall
  have : j = T.length := by
   by_cases h : j < T.length
   ·exfalso
    obtain ⟨s, hs⟩ : ∃ s, T[j]? = some s := ⟨_, List.getElem?_eq_getElem h⟩
    have := (hon j s hs).1 (hall s (hlt j s hs))
    omega
   ·omega
  subst this
  have hb1 : b = true := by rw [← hbf]; exact hall f hfl
  subst hb1
  exact hend x W hst
end
end
section
open Go.RowKit
set_option maxRecDepth 100000 in
theorem step_copyA {T E : TypeId} {z : Value} {sz bytes : Nat} (hT : Tryz.prog.underlying T = some (.slice E)) (hE : (Tryz.prog.info? E).map (fun i => (i.zero, i.size, i.bytes)) = some (some z, sz, bytes))
  (hzs : z.cells.size = sz) (hsz : 0 < sz)
  {w : World} {ops : Array Oper} {o : Oper} {a : Act} {K : Act → World → Prop} {Q : Exit → Act → World → Prop} {Z : Prop} (hgd : o.guard = none) (s x : Operand)
  (ho : o.op = .call { callee := .builtin .append, args := #[s, x], argTypes := #[T, T] })
  (hs : a.eval s = .slice none 0 0) (A : Option Addr) (n c : Nat) (xs : List Value) (hx : a.eval x = .slice A n c) (hA : A = none → c = 0) (hr : Rd w sz A n xs) (h1 : ∀ u ∈ xs, u.oneCell' = true) (hn : n * bytes ≤ 140737488351232) (hn2 : n ≤ 140737488351232)
  (h : ∀ v' w', w'.ownsRow w.heap.size E sz v' n xs → Below w.heap.size w w' → K (a.put o.dst v') w') :
  if Region.wanted o (yielded ops a.tmps) = true then Oper.wp Tryz.prog o a w K Q else Z := by
 cases A with
 | some ad =>
  have hw : Region.wanted o (yielded ops a.tmps) = true := by simp [Region.wanted, hgd]
  rw [if_pos hw]
  obtain ⟨i0, hi, hz0, hz1, hz2⟩ := info_parts hE
  have hnews : ∀ j u, xs[j]? = some u → w.cell? (ad.add j) = some u := by
   intro j u hu
   rcases Nat.eq_zero_or_pos n with h0 | h0
   ·subst h0
    have : xs = [] := List.length_eq_zero_iff.1 (by simpa using hr.1)
    subst this
    simp at hu
   ·obtain ⟨b, off, e, _, hc⟩ := hr.2 h0
    injection e with e
    subst e
    rw [addr_add]
    exact hc j u hu
  obtain ⟨v', w', hrun, h2, h3, _, h5⟩ := run_append_own_at (P := Tryz.prog) w w.heap.size T o.type E i0 z sz bytes hT hi hz0 hz1 hz2 hzs hsz (.slice none 0 0) 0 [] (World.ownsRow_nil _ _ _ _) ad n c xs hr.1 hnews h1 (by simp only [maxLen]; omega) (by rw [Nat.zero_add]; omega) (Nat.le_refl _)
  unfold Oper.wp execOp
  simp only [ho, resolve, invoke, builtin, Sem.run_bind, Sem.run_pure, Result.andThen_ok, List.map_toArray, List.map_cons, List.map_nil, hs, hx, hrun]
  exact h v' w' (by simpa using h2) ((Below.refl _ _).grown h3 (Nat.le_refl _) (fun k hk => by cases hk))
 | none =>
  have hw : Region.wanted o (yielded ops a.tmps) = true := by simp [Region.wanted, hgd]
  rw [if_pos hw]
  obtain ⟨i0, hi, hz0, hz1, hz2⟩ := info_parts hE
  have hm : n = 0 := by
   rcases Nat.eq_zero_or_pos n with hm | hm
   ·exact hm
   ·obtain ⟨b, off, e, _⟩ := hr.2 hm
    cases e
  subst hm
  have hc := hA rfl
  subst hc
  have hnews : xs = [] := List.length_eq_zero_iff.1 (by simpa using hr.1)
  subst hnews
  have hrun := run_append_owned_none (P := Tryz.prog) (w := w) w.heap.size T o.type E i0 sz hT hi (.slice none 0 0) 0 [] (World.ownsRow_nil _ _ _ _)
  unfold Oper.wp
  simp [execOp, ho, resolve, invoke, builtin, hs, hx, hrun, Result.andThen]
  exact h _ _ (World.ownsRow_nil _ _ _ _) (Below.refl _ _)
set_option maxRecDepth 100000 in
theorem step_app2 {T E : TypeId} {z : Value} {sz bytes : Nat} (hT : Tryz.prog.underlying T = some (.slice E)) (hE : (Tryz.prog.info? E).map (fun i => (i.zero, i.size, i.bytes)) = some (some z, sz, bytes))
  (hzs : z.cells.size = sz) (hsz : 0 < sz)
  {w : World} {ops : Array Oper} {o : Oper} {a : Act} {K : Act → World → Prop} {Q : Exit → Act → World → Prop} {Z : Prop} (hgd : o.guard = none) (s x : Operand)
  (ho : o.op = .call { callee := .builtin .append, args := #[s, x], argTypes := #[T, T] })
  (base : Nat) (v : Value) (n : Nat) (xs news : List Value) (hs : a.eval s = v) (hown : w.ownsRow base E sz v n xs) (hbase : base ≤ w.heap.size)
  (m g : Nat) (hx : a.eval x = .slice (some ⟨g, 0, none⟩) m m) (hblk : w.heap[g]? = some (.cells news.toArray E (0, 0))) (hm : news.length = m * sz) (h1 : ∀ u ∈ news, u.oneCell' = true) (hn : (n + m) * bytes ≤ 140737488351232) (hn2 : n + m ≤ 140737488351232)
  (h : ∀ v' w', w'.ownsRow base E sz v' (n + m) (xs ++ news) → Below base w w' → GrowOf w w' v v' → K (a.put o.dst v') w') :
  if Region.wanted o (yielded ops a.tmps) = true then Oper.wp Tryz.prog o a w K Q else Z := by
 have hw : Region.wanted o (yielded ops a.tmps) = true := by simp [Region.wanted, hgd]
 rw [if_pos hw]
 obtain ⟨i0, hi, hz0, hz1, hz2⟩ := info_parts hE
 have hnews : ∀ j u, news[j]? = some u → w.cell? ((⟨g, 0, none⟩ : Addr).add j) = some u := by
  intro j u hu
  rw [addr_add, cell_of_row w g (0 + j) _ _ (0, 0) hblk]
  simpa using hu
 obtain ⟨v', w', hrun, h2, h3, _, h5⟩ := run_append_own_at (P := Tryz.prog) w base T o.type E i0 z sz bytes hT hi hz0 hz1 hz2 hzs hsz v n xs hown ⟨g, 0, none⟩ m m news hm hnews h1 (by simp only [maxLen]; omega) (by omega) hbase
 unfold Oper.wp execOp
 simp only [ho, resolve, invoke, builtin, Sem.run_bind, Sem.run_pure, Result.andThen_ok, List.map_toArray, List.map_cons, List.map_nil, hs, hx, hrun]
 refine h v' w' h2 ((Below.refl _ _).grown h3 hbase (fun k hk => (hown.lt k hk).1)) ⟨h3, ?_⟩
 rcases h5 with h5 | h5
 ·exact .inl h5
 ·exact .inr ⟨_, h5, Nat.le_refl _⟩
end
section
open Go.RowKit
set_option maxRecDepth 100000 in
set_option maxHeartbeats 3200000 in
theorem sheetOfO_any (W H : Int) (Am Ac : Option Addr) (nm cm nc cc : Nat) (mask : List Int) (cs : List C5) (w : World) (hm : Rd w 1 Am nm (vis mask)) (hc : Rd w 5 Ac nc (ccs cs)) (hnm : nm * 8 ≤ 140737488351232) (hnc : nc * 40 ≤ 140737488351232) (hAm : Am = none → cm = 0) (hAc : Ac = none → cc = 0) :
  Calls Tryz.prog 14 #[.agg #[.int .i64 W, .int .i64 H, .slice Am nm cm, .slice Ac nc cc]] w fun e w' => ∃ Bm cm' Bc cc', e = .returned (.agg #[.int .i64 W, .int .i64 H, .slice Bm nm cm', .slice Bc nc cc']) ∧ w'.ownsRow w.heap.size 3 1 (.slice Bm nm cm') nm (vis mask) ∧ w'.ownsRow w.heap.size 102 5 (.slice Bc nc cc') nc (ccs cs) ∧ Below w.heap.size w w' := by
 have kb := blk_alloc (heap_alloc_new w (.cells #[.int .i64 W, .int .i64 H, .slice Am nm cm, .slice Ac nc cc] 25)) (.cells #[.int .i64 0, .int .i64 0, .slice none 0 0, .slice none 0 0] 25)
 have kr := heap_alloc_new (w.alloc (.cells #[.int .i64 W, .int .i64 H, .slice Am nm cm, .slice Ac nc cc] 25)) (.cells #[.int .i64 0, .int .i64 0, .slice none 0 0, .slice none 0 0] 25)
 have hb0 := ba (below_new w (.cells #[.int .i64 W, .int .i64 H, .slice Am nm cm, .slice Ac nc cc] 25)) (.cells #[.int .i64 0, .int .i64 0, .slice none 0 0, .slice none 0 0] 25)
 rw [World.size_alloc] at kr
 have HM := Lib.hid (hm.below hb0)
 have HC := Lib.hid hc
 have KB := Lib.hid kb
 have KR := Lib.hid kr
 have HB0 := Lib.hid hb0
 have hlt0 := blk_lt kb
 have hlt1 := blk_lt kr
 clear hm hc kb kr hb0
 have q2 := cell_of_blk KB.out 2
 have q3 := cell_of_blk KB.out 3
 simp only [List.getElem?_toArray, List.getElem?_cons_zero, List.getElem?_cons_succ] at q2 q3
 go_enter Tryz.func14, Tryz.ntmps14
 go_wp2_with (first
  | (at_builtin; refine app_copy Tryz.underlying22 int_info rfl (by decide) rfl _ _ rfl rfl Am nm cm (vis mask) rfl hAm HM.out (vis_one _) hnm (by omega) ?_; intro v1 w1 ho1 hb1; obtain ⟨A1, c1, hv1, _, _⟩ := own_slice ho1; subst hv1; have KB1 := Lib.hid (blk_below KB.out hb1 hlt0); have KR1 := Lib.hid (blk_below KR.out hb1 hlt1); have HB1 := Lib.hid (stay_b HB0.out hb1); have HO1 := Lib.hid ho1; have f1 := frozen_of_blk KB1.out; have l1 := blk_lt KB1.out; have g2 : w1.cell? ⟨w.heap.size, 2, none⟩ = some (.slice Am nm cm) := cell_of_blk KB1.out 2; have g3 : w1.cell? ⟨w.heap.size, 3, none⟩ = some (.slice Ac nc cc) := cell_of_blk KB1.out 3; clear ho1 hb1 q2 q3)
  | (at_builtin; refine app_copy Tryz.underlying23 crease_info rfl (by decide) rfl _ _ rfl rfl Ac nc cc (ccs cs) rfl hAc (HC.out.below (HB1.out.setCell (p := ⟨w.heap.size, 2, none⟩) (Nat.le_refl _) _)) (ccs_one _) hnc (by omega) ?_; intro v2 w2 ho2 hb2; obtain ⟨A2, c2, hv2, _, _⟩ := own_slice ho2; subst hv2; have KB2 := Lib.hid (blk_below (blk_set KB1.out 2 (.slice A1 nm c1)) hb2 (by simpa using l1)); have KR2 := Lib.hid (blk_below (blk_far (p := ⟨w.heap.size, 2, none⟩) KR1.out (by simp) (.slice A1 nm c1)) hb2 (by simpa using blk_lt KR1.out)); have HB2 := Lib.hid (stay_b (HB1.out.setCell (p := ⟨w.heap.size, 2, none⟩) (Nat.le_refl _) (.slice A1 nm c1)) hb2); have HO2 := Lib.hid ho2; have HX2 := Lib.hid hb2; have f2 := frozen_of_blk KB2.out; have f3 := frozen_of_blk KR2.out; have i0 : w2.cell? ⟨w.heap.size, 0, none⟩ = some (.int .i64 W) := cell_of_blk KB2.out 0; have i1 : w2.cell? ⟨w.heap.size, 1, none⟩ = some (.int .i64 H) := cell_of_blk KB2.out 1; have i2 : w2.cell? ⟨w.heap.size, 2, none⟩ = some (.slice A1 nm c1) := cell_of_blk KB2.out 2; have i3 : w2.cell? ⟨w.heap.size, 3, none⟩ = some (.slice Ac nc cc) := cell_of_blk KB2.out 3; have j0 : w2.cell? ⟨w.heap.size + 1, 0, none⟩ = some (.int .i64 0) := cell_of_blk KR2.out 0; have j1 : w2.cell? ⟨w.heap.size + 1, 1, none⟩ = some (.int .i64 0) := cell_of_blk KR2.out 1; have j2 : w2.cell? ⟨w.heap.size + 1, 2, none⟩ = some (.slice none 0 0) := cell_of_blk KR2.out 2; have j3 : w2.cell? ⟨w.heap.size + 1, 3, none⟩ = some (.slice none 0 0) := cell_of_blk KR2.out 3; clear ho2 hb2 g2 g3))
 have hz0 : w.heap.size < ((w.alloc (.cells #[.int .i64 W, .int .i64 H, .slice Am nm cm, .slice Ac nc cc] 25)).alloc (.cells #[.int .i64 0, .int .i64 0, .slice none 0 0, .slice none 0 0] 25)).heap.size := hlt0
 have hz1 : w.heap.size + 1 < ((w.alloc (.cells #[.int .i64 W, .int .i64 H, .slice Am nm cm, .slice Ac nc cc] 25)).alloc (.cells #[.int .i64 0, .int .i64 0, .slice none 0 0, .slice none 0 0] 25)).heap.size := hlt1
 have hy0 : w.heap.size < (w1.setCell ⟨w.heap.size, 2, none⟩ (.slice A1 nm c1)).heap.size := by simpa using l1
 have hy1 : w.heap.size + 1 < (w1.setCell ⟨w.heap.size, 2, none⟩ (.slice A1 nm c1)).heap.size := by simpa using blk_lt KR1.out
 have five : ∀ {base : Nat} {e : TypeId} {sz n : Nat} {v : Value} {xs : List Value}, w.heap.size < base → w.heap.size + 1 < base → w2.ownsRow base e sz v n xs → (((((w2.setCell ⟨w.heap.size, 3, none⟩ (.slice A2 nc c2)).setCell ⟨w.heap.size + 1, 0, none⟩ (.int .i64 W)).setCell ⟨w.heap.size + 1, 1, none⟩ (.int .i64 H)).setCell ⟨w.heap.size + 1, 2, none⟩ (.slice A1 nm c1)).setCell ⟨w.heap.size + 1, 3, none⟩ (.slice A2 nc c2)).ownsRow base e sz v n xs :=
  fun h0 h1 h => ownsRow_setCell_below (ownsRow_setCell_below (ownsRow_setCell_below (ownsRow_setCell_below (ownsRow_setCell_below h (a := ⟨w.heap.size, 3, none⟩) h0 _) (a := ⟨w.heap.size + 1, 0, none⟩) h1 _) (a := ⟨w.heap.size + 1, 1, none⟩) h1 _) (a := ⟨w.heap.size + 1, 2, none⟩) h1 _) (a := ⟨w.heap.size + 1, 3, none⟩) h1 _
 have ho1 := five hz0 hz1 (od (ownsRow_setCell_below HO1.out (a := ⟨w.heap.size, 2, none⟩) hz0 (.slice A1 nm c1)) HX2.out)
 have ho2 := five hy0 hy1 HO2.out
 have hbf := ((((HB2.out.setCell (p := ⟨w.heap.size, 3, none⟩) (Nat.le_refl _) (.slice A2 nc c2)).setCell (p := ⟨w.heap.size + 1, 0, none⟩) (Nat.le_succ _) (.int .i64 W)).setCell (p := ⟨w.heap.size + 1, 1, none⟩) (Nat.le_succ _) (.int .i64 H)).setCell (p := ⟨w.heap.size + 1, 2, none⟩) (Nat.le_succ _) (.slice A1 nm c1)).setCell (p := ⟨w.heap.size + 1, 3, none⟩) (Nat.le_succ _) (.slice A2 nc c2)
 exact bodyPost_ret (v := .agg #[.int .i64 W, .int .i64 H, .slice A1 nm c1, .slice A2 nc c2]) (by simp [results, Tryz.results14, go_sem, j0, j1, j2, j3]) rfl ⟨A1, c1, A2, c2, rfl, own_mono ho1 (Nat.le_of_lt hz0), own_mono ho2 (Nat.le_of_lt hy0), hbf⟩
end
end Go.Proofs.YtpkjekedgodccaaGreatDoor
