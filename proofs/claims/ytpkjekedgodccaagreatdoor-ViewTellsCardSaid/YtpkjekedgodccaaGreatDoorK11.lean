/- Spread: what holds while a list of triangles grows. joined: is a sheet one piece?. -/
import Derived.Test.YtpkjekedgodccaaGreatDoorK10
import Derived.Carry
namespace Go.Proofs.YtpkjekedgodccaaGreatDoor
set_option linter.unusedSimpArgs false
set_option linter.unusedVariables false
section
section
open Go.RowKit Go.Maps
structure SpQ (L : List T3) (c : E4 → Bool) (a : T3) (q : List T3) (i k : Nat) : Prop where
 nd : q.Nodup
 fst : a ∈ q
 sub : ∀ t ∈ q, t ∈ L ∧ Rch L c a t
 cl : ∀ j t m, q[j]? = some t → m < 3 → (j < i ∨ j = i ∧ m < k) → c (eT t m) = true → nT t m ∈ L → nT t m ∈ q
section
variable {L : List T3} {c : E4 → Bool} {a t : T3} {q : List T3} {i k : Nat}
theorem SpQ.start (ha : a ∈ L) : SpQ L c a [a] 0 0 :=
 ⟨by simp, by simp, fun t ht => by simp at ht; subst ht; exact ⟨ha, .refl⟩, fun j t m _ _ h => by omega⟩
theorem SpQ.len (h : SpQ L c a q i k) : q.length ≤ L.length := nodup_sub_len h.nd fun t ht => (h.sub t ht).1
theorem SpQ.skip (h : SpQ L c a q i k) (ht : q[i]? = some t) (hn : c (eT t k) = true → nT t k ∈ L → nT t k ∈ q) : SpQ L c a q i (k + 1) := by
 refine ⟨h.nd, h.fst, h.sub, fun j u m hj hm ho h1 h2 => ?_⟩
 by_cases hc : j < i ∨ j = i ∧ m < k
 ·exact h.cl j u m hj hm hc h1 h2
 ·have h3 : j = i ∧ m = k := by omega
  obtain ⟨rfl, rfl⟩ := h3
  rw [ht] at hj
  cases hj
  exact hn h1 h2
theorem SpQ.add (h : SpQ L c a q i k) (ht : q[i]? = some t) (hk : k < 3) (h1 : c (eT t k) = true) (h2 : nT t k ∈ L) (h3 : nT t k ∉ q) : SpQ L c a (q ++ [nT t k]) i (k + 1) := by
 have hi := (List.getElem?_eq_some_iff.1 ht).1
 refine ⟨?_, by simp [h.fst], ?_, ?_⟩
 ·rw [List.nodup_append]
  exact ⟨h.nd, by simp, fun x hx y hy => by simp at hy; subst hy; exact fun e => h3 (e ▸ hx)⟩
 ·intro u hu
  rcases List.mem_append.1 hu with hu | hu
  ·exact h.sub u hu
  ·simp at hu
   subst hu
   exact ⟨h2, .step (h.sub t (List.mem_of_getElem? ht)).2 hk h1 h2⟩
 ·intro j u m hj hm ho g1 g2
  by_cases hjl : j < q.length
  ·rw [List.getElem?_append_left hjl] at hj
   by_cases hc : j < i ∨ j = i ∧ m < k
   ·exact List.mem_append_left _ (h.cl j u m hj hm hc g1 g2)
   ·have h4 : j = i ∧ m = k := by omega
    obtain ⟨rfl, rfl⟩ := h4
    rw [ht] at hj
    cases hj
    simp
  ·omega
theorem SpQ.next (h : SpQ L c a q i 3) : SpQ L c a q (i + 1) 0 :=
 ⟨h.nd, h.fst, h.sub, fun j u m hj hm ho h1 h2 => h.cl j u m hj hm (by omega) h1 h2⟩
theorem SpQ.done (h : SpQ L c a q i 0) (hi : q.length ≤ i) : Closed L c a q :=
 ⟨h.nd, h.fst, fun t ht => (h.sub t ht).2, fun t ht m hm h1 h2 => by
  obtain ⟨j, hj, e⟩ := List.getElem_of_mem ht
  exact h.cl j t m (by rw [List.getElem?_eq_getElem hj, e]) hm (by omega) h1 h2⟩
end
def seenF (q : List T3) (t : T3) : Option Int := if t ∈ q then some 1 else none
theorem seenF_val (q : List T3) (t : T3) : (seenF q t).getD 0 = if t ∈ q then 1 else 0 := by unfold seenF; split <;> rfl
theorem seenF_snoc (q : List T3) (t : T3) : setF (seenF q) t 1 = seenF (q ++ [t]) := by
 funext x
 unfold setF seenF
 by_cases hx : x = t
 ·subst hx
  simp
 ·simp [hx]
theorem seenF_nil : seenF [] = fun _ => none := by funext t; simp [seenF]
end
section
open Go.RowKit Go.Maps
theorem wpList_insI {α : Type} {k : KE α} {w : World} {b n : Nat} {f : α → Option Int} [DecidableEq α] {ops : Array Oper} {rest : List Oper} {o : Oper} {a : Act} {Q : Exit → Act → World → Prop} (hg : o.guard = none) (m x v : Operand) (hop : o.op = Op.insert k.T m x v)
  (h : MapI k w b n f) (hm : a.eval m = .map (some b)) (hn : n < maxLen) (c : α) (hc : k.ok c) (z : Int) (hx : a.eval x = k.enc c) (hv : a.eval v = .int .i64 z) (hz : (Lit.int .i64 z).wf = true)
  (hK : ∀ w', MapI k w' b (n + 1) (setF f c z) → w.grownBy w' (some b) → wpList Tryz.prog ops Q rest (a.put o.dst undef) w') : wpList Tryz.prog ops Q (o :: rest) a w := by
 obtain ⟨w', hrun, r1, r2⟩ := h.put hn hc hz
 refine wpList_plain hg fun K' hK' => ?_
 unfold Oper.wp
 simp [execOp, hop, hm, hx, hv, hrun, Result.andThen]
 exact hK' _ _ (hK w' r1 r2)
def CrossR (w : World) (g : Nat) (lb : Array Value) (c : E4 → Bool) (L : List T3) : Prop :=
 ∀ (W' : World) (t : T3) (i : Nat), t ∈ L → i < 3 → Below w.heap.size w W' → Calls Tryz.prog g (#[aggE (eT t i)] ++ lb) W' fun r W'' => r = .returned (.bool (c (eT t i))) ∧ Below W'.heap.size W' W''
structure SpS (w : World) (mb : Nat) (L : List T3) (c : E4 → Bool) (a : T3) (q : List T3) (i k : Nat) (v : Value) (wr : World) : Prop where
 seen : MapI kT wr mb q.length (seenF q)
 own : wr.ownsRow w.heap.size 44 3 v q.length (tcT q)
 bel : Below w.heap.size w wr
 mbl : w.heap.size ≤ mb
 inv : SpQ L c a q i k
section
variable {w wr w' w6 : World} {mb : Nat} {L : List T3} {c : E4 → Bool} {a t : T3} {q : List T3} {i k : Nat} {v v' : Value}
theorem SpS.below (h : SpS w mb L c a q i k v wr) (hb : Below wr.heap.size wr w') : SpS w mb L c a q i k v w' :=
 ⟨h.seen.stay hb, od h.own hb, stay_b h.bel hb, h.mbl, h.inv⟩
theorem SpS.re (h : SpS w mb L c a q i k v wr) {i' k' : Nat} (hi : SpQ L c a q i' k') : SpS w mb L c a q i' k' v wr := ⟨h.seen, h.own, h.bel, h.mbl, hi⟩
theorem SpS.own6 (h : SpS w mb L c a q i k v wr) (hg : wr.grownBy w6 (some mb)) : w6.ownsRow w.heap.size 44 3 v q.length (tcT q) :=
 World.ownsRow.kept (w := wr) h.own hg (.inr (own_notmap h.own h.seen.is))
theorem SpS.bel6 (h : SpS w mb L c a q i k v wr) (hg : wr.grownBy w6 (some mb)) : Below w.heap.size w w6 :=
 h.bel.grown hg h.bel.size (fun k hk => by cases hk; exact h.mbl)
theorem SpS.cell6 (h : SpS w mb L c a q i k v wr) (hg : wr.grownBy w6 (some mb)) {b j : Nat} {u : Value} (hc : wr.cell? ⟨b, j, none⟩ = some u) : w6.cell? ⟨b, j, none⟩ = some u := by
 have hlt := World.block_lt_of_cell? wr _ hc
 have hne : b ≠ mb := by
  rintro rfl
  obtain ⟨es, cl, hm⟩ := h.seen.is
  simp [World.cell?, hm] at hc
 exact (World.cell?_of_block (hg.block b hlt (by simpa using hne))).trans hc
theorem SpS.add (h : SpS w mb L c a q i k v wr) (hg : wr.grownBy w6 (some mb)) (ht : q[i]? = some t) (hk : k < 3) (h1 : c (eT t k) = true) (h2 : nT t k ∈ L) (h3 : nT t k ∉ q) (hm : MapI kT w6 mb (q.length + 1) (setF (seenF q) (nT t k) 1))
  (o1 : w'.ownsRow w.heap.size 44 3 v' (q.length + 1) (tcT q ++ [.int .i64 (nT t k).1, .int .i64 (nT t k).2.1, .int .i64 (nT t k).2.2])) (o2 : Below w.heap.size w6 w') (o3 : GrowOf w6 w' v v') : SpS w mb L c a (q ++ [nT t k]) i (k + 1) v' w' := by
 have ho6 := h.own6 hg
 refine ⟨?_, ?_, (h.bel6 hg).trans o2, h.mbl, h.inv.add ht hk h1 h2 h3⟩
 ·rw [List.length_append, ← seenF_snoc]
  exact hm.heap (o3.grown.block mb hm.lt (fun e => own_notmap ho6 hm.is e.symm))
 ·rw [List.length_append, tcT_app]
  exact o1
end
theorem grow_c {wr w6 : World} {mb b j : Nat} {u : Value} (hg : wr.grownBy w6 (some mb)) (hne : b ≠ mb) (hc : wr.cell? ⟨b, j, none⟩ = some u) : w6.cell? ⟨b, j, none⟩ = some u :=
 (World.cell?_of_block (hg.block b (World.block_lt_of_cell? wr _ hc) (by simpa using hne))).trans hc
set_option maxRecDepth 100000 in
theorem idxE0 (p0 p1 p2 p3 p4 p5 p6 p7 p8 p9 p10 p11 : Value) (w : World) : (Instr.index 126 (.agg #[p0, p1, p2, p3, p4, p5, p6, p7, p8, p9, p10, p11]) (.int .i64 0)).run Tryz.prog w = .ok (.agg #[p0, p1, p2, p3]) w := by first | rfl | kernel_rfl | simp [Instr.index, go_sem]
set_option maxRecDepth 100000 in
theorem idxE1 (p0 p1 p2 p3 p4 p5 p6 p7 p8 p9 p10 p11 : Value) (w : World) : (Instr.index 126 (.agg #[p0, p1, p2, p3, p4, p5, p6, p7, p8, p9, p10, p11]) (.int .i64 1)).run Tryz.prog w = .ok (.agg #[p4, p5, p6, p7]) w := by first | rfl | kernel_rfl | simp [Instr.index, go_sem]
set_option maxRecDepth 100000 in
theorem idxE2 (p0 p1 p2 p3 p4 p5 p6 p7 p8 p9 p10 p11 : Value) (w : World) : (Instr.index 126 (.agg #[p0, p1, p2, p3, p4, p5, p6, p7, p8, p9, p10, p11]) (.int .i64 2)).run Tryz.prog w = .ok (.agg #[p8, p9, p10, p11]) w := by first | rfl | kernel_rfl | simp [Instr.index, go_sem]
theorem idx3 (t : T3) (k : Nat) (hk : k < 3) (w : World) : (Instr.index 126 (agg3E (eT t 0) (eT t 1) (eT t 2)) (.int .i64 k)).run Tryz.prog w = .ok (aggE (eT t k)) w := by
 rcases i3_cases hk with rfl | rfl | rfl
 ·exact idxE0 _ _ _ _ _ _ _ _ _ _ _ _ w
 ·exact idxE1 _ _ _ _ _ _ _ _ _ _ _ _ w
 ·exact idxE2 _ _ _ _ _ _ _ _ _ _ _ _ w
set_option maxRecDepth 100000 in
set_option maxHeartbeats 6400000 in
theorem spread_any (pb nb kb W H g : Nat) (vm vc vt : Value) (L : List T3) (mn mk : Nat) (fk : E4 → Option Int) (a : T3) (c : E4 → Bool) (w : World) (hs : Steps w) (hp : PapI w pb nb kb W H vm vc vt L mn mk fk)
  (hL : ∀ t ∈ L, SmT t) (hLl : L.length ≤ 1000) (ha : a ∈ L) (hent : ∀ (args : Array Value) (wx : World), (callFunc g args).run Tryz.prog wx = .ok (.enter g args) wx) (lb : Array Value) (hC : CrossR w g lb c L) :
  Calls Tryz.prog 80 #[.pointer (some ⟨pb, 0, none⟩), aggT3 a, .func (.func g) #[] lb] w fun r w' => ∃ v q s, r = .returned v ∧ Closed L c a q ∧ s.Perm q ∧ s.Pairwise triLt ∧ w'.ownsRow w.heap.size 44 3 v s.length (tcT s) ∧ Below w.heap.size w w' := by
 have hmm := @run_makeMap Tryz.prog
 have hsa := hL a ha
 have kb0 := heap_alloc_new w (.cells #[.int .i64 a.1, .int .i64 a.2.1, .int .i64 a.2.2] 44)
 have hb0 := below_new w (.cells #[.int .i64 a.1, .int .i64 a.2.1, .int .i64 a.2.2] 44)
 have e0 := cell_of_blk kb0 0
 have e1 := cell_of_blk kb0 1
 have e2 := cell_of_blk kb0 2
 simp only [List.getElem?_toArray, List.getElem?_cons_zero, List.getElem?_cons_succ] at e0 e1 e2
 have hz : (w.alloc (.cells #[.int .i64 a.1, .int .i64 a.2.1, .int .i64 a.2.2] 44)).heap.size = w.heap.size + 1 := by simp
 have hm0 := MapI.made kT (w.alloc (.cells #[.int .i64 a.1, .int .i64 a.2.1, .int .i64 a.2.2] 44))
 rw [hz] at hm0
 have hb1 := ba hb0 (.map #[] 0)
 have e0 := al_c e0 (.map #[] 0)
 have e1 := al_c e1 (.map #[] 0)
 have e2 := al_c e2 (.map #[] 0)
 have HC := Lib.hid hC
 have HA := Lib.hid ha
 have HL := Lib.hid hL
 have HM := Lib.hid hm0
 have HP := Lib.hid hp
 have HS := Lib.hid hs
 have HSA := Lib.hid hsa
 have HB1 := Lib.hid hb1
 clear hC ha hL hm0 hp hs hsa hb1 hb0 kb0
 go_enter Tryz.func80, Tryz.ntmps80
 go_wp2_with (refine wpList_insI (k := kT) rfl _ _ _ rfl HM.out rfl (by decide) a HSA.out.ok 1 rfl rfl (by decide) ?_; intro w1 hm1 hg1; have HM1 := Lib.hid hm1; have HG1 := Lib.hid hg1; have f0 := grow_c hg1 (by omega) e0; have f1 := grow_c hg1 (by omega) e1; have f2 := grow_c hg1 (by omega) e2; clear hm1 hg1)
 have hS0 : SpS w (w.heap.size + 1) L c a [a] 0 0 (.slice (some ⟨w1.heap.size, 0, none⟩) 1 1) (w1.alloc (.cells #[.int .i64 a.1, .int .i64 a.2.1, .int .i64 a.2.2] 44)) := by
  have hb1 : Below w.heap.size w w1 := HB1.out.grown HG1.out HB1.out.size (fun k hk => by cases hk; omega)
  refine ⟨?_, ?_, ba hb1 _, by omega, SpQ.start HA.out⟩
  ·have h := HM1.out.alloc (.cells #[.int .i64 a.1, .int .i64 a.2.1, .int .i64 a.2.2] 44)
   have e : setF (fun _ => none) a 1 = seenF [a] := by rw [← seenF_nil, seenF_snoc]; rfl
   rw [e] at h
   exact h
  ·refine ⟨rfl, .inr ⟨w1.heap.size, 1, _, rfl, hb1.size, heap_alloc_new w1 _, Nat.le_refl _, by decide, rfl, rfl⟩⟩
 have HS0 := Lib.hid hS0
 clear hS0 e0 e1 e2 f0 f1 f2 hmm HM HG1 HM1 HB1
 generalize w1.alloc (.cells #[.int .i64 a.1, .int .i64 a.2.1, .int .i64 a.2.2] 44) = w2 at HS0 ⊢
 go_loopw [8, 9] (fun v x wr => ∃ (q : List T3) (i : Nat), i ≤ q.length ∧ x = .int .i64 i ∧ Hid (SpS w (w.heap.size + 1) L c a q i 0 v wr)) (fun _ x _ => L.length - (intOf x).toNat)
 case atStart => exact ⟨[a], 0, by simp, rfl, HS0⟩
 case round =>
  obtain ⟨q, i, hi, rfl, hS⟩ := hrel
  have hql := hS.out.inv.len
  obtain ⟨gv, cv, curv, hv, _, _, _, _⟩ := own_addr hS.out.own (List.length_pos_of_mem hS.out.inv.fst)
  subst hv
  by_cases hiq : i < q.length
  ·obtain ⟨t, ht⟩ : ∃ t, q[i]? = some t := ⟨_, List.getElem?_eq_getElem hiq⟩
   have hil : i < L.length := by omega
   have htL := (hS.out.inv.sub t (List.mem_of_getElem? ht)).1
   have hts := HL.out t htL
   obtain ⟨t0, t1, t2⟩ := own_tri hS.out.own ht
   have cE := fun (w3 : World) (hs3 : Steps w3) => edges_any t.1 t.2.1 t.2.2 w3 hs3 (by have := hts.1; omega) (by have := hts.1; omega) (by have := hts.2.1; omega) (by have := hts.2.1; omega) hts.2.2.1 hts.2.2.2
   have hsr := HS.out.below hS.out.bel
   have HT := Lib.hid ht
   have HTL := Lib.hid htL
   have HTS := Lib.hid hts
   have CE := Lib.hid (cE wr hsr)
   clear cE hsr ht htL hts
   go_wp2_with (go_at_call 62; refine CE.out.mono ?_; rintro r w3 ⟨rfl, hb3⟩; have HB3 := Lib.hid hb3; clear hb3)
   have hS3 := hS.out.below HB3.out
   have HS3 := Lib.hid hS3
   clear hS3 HB3 t0 t1 t2 hS
   go_loopw [8, 31] (fun v x wr => ∃ (q : List T3) (k : Nat) (gv cv : Nat), k ≤ 3 ∧ x = .int .i64 k ∧ v = .slice (some ⟨gv, 0, none⟩) q.length cv ∧ Hid (q[i]? = some t) ∧ i < q.length ∧ Hid (SpS w (w.heap.size + 1) L c a q i k v wr)) (fun _ x _ => 3 - (intOf x).toNat)
   case atStart => exact ⟨q, 0, gv, cv, by omega, rfl, rfl, HT, hiq, HS3⟩
   case round =>
    clear HT HS3 hiq hi hql
    obtain ⟨q, k, gv, cv, hk, rfl, rfl, HT, hiq, hS⟩ := hrel
    have hql := hS.out.inv.len
    by_cases hk3 : k < 3
    ·have hki : (k : Int) < 3 := by omega
     have hix : ∀ w, (Instr.index 126 (agg3E (edgeT t.1 t.2.1 t.2.2 0) (edgeT t.1 t.2.1 t.2.2 1) (edgeT t.1 t.2.1 t.2.2 2)) (.int .i64 k)).run Tryz.prog w = .ok (aggE (eT t k)) w := fun w => idx3 t k hk3 w
     have hcr := fun (W' : World) (hb : Below w.heap.size w W') => HC.out W' t k HTL.out hk3 hb
     obtain ⟨t0, t1, t2⟩ := own_tri hS.out.own HT.out
     have hnk := nT_k HTS.out.2.2 hk3
     have hnok := HTS.out.next hk3
     have cX := fun (w4 : World) => next_any t.1 t.2.1 t.2.2 k w4 hk3 (by have := HTS.out.1; omega) (by have := HTS.out.1; omega) (by have := HTS.out.2.1; omega) (by have := HTS.out.2.1; omega) HTS.out.2.2.1 HTS.out.2.2.2
     have hskip := fun (h : c (eT t k) = true → nT t k ∈ L → nT t k ∈ q) => hS.out.inv.skip HT.out h
     have hadd := fun (w6 w' : World) (v' : Value) (wr2 : World) (hb : Below wr.heap.size wr wr2) (hg : wr2.grownBy w6 (some (w.heap.size + 1))) (h1 : c (eT t k) = true) (h2 : nT t k ∈ L) (h3 : nT t k ∉ q) hm o1 o2 o3 => (hS.out.below hb).add (w' := w') (v' := v') hg HT.out hk3 h1 h2 h3 hm o1 o2 o3
     obtain ⟨E, hE⟩ : ∃ E, E = eT t k := ⟨_, rfl⟩
     obtain ⟨U, hU⟩ : ∃ U, U = nT t k := ⟨_, rfl⟩
     rw [show nextT t.1 t.2.1 t.2.2 k = U from hU.symm] at cX
     rw [← hU] at hnk hnok hskip hadd
     rw [← hE] at hix hcr hskip hadd
     have HCR := Lib.hid hcr
     have HSK := Lib.hid hskip
     have HAD := Lib.hid hadd
     have HNOK := Lib.hid hnok
     have CX := Lib.hid cX
     clear hcr hskip hadd hnok hnk cX hE hU
     have t0 := al_c t0 (.cells #[.int .i64 E.1, .int .i64 E.2.1, .int .i64 E.2.2.1, .int .i64 E.2.2.2] 100)
     have t1 := al_c t1 (.cells #[.int .i64 E.1, .int .i64 E.2.1, .int .i64 E.2.2.1, .int .i64 E.2.2.2] 100)
     have t2 := al_c t2 (.cells #[.int .i64 E.1, .int .i64 E.2.1, .int .i64 E.2.2.1, .int .i64 E.2.2.2] 100)
     go_wp2_with (go_at_call 63; refine (CX.out _).mono ?_; rintro r w4 ⟨rfl, hb4⟩; have HB4 := Lib.hid hb4; clear hb4)
     have kE0 := heap_alloc_new wr (.cells #[.int .i64 E.1, .int .i64 E.2.1, .int .i64 E.2.2.1, .int .i64 E.2.2.2] 100)
     have kE4 := blk_alloc (blk_below kE0 HB4.out (blk_lt kE0)) (.cells #[.int .i64 U.1, .int .i64 U.2.1, .int .i64 U.2.2] 44)
     have kU := heap_alloc_new w4 (.cells #[.int .i64 U.1, .int .i64 U.2.1, .int .i64 U.2.2] 44)
     have hb5 : Below wr.heap.size wr (w4.alloc (.cells #[.int .i64 U.1, .int .i64 U.2.1, .int .i64 U.2.2] 44)) := ba (stay_b (below_new wr (.cells #[.int .i64 E.1, .int .i64 E.2.1, .int .i64 E.2.2.1, .int .i64 E.2.2.2] 100)) HB4.out) _
     clear kE0 HB4 t0 t1 t2
     generalize w4.alloc (.cells #[.int .i64 U.1, .int .i64 U.2.1, .int .i64 U.2.2] 44) = w5 at kE4 kU hb5 ⊢
     have hp5 := HP.out.below (stay_b hS.out.bel hb5)
     have c5 := hp5.c5
     have hl5 := (hp5.below (Below.refl _ _).drew).look HNOK.out
     have u0 := cell_of_blk kU 0
     have u1 := cell_of_blk kU 1
     have u2 := cell_of_blk kU 2
     have x0 := cell_of_blk kE4 0
     have x1 := cell_of_blk kE4 1
     have x2 := cell_of_blk kE4 2
     have x3 := cell_of_blk kE4 3
     simp only [List.getElem?_toArray, List.getElem?_cons_zero, List.getElem?_cons_succ] at u0 u1 u2 x0 x1 x2 x3
     obtain ⟨D1, hD1⟩ : ∃ b, b = decide (U ∈ L) := ⟨_, rfl⟩
     rw [← hD1] at hl5
     have HD1 := Lib.hid hD1
     obtain ⟨V1, hV1⟩ : ∃ b, b = (numF L U).getD 0 := ⟨_, rfl⟩
     rw [← hV1] at hl5
     have HP5 := Lib.hid hp5
     have HB5 := Lib.hid hb5
     clear hD1 hV1 hp5 hb5
     have hS1 : w5.drew.cell? ⟨w4.heap.size, 0, none⟩ = some (.int .i64 U.1) ∧ w5.drew.cell? ⟨w4.heap.size, 1, none⟩ = some (.int .i64 U.2.1) ∧ w5.drew.cell? ⟨w4.heap.size, 2, none⟩ = some (.int .i64 U.2.2) ∧ w5.drew.cell? ⟨pb, 5, none⟩ = some (.map (some nb)) ∧ w5.drew = w5.drew := ⟨u0, u1, u2, c5, rfl⟩
     go_region_held3 (fun w' => w'.cell? ⟨w4.heap.size, 0, none⟩ = some (.int .i64 U.1) ∧ w'.cell? ⟨w4.heap.size, 1, none⟩ = some (.int .i64 U.2.1) ∧ w'.cell? ⟨w4.heap.size, 2, none⟩ = some (.int .i64 U.2.2) ∧ w'.cell? ⟨pb, 5, none⟩ = some (.map (some nb)) ∧ w' = w5.drew)
      (first
       | with_reducible exact hS1
       | with_reducible assumption)
      (first
       | fail)
     rename_i hSS
     clear hSS hS1 c5 hl5
     have hS6 := hS.out.below (HB5.out.drew)
     have hsl : (Instr.lookup 69 (.map (some (w.heap.size + 1))) (aggT3 U) false).run Tryz.prog w5.drew = .ok (.int .i64 (if U ∈ q then 1 else 0)) w5.drew := by
      have h := hS6.seen.look1 HNOK.out
      rw [seenF_val] at h
      exact h
     have u0 : w5.drew.cell? ⟨w4.heap.size, 0, none⟩ = _ := u0
     have u1 : w5.drew.cell? ⟨w4.heap.size, 1, none⟩ = _ := u1
     have u2 : w5.drew.cell? ⟨w4.heap.size, 2, none⟩ = _ := u2
     have x0 : w5.drew.cell? ⟨wr.heap.size, 0, none⟩ = _ := x0
     have x1 : w5.drew.cell? ⟨wr.heap.size, 1, none⟩ = _ := x1
     have x2 : w5.drew.cell? ⟨wr.heap.size, 2, none⟩ = _ := x2
     have x3 : w5.drew.cell? ⟨wr.heap.size, 3, none⟩ = _ := x3
     have hbr6 : Below wr.heap.size wr w5.drew := HB5.out.drew
     clear HB5 HP5 kE4 kU
     generalize w5.drew = w6 at hS6 hsl u0 u1 u2 x0 x1 x2 x3 hbr6 ⊢
     have HS6 := Lib.hid hS6
     have HBR6 := Lib.hid hbr6
     clear hS6 hS hbr6
     cases D1 with
     | false =>
      have hq := HSK.out (fun _ h => absurd (HD1.out.trans (decide_eq_true h)) (by decide))
      have HQ := Lib.hid hq
      clear hq hsl u0 u1 u2 x0 x1 x2 x3
      go_wp2
      go_roundw
      case rel => exact ⟨q, k + 1, gv, cv, by omega, by go_num, rfl, HT, hiq, Lib.hid (HS6.out.re HQ.out)⟩
      case measure => simp [intOf]; omega
     | true =>
      have hUL : U ∈ L := of_decide_eq_true HD1.out.symm
      have HUL := Lib.hid hUL
      clear hUL
      by_cases hUq : U ∈ q
      ·rw [if_pos hUq] at hsl
       have hq := HSK.out (fun _ _ => hUq)
       have HQ := Lib.hid hq
       clear hq hUq x0 x1 x2 x3
       go_wp2
       go_roundw
       case rel => exact ⟨q, k + 1, gv, cv, by omega, by go_num, rfl, HT, hiq, Lib.hid (HS6.out.re HQ.out)⟩
       case measure => simp [intOf]; omega
      ·rw [if_neg hUq] at hsl
       have HUQ := Lib.hid hUq
       clear hUq
       have hcr := HCR.out w6 HS6.out.bel
       obtain ⟨CR, hCR⟩ : ∃ b, b = c E := ⟨_, rfl⟩
       rw [← hCR] at hcr
       have HCC := Lib.hid hcr
       have HCRE := Lib.hid hCR
       clear hcr hCR
       cases CR with
       | false =>
        have hq := HSK.out (fun h _ => absurd (HCRE.out.trans h) (by decide))
        have HQ := Lib.hid hq
        clear hq
        go_wp2_with (with_reducible refine HCC.out.mono ?_; rintro r w7 ⟨rfl, hb7⟩)
        go_roundw
        case rel => exact ⟨q, k + 1, gv, cv, by omega, by go_num, rfl, HT, hiq, Lib.hid ((HS6.out.below (by assumption)).re HQ.out)⟩
        case measure => simp [intOf]; omega
       | true =>
        go_wp2_with (first
         | (with_reducible refine HCC.out.mono ?_; rintro r w7 ⟨rfl, hb7⟩; have HB7 := Lib.hid hb7; have z0 := sd u0 hb7; have z1 := sd u1 hb7; have z2 := sd u2 hb7; clear hb7)
         | (at_mapUpdate; go_loud (refine wpList_putI (k := kT) rfl _ _ _ rfl (HS6.out.below HB7.out).seen rfl (by unfold maxLen; omega) U HNOK.out 1 rfl rfl (by decide) ?_); intro w8 hm8 hg8; have HM8 := Lib.hid hm8; have HG8 := Lib.hid hg8; have y0 := SpS.cell6 (HS6.out.below HB7.out) hg8 z0; have y1 := SpS.cell6 (HS6.out.below HB7.out) hg8 z1; have y2 := SpS.cell6 (HS6.out.below HB7.out) hg8 z2; have HO8 := Lib.hid (SpS.own6 (HS6.out.below HB7.out) hg8); have hsz8 := (SpS.bel6 (HS6.out.below HB7.out) hg8).size; clear hm8 hg8)
         | (at_builtin; go_loud (refine app_gen Tryz.underlying52 tri_info rfl (by decide) (by decide) rfl (.tmp 64) (.tmp 66) rfl w.heap.size _ q.length (tcT q) [.int .i64 U.1, .int .i64 U.2.1, .int .i64 U.2.2] rfl HO8.out hsz8 1 _ rfl rfl rfl (tri_one _ _ _) (by omega) ?_); intro v' w' hown' hb' hgr'; obtain ⟨g9, c9, cur9, hv9, _⟩ := own_addr hown' (Nat.succ_pos _); subst hv9))
        have hN := HAD.out w8 w' (.slice (some ⟨g9, 0, none⟩) (q.length + 1) c9) w7 (stay_b HBR6.out HB7.out) HG8.out HCRE.out.symm HUL.out HUQ.out HM8.out hown' hb' hgr'
        have HN := Lib.hid hN
        clear hN hown' hb' hgr'
        have hlq : (q ++ [U])[i]? = some t := by rw [List.getElem?_append_left hiq]; exact HT.out
        go_roundw
        case rel => exact ⟨q ++ [U], k + 1, g9, c9, by omega, by go_num, by simp, Lib.hid hlq, by simp; omega, HN⟩
        case measure => simp [intOf]; omega
    ·obtain rfl : k = 3 := by omega
     go_wp2
     go_roundw
     case rel => exact ⟨q, i + 1, by omega, by go_num, Lib.hid (hS.out.re hS.out.inv.next)⟩
     case measure => simp [intOf]; omega
  ·have hSd := hS.out.inv.done (by omega)
   have cS := sortT_any gv cv q.length w.heap.size q wr rfl hS.out.own (by omega)
   have hps := srtT_perm q
   have hss := srtT_sorted hSd.nd
   have CS := Lib.hid cS
   have HD := Lib.hid hSd
   have HPS := Lib.hid hps
   have HSS := Lib.hid hss
   clear cS hSd hps hss
   go_wp2_with (go_at_call 89; go_loud (refine CS.out.mono ?_); rintro r w9 ⟨rfl, ho9, hg9⟩)
   go_ret
   have hlen := HPS.out.length_eq
   refine ⟨_, q, srtT q, rfl, HD.out, HPS.out, HSS.out, by rw [hlen]; exact ho9, hS.out.bel.grown hg9 hS.out.bel.size (fun k hk => by cases hk; exact (own_lt_of hS.out.own rfl).1)⟩
end
end
section
open Go.RowKit Go.Maps
noncomputable def joinB (L : List T3) : Bool := match L with
 | [] => false
 | a :: _ => decide ((compL L (fun _ => true) a).length = L.length)
theorem joined1_enter (args : Array Value) (wx : World) : (callFunc 81 args).run Tryz.prog wx = .ok (.enter 81 args) wx := by kernel_rfl
theorem joined1_any (e : E4) (w : World) : Calls Tryz.prog 81 #[aggE e] w fun r w' => r = .returned (.bool true) ∧ Below w.heap.size w w' := by
 go_enter Tryz.func81, Tryz.ntmps81
 go_wp2
 go_ret
 exact ⟨rfl, below_new _ _⟩
theorem cross_all (w : World) (L : List T3) : CrossR w 81 #[] (fun _ => true) L := by
 intro W' t i _ _ _
 exact joined1_any (eT t i) W'
set_option maxRecDepth 100000 in
set_option maxHeartbeats 3200000 in
theorem joined_any (pb nb kb W H B : Nat) (vm vc vt : Value) (L : List T3) (mn mk : Nat) (fk : E4 → Option Int) (w : World) (hs : Steps w) (hp : PapI w pb nb kb W H vm vc vt L mn mk fk) (ho : w.ownsRow B 44 3 vt L.length (tcT L))
  (hL : ∀ t ∈ L, SmT t) (hLl : L.length ≤ 1000) (hso : L.Pairwise triLt) :
  Calls Tryz.prog 56 #[.pointer (some ⟨pb, 0, none⟩)] w fun r w' => r = .returned (.bool (joinB L)) ∧ Below w.heap.size w w' := by
 have hc4 := hp.c4
 cases L with
 | nil =>
  have hv : ∃ A c, vt = .slice A 0 c := by
   obtain ⟨A, c, h, _⟩ := own_slice ho
   exact ⟨A, c, h⟩
  obtain ⟨A, c, rfl⟩ := hv
  clear hp ho hs
  go_enter Tryz.func56, Tryz.ntmps56
  go_upto_region 1 with fail
  go_quiet (fail)
  go_wp2
  go_ret
  exact ⟨rfl, below_drewN (Below.refl _ _) _⟩
 | cons a L0 =>
  obtain ⟨L, hLe⟩ : ∃ L, L = a :: L0 := ⟨_, rfl⟩
  have hjb : joinB (a :: L0) = decide ((compL L (fun _ => true) a).length = L.length) := by rw [hLe]; rfl
  rw [hjb]
  rw [← hLe] at hp ho hL hLl hso
  have ha0 : L[0]? = some a := by rw [hLe]; rfl
  have hLpos : 0 < L.length := by rw [hLe]; simp
  have haL : a ∈ L := List.mem_of_getElem? ha0
  obtain ⟨g, cp, cur, rfl, _, _, hBg, _⟩ := own_addr ho hLpos
  obtain ⟨t0, t1, t2⟩ := own_tri ho ha0
  have hpos : decide ((0 : Int) < (L.length : Int)) = true := decide_eq_true (by omega)
  have hpos2 : decide (0 < L.length) = true := decide_eq_true hLpos
  have hwr0 : ∀ q : List T3, Closed L (fun _ => true) a q → (compL L (fun _ => true) a).length = q.length := fun q hq => comp_len hso haL hq
  have cS := fun (w1 : World) (hb : Below w.heap.size w w1) => spread_any pb nb kb W H 81 vm vc (.slice (some ⟨g, 0, none⟩) L.length cp) L mn mk fk a (fun _ => true) w1 (hs.below hb) (hp.below hb) hL hLl haL joined1_enter #[] (cross_all w1 L)
  have HCL := Lib.hid hwr0
  have CS := Lib.hid cS
  obtain ⟨R, hR⟩ : ∃ R, R = (compL L (fun _ => true) a).length := ⟨_, rfl⟩
  rw [← hR]
  have HR := Lib.hid hR
  clear hwr0 cS hR hjb hL hLe hso hp ho hs haL ha0
  go_enter Tryz.func56, Tryz.ntmps56
  go_upto_region 1 with fail
  have hS : w.drew.cell? ⟨pb, 4, none⟩ = some (.slice (some ⟨g, 0, none⟩) L.length cp) ∧ w.drew.cell? ⟨g, 0, none⟩ = some (.int .i64 a.1) ∧ w.drew.cell? ⟨g, 1, none⟩ = some (.int .i64 a.2.1) ∧ w.drew.cell? ⟨g, 2, none⟩ = some (.int .i64 a.2.2) ∧ Below w.heap.size w w.drew := ⟨hc4, by simpa using t0, by simpa using t1, by simpa using t2, (Below.refl _ _).drew⟩
  clear t0 t1 t2 hc4
  go_region_held3 (fun w' => w'.cell? ⟨pb, 4, none⟩ = some (.slice (some ⟨g, 0, none⟩) L.length cp) ∧ w'.cell? ⟨g, 0, none⟩ = some (.int .i64 a.1) ∧ w'.cell? ⟨g, 1, none⟩ = some (.int .i64 a.2.1) ∧ w'.cell? ⟨g, 2, none⟩ = some (.int .i64 a.2.2) ∧ Below w.heap.size w w')
   (first
    | with_reducible exact hS
    | with_reducible assumption
    | (go_split_ands; exact ⟨sd ‹_› hbc, sd ‹_› hbc, sd ‹_› hbc, sd ‹_› hbc, stay_b ‹_› hbc⟩))
   (first
    | (go_split_ands; (with_reducible refine (CS.out _ (by assumption)).mono ?_); rintro r wc ⟨v, q, s, rfl, hcl, hpm, _, hown, hbc⟩; obtain ⟨A9, c9, hv9, _, _⟩ := own_slice hown; subst hv9; have hlen := hpm.length_eq; rw [HCL.out q hcl |>.symm, ← HR.out] at hlen; rw [hlen]))
  rename_i hSS
  have hfin : ((R : Int) == (L.length : Int)) = decide (R = L.length) := by
   rw [Bool.eq_iff_iff]
   simp only [beq_iff_eq, decide_eq_true_eq]
   omega
  go_wp2
  go_ret
  exact ⟨ret_bool hfin, hSS.2.2.2.2⟩
end
end Go.Proofs.YtpkjekedgodccaaGreatDoor
