/- Words for cut.pieces: what holds while pieces grow.. Words for PiecesOf.. What maps may be: the document's MapMay (taken over).. -/
import Derived.Test.YtnndadhkedlohaaDoorK13
import Derived.Test.YtnndadhkedlohaaDoorK24
import Derived.Test.YtnndadhkedlohaaDoorK34
import Derived.Test.YtnndadhkedlohaaDoorK17
import Derived.Test.YtnndadhkedlohaaDoorK33
import Derived.Test.YtnndadhkedlohaaDoorK19
import Derived.Test.YtnndadhkedlohaaDoorK22
namespace Go.Proofs.YtnndadhkedlohaaDoor
set_option linter.unusedSimpArgs false
set_option linter.unusedVariables false
section
open Go.RowKit Go.Maps
theorem zeroBo (w : World) : (zeroValue 4).run Tryd.prog w = .ok (.bool false) w := by kernel_rfl
def kTB : KV T3 Bool where
 K := 31
 enc t := aggT3 t
 ok t := inR t.1 ∧ inR t.2.1 ∧ inR t.2.2
 law := Keyed.of_law lawT
 key a h := keyOf_T h.1 h.2.1 h.2.2
 inj a b h := kT.inj a b h
 T := 55
 E := 4
 val v := .bool v
 z := false
 ht := Tryd.underlying55
 hz := zeroBo
theorem MapV.isM {α β : Type} {k : KV α β} {w : World} {b n : Nat} {f : α → Option β} (h : MapV k w b n f) : ∃ es c, w.heap[b]? = some (.map es c) := by
 obtain ⟨D, ⟨es, c, h1, _⟩, _⟩ := h
 exact ⟨es, c, h1⟩
def seenB (q : List T3) (t : T3) : Option Bool := if t ∈ q then some true else none
theorem seenB_val (q : List T3) (t : T3) : (seenB q t).getD false = decide (t ∈ q) := by unfold seenB; split <;> simp_all
theorem seenB_snoc (q : List T3) (t : T3) : setV (seenB q) t true = seenB (q ++ [t]) := by
 funext x
 unfold setV seenB
 by_cases hx : x = t
 ·subst hx
  simp
 ·simp [hx]
theorem seenB_nil : seenB [] = fun _ => none := by funext t; simp [seenB]
theorem tslP_info : (Tryd.prog.info? 32).map (fun i => (i.zero, i.size, i.bytes)) = some (some (.slice none 0 0), 1, 24) := by kernel_rfl
def HoldR (w : World) (g : Nat) (lb : Array Value) (hd : T3 → T3 → Bool) (L : List T3) : Prop :=
 ∀ (W' : World) (t : T3) (i : Nat), t ∈ L → i < 3 → nT t i ∈ L → Below w.heap.size w W' → Calls Tryd.prog g (#[aggT3 t, aggT3 (nT t i)] ++ lb) W' fun r W'' => r = .returned (.bool (hd t (nT t i))) ∧ Below W'.heap.size W' W''
def GoneR (w : World) (gv : Value) (gn : T3 → Bool) : Prop := ∀ (W' : World) (t : T3), kTB.ok t → Below w.heap.size w W' → (Instr.lookup 55 gv (aggT3 t) false).run Tryd.prog W' = .ok (.bool (gn t)) W'
section
variable {w w0 wr w' w6 : World} {mb : Nat} {L : List T3} {C : E4 → Bool} {gn : T3 → Bool} {hd : T3 → T3 → Bool} {a t : T3} {old q : List T3} {vs : List Value} {i k n : Nat} {v p p' : Value}
structure PcS (w : World) (mb : Nat) (L : List T3) (C : E4 → Bool) (gn : T3 → Bool) (i : Nat) (old : List T3) (vs : List Value) (v : Value) (wr : World) : Prop where
 seen : MapV kTB wr mb old.length (seenB old)
 rows : RowsT wr w.heap.size v (pcsL L C gn i) vs
 bel : Below w.heap.size w wr
 mbl : w.heap.size ≤ mb
 inv : PcO L C gn i old
theorem PcS.below (h : PcS w mb L C gn i old vs v wr) (hb : Below wr.heap.size wr w') : PcS w mb L C gn i old vs v w' :=
 ⟨h.seen.stay hb, h.rows.below hb, stay_b h.bel hb, h.mbl, h.inv⟩
theorem PcS.skip (h : PcS w mb L C gn i old vs v wr) (hp : pcsL L C gn (i + 1) = pcsL L C gn i) (ho : PcO L C gn (i + 1) old) : PcS w mb L C gn (i + 1) old vs v wr :=
 ⟨h.seen, by rw [hp]; exact h.rows, h.bel, h.mbl, ho⟩
theorem PcO.len (h : PcO L C gn i old) : old.length ≤ L.length := nodup_sub_len h.nd h.sub
structure PcB (w0 : World) (mb : Nat) (L : List T3) (C : E4 → Bool) (old : List T3) (a : T3) (q : List T3) (i k : Nat) (p : Value) (wr : World) : Prop where
 seen : MapV kTB wr mb (old ++ q).length (seenB (old ++ q))
 own : wr.ownsRow w0.heap.size 31 3 p q.length (tcT q)
 gr : w0.grownBy wr (some mb)
 inv : SpQ L C a q i k
theorem PcB.below (h : PcB w0 mb L C old a q i k p wr) (hb : Below wr.heap.size wr w') : PcB w0 mb L C old a q i k p w' :=
 ⟨h.seen.stay hb, od h.own hb, ⟨hb.os.trans h.gr.os, hb.tape.trans h.gr.tape, hb.output.trans h.gr.output, Nat.le_trans h.gr.size hb.size, fun k hk hne => (hb.block k (Nat.lt_of_lt_of_le hk h.gr.size)).trans (h.gr.block k hk hne)⟩, h.inv⟩
theorem PcB.re (h : PcB w0 mb L C old a q i k p wr) {i' k' : Nat} (hi : SpQ L C a q i' k') : PcB w0 mb L C old a q i' k' p wr := ⟨h.seen, h.own, h.gr, hi⟩
theorem PcB.bel (h : PcB w0 mb L C old a q i k p wr) (hb : Below w.heap.size w w0) (hm : w.heap.size ≤ mb) : Below w.heap.size w wr :=
 hb.grown h.gr hb.size (fun k hk => by cases hk; exact hm)
theorem PcB.own6 (h : PcB w0 mb L C old a q i k p wr) (hg : wr.grownBy w6 (some mb)) : w6.ownsRow w0.heap.size 31 3 p q.length (tcT q) :=
 World.ownsRow.kept (w := wr) h.own hg (.inr (own_notmap h.own h.seen.isM))
theorem PcB.add (h : PcB w0 mb L C old a q i k p wr) (hg : wr.grownBy w6 (some mb)) (ht : q[i]? = some t) (hk : k < 3) (h1 : C (eT t k) = true) (h2 : nT t k ∈ L) (h3 : nT t k ∉ q) (hm : MapV kTB w6 mb ((old ++ q).length + 1) (setV (seenB (old ++ q)) (nT t k) true))
  (o1 : w'.ownsRow w0.heap.size 31 3 p' (q.length + 1) (tcT q ++ [.int .i64 (nT t k).1, .int .i64 (nT t k).2.1, .int .i64 (nT t k).2.2])) (o3 : GrowOf w6 w' p p') : PcB w0 mb L C old a (q ++ [nT t k]) i (k + 1) p' w' := by
 have ho6 := h.own6 hg
 refine ⟨?_, ?_, ?_, h.inv.add ht hk h1 h2 h3⟩
 ·rw [← List.append_assoc, List.length_append, ← seenB_snoc]
  exact hm.heap (o3.grown.block mb hm.lt (fun e => own_notmap ho6 hm.isM e.symm))
 ·rw [List.length_append, tcT_app]
  exact o1
 ·have hs1 := h.gr.size
  have hs2 := hg.size
  refine ⟨o3.grown.os.trans (hg.os.trans h.gr.os), o3.grown.tape.trans (hg.tape.trans h.gr.tape), o3.grown.output.trans (hg.output.trans h.gr.output), Nat.le_trans hs1 (Nat.le_trans hs2 o3.grown.size), fun k hk hne => ?_⟩
  rw [o3.grown.block k (by omega) (fun e => ?_), hg.block k (by omega) hne, h.gr.block k hk hne]
  have := (own_lt_of ho6 e.symm).1
  omega
theorem PcB.cnt (h : PcB w0 mb L C old a q i k p wr) (hl : ∀ t ∈ L, K4 t) (ho : PcO L C gn n old) (ha : a ∈ L) (hn : a ∉ old) : (old ++ q).length ≤ L.length := by
 refine nodup_sub_len (List.nodup_append.2 ⟨ho.nd, h.inv.nd, fun x hx y hy e => ho.disj hl ha hn (h.inv.sub y hy).2 (e ▸ hx)⟩) fun x hx => ?_
 rcases List.mem_append.1 hx with hx | hx
 ·exact ho.sub x hx
 ·exact (h.inv.sub x hx).1
theorem PcB.no (h : PcB w0 mb L C old a q i k p wr) (hC : CutE L C gn hd) (hl : ∀ t ∈ L, K4 t) (ho : PcO L C gn n old) (ha : a ∈ L) (hn : a ∉ old) (hk : k < 3) (ht : q[i]? = some t)
  (hx : ((((!decide (nT t k ∈ L)) || decide (nT t k ∈ old ++ q)) || gn (nT t k)) || (!hd t (nT t k))) = true) : SpQ L C a q i (k + 1) := by
 have htq := h.inv.sub t (List.mem_of_getElem? ht)
 refine h.inv.skip ht fun h1 h2 => ?_
 have h3 := (hC t htq.1 k hk h2).1 h1
 simp only [h2, decide_true, Bool.not_true, Bool.false_or, h3.2.1, h3.2.2, Bool.or_false, decide_eq_true_eq, List.mem_append] at hx
 rcases hx with hx | hx
 ·exact absurd hx (ho.disj hl ha hn (.step htq.2 hk h1 h2))
 ·exact hx
theorem PcB.yes (h : PcB w0 mb L C old a q i k p wr) (hC : CutE L C gn hd) (ha : a ∈ L) (hg : gn a = false) (hk : k < 3) (ht : q[i]? = some t)
  (hx : ((((!decide (nT t k ∈ L)) || decide (nT t k ∈ old ++ q)) || gn (nT t k)) || (!hd t (nT t k))) = false) : C (eT t k) = true ∧ nT t k ∈ L ∧ nT t k ∉ q := by
 have htq := h.inv.sub t (List.mem_of_getElem? ht)
 simp only [Bool.or_eq_false_iff, Bool.not_eq_false', decide_eq_true_eq, decide_eq_false_iff_not, List.mem_append, not_or] at hx
 obtain ⟨⟨⟨h1, _, h2⟩, h3⟩, h4⟩ := hx
 exact ⟨(hC t htq.1 k hk h1).2 ⟨htq.2.there hC ha hg, h3, h4⟩, h1, h2⟩
theorem PcB.srt {gq cq j : Nat} {w9 : World} {s : List T3} (h : PcB w0 mb L C old a q i k (.slice (some ⟨gq, 0, none⟩) q.length cq) wr) (hS : PcS w mb L C gn j old vs v w0) (ho9 : w9.ownsRow w0.heap.size 31 3 (.slice (some ⟨gq, 0, none⟩) q.length cq) q.length (tcT s)) (hg9 : wr.grownBy w9 (some gq)) :
  RowsT w9 w.heap.size v (pcsL L C gn j) vs ∧ MapV kTB w9 mb (old ++ q).length (seenB (old ++ q)) ∧ Below w.heap.size w w9 ∧ w9.ownsRow w.heap.size 31 3 (.slice (some ⟨gq, 0, none⟩) q.length cq) q.length (tcT s) := by
 have hge : w0.heap.size ≤ gq := (own_lt_of (k := gq) h.own rfl).1
 have hml := hS.seen.lt
 have hgr0 := h.gr
 have hgr9 : w0.grownBy w9 (some mb) := ⟨hg9.os.trans hgr0.os, hg9.tape.trans hgr0.tape, hg9.output.trans hgr0.output, Nat.le_trans hgr0.size hg9.size, fun k hk hne => (hg9.block k (Nat.lt_of_lt_of_le hk hgr0.size) (fun e => by injection e with e; omega)).trans (hgr0.block k hk hne)⟩
 refine ⟨hS.rows.grown hgr9 (fun b hb => by cases hb; exact hS.seen.isM), h.seen.heap (hg9.block _ h.seen.lt (fun e => by injection e with e; omega)), hS.bel.grown hgr9 hS.bel.size (fun k hk => by cases hk; exact hS.mbl), own_mono ho9 hS.bel.size⟩
end
end
section
open Go.RowKit Go.Maps
def bcs (l : List Bool) : List Value := l.map Value.bool
def BB (w : World) (gk : Nat) (f : List Bool) : Prop := w.heap[gk]? = some (.cells (bcs f).toArray 4 (0, 0))
def IB (w : World) (gk : Nat) (z : List Int) : Prop := w.heap[gk]? = some (.cells (vis z).toArray 3 (0, 0))
theorem BB.below {w w' : World} {B gk : Nat} {f : List Bool} (h : BB w gk f) (hb : Below B w w') (hB : w.heap.size ≤ B := by exact Nat.le_refl _) : BB w' gk f := blk_below h hb (Nat.lt_of_lt_of_le (blk_lt h) hB)
theorem IB.below {w w' : World} {B gk : Nat} {f : List Int} (h : IB w gk f) (hb : Below B w w') (hB : w.heap.size ≤ B := by exact Nat.le_refl _) : IB w' gk f := blk_below h hb (Nat.lt_of_lt_of_le (blk_lt h) hB)
theorem BB.getD {w : World} {gk i : Nat} {f : List Bool} (h : BB w gk f) (hi : i < f.length) : w.cell? ⟨gk, i, none⟩ = some (.bool (f.getD i false)) := by
 rw [cell_of_blk (show w.heap[gk]? = _ from h) i, List.getElem?_toArray, bcs, List.getElem?_map, List.getElem?_eq_getElem hi]
 simp [List.getD, List.getElem?_eq_getElem hi]
theorem IB.getD {w : World} {gk i : Nat} {f : List Int} (h : IB w gk f) (hi : i < f.length) : w.cell? ⟨gk, i, none⟩ = some (.int .i64 (f.getD i 0)) := by
 rw [cell_of_blk (show w.heap[gk]? = _ from h) i, List.getElem?_toArray, List.getElem?_map, List.getElem?_eq_getElem hi]
 simp [List.getD, List.getElem?_eq_getElem hi]
theorem BB.fz {w : World} {gk : Nat} {f : List Bool} (h : BB w gk f) (i : Nat) : w.frozen? ⟨gk, i, none⟩ = false := frozen_of_blk (show w.heap[gk]? = _ from h) i
theorem IB.fz {w : World} {gk : Nat} {f : List Int} (h : IB w gk f) (i : Nat) : w.frozen? ⟨gk, i, none⟩ = false := frozen_of_blk (show w.heap[gk]? = _ from h) i
theorem BB.set {w : World} {gk : Nat} {f : List Bool} (h : BB w gk f) (i : Nat) (b : Bool) : BB (w.setCell ⟨gk, i, none⟩ (.bool b)) gk (f.set i b) := by
 have := blk_set (show w.heap[gk]? = _ from h) i (.bool b)
 unfold BB
 rw [this, bcs, bcs, List.map_set]
 simp
theorem IB.set {w : World} {gk : Nat} {f : List Int} (h : IB w gk f) (i : Nat) (b : Int) : IB (w.setCell ⟨gk, i, none⟩ (.int .i64 b)) gk (f.set i b) := by
 have := blk_set (show w.heap[gk]? = _ from h) i (.int .i64 b)
 unfold IB
 rw [this, show (vis (f.set i b)).toArray = (vis f).toArray.setIfInBounds i (.int .i64 b) from by simp [List.map_set]]
theorem RowsT.mono2 {w : World} {base base' : Nat} {v : Value} {fs : List (List T3)} {vs : List Value} (h : RowsT w base v fs vs) (hb : base' ≤ base) : RowsT w base' v fs vs :=
 ⟨own_mono h.own hb, h.len, fun j f hf => by
  obtain ⟨vj, h1, h2⟩ := h.row j f hf
  exact ⟨vj, h1, own_mono h2 hb⟩⟩
def CutI (L : List T3) (C : E4 → Bool) (f : List Bool) (z : List Int) : Prop := ∀ (i j k : Nat) (t : T3), L[i]? = some t → k < 3 → L[j]? = some (nT t k) → (C (eT t k) = true ↔ f.getD i false = true ∧ f.getD j false = true ∧ z.getD i 0 = z.getD j 0)
section
variable {L : List T3} {C : E4 → Bool} {f : List Bool} {z : List Int} {who0 who : List Nat} {cb : Bool} {j k m : Nat} {t : T3}
theorem CutI.skip (h : CutI L C f z) (hnd : L.Nodup) (ht : L[j]? = some t) (hk : k < 3) (hm : L[m]? = some (nT t k)) (hP : GP L C who0 who cb j k)
  (hx : ((((!f.getD j false) || (!f.getD m false)) || !decide (z.getD j 0 = z.getD m 0)) || decide (who.getD j 0 ≤ who.getD m 0)) = true) : GP L C who0 who cb j (k + 1) := by
 by_cases hc : C (eT t k) = true
 ·obtain ⟨h1, h2, h3⟩ := (h j m k t ht hk hm).1 hc
  rw [h1, h2, h3] at hx
  simp at hx
  exact hP.skip (clAt_ge hnd ht hm (by simp only [List.getD_eq_getElem?_getD]; omega))
 ·exact hP.skip (clAt_no ht (.inl (by simpa using hc)))
theorem CutI.set (h : CutI L C f z) (ht : L[j]? = some t) (hk : k < 3) (hm : L[m]? = some (nT t k)) (hP : GP L C who0 who cb j k)
  (hx : ((((!f.getD j false) || (!f.getD m false)) || !decide (z.getD j 0 = z.getD m 0)) || decide (who.getD j 0 ≤ who.getD m 0)) = false) : GP L C who0 (who.set j (who.getD m 0)) true j (k + 1) := by
 simp only [Bool.or_eq_false_iff, Bool.not_eq_false', decide_eq_true_eq, decide_eq_false_iff_not] at hx
 exact hP.set ht hk ((h j m k t ht hk hm).2 ⟨hx.1.1.1, hx.1.1.2, hx.1.2⟩) hm (by omega) (k + 1)
end
end
section
open Go.RowKit Go.Maps
set_option maxRecDepth 100000 in
set_option maxHeartbeats 6400000 in
theorem refMap_m (e f : Int) (w : World) : Calls Tryd.prog 48 #[aggM ((-1), 0, 0, 1, e, f)] w fun r w' => r = .returned (.bool (mapMayB ((-1), 0, 0, 1, e, f))) ∧ Below w.heap.size w w' := by
 have hb := below_new w (.cells #[.int .i64 (-1), .int .i64 0, .int .i64 0, .int .i64 1, .int .i64 e, .int .i64 f] 75)
 have hbe := tmod2 e
 have hbf := tmod2 f
 cases he : (decide (-1000000 ≤ e) && decide (e ≤ 1000000))
 ·have E0 := Lib.hid he
  have he1 : inN e = false := he
  have HR : Hid (mapMayB ((-1), 0, 0, 1, e, f) = false) := Lib.hid (by simp only [mapMayB, tailB, he1, Bool.false_and, Bool.and_false])
  clear he he1
  go_enter Tryd.func48, Tryd.ntmps48
  go_wp2_with fail
  refine (inB_any e (-1000000) 1000000 _).mono ?_
  rintro r w0 ⟨rfl, rfl⟩
  rw [E0.out]
  go_wp2
  go_ret
  exact ⟨by rw [HR.out]; rfl, hb⟩
 have E0 := Lib.hid he
 have he1 : inN e = true := he
 cases hf : (decide (-1000000 ≤ f) && decide (f ≤ 1000000))
 ·have F0 := Lib.hid hf
  have hf1 : inN f = false := hf
  have HR : Hid (mapMayB ((-1), 0, 0, 1, e, f) = false) := Lib.hid (by simp only [mapMayB, tailB, hf1, Bool.false_and, Bool.and_false])
  clear he he1 hf hf1
  go_enter Tryd.func48, Tryd.ntmps48
  go_wp2_with fail
  refine (inB_any e (-1000000) 1000000 _).mono ?_
  rintro r w0 ⟨rfl, rfl⟩
  rw [E0.out]
  go_wp2_with fail
  refine (inB_any f (-1000000) 1000000 _).mono ?_
  rintro r w1 ⟨rfl, rfl⟩
  rw [F0.out]
  go_wp2
  go_ret
  exact ⟨by rw [HR.out]; rfl, hb⟩
 have F0 := Lib.hid hf
 have hf1 : inN f = true := hf
 cases h2 : decide (e % 2 = 0)
 ·have HR : Hid (mapMayB ((-1), 0, 0, 1, e, f) = false) := Lib.hid (by simp only [mapMayB, tailB, h2, Bool.false_and, Bool.and_false])
  clear he he1 hf hf1
  go_enter Tryd.func48, Tryd.ntmps48
  go_wp2_with fail
  refine (inB_any e (-1000000) 1000000 _).mono ?_
  rintro r w0 ⟨rfl, rfl⟩
  rw [E0.out]
  go_wp2_with fail
  refine (inB_any f (-1000000) 1000000 _).mono ?_
  rintro r w1 ⟨rfl, rfl⟩
  rw [F0.out]
  go_wp2
  go_ret
  exact ⟨by rw [HR.out]; rfl, hb⟩
 cases h3 : decide (f % 2 = 0)
 ·have HR : Hid (mapMayB ((-1), 0, 0, 1, e, f) = false) := Lib.hid (by simp only [mapMayB, tailB, h3, Bool.false_and, Bool.and_false])
  clear he he1 hf hf1
  go_enter Tryd.func48, Tryd.ntmps48
  go_wp2_with fail
  refine (inB_any e (-1000000) 1000000 _).mono ?_
  rintro r w0 ⟨rfl, rfl⟩
  rw [E0.out]
  go_wp2_with fail
  refine (inB_any f (-1000000) 1000000 _).mono ?_
  rintro r w1 ⟨rfl, rfl⟩
  rw [F0.out]
  go_wp2
  go_ret
  exact ⟨by rw [HR.out]; rfl, hb⟩
 have HR : Hid (mapMayB ((-1), 0, 0, 1, e, f) = true) := Lib.hid (by simp only [mapMayB, tailB, he1, hf1, h2, h3]; rfl)
 clear he he1 hf hf1
 go_enter Tryd.func48, Tryd.ntmps48
 go_wp2_with fail
 refine (inB_any e (-1000000) 1000000 _).mono ?_
 rintro r w0 ⟨rfl, rfl⟩
 rw [E0.out]
 go_wp2_with fail
 refine (inB_any f (-1000000) 1000000 _).mono ?_
 rintro r w1 ⟨rfl, rfl⟩
 rw [F0.out]
 go_wp2
 go_ret
 exact ⟨by rw [HR.out]; rfl, hb⟩
set_option maxRecDepth 100000 in
set_option maxHeartbeats 6400000 in
theorem refMap_n (e f : Int) (w : World) : Calls Tryd.prog 48 #[aggM (1, 0, 0, (-1), e, f)] w fun r w' => r = .returned (.bool (mapMayB (1, 0, 0, (-1), e, f))) ∧ Below w.heap.size w w' := by
 have hb := below_new w (.cells #[.int .i64 1, .int .i64 0, .int .i64 0, .int .i64 (-1), .int .i64 e, .int .i64 f] 75)
 have hbe := tmod2 e
 have hbf := tmod2 f
 cases he : (decide (-1000000 ≤ e) && decide (e ≤ 1000000))
 ·have E0 := Lib.hid he
  have he1 : inN e = false := he
  have HR : Hid (mapMayB (1, 0, 0, (-1), e, f) = false) := Lib.hid (by simp only [mapMayB, tailB, he1, Bool.false_and, Bool.and_false])
  clear he he1
  go_enter Tryd.func48, Tryd.ntmps48
  go_wp2_with fail
  refine (inB_any e (-1000000) 1000000 _).mono ?_
  rintro r w0 ⟨rfl, rfl⟩
  rw [E0.out]
  go_wp2
  go_ret
  exact ⟨by rw [HR.out]; rfl, hb⟩
 have E0 := Lib.hid he
 have he1 : inN e = true := he
 cases hf : (decide (-1000000 ≤ f) && decide (f ≤ 1000000))
 ·have F0 := Lib.hid hf
  have hf1 : inN f = false := hf
  have HR : Hid (mapMayB (1, 0, 0, (-1), e, f) = false) := Lib.hid (by simp only [mapMayB, tailB, hf1, Bool.false_and, Bool.and_false])
  clear he he1 hf hf1
  go_enter Tryd.func48, Tryd.ntmps48
  go_wp2_with fail
  refine (inB_any e (-1000000) 1000000 _).mono ?_
  rintro r w0 ⟨rfl, rfl⟩
  rw [E0.out]
  go_wp2_with fail
  refine (inB_any f (-1000000) 1000000 _).mono ?_
  rintro r w1 ⟨rfl, rfl⟩
  rw [F0.out]
  go_wp2
  go_ret
  exact ⟨by rw [HR.out]; rfl, hb⟩
 have F0 := Lib.hid hf
 have hf1 : inN f = true := hf
 cases h2 : decide (e % 2 = 0)
 ·have HR : Hid (mapMayB (1, 0, 0, (-1), e, f) = false) := Lib.hid (by simp only [mapMayB, tailB, h2, Bool.false_and, Bool.and_false])
  clear he he1 hf hf1
  go_enter Tryd.func48, Tryd.ntmps48
  go_wp2_with fail
  refine (inB_any e (-1000000) 1000000 _).mono ?_
  rintro r w0 ⟨rfl, rfl⟩
  rw [E0.out]
  go_wp2_with fail
  refine (inB_any f (-1000000) 1000000 _).mono ?_
  rintro r w1 ⟨rfl, rfl⟩
  rw [F0.out]
  go_wp2
  go_ret
  exact ⟨by rw [HR.out]; rfl, hb⟩
 cases h3 : decide (f % 2 = 0)
 ·have HR : Hid (mapMayB (1, 0, 0, (-1), e, f) = false) := Lib.hid (by simp only [mapMayB, tailB, h3, Bool.false_and, Bool.and_false])
  clear he he1 hf hf1
  go_enter Tryd.func48, Tryd.ntmps48
  go_wp2_with fail
  refine (inB_any e (-1000000) 1000000 _).mono ?_
  rintro r w0 ⟨rfl, rfl⟩
  rw [E0.out]
  go_wp2_with fail
  refine (inB_any f (-1000000) 1000000 _).mono ?_
  rintro r w1 ⟨rfl, rfl⟩
  rw [F0.out]
  go_wp2
  go_ret
  exact ⟨by rw [HR.out]; rfl, hb⟩
 have HR : Hid (mapMayB (1, 0, 0, (-1), e, f) = true) := Lib.hid (by simp only [mapMayB, tailB, he1, hf1, h2, h3]; rfl)
 clear he he1 hf hf1
 go_enter Tryd.func48, Tryd.ntmps48
 go_wp2_with fail
 refine (inB_any e (-1000000) 1000000 _).mono ?_
 rintro r w0 ⟨rfl, rfl⟩
 rw [E0.out]
 go_wp2_with fail
 refine (inB_any f (-1000000) 1000000 _).mono ?_
 rintro r w1 ⟨rfl, rfl⟩
 rw [F0.out]
 go_wp2
 go_ret
 exact ⟨by rw [HR.out]; rfl, hb⟩
set_option maxRecDepth 100000 in
set_option maxHeartbeats 6400000 in
theorem refMap_o (e f : Int) (w : World) : Calls Tryd.prog 48 #[aggM (0, (-1), (-1), 0, e, f)] w fun r w' => r = .returned (.bool (mapMayB (0, (-1), (-1), 0, e, f))) ∧ Below w.heap.size w w' := by
 have hb := below_new w (.cells #[.int .i64 0, .int .i64 (-1), .int .i64 (-1), .int .i64 0, .int .i64 e, .int .i64 f] 75)
 have hbe := tmod2 e
 have hbf := tmod2 f
 cases he : (decide (-1000000 ≤ e) && decide (e ≤ 1000000))
 ·have E0 := Lib.hid he
  have he1 : inN e = false := he
  have HR : Hid (mapMayB (0, (-1), (-1), 0, e, f) = false) := Lib.hid (by simp only [mapMayB, tailB, he1, Bool.false_and, Bool.and_false])
  clear he he1
  go_enter Tryd.func48, Tryd.ntmps48
  go_wp2_with fail
  refine (inB_any e (-1000000) 1000000 _).mono ?_
  rintro r w0 ⟨rfl, rfl⟩
  rw [E0.out]
  go_wp2
  go_ret
  exact ⟨by rw [HR.out]; rfl, hb⟩
 have E0 := Lib.hid he
 have he1 : inN e = true := he
 cases hf : (decide (-1000000 ≤ f) && decide (f ≤ 1000000))
 ·have F0 := Lib.hid hf
  have hf1 : inN f = false := hf
  have HR : Hid (mapMayB (0, (-1), (-1), 0, e, f) = false) := Lib.hid (by simp only [mapMayB, tailB, hf1, Bool.false_and, Bool.and_false])
  clear he he1 hf hf1
  go_enter Tryd.func48, Tryd.ntmps48
  go_wp2_with fail
  refine (inB_any e (-1000000) 1000000 _).mono ?_
  rintro r w0 ⟨rfl, rfl⟩
  rw [E0.out]
  go_wp2_with fail
  refine (inB_any f (-1000000) 1000000 _).mono ?_
  rintro r w1 ⟨rfl, rfl⟩
  rw [F0.out]
  go_wp2
  go_ret
  exact ⟨by rw [HR.out]; rfl, hb⟩
 have F0 := Lib.hid hf
 have hf1 : inN f = true := hf
 cases h2 : decide (e % 2 = 0)
 ·have HR : Hid (mapMayB (0, (-1), (-1), 0, e, f) = false) := Lib.hid (by simp only [mapMayB, tailB, h2, Bool.false_and, Bool.and_false])
  clear he he1 hf hf1
  go_enter Tryd.func48, Tryd.ntmps48
  go_wp2_with fail
  refine (inB_any e (-1000000) 1000000 _).mono ?_
  rintro r w0 ⟨rfl, rfl⟩
  rw [E0.out]
  go_wp2_with fail
  refine (inB_any f (-1000000) 1000000 _).mono ?_
  rintro r w1 ⟨rfl, rfl⟩
  rw [F0.out]
  go_wp2
  go_ret
  exact ⟨by rw [HR.out]; rfl, hb⟩
 cases h3 : decide (f % 2 = 0)
 ·have HR : Hid (mapMayB (0, (-1), (-1), 0, e, f) = false) := Lib.hid (by simp only [mapMayB, tailB, h3, Bool.false_and, Bool.and_false])
  clear he he1 hf hf1
  go_enter Tryd.func48, Tryd.ntmps48
  go_wp2_with fail
  refine (inB_any e (-1000000) 1000000 _).mono ?_
  rintro r w0 ⟨rfl, rfl⟩
  rw [E0.out]
  go_wp2_with fail
  refine (inB_any f (-1000000) 1000000 _).mono ?_
  rintro r w1 ⟨rfl, rfl⟩
  rw [F0.out]
  go_wp2
  go_ret
  exact ⟨by rw [HR.out]; rfl, hb⟩
 have HR : Hid (mapMayB (0, (-1), (-1), 0, e, f) = true) := Lib.hid (by simp only [mapMayB, tailB, he1, hf1, h2, h3]; rfl)
 clear he he1 hf hf1
 go_enter Tryd.func48, Tryd.ntmps48
 go_wp2_with fail
 refine (inB_any e (-1000000) 1000000 _).mono ?_
 rintro r w0 ⟨rfl, rfl⟩
 rw [E0.out]
 go_wp2_with fail
 refine (inB_any f (-1000000) 1000000 _).mono ?_
 rintro r w1 ⟨rfl, rfl⟩
 rw [F0.out]
 go_wp2
 go_ret
 exact ⟨by rw [HR.out]; rfl, hb⟩
set_option maxRecDepth 100000 in
set_option maxHeartbeats 6400000 in
theorem refMap_p (e f : Int) (w : World) : Calls Tryd.prog 48 #[aggM (0, 1, 1, 0, e, f)] w fun r w' => r = .returned (.bool (mapMayB (0, 1, 1, 0, e, f))) ∧ Below w.heap.size w w' := by
 have hb := below_new w (.cells #[.int .i64 0, .int .i64 1, .int .i64 1, .int .i64 0, .int .i64 e, .int .i64 f] 75)
 have hbe := tmod2 e
 have hbf := tmod2 f
 cases he : (decide (-1000000 ≤ e) && decide (e ≤ 1000000))
 ·have E0 := Lib.hid he
  have he1 : inN e = false := he
  have HR : Hid (mapMayB (0, 1, 1, 0, e, f) = false) := Lib.hid (by simp only [mapMayB, tailB, he1, Bool.false_and, Bool.and_false])
  clear he he1
  go_enter Tryd.func48, Tryd.ntmps48
  go_wp2_with fail
  refine (inB_any e (-1000000) 1000000 _).mono ?_
  rintro r w0 ⟨rfl, rfl⟩
  rw [E0.out]
  go_wp2
  go_ret
  exact ⟨by rw [HR.out]; rfl, hb⟩
 have E0 := Lib.hid he
 have he1 : inN e = true := he
 cases hf : (decide (-1000000 ≤ f) && decide (f ≤ 1000000))
 ·have F0 := Lib.hid hf
  have hf1 : inN f = false := hf
  have HR : Hid (mapMayB (0, 1, 1, 0, e, f) = false) := Lib.hid (by simp only [mapMayB, tailB, hf1, Bool.false_and, Bool.and_false])
  clear he he1 hf hf1
  go_enter Tryd.func48, Tryd.ntmps48
  go_wp2_with fail
  refine (inB_any e (-1000000) 1000000 _).mono ?_
  rintro r w0 ⟨rfl, rfl⟩
  rw [E0.out]
  go_wp2_with fail
  refine (inB_any f (-1000000) 1000000 _).mono ?_
  rintro r w1 ⟨rfl, rfl⟩
  rw [F0.out]
  go_wp2
  go_ret
  exact ⟨by rw [HR.out]; rfl, hb⟩
 have F0 := Lib.hid hf
 have hf1 : inN f = true := hf
 cases h2 : decide (e % 2 = 0)
 ·have HR : Hid (mapMayB (0, 1, 1, 0, e, f) = false) := Lib.hid (by simp only [mapMayB, tailB, h2, Bool.false_and, Bool.and_false])
  clear he he1 hf hf1
  go_enter Tryd.func48, Tryd.ntmps48
  go_wp2_with fail
  refine (inB_any e (-1000000) 1000000 _).mono ?_
  rintro r w0 ⟨rfl, rfl⟩
  rw [E0.out]
  go_wp2_with fail
  refine (inB_any f (-1000000) 1000000 _).mono ?_
  rintro r w1 ⟨rfl, rfl⟩
  rw [F0.out]
  go_wp2
  go_ret
  exact ⟨by rw [HR.out]; rfl, hb⟩
 cases h3 : decide (f % 2 = 0)
 ·have HR : Hid (mapMayB (0, 1, 1, 0, e, f) = false) := Lib.hid (by simp only [mapMayB, tailB, h3, Bool.false_and, Bool.and_false])
  clear he he1 hf hf1
  go_enter Tryd.func48, Tryd.ntmps48
  go_wp2_with fail
  refine (inB_any e (-1000000) 1000000 _).mono ?_
  rintro r w0 ⟨rfl, rfl⟩
  rw [E0.out]
  go_wp2_with fail
  refine (inB_any f (-1000000) 1000000 _).mono ?_
  rintro r w1 ⟨rfl, rfl⟩
  rw [F0.out]
  go_wp2
  go_ret
  exact ⟨by rw [HR.out]; rfl, hb⟩
 have HR : Hid (mapMayB (0, 1, 1, 0, e, f) = true) := Lib.hid (by simp only [mapMayB, tailB, he1, hf1, h2, h3]; rfl)
 clear he he1 hf hf1
 go_enter Tryd.func48, Tryd.ntmps48
 go_wp2_with fail
 refine (inB_any e (-1000000) 1000000 _).mono ?_
 rintro r w0 ⟨rfl, rfl⟩
 rw [E0.out]
 go_wp2_with fail
 refine (inB_any f (-1000000) 1000000 _).mono ?_
 rintro r w1 ⟨rfl, rfl⟩
 rw [F0.out]
 go_wp2
 go_ret
 exact ⟨by rw [HR.out]; rfl, hb⟩
end
end Go.Proofs.YtnndadhkedlohaaDoor
