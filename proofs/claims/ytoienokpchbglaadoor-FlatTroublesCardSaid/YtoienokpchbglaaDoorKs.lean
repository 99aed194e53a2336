/- A range over a function that SeqGives: the loop is left by its end alone; what lay before it is told to lie still. maps.Keys of a map keyed by points, its iterator; slices.AppendSeq, Collect, SortedFunc of points. -/
import Derived.Test.YtoienokpchbglaaDoorLay0
import Derived.RangeFuncNested
import Derived.RangeFuncBound
import Derived.RangeFuncCalls
import Derived.RangeFuncLeaves
import Derived.Test.YtoienokpchbglaaDoorMv
import Derived.Test.YtoienokpchbglaaDoorKp
import Derived.Test.YtoienokpchbglaaDoorSrt
import Derived.Shelf.SlIterI.Keys
namespace Go.Proofs.YtoienokpchbglaaDoor
set_option linter.unusedSimpArgs false
set_option linter.unusedVariables false
section
open Go.RowKit

theorem one_new (w : World) (us : List Value) (e : TypeId) : ∀ (j : Nat) (u' : Value), us[j]? = some u' → (w.alloc (.cells us.toArray e)).cell? ((⟨w.heap.size, 0, none⟩ : Addr).add j) = some u' := by
 intro j u' h
 rw [addr_add, Nat.zero_add, cell_of_blk (heap_alloc_new w _) j]
 simpa using h
theorem put_cells {W : World} {g l : Nat} {o o' : Obj} {cs : Array Value} {t : TypeId} (h : W.heap[g]? = some (.cells cs t (0, 0))) (hl : W.heap[l]? = some o) (ho : o.isCells = false) : (W.putObj l o').heap[g]? = some (.cells cs t (0, 0)) := by
 refine (World.putObj_heap_other ?_).trans h
 rintro rfl
 rw [h] at hl
 rw [← Option.some.inj hl] at ho
 cases ho
theorem own_put {W : World} {base l n sz : Nat} {e : TypeId} {v : Value} {xs : List Value} {o o' : Obj} (h : W.ownsRow base e sz v n xs) (hl : W.heap[l]? = some o) (ho : o.isCells = false) : (W.putObj l o').ownsRow base e sz v n xs := by
 refine ⟨h.1, ?_⟩
 rcases h.2 with h0 | ⟨g, cap, cur, rfl, h1, h2, rest⟩
 ·exact .inl h0
 ·exact .inr ⟨g, cap, cur, rfl, h1, put_cells h2 hl ho, rest⟩
theorem below_put {B : Nat} {w W : World} {l : Nat} {o' : Obj} (h : Below B w W) (hB : B ≤ l) (hs : B ≤ W.heap.size) : Below B w (W.putObj l o') :=
 h.grown (grownBy_putObj' W l o') hs (fun k e => by cases e; exact hB)
/-- cells lie still while a walk's object turns -/
theorem cells_walk {W W' : World} {row : Option Nat} {g : Nat} {cs : Array Value} {t : TypeId} (h : W.heap[g]? = some (.cells cs t (0, 0))) (hg : W.grownBy W' row) (hr : ∀ r, row = some r → ∃ o : Obj, W.heap[r]? = some o ∧ o.isWalk = true) : W'.heap[g]? = some (.cells cs t (0, 0)) :=
 (grownBy_keeps hg hr h rfl).trans h
theorem own_walk {W W' : World} {row : Option Nat} {base n sz : Nat} {e : TypeId} {v : Value} {xs : List Value} (h : W.ownsRow base e sz v n xs) (hg : W.grownBy W' row) (hr : ∀ r, row = some r → ∃ o : Obj, W.heap[r]? = some o ∧ o.isWalk = true) : W'.ownsRow base e sz v n xs := by
 refine ⟨h.1, ?_⟩
 rcases h.2 with h0 | ⟨g, cap, cur, rfl, h1, h2, rest⟩
 ·exact .inl h0
 ·exact .inr ⟨g, cap, cur, rfl, h1, cells_walk h2 hg hr, rest⟩

/-- How a round's body is left: by its end. -/
def endPost {α : Type} (I : List α → World → Prop) (xs : List α) (W : World) : Exit → Act → World → Prop
 | .normal, _, W' => KeepsOthers W W' ∧ I xs W'
 | .ret, _, _ => False
 | .exit _, _, _ => False
 | .goto _, _, _ => False
 | .panic _, _, _ => False
 | .outgrown, _, _ => False

variable {F : Fence} {n : Nat} {P : Program}
theorem rangeFunc_gives {α : Type} {g : Operand} {ps : Array Tmp} {assign body : Code} {Q : Exit → Act → World → Prop} {a : Act} {w : World}
  (hro : F.round = none) (h1 : 1 ≤ n) {gf : Nat} {lb : Array Value} (hg : a.eval g = .func (.func gf) #[] lb) (hFg : F.fn gf) (eg : ∀ args w, (callFunc gf args).run P w = .ok (.enter gf args) w)
  {enc : α → Value} {S : List α → Prop} {N : Nat} {w0 : World} (hseq : SeqGives F (n - 1) P gf lb enc S N w0)
  (hb0 : Below w0.heap.size w0 w) (hps : ps.size = 1)
  (I : List α → World → Prop) (hIa : AbidesFrom w.heap.size I) (hIp : ∀ s W l o o', w.heap.size ≤ l → I s W → W.heap[l]? = some o → o.isCells = false → I s (W.putObj l o'))
  (h0 : I [] w) (a₁ : α → World → Act) (I2 : List α → α → World → World → Prop) (hI2p : ∀ s x W0 W l o o', w.heap.size ≤ l → I2 s x W0 W → W.heap[l]? = some o → o.isCells = false → I2 s x W0 (W.putObj l o'))
  (hassign : ∀ (l : Nat) (pre : List α) (x : α) (W : World) (K : Act → World → Prop), I pre W → pre.length < N → (∀ W', KeepsOthers W W' → I2 pre x W W' → K (a₁ x W) W') →
   assign.wpIn (F.inRound l) (n - 1 - 1) P (Exit.then K (fun _ _ _ => False)) { tmps := (ps.zip #[enc x]).foldl (fun t (p, v) => t.setIfInBounds p v) a.tmps, defers := [] } W)
  (hbody : ∀ (l : Nat) (pre : List α) (x : α) (W0 W : World), pre.length < N → I2 pre x W0 W → body.wpIn (F.inRound l) (n - 1 - 1) P (endPost I (pre ++ [x]) W) (a₁ x W0) W)
  (hdone : ∀ (D : Nat) (xs : List α) (W : World), w.heap.size ≤ D → S xs → I xs W → W.heap[D]? = some (.deferred (some [])) → Q .normal { a with defers := { target := .collected D, args := #[] } :: a.defers } W) :
  (Code.rangeFunc g ps assign body).wpIn F n P Q a w := by
 refine wpIn_rangeFunc fun fn hfn => ?_
 rw [hro]
 obtain ⟨rec, hrec⟩ : ∃ rec : LoopState → Loop, rec = fun st => { state := st, pending := none, fn, tmps := a.tmps, params := ps, assign, body, defers := w.heap.size } := ⟨_, rfl⟩
 obtain ⟨W1, hW1⟩ : ∃ W1, (w.alloc (.deferred (some []))).alloc (.loop (rec .ready)) = W1 := ⟨_, rfl⟩
 have hL1 : W1.heap[w.heap.size + 1]? = some (.loop (rec .ready)) := by
  rw [← hW1]
  have := heap_alloc_new (w.alloc (.deferred (some []))) (.loop (rec .ready))
  rwa [World.size_alloc] at this
 have hK1 : W1.heap[w.heap.size]? = some (.deferred (some [])) := by
  rw [← hW1]
  exact blk_alloc (heap_alloc_new w _) _
 have hbw : Below w.heap.size w W1 := by
  rw [← hW1]
  exact (below_new w _).alloc (by simp) _
 have hsz1 : w.heap.size + 2 ≤ W1.heap.size := by
  rw [← hW1]
  simp
 have hI1 : I [] W1 := by
  rw [← hW1]
  exact hIa _ _ _ none (hIa _ _ _ none h0 (World.grownBy_alloc w _ none) (fun r e => by cases e)) (World.grownBy_alloc _ _ none) (fun r e => by cases e)
 refine ⟨w.heap.size + 1, [{ target := .collected w.heap.size, args := #[] }], W1, { target := .fn (.func gf) lb, args := #[.func (.yield (w.heap.size + 1)) #[] #[]] }, W1, gf,
  #[.func (.yield (w.heap.size + 1)) #[] #[]] ++ lb, W1, ?_, ?_, ?_, ?_, fun _ => h1, ?_⟩
 ·rw [← hW1, hrec]
  exact run_enterLoop_outer _ _ _ _ _
 ·simp only [resolve, hg]
  simp [go_sem]
 ·intro f' hf'
  simp [Target.leads] at hf'
  subst hf'
  exact hFg
 ·simp [invoke, go_sem, eg]
 ·refine (hseq (w.heap.size + 1) (fun pre W => I pre W ∧ W.heap[w.heap.size + 1]? = some (.loop (rec .ready)) ∧ W.heap[w.heap.size]? = some (.deferred (some []))) W1
   (hb0.trans (hbw.mono hb0.size)) (fun s A B row hs hg hr => ⟨hIa _ _ _ row hs.1 hg (fun r e => ⟨by have := (hr r e).1; omega, (hr r e).2⟩),
    (hg.block _ (blk_lt hs.2.1) (fun e => by have := (hr _ e.symm).1; omega)).trans hs.2.1, (hg.block _ (blk_lt hs.2.2) (fun e => by have := (hr _ e.symm).1; omega)).trans hs.2.2⟩) ?_ ⟨hI1, hL1, hK1⟩).mono ?_
  ·rintro pre x W ⟨hi, hl, hk⟩ hN
   have hlt := blk_lt hl
   have hy := run_yield (P := P) (args := #[enc x]) hl (by rw [hrec]; simp [hps])
   rw [hrec] at hy
   refine ⟨fn, _, assign, body, hy, roundIn_of_wpIn hfn (hassign _ pre x W _ hi hN (fun W' hk0 hi2 => ?_))⟩
   clear hy
   have hw0 := hk0.walks
   replace hl := hk0.same _ _ hl rfl
   replace hk := hk0.same _ _ hk rfl
   replace hlt := blk_lt hl
   generalize hWW : W = WW at hw0 hi2 hi hk0
   clear hWW hi hk0
   obtain ⟨W, hW'⟩ : ∃ W, W = W' := ⟨_, rfl⟩
   subst hW'
   refine ⟨_, run_beginRound hl (by rw [hrec]), ?_⟩
   have hl2 : (W.putObj (w.heap.size + 1) (.loop { rec .ready with state := .busy })).heap[w.heap.size + 1]? = some (.loop { rec .ready with state := .busy }) := World.putObj_heap_same hlt
   have hk2 : (W.putObj (w.heap.size + 1) (.loop { rec .ready with state := .busy })).heap[w.heap.size]? = some (.deferred (some [])) := (World.putObj_heap_other (by omega)).trans hk
   have hw2 : KeepsWalks W (W.putObj (w.heap.size + 1) (.loop { rec .ready with state := .busy })) := KeepsWalks.putObj _ hl rfl
   refine wpIn_mono (hbody _ pre x WW _ hN (hI2p _ _ _ _ _ _ _ (by omega) hi2 hl rfl)) ?_
   rintro e a3 W3 hp
   cases e with
   | normal =>
    obtain ⟨hk3, hi3⟩ := hp
    have hl3 := hk3.same _ _ hl2 rfl
    have hr := run_endRound (P := P) none hl3
    rw [hrec] at hr hl3
    refine ⟨_, _, hr, rfl, ⟨hIp _ _ _ _ _ (by omega) hi3 hl3 rfl, ?_, (World.putObj_heap_other (by omega)).trans (hk3.same _ _ hk2 rfl)⟩, (hw0.trans (hw2.trans hk3.walks)).trans (KeepsWalks.putObj _ hl3 rfl)⟩
    rw [World.putObj_heap_same (blk_lt hl3), hrec]
    rfl
   | ret => exact hp.elim
   | exit id => exact hp.elim
   | goto t => exact hp.elim
   | panic ch => exact hp.elim
   | outgrown => exact hp.elim
  ·rintro e W2 ⟨⟨v, rfl⟩, xs, hS, hi, hl, hk⟩
   have hr := run_endLoop (P := P) hl (by rw [hrec]; simp)
   rw [hrec] at hr
   exact ⟨none, _, hr, hdone _ xs _ (Nat.le_refl _) hS (hIp _ _ _ _ _ (by omega) hi hl rfl) ((World.putObj_heap_other (by omega)).trans hk)⟩
end
section
open Go.RowKit Go.Maps Go.Sort Go.Shelf
attribute [local go_sem] Oper.semAt_some

/-- a list of all keys, each once -/
structure KeyL {α : Type} (k : KD α) (S : α → Prop) (ss : List α) : Prop where
 nodup : ss.Nodup
 mem : ∀ a, a ∈ ss ↔ k.ok a ∧ S a
abbrev kdP : KD P2 := kP.kd
theorem own_newne {w : World} {base sz n : Nat} {e : TypeId} {v : Value} {xs : List Value} (h : w.ownsRow base e sz v n xs) : v.ownBlock ≠ some w.heap.size := fun e => by
 have := (h.lt _ e).2
 omega
set_option maxRecDepth 100000 in
set_option maxHeartbeats 3200000 in
theorem keysP1_in {H : Type} (F : Fence) (n : Nat) (h10 : F.fn 96) (hro : F.round = none) (hn : 1 ≤ n) (l Bm b nn N : Nat) (D0 : DataW H) {R : Value → Option (DataW H × List MemPlace)} (S : P2 → Prop) (hkd : KeysD kdP D0 S) (hN : ∀ ss : List P2, ss.Nodup → (∀ a ∈ ss, kdP.ok a ∧ S a) → ss.length ≤ N) (J : List P2 → World → Prop)
  (hY : ∀ pre x W, J pre W → pre.length < N → YieldAt F (n - 1) Tryd.prog l #[kdP.enc x] W fun e W' => e = .returned (.bool true) ∧ J (pre ++ [x]) W' ∧ KeepsWalks W W')
  (W : World) (hJ : AbidesFrom W.heap.size J) (hm : W.cell? ⟨Bm, 0, none⟩ = some (.map (some b))) (hown : W.ownsMap Tryd.prog 49 R b nn D0) (h0 : J [] W) :
  CallsIn F n Tryd.prog 96 #[.func (.yield l) #[] #[], .pointer (some ⟨Bm, 0, none⟩)] W fun e W' => (∃ v, e = .returned v) ∧ ∃ ss : List P2, KeyL kdP S ss ∧ J ss W' := by
 refine callsIn_of_wp Tryd.func96 rfl h10 ?_ hro
 simp only [Tryd.ntmps96, List.size_toArray, List.length_cons, List.length_nil, Nat.reduceAdd, Nat.reduceSub, Array.replicate_succ, Array.replicate_zero, List.push_toArray, List.append_toArray, List.nil_append, List.cons_append]
 gi_wp2_with (first
  | (gi_at_range; refine wpListIn_range_own _ rfl _ 134 rfl 49 137 kdP.law Tryd.underlying134 _ b nn _ rfl hown ?_; intro w0 hrg0 hg0 hs0)
  | gi_in)
 go_frame
 gi_loopw [3] (fun _ wr => ∃ (left : Lit → Bool) (cnt : Nat) (ss : List P2), wr.ranges Tryd.prog 49 R b W.heap.size nn D0 left cnt ∧ CamK kdP D0 S left ss ∧ J ss wr)
  (fun _ wr => wr.rangeLeft b W.heap.size)
 case atStart =>
  exact ⟨_, _, [], hrg0, CamK.start hkd, hJ [] W w0 none h0 hg0 (fun r e => by cases e)⟩
 case round =>
  obtain ⟨left, cnt, ss, hrg, hC, hJs⟩ := hrel
  gi_wp2_with (first
   | (gi_at_next; refine wpListIn_next_ranges _ rfl _ rfl 49 kdP.law R id id (fun key kl hk => ⟨key, rfl⟩) (fun v _ _ => ⟨v, rfl⟩) b W.heap.size nn _ _ _ rfl hrg ?_ ?_)
   | gi_in)
  ·-- nothing is left
   intro hc0 hl0
   gi_wp2
   go_end0
   exact ⟨⟨_, rfl⟩, ss, ⟨hC.nodup, fun a => ⟨fun h => hC.ok a h, fun h => hC.done hl0 h.1 h.2⟩⟩, hJs⟩
  ·-- an entry has come
   intro x c kl yd yp w2 cnt2 hkey hlk hv hat hrg2 hlt hg2 hs2 hen
   obtain ⟨a, hxa, hok, hS, hna, hak⟩ := hC.who hkd hkey hlk hat
   have hC2 := hC.step hok hS hna hak
   have hlen : ss.length < N := by
    have := hN (ss ++ [a]) hC2.nodup hC2.ok
    simp at this
    omega
   have hxa : x = .agg #[.int .i64 a.1, .int .i64 a.2] := hxa
   subst hxa
   have hJ2 : J ss w2 := hJ ss wr w2 (some W.heap.size) hJs hg2 (fun r e => by cases e; exact ⟨Nat.le_refl _, hrg.iter_walk⟩)
   have hJ3 : J ss (w2.alloc (.cells #[.int .i64 a.1, .int .i64 a.2] 49)) := hJ ss w2 _ none hJ2 (World.grownBy_alloc w2 _ none) (fun r e => by cases e)
   obtain ⟨fn, tmps, assign, body, hy, hR⟩ := hY ss a _ hJ3 hlen
   have hrg2 := hrg2.of_walks (KeepsWalks.alloc w2 (.cells #[.int .i64 a.1, .int .i64 a.2] 49))
   have hy : (Instr.yield l #[.agg #[.int .i64 a.1, .int .i64 a.2]]).run Tryd.prog (w2.alloc (.cells #[.int .i64 a.1, .int .i64 a.2] 49)) = _ := hy
   clear hs2 hxa
   gi_wp2
   refine hR.mono ?_
   rintro e W3 ⟨rfl, hJ3, hk3⟩
   gi_wp2
   have hrg3 := hrg2.of_walks hk3
   go_roundw
   case rel => exact ⟨_, cnt2, ss ++ [a], hrg3, hC2, hJ3⟩
   case measure => rw [hrg3.left_eq, hrg.left_eq]; exact hlt
set_option maxHeartbeats 1000000 in
/-- maps.Keys: the map is boxed; the function value captures the box. -/
theorem keysP_in (F : Fence) (n : Nat) (h7 : F.fn 75) (hro : F.round = none) (mb : Option Nat) (w : World) :
  CallsIn F n Tryd.prog 75 #[.map mb] w fun e w' => e = .returned (.func (.func 96) #[] #[.pointer (some ⟨w.heap.size, 0, none⟩)]) ∧ w' = w.alloc (.cells #[.map mb] 134) := by
 refine callsIn_of_wp Tryd.func75 rfl h7 ?_ hro
 simp only [Tryd.ntmps75, List.size_toArray, List.length_cons, List.length_nil, Nat.reduceAdd, Nat.reduceSub, Array.replicate_succ, Array.replicate_zero, List.push_toArray, List.append_toArray, List.nil_append, List.cons_append]
 gi_wp2
 go_ret
 exact ⟨rfl, rfl⟩
/-- the iterator's word -/
theorem keysP_gives {H : Type} (F : Fence) (n : Nat) (h10 : F.fn 96) (hro : F.round = none) (hn : 1 ≤ n) (Bm b nn N : Nat) (D0 : DataW H) {R : Value → Option (DataW H × List MemPlace)} (S : P2 → Prop) (hkd : KeysD kdP D0 S) (hN : ∀ ss : List P2, ss.Nodup → (∀ a ∈ ss, kdP.ok a ∧ S a) → ss.length ≤ N)
  (w : World) (hBm : Bm < w.heap.size) (hm : w.cell? ⟨Bm, 0, none⟩ = some (.map (some b))) (hown : w.ownsMap Tryd.prog 49 R b nn D0) :
  SeqGives F n Tryd.prog 96 #[.pointer (some ⟨Bm, 0, none⟩)] kdP.enc (KeyL kdP S) N w := fun l J W hW hJ hY h0 => by
 have hown' : W.ownsMap Tryd.prog 49 R b nn D0 := by
  have hbl := hown.lt
  obtain ⟨es, clock, hb, Ft, hs, hD⟩ := hown
  exact ⟨es, clock, (hW.block b hbl).trans hb, Ft, hs, hD⟩
 exact keysP1_in F n h10 hro hn l Bm b nn N D0 S hkd hN J hY W hJ ((hW.cell (p := ⟨Bm, 0, none⟩) hBm).trans hm) hown' h0
set_option maxRecDepth 100000 in
set_option maxHeartbeats 3200000 in
theorem appseqP_in (n gf : Nat) (lb : Array Value) (eg : ∀ args w, (callFunc gf args).run Tryd.prog w = .ok (.enter gf args) w) (S : List P2 → Prop) (N : Nat) (w : World) (hn : 3 ≤ n) (hN : N ≤ 100000) (hseq : SeqGives Fence.wide (n - 1) Tryd.prog gf lb kdP.enc S N w) :
  CallsIn Fence.wide n Tryd.prog 107 #[.slice none 0 0, .func (.func gf) #[] lb] w fun e w' => ∃ v ss, e = .returned v ∧ S ss ∧ ss.length ≤ N ∧ w'.ownsRow w.heap.size 49 2 v ss.length (pcs ss) ∧ Below w.heap.size w w' := by
 have hseq := hseq.bounded
 have HQ := Lib.hid hseq
 clear hseq
 refine callsIn_of_wp_marks Tryd.func107 rfl trivial ?_ rfl
 simp only [Tryd.ntmps107, List.size_toArray, List.length_cons, List.length_nil, Nat.reduceAdd, Nat.reduceSub, Array.replicate_succ, Array.replicate_zero, List.push_toArray, List.append_toArray, List.nil_append, List.cons_append]
 gi_wp2_with (fail)
 have kO : (w.alloc (.cells #[.slice none 0 0] 104)).heap[w.heap.size]? = some (.cells #[.slice none 0 0] 104 (0, 0)) := new_blk _ rfl
 have hw0 : Below w.heap.size w (w.alloc (.cells #[.slice none 0 0] 104)) := below_new _ _
 generalize w.alloc (.cells #[.slice none 0 0] 104) = W0 at kO hw0 ⊢
 refine rangeFunc_gives rfl (by omega) (gf := gf) (lb := lb) rfl trivial eg HQ.out hw0 rfl
  (fun pre W => ∃ v, W.heap[w.heap.size]? = some (.cells #[v] 104 (0, 0)) ∧ W.ownsRow W0.heap.size 49 2 v pre.length (pcs pre) ∧ Below w.heap.size w W ∧ pre.length ≤ N ∧ W0.heap.size ≤ W.heap.size)
  (fun s A C row ⟨v, h1, h2, h3, h4, h5⟩ hg hr => ⟨v, cells_walk h1 hg (fun r e => (hr r e).2), own_walk h2 hg (fun r e => (hr r e).2), h3.grown hg h3.size (fun k e => Nat.le_trans hw0.size (hr k e).1), h4, Nat.le_trans h5 hg.size⟩)
  (fun s W l o o' hB ⟨v, h1, h2, h3, h4, h5⟩ hl ho => ⟨v, put_cells h1 hl ho, own_put h2 hl ho, below_put h3 (Nat.le_trans hw0.size hB) h3.size, h4, Nat.le_trans h5 (grownBy_putObj' W l o').size⟩)
  ⟨.slice none 0 0, kO, World.ownsRow_nil _ _ _ _, hw0, Nat.zero_le _, Nat.le_refl _⟩
  (fun x W => { tmps := #[.slice none 0 0, .func (.func gf) #[] lb, .pointer (some ⟨w.heap.size, 0, none⟩), undef, .slice none 0 0, .pointer (some ⟨W.heap.size, 0, none⟩), .func (.func gf) #[] lb, .agg #[.int .i64 x.1, .int .i64 x.2], undef, undef, undef, undef, undef], defers := [] })
  (fun pre x Wp W => ∃ v, W.heap[w.heap.size]? = some (.cells #[v] 104 (0, 0)) ∧ W.ownsRow W0.heap.size 49 2 v pre.length (pcs pre) ∧ Below w.heap.size w W ∧ pre.length ≤ N ∧ W0.heap.size ≤ W.heap.size ∧ W.heap[Wp.heap.size]? = some (.cells #[.int .i64 x.1, .int .i64 x.2] 49 (0, 0)) ∧ v.ownBlock ≠ some Wp.heap.size ∧ W0.heap.size ≤ Wp.heap.size)
  (fun s x Wp W l o o' hB ⟨v, h1, h2, h3, h4, h5, h6, h7, h8⟩ hl ho => ⟨v, put_cells h1 hl ho, own_put h2 hl ho, below_put h3 (Nat.le_trans hw0.size hB) h3.size, h4, Nat.le_trans h5 (grownBy_putObj' W l o').size, put_cells h6 hl ho, h7, h8⟩)
  ?assign ?body ?done
 case assign =>
  rintro l pre x W K ⟨v, h1, h2, h3, h4, h5⟩ hlt hK
  have he : kdP.enc x = .agg #[.int .i64 x.1, .int .i64 x.2] := rfl
  rw [he]
  clear he
  have hK2 := hK (W.alloc (.cells #[.int .i64 x.1, .int .i64 x.2] 49)) (KeepsOthers.alloc _ _) ⟨v, blk_alloc h1 _, h2.alloc _, h3.alloc h3.size _, h4, by simp; omega, heap_alloc_new W _, own_newne h2, h5⟩
  have HK := Lib.hid hK2
  clear hK hK2 h1 h2 h3 h4
  gi_wp2
  exact HK.out
 case body =>
  rintro l pre x Wp W hlt ⟨v, h1, h2, h3, h4, h5, h6, h7, h8⟩
  have x0 := cell_of_blk h6 0
  have x1 := cell_of_blk h6 1
  have a0 := cell_of_blk h1 0
  simp only [List.getElem?_toArray, List.getElem?_cons_zero, List.getElem?_cons_succ] at x0 x1 a0
  have hlo : w.heap.size < W0.heap.size := blk_lt kO
  have hWs := blk_lt h1
  obtain ⟨i0, hi, hz0, hz1, hz2⟩ := info_parts pt_info
  have H1 := Lib.hid h1
  have H2 := Lib.hid h2
  have H3 := Lib.hid h3
  clear h1 h2 h3 h6 h7
  gi_wp2_with (first | (gi_at_builtin; refine wpListIn_append_own _ rfl (.tmp 8) (.tmp 10) 104 rfl W0.heap.size 49 i0 (.agg #[.int .i64 0, .int .i64 0]) 2 16 Tryd.underlying104 hi hz0 hz1 hz2 rfl (by decide) v pre.length (pcs pre) rfl (own_below H2.out (below_new _ _) (Nat.le_refl _)) ⟨W.heap.size, 0, none⟩ 1 1 [.int .i64 x.1, .int .i64 x.2] rfl rfl (one_new W _ _) (pt_one _ _) (by unfold maxLen; omega) (by omega) (by simp; omega) ?_; intro v6 w6 hown6 hgr6 _; obtain ⟨g6, c6, cur6, hv6, _, _, _, _⟩ := own_addr hown6 (by omega); subst hv6; have hB6 : Below W0.heap.size (W.alloc (.cells #[.int .i64 x.1, .int .i64 x.2] 49)) w6 := (Below.refl _ _).grown hgr6 (by simp; omega) (fun k hk => (H2.out.lt k hk).1); have q6 := blk_below (blk_alloc H1.out _) hB6 (by omega); have z6 := cell_of_blk q6 0; simp only [List.getElem?_toArray, List.getElem?_cons_zero] at z6; have f6 := frozen_of_blk q6; have l6 := blk_lt q6))
  have hrowA := own_below H2.out (below_new W (.cells #[.int .i64 x.1, .int .i64 x.2] 49)) (Nat.le_refl _)
  have hcl := own_cells hrowA
  refine ⟨?_, .slice (some ⟨g6, 0, none⟩) (pre.length + 1) c6, ?_, ?_, ?_, by simp; omega, by rw [World.size_setCell]; have := hB6.size; simp at this; omega⟩
  ·exact (KeepsOthers.alloc _ _).trans ((KeepsOthers.of_grownBy hgr6 (fun j o hj ho => by obtain ⟨cs, h5⟩ := hcl j hj; rw [h5] at ho; rw [← Option.some.inj ho]; rfl)).trans (KeepsOthers.setCell _ _ _))
  ·have := blk_set q6 0 (.slice (some ⟨g6, 0, none⟩) (pre.length + 1) c6)
   simpa using this
  ·rw [List.length_append, List.length_singleton, pcs_app, pcs_one]
   exact own_set hown6 (fun k hk => by have := (hown6.lt k hk).1; omega) 0 _
  ·exact (H3.out.trans (((below_new W _).mono H3.out.size).trans (hB6.mono (show w.heap.size ≤ W0.heap.size by omega)))).setCell (by simp) _
 case done =>
  rintro D ys W hD ⟨hS, hyn⟩ ⟨v, h1, h2, h3, h4, h5⟩ hK
  have o0 := cell_of_blk h1 0
  simp only [List.getElem?_toArray, List.getElem?_cons_zero] at o0
  have H1 := Lib.hid h1
  have H2 := Lib.hid h2
  have HS := Lib.hid hS
  clear h1 h2 hS
  gi_wp2
  refine ⟨by simp, .inl ⟨_, _, rfl, run_takeDeferred hK, ?_⟩⟩
  have hP := own_put (o' := .deferred none) H2.out hK rfl
  have hQ := below_put (o' := .deferred none) h3 (Nat.le_trans hw0.size hD) h3.size
  exact ⟨v, by simp [results, Tryd.results107, go_sem], v, ys, rfl, HS.out, hyn, own_mono hP hw0.size, hQ⟩
/-! ### points in order -/
def encP2 (t : P2) : List Value := [.int .i64 t.1, .int .i64 t.2]
def cmpPt (a b : P2) : Int := cmpP a.1 a.2 b.1 b.2
theorem cmpPt_lt (a b : P2) : cmpPt a b < 0 ↔ ltP a b := by
 unfold cmpPt cmpP orI cmpI ltP
 (repeat' split) <;> omega
theorem flat_pcs (l : List P2) : flatK encP2 2 l.toArray = (pcs l).toArray := by
 apply Array.ext_getElem?
 intro j
 by_cases hj : j < l.length * 2
 ·have hd : j / 2 < l.length := by omega
  obtain ⟨h0, h1⟩ := pcs_at (List.getElem?_eq_getElem hd)
  have hs : j < (flatK encP2 2 l.toArray).size := by simpa using hj
  have h2 := get_flatK encP2 2 l.toArray j (by simpa using hj)
  rw [getElem!_pos (flatK encP2 2 l.toArray) j hs, getElem!_pos l.toArray (j / 2) (by simpa using hd)] at h2
  rw [Array.getElem?_eq_getElem hs, h2, List.getElem?_toArray]
  simp only [List.getElem_toArray]
  have h4 : j % 2 = 0 ∨ j % 2 = 1 := by omega
  rcases h4 with h4 | h4
  ·rw [show j / 2 * 2 = j by omega] at h0
   rw [h4, h0]
   rfl
  ·rw [show j / 2 * 2 + 1 = j by omega] at h1
   rw [h4, h1]
   rfl
 ·rw [Array.getElem?_eq_none (by simp; omega), List.getElem?_toArray, List.getElem?_eq_none (by rw [pcs_len]; omega)]
theorem swoP : SWO (ltOf cmpPt) where
 irrefl x := decide_eq_false (fun h => ltP_irrefl _ ((cmpPt_lt _ _).1 h))
 trans x y z h1 h2 := decide_eq_true ((cmpPt_lt _ _).2 (ltP_trans ((cmpPt_lt _ _).1 (of_decide_eq_true h1)) ((cmpPt_lt _ _).1 (of_decide_eq_true h2))))
 ntrans x y z h1 h2 := by
  have n1 : ¬ ltP x y := fun h => of_decide_eq_false h1 ((cmpPt_lt _ _).2 h)
  have n2 : ¬ ltP y z := fun h => of_decide_eq_false h2 ((cmpPt_lt _ _).2 h)
  refine decide_eq_false fun h => ?_
  have h3 := (cmpPt_lt _ _).1 h
  unfold ltP at *
  omega
theorem totP (x y : P2) (h1 : ltOf cmpPt x y = false) (h2 : ltOf cmpPt y x = false) : x = y := by
 rcases ltP_tri x y with h | h | h
 ·exact absurd ((cmpPt_lt _ _).2 h) (of_decide_eq_false h1)
 ·exact h
 ·exact absurd ((cmpPt_lt _ _).2 h) (of_decide_eq_false h2)
def srtP (l : List P2) : List P2 := l.mergeSort fun x y => !(ltOf cmpPt) y x
theorem srtP_perm (l : List P2) : (srtP l).Perm l := List.mergeSort_perm _ _
theorem srtP_sorted {l : List P2} (h : l.Nodup) : (srtP l).Pairwise ltP := by
 have h1 := List.pairwise_mergeSort (le := fun x y : P2 => !(ltOf cmpPt) y x) (fun a b c h1 h2 => by
  simp only [Bool.not_eq_true'] at h1 h2 ⊢
  exact swoP.ntrans _ _ _ h2 h1) (fun a b => by
  by_cases h : ltOf cmpPt b a = true
  ·have : ltOf cmpPt a b = false := by
    refine decide_eq_false fun h2 => ?_
    exact ltP_irrefl _ (ltP_trans ((cmpPt_lt _ _).1 (of_decide_eq_true h)) ((cmpPt_lt _ _).1 h2))
   simp [this]
  ·simp [h]) l
 have h2 : (srtP l).Nodup := (srtP_perm l).nodup_iff.2 h
 unfold srtP at h2 ⊢
 refine (h1.and h2).imp ?_
 rintro a b ⟨h3, h4⟩
 rcases ltP_tri a b with h5 | h5 | h5
 ·exact h5
 ·exact absurd h5 h4
 ·have h6 : ltOf cmpPt b a = true := decide_eq_true ((cmpPt_lt _ _).2 h5)
  rw [h6] at h3
  cases h3
theorem cmpLaysP (w : World) (blk size : Nat) : CmpLays Tryd.prog 76 #[] encP2 2 cmpPt blk 0 size w := by
 intro m os dk _ x y
 refine (cmpPoint_any x.1 x.2 y.1 y.2 _).mono ?_
 rintro e w' ⟨rfl, q, os', h⟩
 exact ⟨rfl, q, os', h⟩
theorem isAggP (w : World) : (isAgg 49).run Tryd.prog w = .ok true w := by kernel_rfl
theorem sizeP (w : World) : (Go.sizeOf 49).run Tryd.prog w = .ok 2 w := by kernel_rfl
set_option maxHeartbeats 1000000 in
theorem sortP_any (g cap n B : Nat) (l : List P2) (w : World) (hn : n = l.length) (hown : w.ownsRow B 49 2 (.slice (some ⟨g, 0, none⟩) n cap) n (pcs l)) (hb : n ≤ 1000000) :
  Calls Tryd.prog 95 #[.slice (some ⟨g, 0, none⟩) n cap, .func (.func 76) #[] #[]] w fun e w' =>
   e = .returned (.tuple #[]) ∧ w'.ownsRow B 49 2 (.slice (some ⟨g, 0, none⟩) n cap) n (pcs (srtP l)) ∧ w.grownBy w' (some g) := by
 subst hn
 rcases hown.2 with ⟨e, _⟩ | ⟨g', cap', cur, e, hB, hg, r1, r2, r3, r4⟩
 ·cases e
 ·cases e
  have hH : HoldsK encP2 2 w g 0 l.toArray := by
   unfold HoldsK
   rw [flat_pcs]
   refine holds_row (enc := id) hg ?_
   rw [pcs_len, List.map_id]
   exact r4
  have hgl : g < w.heap.size := (Array.getElem?_eq_some_iff.1 hg).1
  have hc := AnyQ.slices_SortFunc_total sortP 2 isAggP sizeP encP2 (fun _ => rfl) (fun x v hv => pt_one _ _ v hv) cmpPt swoP 76 #[] g 0 cap l.toArray w (enters_of Tryd.func76 (by kernel_rfl) rfl) (cmpLaysP w g l.toArray.size) hH hgl (by simp; omega) totP
  refine hc.mono ?_
  rintro e w' ⟨rfl, q, os, rfl⟩
  have hw : sortWorldK encP2 2 w g 0 q (srtP l).toArray os = sortWorld id w g 0 q (pcs (srtP l)).toArray os := by
   rw [← flat_pcs]
   rfl
  have hlen : (srtP l).length = l.length := (srtP_perm l).length_eq
  have h2 : (l.toArray.toList.mergeSort fun x y => !(ltOf cmpPt) y x) = srtP l := rfl
  rw [h2, hw]
  refine ⟨rfl, ⟨by rw [pcs_len, hlen], .inr ⟨g, cap, _, rfl, hB, heap_sw id _ hg, r1, r2, by simp [putCells, r3], ?_⟩⟩, grownBy_sw id w g q os _⟩
  have := take_putR id cur (pcs (srtP l)).toArray (by simp [pcs_len, hlen]; rw [r3]; exact Nat.mul_le_mul_right 2 r1)
  simp only [List.size_toArray, pcs_len, hlen, List.map_id] at this
  exact this
set_option maxRecDepth 100000 in
set_option maxHeartbeats 1600000 in
theorem collectP_in (n gf : Nat) (lb : Array Value) (eg : ∀ args w, (callFunc gf args).run Tryd.prog w = .ok (.enter gf args) w) (S : List P2 → Prop) (N : Nat) (w : World) (hn : 4 ≤ n) (hN : N ≤ 100000) (hseq : SeqGives Fence.wide (n - 1 - 1) Tryd.prog gf lb kdP.enc S N w) :
  CallsIn Fence.wide n Tryd.prog 94 #[.func (.func gf) #[] lb] w fun e w' => ∃ v ss, e = .returned v ∧ S ss ∧ ss.length ≤ N ∧ w'.ownsRow w.heap.size 49 2 v ss.length (pcs ss) ∧ Below w.heap.size w w' := by
 have cA := appseqP_in (n - 1) gf lb eg S N w (by omega) hN hseq
 have h1 : 1 ≤ n := by omega
 have hf1 : Fence.wide.fn 107 := trivial
 refine callsIn_of_wp Tryd.func94 rfl trivial ?_ rfl
 simp only [Tryd.ntmps94, List.size_toArray, List.length_cons, List.length_nil, Nat.reduceAdd, Nat.reduceSub, Array.replicate_succ, Array.replicate_zero, List.push_toArray, List.append_toArray, List.nil_append, List.cons_append]
 gi_wp2_with (gi_at_call 107; refine cA.mono ?_; rintro e w1 ⟨v, ss, rfl, hS, hl, ho, hb1⟩)
 go_ret
 exact ⟨v, ss, rfl, hS, hl, ho, hb1⟩
set_option maxRecDepth 100000 in
set_option maxHeartbeats 1600000 in
theorem sortedP_in (n gf : Nat) (lb : Array Value) (eg : ∀ args w, (callFunc gf args).run Tryd.prog w = .ok (.enter gf args) w) (S : List P2 → Prop) (N : Nat) (w : World) (hn : 5 ≤ n) (hN : N ≤ 100000) (hseq : SeqGives Fence.wide (n - 1 - 1 - 1) Tryd.prog gf lb kdP.enc S N w) :
  CallsIn Fence.wide n Tryd.prog 74 #[.func (.func gf) #[] lb, .func (.func 76) #[] #[]] w fun e w' => ∃ v ss, e = .returned v ∧ S ss ∧ ss.length ≤ N ∧ w'.ownsRow w.heap.size 49 2 v ss.length (pcs (srtP ss)) ∧ Below w.heap.size w w' := by
 have cA := collectP_in (n - 1) gf lb eg S N w (by omega) hN hseq
 have h1 : 1 ≤ n := by omega
 have hf1 : Fence.wide.fn 94 := trivial
 have hf2 : Fence.wide.fn 95 := trivial
 refine callsIn_of_wp Tryd.func74 rfl trivial ?_ rfl
 simp only [Tryd.ntmps74, List.size_toArray, List.length_cons, List.length_nil, Nat.reduceAdd, Nat.reduceSub, Array.replicate_succ, Array.replicate_zero, List.push_toArray, List.append_toArray, List.nil_append, List.cons_append]
 gi_wp2_with (gi_at_call 94; refine cA.mono ?_; rintro e W ⟨v, ss, rfl, hS, hl, hrow, hb1⟩)
 rcases hrow.2 with ⟨hv, hz⟩ | ⟨gb, cap, cur, rfl, hbase, hgb, r1, r2, r3, r4⟩
 ·subst hv
  have hss : ss = [] := List.length_eq_zero_iff.1 hz
  subst hss
  have cS := AnyF.slices_SortFunc_none sortP none 0 (.func (.func 76) #[] #[]) W
  gi_wp2_with (gi_at_call 95; refine (callsIn_wide.2 cS).mono ?_; rintro e w' ⟨rfl, rfl⟩)
  go_ret
  have e0 : srtP [] = [] := by simp [srtP]
  exact ⟨.slice none 0 0, [], rfl, hS, hl, by rw [e0]; exact hrow, hb1⟩
 ·have cS := sortP_any gb cap ss.length w.heap.size ss W rfl hrow (by omega)
  gi_wp2_with (gi_at_call 95; refine (callsIn_wide.2 cS).mono ?_; rintro e w' ⟨rfl, ho2, hg2⟩)
  go_ret
  exact ⟨_, ss, rfl, hS, hl, ho2, hb1.grown hg2 hb1.size (fun j hj => by cases hj; exact hbase)⟩
end
end Go.Proofs.YtoienokpchbglaaDoor
