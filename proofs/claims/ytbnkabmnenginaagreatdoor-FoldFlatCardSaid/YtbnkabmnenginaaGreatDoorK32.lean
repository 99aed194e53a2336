/- maps.Keys of a map of rows that is keyed by triangles, its iterator; slices.AppendSeq, Collect, SortedFunc of triangles. 'append(nil, x...)' of what lies in memory, in a drawn region.. A row of stacks that is laid by the call itself.. -/
import Derived.Test.YtbnkabmnenginaaGreatDoorK31
import Derived.Test.YtbnkabmnenginaaGreatDoorK27
import Derived.Test.YtbnkabmnenginaaGreatDoorK25
import Derived.Test.YtbnkabmnenginaaGreatDoorK30
namespace Go.Proofs.YtbnkabmnenginaaGreatDoor
set_option linter.unusedSimpArgs false
set_option linter.unusedVariables false
section
section
open Go.RowKit Go.Maps Go.Sort Go.Shelf
attribute [local go_sem] Oper.semAt_some
abbrev kdT : KD T3 := kPV.toKD
set_option maxRecDepth 100000 in
set_option maxHeartbeats 3200000 in
theorem keysT1_in {H : Type} (F : Fence) (n : Nat) (h10 : F.fn 63) (hro : F.round = none) (hn : 1 ≤ n) (l Bm b nn N : Nat) (D0 : DataW H) {R : Value → Option (DataW H × List MemPlace)} (S : T3 → Prop) (hkd : KeysD kdT D0 S) (hN : ∀ ss : List T3, ss.Nodup → (∀ a ∈ ss, kdT.ok a ∧ S a) → ss.length ≤ N) (J : List T3 → World → Prop)
  (hY : ∀ pre x W, J pre W → pre.length < N → YieldAt F (n - 1) Tryz.prog l #[kdT.enc x] W fun e W' => e = .returned (.bool true) ∧ J (pre ++ [x]) W' ∧ KeepsWalks W W')
  (W : World) (hJ : AbidesFrom W.heap.size J) (hm : W.cell? ⟨Bm, 0, none⟩ = some (.map (some b))) (hown : W.ownsMap Tryz.prog 59 R b nn D0) (h0 : J [] W) :
  CallsIn F n Tryz.prog 63 #[.func (.yield l) #[] #[], .pointer (some ⟨Bm, 0, none⟩)] W fun e W' => (∃ v, e = .returned v) ∧ ∃ ss : List T3, KeyL kdT S ss ∧ J ss W' := by
 refine callsIn_of_wp Tryz.func63 rfl h10 ?_ hro
 simp only [Tryz.ntmps63, List.size_toArray, List.length_cons, List.length_nil, Nat.reduceAdd, Nat.reduceSub, Array.replicate_succ, Array.replicate_zero, List.push_toArray, List.append_toArray, List.nil_append, List.cons_append]
 gi_wp2_with (first
  | (gi_at_range; refine wpListIn_range_own _ rfl _ 76 rfl 59 22 kdT.law Tryz.underlying76 _ b nn _ rfl hown ?_; intro w0 hrg0 hg0 hs0)
  | gi_in)
 go_frame
 gi_loopw [3] (fun _ wr => ∃ (left : Lit → Bool) (cnt : Nat) (ss : List T3), wr.ranges Tryz.prog 59 R b W.heap.size nn D0 left cnt ∧ CamK kdT D0 S left ss ∧ J ss wr)
  (fun _ wr => wr.rangeLeft b W.heap.size)
 case atStart =>
  exact ⟨_, _, [], hrg0, CamK.start hkd, hJ [] W w0 none h0 hg0 (fun r e => by cases e)⟩
 case round =>
  obtain ⟨left, cnt, ss, hrg, hC, hJs⟩ := hrel
  gi_wp2_with (first
   | (gi_at_next; refine wpListIn_next_ranges _ rfl _ rfl 59 kdT.law R id id (fun key kl hk => ⟨key, rfl⟩) (fun v _ _ => ⟨v, rfl⟩) b W.heap.size nn _ _ _ rfl hrg ?_ ?_)
   | gi_in)
  ·-- nothing is left
   intro hc0 hl0
   gi_wp2
   go_end0
   exact ⟨⟨_, rfl⟩, ss, ⟨hC.nodup, fun a => ⟨fun h => hC.ok a h, fun h => hC.done hl0 h.1 h.2⟩⟩, hJs⟩
  ·-- an entry has come
   intro x c kl yd yp w2 cnt2 hkey hlk hv hat hrg2 hlt hg2 hs2 hen
   obtain ⟨a, hxa, hok, hS, hna, hak⟩ := hC.who hkd hkey hlk hat
   have hC2 := hC.step hok hS hna hak
   have hlen : ss.length < N := by
    have := hN (ss ++ [a]) hC2.nodup hC2.ok
    simp at this
    omega
   have hxa : x = .agg #[.int .i64 a.1, .int .i64 a.2.1, .int .i64 a.2.2] := hxa
   subst hxa
   have hJ2 : J ss w2 := hJ ss wr w2 (some W.heap.size) hJs hg2 (fun r e => by cases e; exact ⟨Nat.le_refl _, hrg.iter_walk⟩)
   have hJ3 : J ss (w2.alloc (.cells #[.int .i64 a.1, .int .i64 a.2.1, .int .i64 a.2.2] 59)) := hJ ss w2 _ none hJ2 (World.grownBy_alloc w2 _ none) (fun r e => by cases e)
   obtain ⟨fn, tmps, assign, body, hy, hR⟩ := hY ss a _ hJ3 hlen
   have hrg2 := hrg2.of_walks (KeepsWalks.alloc w2 (.cells #[.int .i64 a.1, .int .i64 a.2.1, .int .i64 a.2.2] 59))
   have hy : (Instr.yield l #[.agg #[.int .i64 a.1, .int .i64 a.2.1, .int .i64 a.2.2]]).run Tryz.prog (w2.alloc (.cells #[.int .i64 a.1, .int .i64 a.2.1, .int .i64 a.2.2] 59)) = _ := hy
   clear hs2 hxa
   gi_wp2
   refine hR.mono ?_
   rintro e W3 ⟨rfl, hJ3, hk3⟩
   gi_wp2
   have hrg3 := hrg2.of_walks hk3
   go_roundw
   case rel => exact ⟨_, cnt2, ss ++ [a], hrg3, hC2, hJ3⟩
   case measure => rw [hrg3.left_eq, hrg.left_eq]; exact hlt
set_option maxHeartbeats 1000000 in
theorem keysT_in (F : Fence) (n : Nat) (h7 : F.fn 34) (hro : F.round = none) (mb : Option Nat) (w : World) :
  CallsIn F n Tryz.prog 34 #[.map mb] w fun e w' => e = .returned (.func (.func 63) #[] #[.pointer (some ⟨w.heap.size, 0, none⟩)]) ∧ w' = w.alloc (.cells #[.map mb] 76) := by
 refine callsIn_of_wp Tryz.func34 rfl h7 ?_ hro
 simp only [Tryz.ntmps34, List.size_toArray, List.length_cons, List.length_nil, Nat.reduceAdd, Nat.reduceSub, Array.replicate_succ, Array.replicate_zero, List.push_toArray, List.append_toArray, List.nil_append, List.cons_append]
 gi_wp2
 go_ret
 exact ⟨rfl, rfl⟩
theorem keysT_gives {H : Type} (F : Fence) (n : Nat) (h10 : F.fn 63) (hro : F.round = none) (hn : 1 ≤ n) (Bm b nn N : Nat) (D0 : DataW H) {R : Value → Option (DataW H × List MemPlace)} (S : T3 → Prop) (hkd : KeysD kdT D0 S) (hN : ∀ ss : List T3, ss.Nodup → (∀ a ∈ ss, kdT.ok a ∧ S a) → ss.length ≤ N)
  (w : World) (hBm : Bm < w.heap.size) (hm : w.cell? ⟨Bm, 0, none⟩ = some (.map (some b))) (hown : w.ownsMap Tryz.prog 59 R b nn D0) :
  SeqGives F n Tryz.prog 63 #[.pointer (some ⟨Bm, 0, none⟩)] kdT.enc (KeyL kdT S) N w := fun l J W hW hJ hY h0 => by
 have hown' : W.ownsMap Tryz.prog 59 R b nn D0 := by
  have hbl := hown.lt
  obtain ⟨es, clock, hb, Ft, hs, hD⟩ := hown
  exact ⟨es, clock, (hW.block b hbl).trans hb, Ft, hs, hD⟩
 exact keysT1_in F n h10 hro hn l Bm b nn N D0 S hkd hN J hY W hJ ((hW.cell (p := ⟨Bm, 0, none⟩) hBm).trans hm) hown' h0
set_option maxRecDepth 100000 in
set_option maxHeartbeats 3200000 in
theorem appseqT_in (n gf : Nat) (lb : Array Value) (eg : ∀ args w, (callFunc gf args).run Tryz.prog w = .ok (.enter gf args) w) (S : List T3 → Prop) (N : Nat) (w : World) (hn : 3 ≤ n) (hN : N ≤ 100000) (hseq : SeqGives Fence.wide (n - 1) Tryz.prog gf lb kdT.enc S N w) :
  CallsIn Fence.wide n Tryz.prog 84 #[.slice none 0 0, .func (.func gf) #[] lb] w fun e w' => ∃ v ss, e = .returned v ∧ S ss ∧ ss.length ≤ N ∧ w'.ownsRow w.heap.size 59 3 v ss.length (tcT ss) ∧ Below w.heap.size w w' := by
 have hseq := hseq.bounded
 have HQ := Lib.hid hseq
 clear hseq
 refine callsIn_of_wp_marks Tryz.func84 rfl trivial ?_ rfl
 simp only [Tryz.ntmps84, List.size_toArray, List.length_cons, List.length_nil, Nat.reduceAdd, Nat.reduceSub, Array.replicate_succ, Array.replicate_zero, List.push_toArray, List.append_toArray, List.nil_append, List.cons_append]
 gi_wp2_with (fail)
 have kO : (w.alloc (.cells #[.slice none 0 0] 60)).heap[w.heap.size]? = some (.cells #[.slice none 0 0] 60 (0, 0)) := new_blk _ rfl
 have hw0 : Below w.heap.size w (w.alloc (.cells #[.slice none 0 0] 60)) := below_new _ _
 generalize w.alloc (.cells #[.slice none 0 0] 60) = W0 at kO hw0 ⊢
 refine rangeFunc_gives rfl (by omega) (gf := gf) (lb := lb) rfl trivial eg HQ.out hw0 rfl
  (fun pre W => ∃ v, W.heap[w.heap.size]? = some (.cells #[v] 60 (0, 0)) ∧ W.ownsRow W0.heap.size 59 3 v pre.length (tcT pre) ∧ Below w.heap.size w W ∧ pre.length ≤ N ∧ W0.heap.size ≤ W.heap.size)
  (fun s A C row ⟨v, h1, h2, h3, h4, h5⟩ hg hr => ⟨v, cells_walk h1 hg (fun r e => (hr r e).2), own_walk h2 hg (fun r e => (hr r e).2), h3.grown hg h3.size (fun k e => Nat.le_trans hw0.size (hr k e).1), h4, Nat.le_trans h5 hg.size⟩)
  (fun s W l o o' hB ⟨v, h1, h2, h3, h4, h5⟩ hl ho => ⟨v, put_cells h1 hl ho, own_put h2 hl ho, below_put h3 (Nat.le_trans hw0.size hB) h3.size, h4, Nat.le_trans h5 (grownBy_putObj' W l o').size⟩)
  ⟨.slice none 0 0, kO, World.ownsRow_nil _ _ _ _, hw0, Nat.zero_le _, Nat.le_refl _⟩
  (fun x W => { tmps := #[.slice none 0 0, .func (.func gf) #[] lb, .pointer (some ⟨w.heap.size, 0, none⟩), undef, .slice none 0 0, .pointer (some ⟨W.heap.size, 0, none⟩), .func (.func gf) #[] lb, .agg #[.int .i64 x.1, .int .i64 x.2.1, .int .i64 x.2.2], undef, undef, undef, undef, undef], defers := [] })
  (fun pre x Wp W => ∃ v, W.heap[w.heap.size]? = some (.cells #[v] 60 (0, 0)) ∧ W.ownsRow W0.heap.size 59 3 v pre.length (tcT pre) ∧ Below w.heap.size w W ∧ pre.length ≤ N ∧ W0.heap.size ≤ W.heap.size ∧ W.heap[Wp.heap.size]? = some (.cells #[.int .i64 x.1, .int .i64 x.2.1, .int .i64 x.2.2] 59 (0, 0)) ∧ v.ownBlock ≠ some Wp.heap.size ∧ W0.heap.size ≤ Wp.heap.size)
  (fun s x Wp W l o o' hB ⟨v, h1, h2, h3, h4, h5, h6, h7, h8⟩ hl ho => ⟨v, put_cells h1 hl ho, own_put h2 hl ho, below_put h3 (Nat.le_trans hw0.size hB) h3.size, h4, Nat.le_trans h5 (grownBy_putObj' W l o').size, put_cells h6 hl ho, h7, h8⟩)
  ?assign ?body ?done
 case assign =>
  rintro l pre x W K ⟨v, h1, h2, h3, h4, h5⟩ hlt hK
  have he : kdT.enc x = .agg #[.int .i64 x.1, .int .i64 x.2.1, .int .i64 x.2.2] := rfl
  rw [he]
  clear he
  have hK2 := hK (W.alloc (.cells #[.int .i64 x.1, .int .i64 x.2.1, .int .i64 x.2.2] 59)) (KeepsOthers.alloc _ _) ⟨v, blk_alloc h1 _, h2.alloc _, h3.alloc h3.size _, h4, by simp; omega, heap_alloc_new W _, own_newne h2, h5⟩
  have HK := Lib.hid hK2
  clear hK hK2 h1 h2 h3 h4
  gi_wp2
  exact HK.out
 case body =>
  rintro l pre x Wp W hlt ⟨v, h1, h2, h3, h4, h5, h6, h7, h8⟩
  have x0 := cell_of_blk h6 0
  have x1 := cell_of_blk h6 1
  have x2 := cell_of_blk h6 2
  have a0 := cell_of_blk h1 0
  simp only [List.getElem?_toArray, List.getElem?_cons_zero, List.getElem?_cons_succ] at x0 x1 x2 a0
  have hlo : w.heap.size < W0.heap.size := blk_lt kO
  have hWs := blk_lt h1
  obtain ⟨i0, hi, hz0, hz1, hz2⟩ := info_parts tri_info
  have H1 := Lib.hid h1
  have H2 := Lib.hid h2
  have H3 := Lib.hid h3
  clear h1 h2 h3 h6 h7
  gi_wp2_with (first | (gi_at_builtin; refine wpListIn_append_own _ rfl (.tmp 8) (.tmp 10) 60 rfl W0.heap.size 59 i0 (.agg #[.int .i64 0, .int .i64 0, .int .i64 0]) 3 24 Tryz.underlying60 hi hz0 hz1 hz2 rfl (by decide) v pre.length (tcT pre) rfl (od H2.out (below_new _ _)) ⟨W.heap.size, 0, none⟩ 1 1 [.int .i64 x.1, .int .i64 x.2.1, .int .i64 x.2.2] rfl rfl (one_new W _ _) (tri_one _ _ _) (by unfold maxLen; omega) (by omega) (by simp; omega) ?_; intro v6 w6 hown6 hgr6 _; obtain ⟨g6, c6, cur6, hv6, _, _, _, _⟩ := own_addr hown6 (by omega); subst hv6; have hB6 : Below W0.heap.size (W.alloc (.cells #[.int .i64 x.1, .int .i64 x.2.1, .int .i64 x.2.2] 59)) w6 := (Below.refl _ _).grown hgr6 (by simp; omega) (fun k hk => (H2.out.lt k hk).1); have q6 := blk_below (blk_alloc H1.out _) hB6 (by omega); have z6 := cell_of_blk q6 0; simp only [List.getElem?_toArray, List.getElem?_cons_zero] at z6; have f6 := frozen_of_blk q6; have l6 := blk_lt q6))
  have hrowA := od H2.out (below_new W (.cells #[.int .i64 x.1, .int .i64 x.2.1, .int .i64 x.2.2] 59))
  have hcl := own_cells hrowA
  refine ⟨?_, .slice (some ⟨g6, 0, none⟩) (pre.length + 1) c6, ?_, ?_, ?_, by simp; omega, by rw [World.size_setCell]; have := hB6.size; simp at this; omega⟩
  ·exact (KeepsOthers.alloc _ _).trans ((KeepsOthers.of_grownBy hgr6 (fun j o hj ho => by obtain ⟨cs, h5⟩ := hcl j hj; rw [h5] at ho; rw [← Option.some.inj ho]; rfl)).trans (KeepsOthers.setCell _ _ _))
  ·have := blk_set q6 0 (.slice (some ⟨g6, 0, none⟩) (pre.length + 1) c6)
   simpa using this
  ·rw [List.length_append, List.length_singleton, tcT_app, show tcT [x] = [.int .i64 x.1, .int .i64 x.2.1, .int .i64 x.2.2] from rfl]
   exact own_set hown6 (fun k hk => by have := (hown6.lt k hk).1; omega) 0 _
  ·exact (H3.out.trans (((below_new W _).mono H3.out.size).trans (hB6.mono (show w.heap.size ≤ W0.heap.size by omega)))).setCell (by simp) _
 case done =>
  rintro D ys W hD ⟨hS, hyn⟩ ⟨v, h1, h2, h3, h4, h5⟩ hK
  have o0 := cell_of_blk h1 0
  simp only [List.getElem?_toArray, List.getElem?_cons_zero] at o0
  have H1 := Lib.hid h1
  have H2 := Lib.hid h2
  have HS := Lib.hid hS
  clear h1 h2 hS
  gi_wp2
  refine ⟨by simp, .inl ⟨_, _, rfl, run_takeDeferred hK, ?_⟩⟩
  have hP := own_put (o' := .deferred none) H2.out hK rfl
  have hQ := below_put (o' := .deferred none) h3 (Nat.le_trans hw0.size hD) h3.size
  exact ⟨v, by simp [results, Tryz.results84, go_sem], v, ys, rfl, HS.out, hyn, own_mono hP hw0.size, hQ⟩
set_option maxRecDepth 100000 in
set_option maxHeartbeats 1600000 in
theorem collectT_in (n gf : Nat) (lb : Array Value) (eg : ∀ args w, (callFunc gf args).run Tryz.prog w = .ok (.enter gf args) w) (S : List T3 → Prop) (N : Nat) (w : World) (hn : 4 ≤ n) (hN : N ≤ 100000) (hseq : SeqGives Fence.wide (n - 1 - 1) Tryz.prog gf lb kdT.enc S N w) :
  CallsIn Fence.wide n Tryz.prog 61 #[.func (.func gf) #[] lb] w fun e w' => ∃ v ss, e = .returned v ∧ S ss ∧ ss.length ≤ N ∧ w'.ownsRow w.heap.size 59 3 v ss.length (tcT ss) ∧ Below w.heap.size w w' := by
 have cA := appseqT_in (n - 1) gf lb eg S N w (by omega) hN hseq
 have h1 : 1 ≤ n := by omega
 have hf1 : Fence.wide.fn 84 := trivial
 refine callsIn_of_wp Tryz.func61 rfl trivial ?_ rfl
 simp only [Tryz.ntmps61, List.size_toArray, List.length_cons, List.length_nil, Nat.reduceAdd, Nat.reduceSub, Array.replicate_succ, Array.replicate_zero, List.push_toArray, List.append_toArray, List.nil_append, List.cons_append]
 gi_wp2_with (gi_at_call 84; refine cA.mono ?_; rintro e w1 ⟨v, ss, rfl, hS, hl, ho, hb1⟩)
 go_ret
 exact ⟨v, ss, rfl, hS, hl, ho, hb1⟩
set_option maxRecDepth 100000 in
set_option maxHeartbeats 1600000 in
theorem sortedT_in (n gf : Nat) (lb : Array Value) (eg : ∀ args w, (callFunc gf args).run Tryz.prog w = .ok (.enter gf args) w) (S : List T3 → Prop) (N : Nat) (w : World) (hn : 5 ≤ n) (hN : N ≤ 100000) (hseq : SeqGives Fence.wide (n - 1 - 1 - 1) Tryz.prog gf lb kdT.enc S N w) :
  CallsIn Fence.wide n Tryz.prog 33 #[.func (.func gf) #[] lb, .func (.func 35) #[] #[]] w fun e w' => ∃ v ss, e = .returned v ∧ S ss ∧ ss.length ≤ N ∧ w'.ownsRow w.heap.size 59 3 v ss.length (tcT (srtT ss)) ∧ Below w.heap.size w w' := by
 have cA := collectT_in (n - 1) gf lb eg S N w (by omega) hN hseq
 have h1 : 1 ≤ n := by omega
 have hf1 : Fence.wide.fn 61 := trivial
 have hf2 : Fence.wide.fn 62 := trivial
 refine callsIn_of_wp Tryz.func33 rfl trivial ?_ rfl
 simp only [Tryz.ntmps33, List.size_toArray, List.length_cons, List.length_nil, Nat.reduceAdd, Nat.reduceSub, Array.replicate_succ, Array.replicate_zero, List.push_toArray, List.append_toArray, List.nil_append, List.cons_append]
 gi_wp2_with (gi_at_call 61; refine cA.mono ?_; rintro e W ⟨v, ss, rfl, hS, hl, hrow, hb1⟩)
 rcases hrow.2 with ⟨hv, hz⟩ | ⟨gb, cap, cur, rfl, hbase, hgb, r1, r2, r3, r4⟩
 ·subst hv
  have hss : ss = [] := List.length_eq_zero_iff.1 hz
  subst hss
  have cS := AnyF.slices_SortFunc_none sortT none 0 (.func (.func 35) #[] #[]) W
  gi_wp2_with (gi_at_call 62; refine (callsIn_wide.2 cS).mono ?_; rintro e w' ⟨rfl, rfl⟩)
  go_ret
  have e0 : srtT [] = [] := by simp [srtT]
  exact ⟨.slice none 0 0, [], rfl, hS, hl, by rw [e0]; exact hrow, hb1⟩
 ·have cS := sortT_any gb cap ss.length w.heap.size ss W rfl hrow (by omega)
  gi_wp2_with (gi_at_call 62; refine (callsIn_wide.2 cS).mono ?_; rintro e w' ⟨rfl, ho2, hg2⟩)
  go_ret
  exact ⟨_, ss, rfl, hS, hl, ho2, hb1.grown hg2 hb1.size (fun j hj => by cases hj; exact hbase)⟩
end
end
section
open Go.RowKit
end
section
open Go.RowKit Go.Maps
theorem stk_one (x y k : Int) (A : Option Addr) (n c : Nat) : ∀ u ∈ [Value.int .i64 x, .int .i64 y, .int .i64 k, .slice A n c], u.oneCell' = true := by
 intro u hu
 simp only [List.mem_cons, List.not_mem_nil, or_false] at hu
 rcases hu with rfl | rfl | rfl | rfl <;> rfl
theorem tcT_ones (l : List T3) : ∀ u ∈ tcT l, u.oneCell' = true := by
 intro u hu
 obtain ⟨t, _, ht⟩ := List.mem_flatMap.1 hu
 exact tri_one _ _ _ u ht
theorem scs_app : ∀ {ss : List Stk} {vs : List Value} (s : Stk) (v : Value), vs.length = ss.length → scs (ss ++ [s]) (vs ++ [v]) = scs ss vs ++ [.int .i64 s.1.1, .int .i64 s.1.2.1, .int .i64 s.1.2.2, v]
 | [], [], s, v, _ => rfl
 | [], _ :: _, s, v, h => by simp at h
 | a :: ss, [], s, v, h => by simp at h
 | a :: ss, b :: vs, s, v, h => by
  have := scs_app (ss := ss) (vs := vs) s v (by simpa using h)
  simp only [List.cons_append, scs, this]
theorem stack_info : (Tryz.prog.info? 62).map (fun i => (i.zero, i.size, i.bytes)) = some (some (.agg #[.int .i64 0, .int .i64 0, .int .i64 0, .slice none 0 0]), 4, 48) := by kernel_rfl
theorem own_none {w : World} {base n sz c : Nat} {e : TypeId} {A : Option Addr} {xs : List Value} (h : w.ownsRow base e sz (.slice A n c) n xs) : A = none → c = 0 := by
 obtain ⟨A', c', hv, h1⟩ := own_sl0 h
 cases hv
 exact h1
structure StkW (w : World) (base : Nat) (v : Value) (sts : List Stk) : Prop where
 ex : ∃ vs : List Value, vs.length = sts.length ∧ w.ownsRow base 62 4 v sts.length (scs sts vs) ∧ ∀ (i : Nat) (s : Stk), sts[i]? = some s → ∃ u, vs[i]? = some u ∧ w.ownsRow base 59 3 u s.2.length (tcT s.2)
section
variable {w w' : World} {base : Nat} {v v' u : Value} {sts : List Stk}
theorem StkW.nil (w : World) (base : Nat) : StkW w base (.slice none 0 0) [] := ⟨[], rfl, World.ownsRow_nil _ _ _ _, fun i s h => by simp at h⟩
theorem StkW.below (h : StkW w base v sts) (hb : Below w.heap.size w w') : StkW w' base v sts := by
 obtain ⟨vs, h0, h1, h2⟩ := h.ex
 exact ⟨vs, h0, od h1 hb, fun i s hs => by obtain ⟨u, h3, h4⟩ := h2 i s hs; exact ⟨u, h3, od h4 hb⟩⟩
theorem StkW.mono {base' : Nat} (h : StkW w base v sts) (hb : base' ≤ base) : StkW w base' v sts := by
 obtain ⟨vs, h0, h1, h2⟩ := h.ex
 exact ⟨vs, h0, own_mono h1 hb, fun i s hs => by obtain ⟨u, h3, h4⟩ := h2 i s hs; exact ⟨u, h3, own_mono h4 hb⟩⟩
theorem StkW.set {g : Nat} {t : TypeId} {cs : Array Value} (h : StkW w base v sts) (hg : w.heap[g]? = some (.cells cs t (0, 0))) (h1 : 62 ≠ t) (h2 : 59 ≠ t) (i : Nat) (x : Value) : StkW (w.setCell ⟨g, i, none⟩ x) base v sts := by
 obtain ⟨vs, h0, h3, h4⟩ := h.ex
 exact ⟨vs, h0, own_set h3 (fun k hk e => own_not h3 hg h1 (by rw [hk, e])) i x, fun i2 s hs => by
  obtain ⟨u, h5, h6⟩ := h4 i2 s hs
  exact ⟨u, h5, own_set h6 (fun k hk e => own_not h6 hg h2 (by rw [hk, e])) i x⟩⟩
theorem StkW.row (h : StkW w base v sts) : ∃ xs, w.ownsRow base 62 4 v sts.length xs ∧ ∀ {w' : World} {v' u : Value} (s : Stk), GrowOf w w' v v' → w.ownsRow base 59 3 u s.2.length (tcT s.2) → w'.ownsRow base 62 4 v' (sts.length + 1) (xs ++ [.int .i64 s.1.1, .int .i64 s.1.2.1, .int .i64 s.1.2.2, u]) → StkW w' base v' (sts ++ [s]) := by
 obtain ⟨vs, h0, h1, h2⟩ := h.ex
 refine ⟨scs sts vs, h1, fun {w' v' u} s hg hu ho => ⟨vs ++ [u], by simp [h0], by rw [scs_app s u h0]; simpa using ho, fun i s' hs => ?_⟩⟩
 rcases Nat.lt_or_ge i sts.length with hi | hi
 ·rw [List.getElem?_append_left hi] at hs
  obtain ⟨x, h3, h4⟩ := h2 i s' hs
  exact ⟨x, by rw [List.getElem?_append_left (by omega)]; exact h3, own_grow h4 hg (own_apart h4 h1 (by decide))⟩
 ·have he : i = sts.length := by
   have := (List.getElem?_eq_some_iff.1 hs).1
   simp at this
   omega
  subst he
  simp at hs
  subst hs
  exact ⟨u, by rw [← h0]; simp, own_grow hu hg (own_apart hu h1 (by decide))⟩
theorem StkW.rd {A : Option Addr} {n c : Nat} (h : StkW w base (.slice A n c) sts) (hn : n = sts.length) (ho : ∀ s ∈ sts, (inR s.1.1 ∧ inR s.1.2.1 ∧ inR s.1.2.2) ∧ ∀ t ∈ s.2, inR t.1 ∧ inR t.2.1 ∧ inR t.2.2) (hz : ∀ s ∈ sts, s.2.length ≤ 140737488351232) (hs : n ≤ 140737488351232) : StkR w A n sts := by
 obtain ⟨vs, h0, h1, h2⟩ := h.ex
 subst hn
 refine ⟨rfl, ⟨vs, Rd.of_own h1, fun i s hi => ?_⟩, ho, hs⟩
 obtain ⟨u, h3, h4⟩ := h2 i s hi
 obtain ⟨A', c', hv, h5, _⟩ := own_slice h4
 subst hv
 exact ⟨A', c', h3, Rd.of_own h4, hz s (List.mem_of_getElem? hi), h5, own_none h4⟩
theorem StkW.sl (h : StkW w base v sts) : ∃ A c, v = .slice A sts.length c := by
 obtain ⟨vs, h0, h1, h2⟩ := h.ex
 obtain ⟨A, c, hv, _⟩ := own_slice h1
 exact ⟨A, c, hv⟩
end
theorem own_step {w : World} {base sz n g : Nat} {e t : TypeId} {v : Value} {xs : List Value} {cs : Array Value} (h : w.ownsRow base e sz v n xs) (hg : w.heap[g]? = some (.cells cs t (0, 0))) (hne : e ≠ t) (i : Nat) (x : Value) : (w.setCell ⟨g, i, none⟩ x).ownsRow base e sz v n xs := own_set h (fun k hk e => own_not h hg hne (by rw [hk, e])) i x
theorem own_set6 {w : World} {base sz n g : Nat} {e t : TypeId} {v : Value} {xs : List Value} {cs : Array Value} (h : w.ownsRow base e sz v n xs) (hg : w.heap[g]? = some (.cells cs t (0, 0))) (hne : e ≠ t) (v0 v1 v2 v3 v4 v5 : Value) : ((((((w.setCell ⟨g, 0, none⟩ v0).setCell ⟨g, 1, none⟩ v1).setCell ⟨g, 2, none⟩ v2).setCell ⟨g, 3, none⟩ v3).setCell ⟨g, 4, none⟩ v4).setCell ⟨g, 5, none⟩ v5).ownsRow base e sz v n xs := (own_step (own_step (own_step (own_step (own_step (own_step h hg hne 0 v0) (blk_set hg 0 v0) hne 1 v1) (blk_set (blk_set hg 0 v0) 1 v1) hne 2 v2) (blk_set (blk_set (blk_set hg 0 v0) 1 v1) 2 v2) hne 3 v3) (blk_set (blk_set (blk_set (blk_set hg 0 v0) 1 v1) 2 v2) 3 v3) hne 4 v4) (blk_set (blk_set (blk_set (blk_set (blk_set hg 0 v0) 1 v1) 2 v2) 3 v3) 4 v4) hne 5 v5)
theorem StkW.set6 {w : World} {base g : Nat} {t : TypeId} {v : Value} {sts : List Stk} {cs : Array Value} (h : StkW w base v sts) (hg : w.heap[g]? = some (.cells cs t (0, 0))) (h1 : 62 ≠ t) (h2 : 59 ≠ t) (v0 v1 v2 v3 v4 v5 : Value) : StkW ((((((w.setCell ⟨g, 0, none⟩ v0).setCell ⟨g, 1, none⟩ v1).setCell ⟨g, 2, none⟩ v2).setCell ⟨g, 3, none⟩ v3).setCell ⟨g, 4, none⟩ v4).setCell ⟨g, 5, none⟩ v5) base v sts := (StkW.set (StkW.set (StkW.set (StkW.set (StkW.set (StkW.set h hg h1 h2 0 v0) (blk_set hg 0 v0) h1 h2 1 v1) (blk_set (blk_set hg 0 v0) 1 v1) h1 h2 2 v2) (blk_set (blk_set (blk_set hg 0 v0) 1 v1) 2 v2) h1 h2 3 v3) (blk_set (blk_set (blk_set (blk_set hg 0 v0) 1 v1) 2 v2) 3 v3) h1 h2 4 v4) (blk_set (blk_set (blk_set (blk_set (blk_set hg 0 v0) 1 v1) 2 v2) 3 v3) 4 v4) h1 h2 5 v5)
theorem blk_set6 {w : World} {g : Nat} {t : TypeId} {c0 c1 c2 c3 c4 c5 : Value} (hg : w.heap[g]? = some (.cells #[c0, c1, c2, c3, c4, c5] t (0, 0))) (v0 v1 v2 v3 v4 v5 : Value) : ((((((w.setCell ⟨g, 0, none⟩ v0).setCell ⟨g, 1, none⟩ v1).setCell ⟨g, 2, none⟩ v2).setCell ⟨g, 3, none⟩ v3).setCell ⟨g, 4, none⟩ v4).setCell ⟨g, 5, none⟩ v5).heap[g]? = some (.cells #[v0, v1, v2, v3, v4, v5] t (0, 0)) := by
 have h := (blk_set (blk_set (blk_set (blk_set (blk_set (blk_set hg 0 v0) 1 v1) 2 v2) 3 v3) 4 v4) 5 v5)
 simpa using h
theorem below_set6 {w0 w : World} {B g : Nat} (h : Below B w0 w) (hg : B ≤ g) (v0 v1 v2 v3 v4 v5 : Value) : Below B w0 ((((((w.setCell ⟨g, 0, none⟩ v0).setCell ⟨g, 1, none⟩ v1).setCell ⟨g, 2, none⟩ v2).setCell ⟨g, 3, none⟩ v3).setCell ⟨g, 4, none⟩ v4).setCell ⟨g, 5, none⟩ v5) := (Below.setCell (p := ⟨g, 5, none⟩) (Below.setCell (p := ⟨g, 4, none⟩) (Below.setCell (p := ⟨g, 3, none⟩) (Below.setCell (p := ⟨g, 2, none⟩) (Below.setCell (p := ⟨g, 1, none⟩) (Below.setCell (p := ⟨g, 0, none⟩) h hg v0) hg v1) hg v2) hg v3) hg v4) hg v5)
structure SoI (w w1 : World) (g : Nat) (W H : Int) (M C P S T : Value) (nm nc np : Nat) (mask : List Int) (cs : List C5) (ms : List V6) (sts : List Stk) (wr : World) : Prop where
 bel : Below w1.heap.size w1 wr
 gw : w1.heap.size ≤ g
 blk : wr.heap[g]? = some (.cells #[.int .i64 W, .int .i64 H, M, C, P, S] 29 (0, 0))
 r1 : wr.ownsRow w.heap.size 3 1 M nm (vis mask)
 r2 : wr.ownsRow w.heap.size 52 5 C nc (ccs cs)
 r3 : wr.ownsRow w.heap.size 57 6 P np (mcs ms)
 stk : StkW wr w1.heap.size T sts
section
variable {w w1 wr w' : World} {g : Nat} {W H : Int} {M C P S T T' : Value} {nm nc np : Nat} {mask : List Int} {cs : List C5} {ms : List V6} {sts : List Stk}
theorem SoI.below (h : SoI w w1 g W H M C P S T nm nc np mask cs ms sts wr) (hb : Below wr.heap.size wr w') : SoI w w1 g W H M C P S T nm nc np mask cs ms sts w' :=
 ⟨stay_b h.bel hb, h.gw, blk_below h.blk hb (blk_lt h.blk), od h.r1 hb, od h.r2 hb, od h.r3 hb, h.stk.below hb⟩
theorem SoI.cell (h : SoI w w1 g W H M C P S T nm nc np mask cs ms sts wr) : wr.cell? ⟨g, 5, none⟩ = some S := by rw [cell_of_blk h.blk 5]; rfl
theorem SoI.push (h : SoI w w1 g W H M C P S T nm nc np mask cs ms sts wr) {s : Stk} {u : Value} (hu : wr.ownsRow w1.heap.size 59 3 u s.2.length (tcT s.2)) : ∃ xs, wr.ownsRow w1.heap.size 62 4 T sts.length xs ∧ ∀ (T' : Value) (w' : World), w'.ownsRow w1.heap.size 62 4 T' (sts.length + 1) (xs ++ [.int .i64 s.1.1, .int .i64 s.1.2.1, .int .i64 s.1.2.2, u]) → Below w1.heap.size wr w' → GrowOf wr w' T T' → SoI w w1 g W H M C P S T' nm nc np mask cs ms (sts ++ [s]) w' := by
 obtain ⟨xs, h1, h2⟩ := h.stk.row
 refine ⟨xs, h1, fun T' w' o1 o2 o3 => ⟨h.bel.trans o2, h.gw, (o3.grown.block g (blk_lt h.blk) (fun e => own_not h1 h.blk (by decide) e.symm)).trans h.blk, own_grow h.r1 o3 (own_apart h.r1 h1 (by decide)), own_grow h.r2 o3 (own_apart h.r2 h1 (by decide)), own_grow h.r3 o3 (own_apart h.r3 h1 (by decide)), h2 s o3 hu o1⟩⟩
theorem SoI.store (h : SoI w w1 g W H M C P S T nm nc np mask cs ms sts wr) : SoI w w1 g W H M C P T T nm nc np mask cs ms sts (wr.setCell ⟨g, 5, none⟩ T) :=
 ⟨h.bel.setCell (p := ⟨g, 5, none⟩) h.gw T, h.gw, by simpa using blk_set h.blk 5 T, own_set h.r1 (fun k hk e => own_not h.r1 h.blk (by decide) (by rw [hk, e])) 5 T, own_set h.r2 (fun k hk e => own_not h.r2 h.blk (by decide) (by rw [hk, e])) 5 T, own_set h.r3 (fun k hk e => own_not h.r3 h.blk (by decide) (by rw [hk, e])) 5 T, h.stk.set h.blk (by decide) (by decide) 5 T⟩
end
end
end Go.Proofs.YtbnkabmnenginaaGreatDoor
