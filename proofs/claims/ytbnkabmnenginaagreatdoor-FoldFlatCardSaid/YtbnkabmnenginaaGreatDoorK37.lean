/- flat.PlaceOf. -/
import Derived.Test.YtbnkabmnenginaaGreatDoorK26
import Derived.Test.YtbnkabmnenginaaGreatDoorK23
import Derived.Test.YtbnkabmnenginaaGreatDoorK29
namespace Go.Proofs.YtbnkabmnenginaaGreatDoor
set_option linter.unusedSimpArgs false
set_option linter.unusedVariables false
section
open Go.RowKit Go.Maps
set_option maxRecDepth 100000 in
set_option maxHeartbeats 3200000 in
theorem still_any (w : World) : Calls Tryz.prog 52 #[] w fun r w' => r = .returned (aggM stillV) ∧ Below w.heap.size w w' := by
 go_enter Tryz.func52, Tryz.ntmps52
 go_wp2
 refine bodyPost_ret (v := aggM (1, 0, 0, 1, 0, 0)) (by simp [results, Tryz.results52, go_sem]) rfl ⟨rfl, ?_⟩
 exact (Below.refl _ _).alloc (Nat.le_refl _) _
theorem mcs_inj : ∀ {l m : List V6}, mcs l = mcs m → l = m
 | [], [], _ => rfl
 | [], b :: m, h => by rw [mcs_cons] at h; simp [mcs] at h
 | a :: l, [], h => by rw [mcs_cons] at h; simp [mcs] at h
 | a :: l, b :: m, h => by
  rw [mcs_cons, mcs_cons] at h
  simp only [List.cons.injEq, Value.int.injEq, true_and] at h
  obtain ⟨h0, h1, h2, h3, h4, h5, h6⟩ := h
  rw [mcs_inj h6]
  congr 1
  obtain ⟨a0, a1, a2, a3, a4, a5⟩ := a
  obtain ⟨b0, b1, b2, b3, b4, b5⟩ := b
  simp_all
open Classical in
noncomputable def knM (w : World) (gl : Nat) : Nat := if h : ∃ l, LB w gl l then knownN zeroV (Classical.choose h) else 0
theorem knM_eq {w : World} {gl : Nat} {l : List V6} (h : LB w gl l) : knM w gl = knownN zeroV l := by
 unfold knM
 have hex : ∃ l, LB w gl l := ⟨l, h⟩
 rw [dif_pos hex]
 have h1 := Classical.choose_spec hex
 have h2 : w.heap[gl]? = _ := h
 have h3 : w.heap[gl]? = _ := h1
 rw [h2] at h3
 simp only [Option.some.injEq, Obj.cells.injEq] at h3
 have h4 : mcs l = mcs (Classical.choose hex) := by simpa using congrArg Array.toList h3.1
 rw [← mcs_inj h4]
def lenV : Value → Nat
 | .slice _ n _ => n
 | _ => 0
theorem Que.len {base : Nat} {w : World} {v : Value} {q : List Nat} (h : Que base w v q) : lenV v = q.length := by
 obtain ⟨A, cap, rfl, _⟩ := h.ex
 rfl
theorem Que.form {base : Nat} {w : World} {v : Value} {q : List Nat} (h : Que base w v q) : ∃ A cap, v = .slice A q.length cap := by
 obtain ⟨A, cap, h1, _⟩ := h.ex
 exact ⟨A, cap, h1⟩
structure PlS (w : World) (L : List T3) (C : E4 → Bool) (gl : Nat) (l : List V6) (q : List Nat) (i k : Nat) (v : Value) (wr : World) : Prop where
 inv : BfI L.length (nbL L) (stpL L C) stillV zeroV GV l q i k
 row : LB wr gl l
 que : Que w.heap.size wr v q
 bel : Below w.heap.size w wr
 ge : w.heap.size ≤ gl
section
variable {w wr w' : World} {L : List T3} {C : E4 → Bool} {gl : Nat} {l : List V6} {q : List Nat} {i k : Nat} {v : Value}
theorem PlS.below (h : PlS w L C gl l q i k v wr) (hb : Below wr.heap.size wr w') : PlS w L C gl l q i k v w' := ⟨h.inv, h.row.below hb, h.que.below hb, stay_b h.bel hb, h.ge⟩
theorem Que.setM {base b j : Nat} {w : World} {v : Value} {q : List Nat} {m : V6} {cs : Array Value} (h : Que base w v q) (hl : w.heap[b]? = some (.cells cs 57 (0, 0))) : Que base (set6 w b j m) v q := by
 obtain ⟨A, cap, h1, h2, h3, h4, h5⟩ := h.ex
 refine ⟨A, cap, h1, h2, h3, h4, ?_⟩
 rcases h5 with h5 | ⟨g, off, cur, a1, a2, a3, a4, a5⟩
 ·exact .inl h5
 ·refine .inr ⟨g, off, cur, a1, a2, ?_, a4, a5⟩
  rw [set6_far]
  ·exact a3
  ·intro e
   subst e
   rw [a3] at hl
   simp at hl
theorem PlS.box6 (h : PlS w L C gl l q i k v wr) {b : Nat} {cs : Array Value} (hk : wr.heap[b]? = some (.cells cs 57 (0, 0))) (hne : b ≠ gl) (hb : w.heap.size ≤ b) (m : V6) : PlS w L C gl l q i k v (set6 wr b 0 m) :=
 ⟨h.inv, (set6_far (Ne.symm hne)).trans h.row, h.que.setM hk, set6_below2 h.bel hb 0 m, h.ge⟩
theorem LB.one {w : World} {b : Nat} {m : V6} (h : w.heap[b]? = some (.cells #[.int .i64 m.1, .int .i64 m.2.1, .int .i64 m.2.2.1, .int .i64 m.2.2.2.1, .int .i64 m.2.2.2.2.1, .int .i64 m.2.2.2.2.2] 57 (0, 0))) : LB w b [m] := h
theorem LB.cells1 {w : World} {b : Nat} {m : V6} (h : LB w b [m]) : w.cell? ⟨b, 0, none⟩ = some (.int .i64 m.1) ∧ w.cell? ⟨b, 1, none⟩ = some (.int .i64 m.2.1) ∧ w.cell? ⟨b, 2, none⟩ = some (.int .i64 m.2.2.1) ∧ w.cell? ⟨b, 3, none⟩ = some (.int .i64 m.2.2.2.1) ∧ w.cell? ⟨b, 4, none⟩ = some (.int .i64 m.2.2.2.2.1) ∧ w.cell? ⟨b, 5, none⟩ = some (.int .i64 m.2.2.2.2.2) := by
 have h1 := h.at_ (j := 0) (m := m) rfl
 simpa only [Nat.zero_mul, Nat.zero_add] using h1
theorem PlS.re (h : PlS w L C gl l q i k v wr) {i' k' : Nat} (hi : BfI L.length (nbL L) (stpL L C) stillV zeroV GV l q i' k') : PlS w L C gl l q i' k' v wr := ⟨hi, h.row, h.que, h.bel, h.ge⟩
end
set_option maxRecDepth 100000 in
set_option maxHeartbeats 12800000 in
theorem placeP_any (pb nb kb W H B : Nat) (vm vc vt : Value) (L : List T3) (mn mk : Nat) (fk : E4 → Option Int) (w : World) (hs : Steps w) (hp : PapI w pb nb kb W H vm vc vt L mn mk fk) (ho : w.ownsRow B 59 3 vt L.length (tcT L))
  (hI : ∀ t ∈ L, In8 t) (hLl : L.length ≤ 1000) (hso : L.Pairwise triLt) (hj : joinB L = true) :
  Calls Tryz.prog 27 #[.pointer (some ⟨pb, 0, none⟩)] w fun r w' => Below w.heap.size w w' ∧
   (((¬ ∃ M, Cns L.length (nbL L) (stpL L (facF fk)) stillV M) ∧ r = .returned (.tuple #[.slice none 0 0, .bool false])) ∨
    ∃ (l : List V6) (gl : Nat), l.length = L.length ∧ Cns L.length (nbL L) (stpL L (facF fk)) stillV (fun i => l.getD i zeroV) ∧ LB w' gl l ∧ w.heap.size ≤ gl ∧ r = .returned (.tuple #[.slice (some ⟨gl, 0, none⟩) L.length L.length, .bool true])) := by
 have hL0 : 0 < L.length := by
  cases L with
  | nil => simp [joinB] at hj
  | cons a L0 => simp
 have hnd := sorted_nodup hso
 have hK4 : ∀ t ∈ L, K4 t := fun t ht => (hI t ht).2.2
 have hcn := conn_of hnd hK4 hj
 have hmk := make_maps L.length hLl
 have c4 := hp.c4
 obtain ⟨gt, ct, curt, hvt, _, _, _, _⟩ := own_addr ho hL0
 subst hvt
 obtain ⟨C, hC⟩ : ∃ C, C = facF fk := ⟨_, rfl⟩
 rw [← hC]
 have hL0i : (0 : Int) < (L.length : Int) := by omega
 have HC := Lib.hid hC
 have HI := Lib.hid hI
 have HCN := Lib.hid hcn
 have HP := Lib.hid hp
 have HO := Lib.hid ho
 have HS := Lib.hid hs
 have HND := Lib.hid hnd
 clear hI hcn hp ho hs hso hj hK4 hC hnd
 go_enter Tryz.func27, Tryz.ntmps27
 go_wp2_with fail
 refine (still_any _).mono ?_
 rintro r w1 ⟨rfl, hb1⟩
 have kl0 := heap_alloc_new w (.cells (mcs (List.replicate L.length zeroV)).toArray 57)
 have hl1 : LB w1 w.heap.size (List.replicate L.length zeroV) := blk_below kl0 hb1 (by simp)
 have hbw1 : Below w.heap.size w w1 := stay_b (below_new w _) hb1
 obtain ⟨y0, y1, y2, y3, y4, y5⟩ := hl1.at_ (j := 0) (m := zeroV) (by simp [hL0])
 simp only [Nat.zero_mul, Nat.zero_add] at y0 y1 y2 y3 y4 y5
 have fz := hl1.fz
 have c4 := sd c4 hbw1
 have hl2 := hl1.set 0 stillV
 have hbw2 := set6_below2 hbw1 (Nat.le_refl w.heap.size) 0 stillV
 have HL2 := Lib.hid hl2
 have HB2 := Lib.hid hbw2
 clear kl0 hl1 hb1 hbw1 hl2 hbw2 hmk
 go_wp2_with fail
 change Code.wp _ _ _ _ ((set6 w1 w.heap.size 0 stillV).alloc (.cells #[.int .i64 0] 3))
 have hsz1 : w1.heap.size = (set6 w1 w.heap.size 0 stillV).heap.size := by simp [set6]
 have hS0 : PlS w L C w.heap.size ((List.replicate L.length zeroV).set 0 stillV) [0] L.length 0 (.slice (some ⟨w1.heap.size, 0, none⟩) 1 1) ((set6 w1 w.heap.size 0 stillV).alloc (.cells #[.int .i64 0] 3)) := by
  refine ⟨BfI.start hL0 (by decide) (gb_still.mono (by decide)), HL2.out.below (below_new _ _), ?_, ba HB2.out _, Nat.le_refl _⟩
  refine Que.of_row ?_
  rw [hsz1]
  exact World.ownsRow_lit _ #[.int .i64 0] 1 HB2.out.size (by decide) rfl
 have hbm : Below w.heap.size w ((set6 w1 w.heap.size 0 stillV).alloc (.cells #[.int .i64 0] 3)) := ba HB2.out _
 have HS0 := Lib.hid hS0
 clear hS0 hsz1 hbm HL2 HB2 y0 y1 y2 y3 y4 y5 fz
 generalize (set6 w1 w.heap.size 0 stillV).alloc (.cells #[.int .i64 0] 3) = wm at HS0 ⊢
 go_loopw [5] (fun v wr => ∃ (l : List V6) (q : List Nat), Hid (PlS w L C w.heap.size l q L.length 0 v wr) ∧ q.length + (L.length - knownN zeroV l) ≤ L.length + 1) (fun v wr => lenV v + (L.length - knM wr w.heap.size))
 case atStart => exact ⟨_, _, HS0, by simp; omega⟩
 case round =>
  clear HS0
  obtain ⟨l, q, hS, hqb⟩ := hrel
  have hme := knM_eq hS.out.row
  have hle := hS.out.que.len
  have HME := Lib.hid hme
  have HLE := Lib.hid hle
  clear hme hle
  cases q with
  | nil =>
   obtain ⟨Aq, cq, hvq⟩ := hS.out.que.form
   subst hvq
   have hend := hS.out.inv.end_ hL0 HCN.out (fun i k j h => nbL_lt h)
   have HEND := Lib.hid hend
   clear hend
   go_wp2
   exact bodyPost_ret (v := .tuple #[.slice (some ⟨w.heap.size, 0, none⟩) L.length L.length, .bool true]) (by simp [results, Tryz.results27, go_sem]) rfl ⟨hS.out.bel, .inr ⟨l, w.heap.size, hS.out.inv.len, HEND.out.2, hS.out.row, Nat.le_refl _, rfl⟩⟩
  | cons i qo =>
   obtain ⟨gq, oq, cq, hvq, hcq⟩ := hS.out.que.first
   subst hvq
   obtain ⟨v', hsl, hq'⟩ := hS.out.que.tail
   obtain ⟨hin, hiz⟩ := hS.out.inv.todo i List.mem_cons_self
   have hii : (i : Int) < (L.length : Int) := by omega
   have hi0 : (0 : Int) ≤ (i : Int) := by omega
   have hq0 : (0 : Int) < ((qo.length + 1 : Nat) : Int) := by omega
   obtain ⟨t, ht⟩ : ∃ t, L[i]? = some t := ⟨_, List.getElem?_eq_getElem hin⟩
   obtain ⟨t0, t1, t2⟩ := own_tri (od HO.out hS.out.bel) ht
   have hit := HI.out t (List.mem_of_getElem? ht)
   have hts := hit.sm
   have hpw := HP.out.below hS.out.bel
   have d4 := hpw.c4
   have hS2 : PlS w L C w.heap.size l qo i 0 v' wr := ⟨hS.out.inv.pop, hS.out.row, hq', hS.out.bel, hS.out.ge⟩
   have hil : ∃ m, l[i]? = some m ∧ m ≠ zeroV := ⟨l.getD i zeroV, of_getD (by rw [hS.out.inv.len]; exact hin), hiz⟩
   obtain ⟨m0, hm0, hm0z⟩ := hil
   have cE := edges_any t.1 t.2.1 t.2.2 wr (HS.out.below hS.out.bel) (by have := hts.1; omega) (by have := hts.1; omega) (by have := hts.2.1; omega) (by have := hts.2.1; omega) hts.2.2.1 hts.2.2.2
   have CE := Lib.hid cE
   have HTT := Lib.hid ht
   have HIT := Lib.hid hit
   have HS2 := Lib.hid hS2
   have HM0 := Lib.hid (And.intro hm0 hm0z)
   clear cE ht hit hts hpw hS2 hS hq' hiz hm0 hm0z
   go_wp2_with (go_at_call 47; refine CE.out.mono ?_; rintro r w3 ⟨rfl, hb3⟩)
   obtain ⟨A3, c3, hv3⟩ := HS2.out.que.form
   subst hv3
   have HS3 := Lib.hid (HS2.out.below hb3)
   obtain ⟨K0, hK0⟩ : ∃ x, x = qo.length + (L.length - knownN zeroV l) := ⟨_, rfl⟩
   have HK0 := Lib.hid hK0
   simp only [List.length_cons] at hqb
   have hK0le : K0 ≤ 1001 := by
    rw [hK0]
    omega
   clear HS2 hb3 hsl CE t0 t1 t2 hK0 hcq d4
   go_loopw [5, 38] (fun v x wr => ∃ (k : Nat) (l : List V6) (q : List Nat) (m : V6), k ≤ 3 ∧ x = .int .i64 k ∧ Hid (PlS w L C w.heap.size l q i k v wr) ∧ Hid (l[i]? = some m ∧ m ≠ zeroV) ∧ q.length + (L.length - knownN zeroV l) ≤ K0) (fun _ x _ => 3 - (intOf x).toNat)
   case atStart => exact ⟨0, l, qo, m0, by omega, rfl, HS3, HM0, Nat.le_of_eq HK0.out.symm⟩
   case round =>
    clear HS3 HM0
    obtain ⟨k, l, q, m, hk, rfl, hS, hM, hKl⟩ := hrel
    obtain ⟨A4, c4', hv4⟩ := hS.out.que.form
    subst hv4
    by_cases hk3 : k < 3
    ·have hki : (k : Int) < 3 := by omega
     have hix : ∀ w, (Instr.index 98 (agg3E (edgeT t.1 t.2.1 t.2.2 0) (edgeT t.1 t.2.1 t.2.2 1) (edgeT t.1 t.2.1 t.2.2 2)) (.int .i64 k)).run Tryz.prog w = .ok (aggE (eT t k)) w := fun w => idx3 t k hk3 w
     have hts := HIT.out.sm
     have hke := HIT.out.edge hk3
     have hok := hts.edge hk3
     have hnok := hts.next hk3
     have cX := fun (w4 : World) => next_any t.1 t.2.1 t.2.2 k w4 hk3 (by have := hts.1; omega) (by have := hts.1; omega) (by have := hts.2.1; omega) (by have := hts.2.1; omega) hts.2.2.1 hts.2.2.2
     have hnn := fun h => nbL_none (k := k) HTT.out h
     have hns := fun h => nbL_some (k := k) HTT.out h
     have hst := stpL_at (C := C) (k := k) HTT.out m
     have hgood := fun (b : Nat) (h : GV b m) => stpV_good (C := C) hke h
     obtain ⟨E, hEE⟩ : ∃ E, E = eT t k := ⟨_, rfl⟩
     obtain ⟨U, hU⟩ : ∃ U, U = nT t k := ⟨_, rfl⟩
     rw [show nextT t.1 t.2.1 t.2.2 k = U from hU.symm] at cX
     rw [← hU] at hnok hnn hns
     rw [← hEE] at hix hke hok hst hgood
     have kE0 := heap_alloc_new wr (.cells #[.int .i64 E.1, .int .i64 E.2.1, .int .i64 E.2.2.1, .int .i64 E.2.2.2] 50)
     have hb7 := below_new wr (.cells #[.int .i64 E.1, .int .i64 E.2.1, .int .i64 E.2.2.1, .int .i64 E.2.2.2] 50)
     have x0 := cell_of_blk kE0 0
     have x1 := cell_of_blk kE0 1
     have x2 := cell_of_blk kE0 2
     have x3 := cell_of_blk kE0 3
     simp only [List.getElem?_toArray, List.getElem?_cons_zero, List.getElem?_cons_succ] at x0 x1 x2 x3
     have CX := Lib.hid cX
     have HNN := Lib.hid hnn
     have HNS := Lib.hid hns
     have HST := Lib.hid hst
     have HGO := Lib.hid hgood
     have HKE := Lib.hid hke
     have HOK := Lib.hid hok
     have HNOK := Lib.hid hnok
     have KE0 := Lib.hid kE0
     have HB7 := Lib.hid hb7
     clear cX hnn hns hst hgood hke hok hnok hEE hU kE0 hb7 hts
     obtain ⟨wi, hwi⟩ : ∃ x, x = wr := ⟨_, rfl⟩
     subst hwi
     go_wp2_with fail
     have HS7 := Lib.hid (hS.out.below HB7.out)
     generalize wi.alloc (.cells #[.int .i64 E.1, .int .i64 E.2.1, .int .i64 E.2.2.1, .int .i64 E.2.2.2] 50) = w8 at x0 x1 x2 x3 KE0 HB7 HS7 ⊢
     have hbw8 := HS7.out.bel
     have hp8 := HP.out.below hbw8
     have c4 := hp8.c4
     have c5 := hp8.c5
     obtain ⟨t0, t1, t2⟩ := own_tri (od HO.out hbw8) HTT.out
     have hl5 := fun (W' : World) (hb : Below w8.heap.size w8 W') => (hp8.below hb).look HNOK.out
     obtain ⟨D1, hD1⟩ : ∃ b, b = decide (U ∈ L) := ⟨_, rfl⟩
     rw [← hD1] at hl5
     obtain ⟨V1, hV1⟩ : ∃ b, b = (numF L U).getD 0 := ⟨_, rfl⟩
     rw [← hV1] at hl5
     have HD1 := Lib.hid hD1
     have HV1 := Lib.hid hV1
     have HL5 := Lib.hid hl5
     clear hD1 hV1 hl5 hbw8 hp8 hS
     cases D1 with
     | false =>
      refine wp_region_inv (fun Lq aq WN => ∃ s : Nat → Value, aq = { tmps := #[.pointer (some ⟨pb, 0, none⟩), undef, u2, u3, .slice (some ⟨w.heap.size, 0, none⟩) L.length L.length, .slice A4 q.length c4', .int .i64 (i : Int), .int .i64 (k : Int), .pointer (some ⟨wi.heap.size, 0, none⟩), (s 17), (s 18), u11, .pointer (some ⟨pb, 0, none⟩), .pointer (some ⟨pb, 0, none⟩), .pointer (some ⟨pb, 4, none⟩), .slice (some ⟨gt, 0, none⟩) L.length ct, .int .i64 (L.length : Int), .slice (some ⟨w.heap.size, 0, none⟩) L.length L.length, .slice (some ⟨w.heap.size, 0, none⟩) L.length L.length, aggM stillV, .pointer (some ⟨w.heap.size, 0, none⟩), .slice (some ⟨w1.heap.size, 0, none⟩) 1 1, .slice (some ⟨gq, oq, none⟩) (qo.length + 1) cq, .int .i64 ((qo.length : Int) + 1), .bool true, .slice (some ⟨gq, oq, none⟩) (qo.length + 1) cq, .pointer (some ⟨gq, oq, none⟩), .int .i64 (i : Int), .slice (some ⟨gq, oq, none⟩) (qo.length + 1) cq, .slice A3 qo.length c3, .pointer (some ⟨pb, 0, none⟩), .pointer (some ⟨pb, 0, none⟩), .pointer (some ⟨pb, 4, none⟩), .slice (some ⟨gt, 0, none⟩) L.length ct, .int .i64 (i : Int), .pointer (some ⟨gt, i * 3, none⟩), .agg #[.int .i64 t.1, .int .i64 t.2.1, .int .i64 t.2.2], agg3E (edgeT t.1 t.2.1 t.2.2 0) (edgeT t.1 t.2.1 t.2.2 1) (edgeT t.1 t.2.1 t.2.2 2), .int .i64 (k : Int), .bool true, .int .i64 (k : Int), aggE E, (s 14), (s 0), (s 1), (s 2), (s 3), (s 4), (s 5), (s 6), (s 7), (s 8), (s 9), (s 10), (s 11), (s 12), (s 13), (s 15), (s 16), u59, u60, u61, u62, u63, u64, u65, u66, u67, u68, u69, u70, u71, u72, u73, u74, u75, u76, u77, u78, u79, u80, u81, u82, u83, u84, u85, u86, u87, u88, u89, u90, u91, u92, u93, u94, u95, u96, u97, undef], defers := [] } ∧ Sv 19 [some (.pointer (some ⟨pb, 0, none⟩)), some (.pointer (some ⟨pb, 0, none⟩)), some (.pointer (some ⟨pb, 5, none⟩)), some (.map (some nb)), some (.pointer (some ⟨pb, 0, none⟩)), some (.pointer (some ⟨pb, 0, none⟩)), some (.pointer (some ⟨pb, 4, none⟩)), some (.slice (some ⟨gt, 0, none⟩) L.length ct), some (.int .i64 (i : Int)), some (.pointer (some ⟨gt, i * 3, none⟩)), some (.agg #[.int .i64 t.1, .int .i64 t.2.1, .int .i64 t.2.2]), some (.int .i64 (k : Int)), some (aggT3 U), some (.tuple #[.int .i64 V1, .bool false]), some (.tuple #[.int .i64 V1, .bool false]), some (.int .i64 V1), some (.bool false), some (.int .i64 V1), some (.bool false)] Lq s ∧ (WN.cell? ⟨pb, 5, none⟩ = some (.map (some nb)) ∧ WN.cell? ⟨pb, 4, none⟩ = some (.slice (some ⟨gt, 0, none⟩) L.length ct) ∧ WN.cell? ⟨gt, i * 3, none⟩ = some (.int .i64 t.1) ∧ WN.cell? ⟨gt, i * 3 + 1, none⟩ = some (.int .i64 t.2.1) ∧ WN.cell? ⟨gt, i * 3 + 2, none⟩ = some (.int .i64 t.2.2) ∧ Below w8.heap.size w8 WN)) (by kernel_rfl) ?_ ?_ ?_
      ·exact ⟨listF [u43, u44, u45, u46, u47, u48, u49, u50, u51, u52, u53, u54, u55, u56, u42, u57, u58, u9, u10], rfl, Sv.start 19 _ _, ⟨c5, c4, t0, t1, t2, (Below.refl _ _).drew⟩⟩
      ·intro Lq aq WN i0 hI hr
       obtain ⟨s, rfl, hv, hst⟩ := hI
       have hi0 : i0 < 19 := ready_lt hr
       have HV := Lib.hid hv
       have HST := Lib.hid hst
       clear hv hst
       have hii : i0 = 0 ∨ i0 = 1 ∨ i0 = 2 ∨ i0 = 3 ∨ i0 = 4 ∨ i0 = 5 ∨ i0 = 6 ∨ i0 = 7 ∨ i0 = 8 ∨ i0 = 9 ∨ i0 = 10 ∨ i0 = 11 ∨ i0 = 12 ∨ i0 = 13 ∨ i0 = 14 ∨ i0 = 15 ∨ i0 = 16 ∨ i0 = 17 ∨ i0 = 18 := by omega
       clear hi0
       rcases hii with rfl | rfl | rfl | rfl | rfl | rfl | rfl | rfl | rfl | rfl | rfl | rfl | rfl | rfl | rfl | rfl | rfl | rfl | rfl
       ·clear hr
        refine wpOp_step rfl (fun K hK => ?_)
        go_simp
        refine hK _ _ ?_
        exact ⟨upd s 0 (.pointer (some ⟨pb, 0, none⟩)), rfl, Sv.put HV.out (fun u hu => by cases hu; rfl), HST.out⟩
       ·have d0 := ready_dep hr (k := 0) (by kernel_rfl)
        clear hr
        have e0 : s 0 = .pointer (some ⟨pb, 0, none⟩) := HV.out.v d0 rfl
        refine wpOp_step rfl (fun K hK => ?_)
        go_simp
        refine hK _ _ ?_
        exact ⟨upd (upd s 0 (.pointer (some ⟨pb, 0, none⟩))) 1 (.pointer (some ⟨pb, 0, none⟩)), rfl, Sv.put (Sv.re (j := 0) (v := .pointer (some ⟨pb, 0, none⟩)) HV.out e0) (fun u hu => by cases hu; rfl), HST.out⟩
       ·have d1 := ready_dep hr (k := 1) (by kernel_rfl)
        clear hr
        have e1 : s 1 = .pointer (some ⟨pb, 0, none⟩) := HV.out.v d1 rfl
        refine wpOp_step rfl (fun K hK => ?_)
        go_simp
        refine hK _ _ ?_
        exact ⟨upd (upd s 1 (.pointer (some ⟨pb, 0, none⟩))) 2 (.pointer (some ⟨pb, 5, none⟩)), rfl, Sv.put (Sv.re (j := 1) (v := .pointer (some ⟨pb, 0, none⟩)) HV.out e1) (fun u hu => by cases hu; rfl), HST.out⟩
       ·have d2 := ready_dep hr (k := 2) (by kernel_rfl)
        clear hr
        have e2 : s 2 = .pointer (some ⟨pb, 5, none⟩) := HV.out.v d2 rfl
        obtain ⟨q0, q1, q2, q3, q4, hbl⟩ := HST.out
        refine wpOp_step rfl (fun K hK => ?_)
        go_simp
        refine hK _ _ ?_
        exact ⟨upd (upd s 2 (.pointer (some ⟨pb, 5, none⟩))) 3 (.map (some nb)), rfl, Sv.put (Sv.re (j := 2) (v := .pointer (some ⟨pb, 5, none⟩)) HV.out e2) (fun u hu => by cases hu; rfl), HST.out⟩
       ·clear hr
        refine wpOp_step rfl (fun K hK => ?_)
        go_simp
        refine hK _ _ ?_
        exact ⟨upd s 4 (.pointer (some ⟨pb, 0, none⟩)), rfl, Sv.put HV.out (fun u hu => by cases hu; rfl), HST.out⟩
       ·have d4 := ready_dep hr (k := 4) (by kernel_rfl)
        clear hr
        have e4 : s 4 = .pointer (some ⟨pb, 0, none⟩) := HV.out.v d4 rfl
        refine wpOp_step rfl (fun K hK => ?_)
        go_simp
        refine hK _ _ ?_
        exact ⟨upd (upd s 4 (.pointer (some ⟨pb, 0, none⟩))) 5 (.pointer (some ⟨pb, 0, none⟩)), rfl, Sv.put (Sv.re (j := 4) (v := .pointer (some ⟨pb, 0, none⟩)) HV.out e4) (fun u hu => by cases hu; rfl), HST.out⟩
       ·have d5 := ready_dep hr (k := 5) (by kernel_rfl)
        clear hr
        have e5 : s 5 = .pointer (some ⟨pb, 0, none⟩) := HV.out.v d5 rfl
        refine wpOp_step rfl (fun K hK => ?_)
        go_simp
        refine hK _ _ ?_
        exact ⟨upd (upd s 5 (.pointer (some ⟨pb, 0, none⟩))) 6 (.pointer (some ⟨pb, 4, none⟩)), rfl, Sv.put (Sv.re (j := 5) (v := .pointer (some ⟨pb, 0, none⟩)) HV.out e5) (fun u hu => by cases hu; rfl), HST.out⟩
       ·have d6 := ready_dep hr (k := 6) (by kernel_rfl)
        clear hr
        have e6 : s 6 = .pointer (some ⟨pb, 4, none⟩) := HV.out.v d6 rfl
        obtain ⟨q0, q1, q2, q3, q4, hbl⟩ := HST.out
        refine wpOp_step rfl (fun K hK => ?_)
        go_simp
        refine hK _ _ ?_
        exact ⟨upd (upd s 6 (.pointer (some ⟨pb, 4, none⟩))) 7 (.slice (some ⟨gt, 0, none⟩) L.length ct), rfl, Sv.put (Sv.re (j := 6) (v := .pointer (some ⟨pb, 4, none⟩)) HV.out e6) (fun u hu => by cases hu; rfl), HST.out⟩
       ·clear hr
        refine wpOp_step rfl (fun K hK => ?_)
        go_simp
        refine hK _ _ ?_
        exact ⟨upd s 8 (.int .i64 (i : Int)), rfl, Sv.put HV.out (fun u hu => by cases hu; rfl), HST.out⟩
       ·have d7 := ready_dep hr (k := 7) (by kernel_rfl)
        have d8 := ready_dep hr (k := 8) (by kernel_rfl)
        clear hr
        have e7 : s 7 = .slice (some ⟨gt, 0, none⟩) L.length ct := HV.out.v d7 rfl
        have e8 : s 8 = .int .i64 (i : Int) := HV.out.v d8 rfl
        refine wpOp_step rfl (fun K hK => ?_)
        go_simp
        refine hK _ _ ?_
        exact ⟨upd (upd (upd s 7 (.slice (some ⟨gt, 0, none⟩) L.length ct)) 8 (.int .i64 (i : Int))) 9 (.pointer (some ⟨gt, i * 3, none⟩)), rfl, Sv.put (Sv.re (j := 8) (v := .int .i64 (i : Int)) (Sv.re (j := 7) (v := .slice (some ⟨gt, 0, none⟩) L.length ct) HV.out e7) e8) (fun u hu => by cases hu; rfl), HST.out⟩
       ·have d9 := ready_dep hr (k := 9) (by kernel_rfl)
        clear hr
        have e9 : s 9 = .pointer (some ⟨gt, i * 3, none⟩) := HV.out.v d9 rfl
        obtain ⟨q0, q1, q2, q3, q4, hbl⟩ := HST.out
        refine wpOp_step rfl (fun K hK => ?_)
        go_simp
        refine hK _ _ ?_
        exact ⟨upd (upd s 9 (.pointer (some ⟨gt, i * 3, none⟩))) 10 (.agg #[.int .i64 t.1, .int .i64 t.2.1, .int .i64 t.2.2]), rfl, Sv.put (Sv.re (j := 9) (v := .pointer (some ⟨gt, i * 3, none⟩)) HV.out e9) (fun u hu => by cases hu; rfl), HST.out⟩
       ·clear hr
        refine wpOp_step rfl (fun K hK => ?_)
        go_simp
        refine hK _ _ ?_
        exact ⟨upd s 11 (.int .i64 (k : Int)), rfl, Sv.put HV.out (fun u hu => by cases hu; rfl), HST.out⟩
       ·have d10 := ready_dep hr (k := 10) (by kernel_rfl)
        have d11 := ready_dep hr (k := 11) (by kernel_rfl)
        clear hr
        have e10 : s 10 = .agg #[.int .i64 t.1, .int .i64 t.2.1, .int .i64 t.2.2] := HV.out.v d10 rfl
        have e11 : s 11 = .int .i64 (k : Int) := HV.out.v d11 rfl
        obtain ⟨q0, q1, q2, q3, q4, hbl⟩ := HST.out
        refine wpOp_step rfl (fun K hK => ?_)
        go_simp
        refine (CX.out _).mono ?_
        rintro e' wc ⟨he, hbc⟩
        subst he
        refine hK _ _ ?_
        exact ⟨upd (upd (upd s 10 (.agg #[.int .i64 t.1, .int .i64 t.2.1, .int .i64 t.2.2])) 11 (.int .i64 (k : Int))) 12 (aggT3 U), rfl, Sv.put (Sv.re (j := 11) (v := .int .i64 (k : Int)) (Sv.re (j := 10) (v := .agg #[.int .i64 t.1, .int .i64 t.2.1, .int .i64 t.2.2]) HV.out e10) e11) (fun u hu => by cases hu; rfl), ⟨sd q0 hbc, sd q1 hbc, sd q2 hbc, sd q3 hbc, sd q4 hbc, stay_b hbl hbc⟩⟩
       ·have d3 := ready_dep hr (k := 3) (by kernel_rfl)
        have d12 := ready_dep hr (k := 12) (by kernel_rfl)
        clear hr
        have e3 : s 3 = .map (some nb) := HV.out.v d3 rfl
        have e12 : s 12 = aggT3 U := HV.out.v d12 rfl
        obtain ⟨q0, q1, q2, q3, q4, hbl⟩ := HST.out
        have hlk := HL5.out WN hbl
        refine wpOp_step rfl (fun K hK => ?_)
        go_simp
        refine hK _ _ ?_
        exact ⟨upd (upd (upd s 3 (.map (some nb))) 12 (aggT3 U)) 13 (.tuple #[.int .i64 V1, .bool false]), rfl, Sv.put (Sv.re (j := 12) (v := aggT3 U) (Sv.re (j := 3) (v := .map (some nb)) HV.out e3) e12) (fun u hu => by cases hu; rfl), HST.out⟩
       ·have d13 := ready_dep hr (k := 13) (by kernel_rfl)
        clear hr
        have e13 : s 13 = .tuple #[.int .i64 V1, .bool false] := HV.out.v d13 rfl
        refine wpOp_step rfl (fun K hK => ?_)
        go_simp
        refine hK _ _ ?_
        exact ⟨upd (upd s 13 (.tuple #[.int .i64 V1, .bool false])) 14 (.tuple #[.int .i64 V1, .bool false]), rfl, Sv.put (Sv.re (j := 13) (v := .tuple #[.int .i64 V1, .bool false]) HV.out e13) (fun u hu => by cases hu; rfl), HST.out⟩
       ·have d14 := ready_dep hr (k := 14) (by kernel_rfl)
        clear hr
        have e14 : s 14 = .tuple #[.int .i64 V1, .bool false] := HV.out.v d14 rfl
        refine wpOp_step rfl (fun K hK => ?_)
        go_simp
        refine hK _ _ ?_
        exact ⟨upd (upd s 14 (.tuple #[.int .i64 V1, .bool false])) 15 (.int .i64 V1), rfl, Sv.put (Sv.re (j := 14) (v := .tuple #[.int .i64 V1, .bool false]) HV.out e14) (fun u hu => by cases hu; rfl), HST.out⟩
       ·have d14 := ready_dep hr (k := 14) (by kernel_rfl)
        clear hr
        have e14 : s 14 = .tuple #[.int .i64 V1, .bool false] := HV.out.v d14 rfl
        refine wpOp_step rfl (fun K hK => ?_)
        go_simp
        refine hK _ _ ?_
        exact ⟨upd (upd s 14 (.tuple #[.int .i64 V1, .bool false])) 16 (.bool false), rfl, Sv.put (Sv.re (j := 14) (v := .tuple #[.int .i64 V1, .bool false]) HV.out e14) (fun u hu => by cases hu; rfl), HST.out⟩
       ·have d15 := ready_dep hr (k := 15) (by kernel_rfl)
        clear hr
        have e15 : s 15 = .int .i64 V1 := HV.out.v d15 rfl
        refine wpOp_step rfl (fun K hK => ?_)
        go_simp
        refine hK _ _ ?_
        exact ⟨upd (upd s 15 (.int .i64 V1)) 17 (.int .i64 V1), rfl, Sv.put (Sv.re (j := 15) (v := .int .i64 V1) HV.out e15) (fun u hu => by cases hu; rfl), HST.out⟩
       ·have d16 := ready_dep hr (k := 16) (by kernel_rfl)
        clear hr
        have e16 : s 16 = .bool false := HV.out.v d16 rfl
        refine wpOp_step rfl (fun K hK => ?_)
        go_simp
        refine hK _ _ ?_
        exact ⟨upd (upd s 16 (.bool false)) 18 (.bool false), rfl, Sv.put (Sv.re (j := 16) (v := .bool false) HV.out e16) (fun u hu => by cases hu; rfl), HST.out⟩
      ·intro Lq aq WN hI hrd
       obtain ⟨s, ha, hv, hst⟩ := hI
       have hall := all_listedM hrd hv.sz (by kernel_rfl)
       clear hrd
       have e0 : s 0 = (.pointer (some ⟨pb, 0, none⟩)) := hv.v (hall 0 (by decide)) rfl
       have e1 : s 1 = (.pointer (some ⟨pb, 0, none⟩)) := hv.v (hall 1 (by decide)) rfl
       have e2 : s 2 = (.pointer (some ⟨pb, 5, none⟩)) := hv.v (hall 2 (by decide)) rfl
       have e3 : s 3 = (.map (some nb)) := hv.v (hall 3 (by decide)) rfl
       have e4 : s 4 = (.pointer (some ⟨pb, 0, none⟩)) := hv.v (hall 4 (by decide)) rfl
       have e5 : s 5 = (.pointer (some ⟨pb, 0, none⟩)) := hv.v (hall 5 (by decide)) rfl
       have e6 : s 6 = (.pointer (some ⟨pb, 4, none⟩)) := hv.v (hall 6 (by decide)) rfl
       have e7 : s 7 = (.slice (some ⟨gt, 0, none⟩) L.length ct) := hv.v (hall 7 (by decide)) rfl
       have e8 : s 8 = (.int .i64 (i : Int)) := hv.v (hall 8 (by decide)) rfl
       have e9 : s 9 = (.pointer (some ⟨gt, i * 3, none⟩)) := hv.v (hall 9 (by decide)) rfl
       have e10 : s 10 = (.agg #[.int .i64 t.1, .int .i64 t.2.1, .int .i64 t.2.2]) := hv.v (hall 10 (by decide)) rfl
       have e11 : s 11 = (.int .i64 (k : Int)) := hv.v (hall 11 (by decide)) rfl
       have e12 : s 12 = (aggT3 U) := hv.v (hall 12 (by decide)) rfl
       have e13 : s 13 = (.tuple #[.int .i64 V1, .bool false]) := hv.v (hall 13 (by decide)) rfl
       have e14 : s 14 = (.tuple #[.int .i64 V1, .bool false]) := hv.v (hall 14 (by decide)) rfl
       have e15 : s 15 = (.int .i64 V1) := hv.v (hall 15 (by decide)) rfl
       have e16 : s 16 = (.bool false) := hv.v (hall 16 (by decide)) rfl
       have e17 : s 17 = (.int .i64 V1) := hv.v (hall 17 (by decide)) rfl
       have e18 : s 18 = (.bool false) := hv.v (hall 18 (by decide)) rfl
       simp only [e0, e1, e2, e3, e4, e5, e6, e7, e8, e9, e10, e11, e12, e13, e14, e15, e16, e17, e18] at ha
       subst ha
       clear hall hv e0 e1 e2 e3 e4 e5 e6 e7 e8 e9 e10 e11 e12 e13 e14 e15 e16 e17 e18
       obtain ⟨q0, q1, q2, q3, q4, hbl⟩ := hst
       have hUL : U ∉ L := of_decide_eq_false HD1.out.symm
       have hS9 := (HS7.out.below hbl).re (HS7.out.inv.none (HNN.out hUL))
       have HS9 := Lib.hid hS9
       clear hS9 hUL hbl
       go_wp2
       go_roundw
       case rel => exact ⟨k + 1, l, q, m, by omega, by go_num, HS9, hM, hKl⟩
       case measure => simp [intOf]; omega
     | true =>
      have hUL : U ∈ L := of_decide_eq_true HD1.out.symm
      obtain ⟨j, hje⟩ : ∃ j, j = L.idxOf U := ⟨_, rfl⟩
      have hjn : j < L.length := by rw [hje]; exact List.idxOf_lt_length_of_mem hUL
      have hV1 : V1 = (j : Int) := by rw [HV1.out, hje]; unfold numF; rw [if_pos hUL]; rfl
      subst hV1
      have hnb := HNS.out hUL
      rw [← hje] at hnb
      have HNB := Lib.hid hnb
      clear hUL hje hnb
      refine wp_region_inv (fun Lq aq WN => ∃ s : Nat → Value, aq = { tmps := #[.pointer (some ⟨pb, 0, none⟩), undef, u2, u3, .slice (some ⟨w.heap.size, 0, none⟩) L.length L.length, .slice A4 q.length c4', .int .i64 (i : Int), .int .i64 (k : Int), .pointer (some ⟨wi.heap.size, 0, none⟩), (s 17), (s 18), u11, .pointer (some ⟨pb, 0, none⟩), .pointer (some ⟨pb, 0, none⟩), .pointer (some ⟨pb, 4, none⟩), .slice (some ⟨gt, 0, none⟩) L.length ct, .int .i64 (L.length : Int), .slice (some ⟨w.heap.size, 0, none⟩) L.length L.length, .slice (some ⟨w.heap.size, 0, none⟩) L.length L.length, aggM stillV, .pointer (some ⟨w.heap.size, 0, none⟩), .slice (some ⟨w1.heap.size, 0, none⟩) 1 1, .slice (some ⟨gq, oq, none⟩) (qo.length + 1) cq, .int .i64 ((qo.length : Int) + 1), .bool true, .slice (some ⟨gq, oq, none⟩) (qo.length + 1) cq, .pointer (some ⟨gq, oq, none⟩), .int .i64 (i : Int), .slice (some ⟨gq, oq, none⟩) (qo.length + 1) cq, .slice A3 qo.length c3, .pointer (some ⟨pb, 0, none⟩), .pointer (some ⟨pb, 0, none⟩), .pointer (some ⟨pb, 4, none⟩), .slice (some ⟨gt, 0, none⟩) L.length ct, .int .i64 (i : Int), .pointer (some ⟨gt, i * 3, none⟩), .agg #[.int .i64 t.1, .int .i64 t.2.1, .int .i64 t.2.2], agg3E (edgeT t.1 t.2.1 t.2.2 0) (edgeT t.1 t.2.1 t.2.2 1) (edgeT t.1 t.2.1 t.2.2 2), .int .i64 (k : Int), .bool true, .int .i64 (k : Int), aggE E, (s 14), (s 0), (s 1), (s 2), (s 3), (s 4), (s 5), (s 6), (s 7), (s 8), (s 9), (s 10), (s 11), (s 12), (s 13), (s 15), (s 16), u59, u60, u61, u62, u63, u64, u65, u66, u67, u68, u69, u70, u71, u72, u73, u74, u75, u76, u77, u78, u79, u80, u81, u82, u83, u84, u85, u86, u87, u88, u89, u90, u91, u92, u93, u94, u95, u96, u97, undef], defers := [] } ∧ Sv 19 [some (.pointer (some ⟨pb, 0, none⟩)), some (.pointer (some ⟨pb, 0, none⟩)), some (.pointer (some ⟨pb, 5, none⟩)), some (.map (some nb)), some (.pointer (some ⟨pb, 0, none⟩)), some (.pointer (some ⟨pb, 0, none⟩)), some (.pointer (some ⟨pb, 4, none⟩)), some (.slice (some ⟨gt, 0, none⟩) L.length ct), some (.int .i64 (i : Int)), some (.pointer (some ⟨gt, i * 3, none⟩)), some (.agg #[.int .i64 t.1, .int .i64 t.2.1, .int .i64 t.2.2]), some (.int .i64 (k : Int)), some (aggT3 U), some (.tuple #[.int .i64 (j : Int), .bool true]), some (.tuple #[.int .i64 (j : Int), .bool true]), some (.int .i64 (j : Int)), some (.bool true), some (.int .i64 (j : Int)), some (.bool true)] Lq s ∧ (WN.cell? ⟨pb, 5, none⟩ = some (.map (some nb)) ∧ WN.cell? ⟨pb, 4, none⟩ = some (.slice (some ⟨gt, 0, none⟩) L.length ct) ∧ WN.cell? ⟨gt, i * 3, none⟩ = some (.int .i64 t.1) ∧ WN.cell? ⟨gt, i * 3 + 1, none⟩ = some (.int .i64 t.2.1) ∧ WN.cell? ⟨gt, i * 3 + 2, none⟩ = some (.int .i64 t.2.2) ∧ Below w8.heap.size w8 WN)) (by kernel_rfl) ?_ ?_ ?_
      ·exact ⟨listF [u43, u44, u45, u46, u47, u48, u49, u50, u51, u52, u53, u54, u55, u56, u42, u57, u58, u9, u10], rfl, Sv.start 19 _ _, ⟨c5, c4, t0, t1, t2, (Below.refl _ _).drew⟩⟩
      ·intro Lq aq WN i0 hI hr
       obtain ⟨s, rfl, hv, hst⟩ := hI
       have hi0 : i0 < 19 := ready_lt hr
       have HV := Lib.hid hv
       have HST := Lib.hid hst
       clear hv hst
       have hii : i0 = 0 ∨ i0 = 1 ∨ i0 = 2 ∨ i0 = 3 ∨ i0 = 4 ∨ i0 = 5 ∨ i0 = 6 ∨ i0 = 7 ∨ i0 = 8 ∨ i0 = 9 ∨ i0 = 10 ∨ i0 = 11 ∨ i0 = 12 ∨ i0 = 13 ∨ i0 = 14 ∨ i0 = 15 ∨ i0 = 16 ∨ i0 = 17 ∨ i0 = 18 := by omega
       clear hi0
       rcases hii with rfl | rfl | rfl | rfl | rfl | rfl | rfl | rfl | rfl | rfl | rfl | rfl | rfl | rfl | rfl | rfl | rfl | rfl | rfl
       ·clear hr
        refine wpOp_step rfl (fun K hK => ?_)
        go_simp
        refine hK _ _ ?_
        exact ⟨upd s 0 (.pointer (some ⟨pb, 0, none⟩)), rfl, Sv.put HV.out (fun u hu => by cases hu; rfl), HST.out⟩
       ·have d0 := ready_dep hr (k := 0) (by kernel_rfl)
        clear hr
        have e0 : s 0 = .pointer (some ⟨pb, 0, none⟩) := HV.out.v d0 rfl
        refine wpOp_step rfl (fun K hK => ?_)
        go_simp
        refine hK _ _ ?_
        exact ⟨upd (upd s 0 (.pointer (some ⟨pb, 0, none⟩))) 1 (.pointer (some ⟨pb, 0, none⟩)), rfl, Sv.put (Sv.re (j := 0) (v := .pointer (some ⟨pb, 0, none⟩)) HV.out e0) (fun u hu => by cases hu; rfl), HST.out⟩
       ·have d1 := ready_dep hr (k := 1) (by kernel_rfl)
        clear hr
        have e1 : s 1 = .pointer (some ⟨pb, 0, none⟩) := HV.out.v d1 rfl
        refine wpOp_step rfl (fun K hK => ?_)
        go_simp
        refine hK _ _ ?_
        exact ⟨upd (upd s 1 (.pointer (some ⟨pb, 0, none⟩))) 2 (.pointer (some ⟨pb, 5, none⟩)), rfl, Sv.put (Sv.re (j := 1) (v := .pointer (some ⟨pb, 0, none⟩)) HV.out e1) (fun u hu => by cases hu; rfl), HST.out⟩
       ·have d2 := ready_dep hr (k := 2) (by kernel_rfl)
        clear hr
        have e2 : s 2 = .pointer (some ⟨pb, 5, none⟩) := HV.out.v d2 rfl
        obtain ⟨q0, q1, q2, q3, q4, hbl⟩ := HST.out
        refine wpOp_step rfl (fun K hK => ?_)
        go_simp
        refine hK _ _ ?_
        exact ⟨upd (upd s 2 (.pointer (some ⟨pb, 5, none⟩))) 3 (.map (some nb)), rfl, Sv.put (Sv.re (j := 2) (v := .pointer (some ⟨pb, 5, none⟩)) HV.out e2) (fun u hu => by cases hu; rfl), HST.out⟩
       ·clear hr
        refine wpOp_step rfl (fun K hK => ?_)
        go_simp
        refine hK _ _ ?_
        exact ⟨upd s 4 (.pointer (some ⟨pb, 0, none⟩)), rfl, Sv.put HV.out (fun u hu => by cases hu; rfl), HST.out⟩
       ·have d4 := ready_dep hr (k := 4) (by kernel_rfl)
        clear hr
        have e4 : s 4 = .pointer (some ⟨pb, 0, none⟩) := HV.out.v d4 rfl
        refine wpOp_step rfl (fun K hK => ?_)
        go_simp
        refine hK _ _ ?_
        exact ⟨upd (upd s 4 (.pointer (some ⟨pb, 0, none⟩))) 5 (.pointer (some ⟨pb, 0, none⟩)), rfl, Sv.put (Sv.re (j := 4) (v := .pointer (some ⟨pb, 0, none⟩)) HV.out e4) (fun u hu => by cases hu; rfl), HST.out⟩
       ·have d5 := ready_dep hr (k := 5) (by kernel_rfl)
        clear hr
        have e5 : s 5 = .pointer (some ⟨pb, 0, none⟩) := HV.out.v d5 rfl
        refine wpOp_step rfl (fun K hK => ?_)
        go_simp
        refine hK _ _ ?_
        exact ⟨upd (upd s 5 (.pointer (some ⟨pb, 0, none⟩))) 6 (.pointer (some ⟨pb, 4, none⟩)), rfl, Sv.put (Sv.re (j := 5) (v := .pointer (some ⟨pb, 0, none⟩)) HV.out e5) (fun u hu => by cases hu; rfl), HST.out⟩
       ·have d6 := ready_dep hr (k := 6) (by kernel_rfl)
        clear hr
        have e6 : s 6 = .pointer (some ⟨pb, 4, none⟩) := HV.out.v d6 rfl
        obtain ⟨q0, q1, q2, q3, q4, hbl⟩ := HST.out
        refine wpOp_step rfl (fun K hK => ?_)
        go_simp
        refine hK _ _ ?_
        exact ⟨upd (upd s 6 (.pointer (some ⟨pb, 4, none⟩))) 7 (.slice (some ⟨gt, 0, none⟩) L.length ct), rfl, Sv.put (Sv.re (j := 6) (v := .pointer (some ⟨pb, 4, none⟩)) HV.out e6) (fun u hu => by cases hu; rfl), HST.out⟩
       ·clear hr
        refine wpOp_step rfl (fun K hK => ?_)
        go_simp
        refine hK _ _ ?_
        exact ⟨upd s 8 (.int .i64 (i : Int)), rfl, Sv.put HV.out (fun u hu => by cases hu; rfl), HST.out⟩
       ·have d7 := ready_dep hr (k := 7) (by kernel_rfl)
        have d8 := ready_dep hr (k := 8) (by kernel_rfl)
        clear hr
        have e7 : s 7 = .slice (some ⟨gt, 0, none⟩) L.length ct := HV.out.v d7 rfl
        have e8 : s 8 = .int .i64 (i : Int) := HV.out.v d8 rfl
        refine wpOp_step rfl (fun K hK => ?_)
        go_simp
        refine hK _ _ ?_
        exact ⟨upd (upd (upd s 7 (.slice (some ⟨gt, 0, none⟩) L.length ct)) 8 (.int .i64 (i : Int))) 9 (.pointer (some ⟨gt, i * 3, none⟩)), rfl, Sv.put (Sv.re (j := 8) (v := .int .i64 (i : Int)) (Sv.re (j := 7) (v := .slice (some ⟨gt, 0, none⟩) L.length ct) HV.out e7) e8) (fun u hu => by cases hu; rfl), HST.out⟩
       ·have d9 := ready_dep hr (k := 9) (by kernel_rfl)
        clear hr
        have e9 : s 9 = .pointer (some ⟨gt, i * 3, none⟩) := HV.out.v d9 rfl
        obtain ⟨q0, q1, q2, q3, q4, hbl⟩ := HST.out
        refine wpOp_step rfl (fun K hK => ?_)
        go_simp
        refine hK _ _ ?_
        exact ⟨upd (upd s 9 (.pointer (some ⟨gt, i * 3, none⟩))) 10 (.agg #[.int .i64 t.1, .int .i64 t.2.1, .int .i64 t.2.2]), rfl, Sv.put (Sv.re (j := 9) (v := .pointer (some ⟨gt, i * 3, none⟩)) HV.out e9) (fun u hu => by cases hu; rfl), HST.out⟩
       ·clear hr
        refine wpOp_step rfl (fun K hK => ?_)
        go_simp
        refine hK _ _ ?_
        exact ⟨upd s 11 (.int .i64 (k : Int)), rfl, Sv.put HV.out (fun u hu => by cases hu; rfl), HST.out⟩
       ·have d10 := ready_dep hr (k := 10) (by kernel_rfl)
        have d11 := ready_dep hr (k := 11) (by kernel_rfl)
        clear hr
        have e10 : s 10 = .agg #[.int .i64 t.1, .int .i64 t.2.1, .int .i64 t.2.2] := HV.out.v d10 rfl
        have e11 : s 11 = .int .i64 (k : Int) := HV.out.v d11 rfl
        obtain ⟨q0, q1, q2, q3, q4, hbl⟩ := HST.out
        refine wpOp_step rfl (fun K hK => ?_)
        go_simp
        refine (CX.out _).mono ?_
        rintro e' wc ⟨he, hbc⟩
        subst he
        refine hK _ _ ?_
        exact ⟨upd (upd (upd s 10 (.agg #[.int .i64 t.1, .int .i64 t.2.1, .int .i64 t.2.2])) 11 (.int .i64 (k : Int))) 12 (aggT3 U), rfl, Sv.put (Sv.re (j := 11) (v := .int .i64 (k : Int)) (Sv.re (j := 10) (v := .agg #[.int .i64 t.1, .int .i64 t.2.1, .int .i64 t.2.2]) HV.out e10) e11) (fun u hu => by cases hu; rfl), ⟨sd q0 hbc, sd q1 hbc, sd q2 hbc, sd q3 hbc, sd q4 hbc, stay_b hbl hbc⟩⟩
       ·have d3 := ready_dep hr (k := 3) (by kernel_rfl)
        have d12 := ready_dep hr (k := 12) (by kernel_rfl)
        clear hr
        have e3 : s 3 = .map (some nb) := HV.out.v d3 rfl
        have e12 : s 12 = aggT3 U := HV.out.v d12 rfl
        obtain ⟨q0, q1, q2, q3, q4, hbl⟩ := HST.out
        have hlk := HL5.out WN hbl
        refine wpOp_step rfl (fun K hK => ?_)
        go_simp
        refine hK _ _ ?_
        exact ⟨upd (upd (upd s 3 (.map (some nb))) 12 (aggT3 U)) 13 (.tuple #[.int .i64 (j : Int), .bool true]), rfl, Sv.put (Sv.re (j := 12) (v := aggT3 U) (Sv.re (j := 3) (v := .map (some nb)) HV.out e3) e12) (fun u hu => by cases hu; rfl), HST.out⟩
       ·have d13 := ready_dep hr (k := 13) (by kernel_rfl)
        clear hr
        have e13 : s 13 = .tuple #[.int .i64 (j : Int), .bool true] := HV.out.v d13 rfl
        refine wpOp_step rfl (fun K hK => ?_)
        go_simp
        refine hK _ _ ?_
        exact ⟨upd (upd s 13 (.tuple #[.int .i64 (j : Int), .bool true])) 14 (.tuple #[.int .i64 (j : Int), .bool true]), rfl, Sv.put (Sv.re (j := 13) (v := .tuple #[.int .i64 (j : Int), .bool true]) HV.out e13) (fun u hu => by cases hu; rfl), HST.out⟩
       ·have d14 := ready_dep hr (k := 14) (by kernel_rfl)
        clear hr
        have e14 : s 14 = .tuple #[.int .i64 (j : Int), .bool true] := HV.out.v d14 rfl
        refine wpOp_step rfl (fun K hK => ?_)
        go_simp
        refine hK _ _ ?_
        exact ⟨upd (upd s 14 (.tuple #[.int .i64 (j : Int), .bool true])) 15 (.int .i64 (j : Int)), rfl, Sv.put (Sv.re (j := 14) (v := .tuple #[.int .i64 (j : Int), .bool true]) HV.out e14) (fun u hu => by cases hu; rfl), HST.out⟩
       ·have d14 := ready_dep hr (k := 14) (by kernel_rfl)
        clear hr
        have e14 : s 14 = .tuple #[.int .i64 (j : Int), .bool true] := HV.out.v d14 rfl
        refine wpOp_step rfl (fun K hK => ?_)
        go_simp
        refine hK _ _ ?_
        exact ⟨upd (upd s 14 (.tuple #[.int .i64 (j : Int), .bool true])) 16 (.bool true), rfl, Sv.put (Sv.re (j := 14) (v := .tuple #[.int .i64 (j : Int), .bool true]) HV.out e14) (fun u hu => by cases hu; rfl), HST.out⟩
       ·have d15 := ready_dep hr (k := 15) (by kernel_rfl)
        clear hr
        have e15 : s 15 = .int .i64 (j : Int) := HV.out.v d15 rfl
        refine wpOp_step rfl (fun K hK => ?_)
        go_simp
        refine hK _ _ ?_
        exact ⟨upd (upd s 15 (.int .i64 (j : Int))) 17 (.int .i64 (j : Int)), rfl, Sv.put (Sv.re (j := 15) (v := .int .i64 (j : Int)) HV.out e15) (fun u hu => by cases hu; rfl), HST.out⟩
       ·have d16 := ready_dep hr (k := 16) (by kernel_rfl)
        clear hr
        have e16 : s 16 = .bool true := HV.out.v d16 rfl
        refine wpOp_step rfl (fun K hK => ?_)
        go_simp
        refine hK _ _ ?_
        exact ⟨upd (upd s 16 (.bool true)) 18 (.bool true), rfl, Sv.put (Sv.re (j := 16) (v := .bool true) HV.out e16) (fun u hu => by cases hu; rfl), HST.out⟩
      ·intro Lq aq WN hI hrd
       obtain ⟨s, ha, hv, hst⟩ := hI
       have hall := all_listedM hrd hv.sz (by kernel_rfl)
       clear hrd
       have e0 : s 0 = (.pointer (some ⟨pb, 0, none⟩)) := hv.v (hall 0 (by decide)) rfl
       have e1 : s 1 = (.pointer (some ⟨pb, 0, none⟩)) := hv.v (hall 1 (by decide)) rfl
       have e2 : s 2 = (.pointer (some ⟨pb, 5, none⟩)) := hv.v (hall 2 (by decide)) rfl
       have e3 : s 3 = (.map (some nb)) := hv.v (hall 3 (by decide)) rfl
       have e4 : s 4 = (.pointer (some ⟨pb, 0, none⟩)) := hv.v (hall 4 (by decide)) rfl
       have e5 : s 5 = (.pointer (some ⟨pb, 0, none⟩)) := hv.v (hall 5 (by decide)) rfl
       have e6 : s 6 = (.pointer (some ⟨pb, 4, none⟩)) := hv.v (hall 6 (by decide)) rfl
       have e7 : s 7 = (.slice (some ⟨gt, 0, none⟩) L.length ct) := hv.v (hall 7 (by decide)) rfl
       have e8 : s 8 = (.int .i64 (i : Int)) := hv.v (hall 8 (by decide)) rfl
       have e9 : s 9 = (.pointer (some ⟨gt, i * 3, none⟩)) := hv.v (hall 9 (by decide)) rfl
       have e10 : s 10 = (.agg #[.int .i64 t.1, .int .i64 t.2.1, .int .i64 t.2.2]) := hv.v (hall 10 (by decide)) rfl
       have e11 : s 11 = (.int .i64 (k : Int)) := hv.v (hall 11 (by decide)) rfl
       have e12 : s 12 = (aggT3 U) := hv.v (hall 12 (by decide)) rfl
       have e13 : s 13 = (.tuple #[.int .i64 (j : Int), .bool true]) := hv.v (hall 13 (by decide)) rfl
       have e14 : s 14 = (.tuple #[.int .i64 (j : Int), .bool true]) := hv.v (hall 14 (by decide)) rfl
       have e15 : s 15 = (.int .i64 (j : Int)) := hv.v (hall 15 (by decide)) rfl
       have e16 : s 16 = (.bool true) := hv.v (hall 16 (by decide)) rfl
       have e17 : s 17 = (.int .i64 (j : Int)) := hv.v (hall 17 (by decide)) rfl
       have e18 : s 18 = (.bool true) := hv.v (hall 18 (by decide)) rfl
       simp only [e0, e1, e2, e3, e4, e5, e6, e7, e8, e9, e10, e11, e12, e13, e14, e15, e16, e17, e18] at ha
       subst ha
       clear hall hv e0 e1 e2 e3 e4 e5 e6 e7 e8 e9 e10 e11 e12 e13 e14 e15 e16 e17 e18
       obtain ⟨q0, q1, q2, q3, q4, hbl⟩ := hst
       have HS9 := Lib.hid (HS7.out.below hbl)
       have x0 := sd x0 hbl
       have x1 := sd x1 hbl
       have x2 := sd x2 hbl
       have x3 := sd x3 hbl
       obtain ⟨z0, z1, z2, z3, z4, z5⟩ := HS9.out.row.at_ hM.out.1
       have hin2 : i < L.length := hin
       clear hbl q0 q1 q2 q3 q4
       obtain ⟨wj, hwj⟩ : ∃ x, x = WN := ⟨_, rfl⟩
       subst hwj
       go_wp2_with fail
       have kM0 := heap_alloc_new wj (.cells #[.int .i64 m.1, .int .i64 m.2.1, .int .i64 m.2.2.1, .int .i64 m.2.2.2.1, .int .i64 m.2.2.2.2.1, .int .i64 m.2.2.2.2.2] 57)
       have hb10 := below_new wj (.cells #[.int .i64 m.1, .int .i64 m.2.1, .int .i64 m.2.2.1, .int .i64 m.2.2.2.1, .int .i64 m.2.2.2.2.1, .int .i64 m.2.2.2.2.2] 57)
       have HS10 := Lib.hid (HS9.out.below hb10)
       have x0 := al_c x0 (.cells #[.int .i64 m.1, .int .i64 m.2.1, .int .i64 m.2.2.1, .int .i64 m.2.2.2.1, .int .i64 m.2.2.2.2.1, .int .i64 m.2.2.2.2.2] 57)
       have x1 := al_c x1 (.cells #[.int .i64 m.1, .int .i64 m.2.1, .int .i64 m.2.2.1, .int .i64 m.2.2.2.1, .int .i64 m.2.2.2.2.1, .int .i64 m.2.2.2.2.2] 57)
       have x2 := al_c x2 (.cells #[.int .i64 m.1, .int .i64 m.2.1, .int .i64 m.2.2.1, .int .i64 m.2.2.2.1, .int .i64 m.2.2.2.2.1, .int .i64 m.2.2.2.2.2] 57)
       have x3 := al_c x3 (.cells #[.int .i64 m.1, .int .i64 m.2.1, .int .i64 m.2.2.1, .int .i64 m.2.2.2.1, .int .i64 m.2.2.2.2.1, .int .i64 m.2.2.2.2.2] 57)
       have hp10 := HP.out.below HS10.out.bel
       have c6 := hp10.c6
       have lk := (hp10.kin.below (below_drewN (Below.refl _ _) 1) hp10.kin.lt).look1 HOK.out
       have hzn : wj.heap.size < (wj.alloc (.cells #[.int .i64 m.1, .int .i64 m.2.1, .int .i64 m.2.2.1, .int .i64 m.2.2.2.1, .int .i64 m.2.2.2.2.1, .int .i64 m.2.2.2.2.2] 57)).heap.size := by simp
       have HS9S := Lib.hid (show w.heap.size < wj.heap.size from blk_lt (show wj.heap[w.heap.size]? = _ from HS9.out.row))
       obtain ⟨KD, hKD⟩ : ∃ z, z = (fk E).getD 0 := ⟨_, rfl⟩
       rw [← hKD] at lk
       have hcz : C E = decide (KD = 0) := by rw [HC.out, hKD]; rfl
       have HCZ := Lib.hid hcz
       have KM0 := Lib.hid kM0
       clear hKD hp10 hb10 kM0 hcz HS9 z0 z1 z2 z3 z4 z5
       generalize wj.alloc (.cells #[.int .i64 m.1, .int .i64 m.2.1, .int .i64 m.2.2.1, .int .i64 m.2.2.2.1, .int .i64 m.2.2.2.2.1, .int .i64 m.2.2.2.2.2] 57) = w10 at x0 x1 x2 x3 c6 lk KM0 HS10 hzn ⊢
       have lk : (Instr.lookup 69 (.map (some kb)) (aggE E) false).run Tryz.prog w10.drew = .ok (.int .i64 KD) w10.drew := lk
       by_cases hkz : KD = 0
       ·have hkn : (KD != 0) = false := by simpa using hkz
        have HKZ := Lib.hid hkz
        clear hkz
        have hS := And.intro (show w10.drew.cell? ⟨wi.heap.size, 0, none⟩ = some (.int .i64 E.1) from x0) (And.intro (show w10.drew.cell? ⟨wi.heap.size, 1, none⟩ = some (.int .i64 E.2.1) from x1) (And.intro (show w10.drew.cell? ⟨wi.heap.size, 2, none⟩ = some (.int .i64 E.2.2.1) from x2) (And.intro (show w10.drew.cell? ⟨wi.heap.size, 3, none⟩ = some (.int .i64 E.2.2.2) from x3) (And.intro (show w10.drew.cell? ⟨pb, 6, none⟩ = some (.map (some kb)) from c6) (rfl : w10.drew = w10.drew)))))
        go_region_held3 (fun w' => w'.cell? ⟨wi.heap.size, 0, none⟩ = some (.int .i64 E.1) ∧ w'.cell? ⟨wi.heap.size, 1, none⟩ = some (.int .i64 E.2.1) ∧ w'.cell? ⟨wi.heap.size, 2, none⟩ = some (.int .i64 E.2.2.1) ∧ w'.cell? ⟨wi.heap.size, 3, none⟩ = some (.int .i64 E.2.2.2) ∧ w'.cell? ⟨pb, 6, none⟩ = some (.map (some kb)) ∧ w' = w10.drew)
         (first
          | with_reducible exact hS
          | with_reducible assumption)
         (first
          | fail)
        rename_i hSS
        clear hSS
        have HS11 := Lib.hid (HS10.out.below (Below.refl _ _).drew)
        have km : w10.drew.heap[wj.heap.size]? = some (.cells #[.int .i64 m.1, .int .i64 m.2.1, .int .i64 m.2.2.1, .int .i64 m.2.2.2.1, .int .i64 m.2.2.2.2.1, .int .i64 m.2.2.2.2.2] 57 (0, 0)) := KM0.out
        have x0 : w10.drew.cell? ⟨wi.heap.size, 0, none⟩ = _ := x0
        have x1 : w10.drew.cell? ⟨wi.heap.size, 1, none⟩ = _ := x1
        have x2 : w10.drew.cell? ⟨wi.heap.size, 2, none⟩ = _ := x2
        have x3 : w10.drew.cell? ⟨wi.heap.size, 3, none⟩ = _ := x3
        generalize w10.drew = w11 at HS11 km x0 x1 x2 x3 ⊢
        obtain ⟨hm1, hm1z⟩ := hM.out
        have hgv := HS11.out.inv.good i m hm1 hm1z
        have hgo := HGO.out _ hgv
        have hkn := known_le (z := zeroV) l
        have hll := HS11.out.inv.len
        have hcE : C E = true := by rw [HCZ.out]; exact decide_eq_true HKZ.out
        have hm' : stpL L C i k m = m := by rw [HST.out]; unfold stpV; rw [if_pos hcE]
        have KM := Lib.hid (LB.one km)
        have HS12 := Lib.hid HS11.out
        obtain ⟨m', hmm⟩ : ∃ m', m' = m := ⟨_, rfl⟩
        have hm' : stpL L C i k m = m' := hm'.trans hmm.symm
        rw [← hmm] at KM
        have hgm : GV (knownN zeroV l + 1) m' := by rw [hmm]; exact hgv.more
        have HMM := Lib.hid hm'
        have HGM := Lib.hid hgm
        clear hcE hm' hgv hgo hgm km x0 x1 x2 x3 HS11 hmm
        obtain ⟨wz, hwz⟩ : ∃ x, x = w11 := ⟨_, rfl⟩
        subst hwz
        obtain ⟨mj, hmj⟩ : ∃ mj, l[j]? = some mj := ⟨_, List.getElem?_eq_getElem (by omega)⟩
        obtain ⟨y0, y1, y2, y3, y4, y5⟩ := HS12.out.row.at_ hmj
        obtain ⟨l0, l1, l2, l3, l4, l5⟩ := KM.out.cells1
        have hjl2 : j < L.length := hjn
        have hm'z : stpL L C i k m ≠ zeroV := by rw [HMM.out]; exact gb_nz HGM.out
        have HMJ := Lib.hid hmj
        have HM1 := Lib.hid (And.intro hm1 hm1z)
        have HNZ := Lib.hid hm'z
        have HLL := Lib.hid hll
        clear hmj hm1 hm1z hm'z hM
        have r15 := eqM mj zeroV
        by_cases hz : mj = zeroV
        ·have hd : decide (mj = zeroV) = true := decide_eq_true hz
         rw [hd] at r15
         have r15 : ∀ w, (binOp .eql 57 (aggM mj) (.agg #[.int .i64 0, .int .i64 0, .int .i64 0, .int .i64 0, .int .i64 0, .int .i64 0])).run Tryz.prog w = .ok (.bool true) w := r15
         have fz := HS12.out.row.fz
         have HZ := Lib.hid hz
         have HMJ0 : Hid (l[j]? = some zeroV) := Lib.hid (HMJ.out.trans (by rw [hz]))
         have hs13 := HS12.out.row.set j m'
         have hq13 := HS12.out.que.setM (j := j) (m := m') (show wz.heap[w.heap.size]? = _ from HS12.out.row)
         have hb13 := set6_below2 HS12.out.bel HS12.out.ge j m'
         have HS13 := Lib.hid hs13
         have HQ13 := Lib.hid hq13
         have HB13 := Lib.hid hb13
         clear hz hs13 hq13 hb13 hd
         have hqle : q.length ≤ 100000 := by omega
         have hkl := known_lt HMJ0.out
         have hij : i ≠ j := by
          intro e
          have h1 := HM1.out.1
          rw [e, HMJ0.out] at h1
          exact HM1.out.2 (Option.some.inj h1).symm
         have hji2 : (j : Int) < (L.length : Int) := by omega
         have hj0 : (0 : Int) ≤ (j : Int) := by omega
         have hsz6 : (set6 wz w.heap.size j m').heap.size = wz.heap.size := by simp [set6]
         have hg13 : ((set6 wz w.heap.size j m').alloc (.cells #[.int .i64 ((j : Nat) : Int)] 3)).heap[wz.heap.size]? = some (.cells #[.int .i64 ((j : Nat) : Int)] 3 (0, 0)) := by
          rw [← hsz6]
          exact heap_alloc_new _ _
         have hq14 : Que w.heap.size ((set6 wz w.heap.size j m').alloc (.cells #[.int .i64 ((j : Nat) : Int)] 3)) (.slice A4 q.length c4') q := HQ13.out.below (below_new _ _)
         have hb14 : w.heap.size ≤ ((set6 wz w.heap.size j m').alloc (.cells #[.int .i64 ((j : Nat) : Int)] 3)).heap.size := Nat.le_trans HB13.out.size (below_new _ _).size
         have HG13 := Lib.hid hg13
         have HQ14 := Lib.hid hq14
         have HB14 := Lib.hid hb14
         clear hg13 hq14 hb14 hsz6
         go_wp2_with (at_builtin; change wpList _ _ _ _ _ ((set6 wz w.heap.size j m').alloc (.cells #[.int .i64 ((j : Nat) : Int)] 3)); go_loud (refine app_que rfl (.tmp 87) (.tmp 89) rfl rfl wz.heap.size j HG13.out rfl HQ14.out HB14.out hqle ?_); intro v9 w9 hq9 hb9 hk9 hs9)
         have hl9 : LB w9 w.heap.size (l.set j m') := by
          have h1 : LB ((set6 wz w.heap.size j m').alloc (.cells #[.int .i64 ((j : Nat) : Int)] 3)) w.heap.size (l.set j m') := HS13.out.below (below_new _ _)
          have h2 : ((set6 wz w.heap.size j m').alloc (.cells #[.int .i64 ((j : Nat) : Int)] 3)).heap[w.heap.size]? = _ := h1
          refine (hk9 w.heap.size ?_ (blk_lt h2)).trans h1
          intro t cs hh
          rw [h2] at hh
          simp only [Option.some.injEq, Obj.cells.injEq] at hh
          rw [← hh.2.1]
          decide
         have hb10 : Below w.heap.size w w9 := (ba HB13.out _).trans hb9
         have hinv := HS12.out.inv.new (i := i) (k := k) hk3 HM1.out.1 HM1.out.2 HNB.out HNZ.out HMJ0.out (fun b u h _ => h.more) (fun _ => by rw [HMM.out]; exact HGM.out)
         rw [HMM.out] at hinv
         have hm9 : (l.set j m')[i]? = some m := by rw [List.getElem?_set_ne (Ne.symm hij)]; exact HM1.out.1
         have hks := known_set (v := m') HMJ0.out (gb_nz HGM.out)
         have hcnt : (q ++ [j]).length + (L.length - knownN zeroV (l.set j m')) ≤ K0 := by
          rw [List.length_append, hks]
          have := HLL.out
          simp
          omega
         have HN := Lib.hid (show PlS w L C w.heap.size (l.set j m') (q ++ [j]) i (k + 1) v9 w9 from ⟨hinv, hl9, hq9, hb10, Nat.le_refl _⟩)
         have HM9 := Lib.hid (And.intro hm9 HM1.out.2)
         have HCNT := Lib.hid hcnt
         clear hl9 hb10 hinv hm9 hks hcnt hq9 hb9 hk9 hs9
         go_roundw
         case rel => exact ⟨k + 1, _, _, m, by omega, by go_num, HN, HM9, HCNT.out⟩
         case measure => simp [intOf]; omega
        ·have hd : decide (mj = zeroV) = false := decide_eq_false hz
         rw [hd] at r15
         have r15 : ∀ w, (binOp .eql 57 (aggM mj) (.agg #[.int .i64 0, .int .i64 0, .int .i64 0, .int .i64 0, .int .i64 0, .int .i64 0])).run Tryz.prog w = .ok (.bool false) w := r15
         have r18 := neM mj m'
         have hji2 : (j : Int) < (L.length : Int) := by omega
         have hj0 : (0 : Int) ≤ (j : Int) := by omega
         have HZ := Lib.hid hz
         clear hz hd
         by_cases heq : mj = m'
         ·have hd : (!decide (mj = m')) = false := by simp [heq]
          rw [hd] at r18
          have HEQ := Lib.hid heq
          clear heq hd
          go_wp2_with fail
          have hS18 := And.intro (show wz.drew.cell? ⟨w.heap.size, j * 6, none⟩ = some (.int .i64 mj.1) from y0) (And.intro (show wz.drew.cell? ⟨w.heap.size, j * 6 + 1, none⟩ = some (.int .i64 mj.2.1) from y1) (And.intro (show wz.drew.cell? ⟨w.heap.size, j * 6 + 2, none⟩ = some (.int .i64 mj.2.2.1) from y2) (And.intro (show wz.drew.cell? ⟨w.heap.size, j * 6 + 3, none⟩ = some (.int .i64 mj.2.2.2.1) from y3) (And.intro (show wz.drew.cell? ⟨w.heap.size, j * 6 + 4, none⟩ = some (.int .i64 mj.2.2.2.2.1) from y4) (And.intro (show wz.drew.cell? ⟨w.heap.size, j * 6 + 5, none⟩ = some (.int .i64 mj.2.2.2.2.2) from y5) (And.intro (show wz.drew.cell? ⟨wj.heap.size, 0, none⟩ = some (.int .i64 m'.1) from l0) (And.intro (show wz.drew.cell? ⟨wj.heap.size, 1, none⟩ = some (.int .i64 m'.2.1) from l1) (And.intro (show wz.drew.cell? ⟨wj.heap.size, 2, none⟩ = some (.int .i64 m'.2.2.1) from l2) (And.intro (show wz.drew.cell? ⟨wj.heap.size, 3, none⟩ = some (.int .i64 m'.2.2.2.1) from l3) (And.intro (show wz.drew.cell? ⟨wj.heap.size, 4, none⟩ = some (.int .i64 m'.2.2.2.2.1) from l4) (And.intro (show wz.drew.cell? ⟨wj.heap.size, 5, none⟩ = some (.int .i64 m'.2.2.2.2.2) from l5) (rfl : wz.drew = wz.drew))))))))))))
          go_region_held3 (fun w' => w'.cell? ⟨w.heap.size, j * 6, none⟩ = some (.int .i64 mj.1) ∧ w'.cell? ⟨w.heap.size, j * 6 + 1, none⟩ = some (.int .i64 mj.2.1) ∧ w'.cell? ⟨w.heap.size, j * 6 + 2, none⟩ = some (.int .i64 mj.2.2.1) ∧ w'.cell? ⟨w.heap.size, j * 6 + 3, none⟩ = some (.int .i64 mj.2.2.2.1) ∧ w'.cell? ⟨w.heap.size, j * 6 + 4, none⟩ = some (.int .i64 mj.2.2.2.2.1) ∧ w'.cell? ⟨w.heap.size, j * 6 + 5, none⟩ = some (.int .i64 mj.2.2.2.2.2) ∧ w'.cell? ⟨wj.heap.size, 0, none⟩ = some (.int .i64 m'.1) ∧ w'.cell? ⟨wj.heap.size, 1, none⟩ = some (.int .i64 m'.2.1) ∧ w'.cell? ⟨wj.heap.size, 2, none⟩ = some (.int .i64 m'.2.2.1) ∧ w'.cell? ⟨wj.heap.size, 3, none⟩ = some (.int .i64 m'.2.2.2.1) ∧ w'.cell? ⟨wj.heap.size, 4, none⟩ = some (.int .i64 m'.2.2.2.2.1) ∧ w'.cell? ⟨wj.heap.size, 5, none⟩ = some (.int .i64 m'.2.2.2.2.2) ∧ w' = wz.drew)
           (first
            | with_reducible exact hS18
            | with_reducible assumption)
           (first
            | fail)
          rename_i hSS18
          clear hSS18
          have hinv := HS12.out.inv.same (i := i) (k := k) HM1.out.1 HNB.out HNZ.out (by rw [HMM.out, ← HEQ.out]; exact HMJ.out)
          have HN := Lib.hid ((HS12.out.re hinv).below (below_drewN (Below.refl _ _) 1))
          clear hinv
          go_wp2
          go_roundw
          case rel => exact ⟨k + 1, l, q, m, by omega, by go_num, HN, HM1, hKl⟩
          case measure => simp [intOf]; omega
         ·have hd : (!decide (mj = m')) = true := by simp [heq]
          rw [hd] at r18
          have HEQ := Lib.hid heq
          clear heq hd
          go_wp2_with fail
          have hS18 := And.intro (show wz.drew.cell? ⟨w.heap.size, j * 6, none⟩ = some (.int .i64 mj.1) from y0) (And.intro (show wz.drew.cell? ⟨w.heap.size, j * 6 + 1, none⟩ = some (.int .i64 mj.2.1) from y1) (And.intro (show wz.drew.cell? ⟨w.heap.size, j * 6 + 2, none⟩ = some (.int .i64 mj.2.2.1) from y2) (And.intro (show wz.drew.cell? ⟨w.heap.size, j * 6 + 3, none⟩ = some (.int .i64 mj.2.2.2.1) from y3) (And.intro (show wz.drew.cell? ⟨w.heap.size, j * 6 + 4, none⟩ = some (.int .i64 mj.2.2.2.2.1) from y4) (And.intro (show wz.drew.cell? ⟨w.heap.size, j * 6 + 5, none⟩ = some (.int .i64 mj.2.2.2.2.2) from y5) (And.intro (show wz.drew.cell? ⟨wj.heap.size, 0, none⟩ = some (.int .i64 m'.1) from l0) (And.intro (show wz.drew.cell? ⟨wj.heap.size, 1, none⟩ = some (.int .i64 m'.2.1) from l1) (And.intro (show wz.drew.cell? ⟨wj.heap.size, 2, none⟩ = some (.int .i64 m'.2.2.1) from l2) (And.intro (show wz.drew.cell? ⟨wj.heap.size, 3, none⟩ = some (.int .i64 m'.2.2.2.1) from l3) (And.intro (show wz.drew.cell? ⟨wj.heap.size, 4, none⟩ = some (.int .i64 m'.2.2.2.2.1) from l4) (And.intro (show wz.drew.cell? ⟨wj.heap.size, 5, none⟩ = some (.int .i64 m'.2.2.2.2.2) from l5) (rfl : wz.drew = wz.drew))))))))))))
          go_region_held3 (fun w' => w'.cell? ⟨w.heap.size, j * 6, none⟩ = some (.int .i64 mj.1) ∧ w'.cell? ⟨w.heap.size, j * 6 + 1, none⟩ = some (.int .i64 mj.2.1) ∧ w'.cell? ⟨w.heap.size, j * 6 + 2, none⟩ = some (.int .i64 mj.2.2.1) ∧ w'.cell? ⟨w.heap.size, j * 6 + 3, none⟩ = some (.int .i64 mj.2.2.2.1) ∧ w'.cell? ⟨w.heap.size, j * 6 + 4, none⟩ = some (.int .i64 mj.2.2.2.2.1) ∧ w'.cell? ⟨w.heap.size, j * 6 + 5, none⟩ = some (.int .i64 mj.2.2.2.2.2) ∧ w'.cell? ⟨wj.heap.size, 0, none⟩ = some (.int .i64 m'.1) ∧ w'.cell? ⟨wj.heap.size, 1, none⟩ = some (.int .i64 m'.2.1) ∧ w'.cell? ⟨wj.heap.size, 2, none⟩ = some (.int .i64 m'.2.2.1) ∧ w'.cell? ⟨wj.heap.size, 3, none⟩ = some (.int .i64 m'.2.2.2.1) ∧ w'.cell? ⟨wj.heap.size, 4, none⟩ = some (.int .i64 m'.2.2.2.2.1) ∧ w'.cell? ⟨wj.heap.size, 5, none⟩ = some (.int .i64 m'.2.2.2.2.2) ∧ w' = wz.drew)
           (first
            | with_reducible exact hS18
            | with_reducible assumption)
           (first
            | fail)
          rename_i hSS18
          clear hSS18
          have hcl := HS12.out.inv.clash (i := i) (k := k) hk3 HM1.out.1 HM1.out.2 HNB.out HMJ.out HZ.out (by rw [HMM.out]; exact HEQ.out)
          have HCL := Lib.hid hcl
          have HBF := Lib.hid (HS12.out.bel.trans ((below_drewN (Below.refl wz.heap.size wz) 1).mono HS12.out.bel.size))
          clear hcl
          go_wp2
          exact bodyPost_ret (v := .tuple #[.slice none 0 0, .bool false]) (by simp [results, Tryz.results27, go_sem]) rfl ⟨HBF.out, .inl ⟨(by first | exact HCL.out | exact not_exists.1 HCL.out), rfl⟩⟩
       ·have hkn : (KD != 0) = true := by simpa using hkz
        have HKZ := Lib.hid hkz
        clear hkz
        have hS := And.intro (show w10.drew.cell? ⟨wi.heap.size, 0, none⟩ = some (.int .i64 E.1) from x0) (And.intro (show w10.drew.cell? ⟨wi.heap.size, 1, none⟩ = some (.int .i64 E.2.1) from x1) (And.intro (show w10.drew.cell? ⟨wi.heap.size, 2, none⟩ = some (.int .i64 E.2.2.1) from x2) (And.intro (show w10.drew.cell? ⟨wi.heap.size, 3, none⟩ = some (.int .i64 E.2.2.2) from x3) (And.intro (show w10.drew.cell? ⟨pb, 6, none⟩ = some (.map (some kb)) from c6) (rfl : w10.drew = w10.drew)))))
        go_region_held3 (fun w' => w'.cell? ⟨wi.heap.size, 0, none⟩ = some (.int .i64 E.1) ∧ w'.cell? ⟨wi.heap.size, 1, none⟩ = some (.int .i64 E.2.1) ∧ w'.cell? ⟨wi.heap.size, 2, none⟩ = some (.int .i64 E.2.2.1) ∧ w'.cell? ⟨wi.heap.size, 3, none⟩ = some (.int .i64 E.2.2.2) ∧ w'.cell? ⟨pb, 6, none⟩ = some (.map (some kb)) ∧ w' = w10.drew)
         (first
          | with_reducible exact hS
          | with_reducible assumption)
         (first
          | fail)
        rename_i hSS
        clear hSS
        have HS11 := Lib.hid (HS10.out.below (Below.refl _ _).drew)
        have km : w10.drew.heap[wj.heap.size]? = some (.cells #[.int .i64 m.1, .int .i64 m.2.1, .int .i64 m.2.2.1, .int .i64 m.2.2.2.1, .int .i64 m.2.2.2.2.1, .int .i64 m.2.2.2.2.2] 57 (0, 0)) := KM0.out
        have x0 : w10.drew.cell? ⟨wi.heap.size, 0, none⟩ = _ := x0
        have x1 : w10.drew.cell? ⟨wi.heap.size, 1, none⟩ = _ := x1
        have x2 : w10.drew.cell? ⟨wi.heap.size, 2, none⟩ = _ := x2
        have x3 : w10.drew.cell? ⟨wi.heap.size, 3, none⟩ = _ := x3
        generalize w10.drew = w11 at HS11 km x0 x1 x2 x3 ⊢
        go_wp2_with fail
        obtain ⟨hm1, hm1z⟩ := hM.out
        have hgv := HS11.out.inv.good i m hm1 hm1z
        have hgo := HGO.out _ hgv
        have hkn := known_le (z := zeroV) l
        have hll := HS11.out.inv.len
        have hcE : C E = false := by rw [HCZ.out]; exact decide_eq_false HKZ.out
        have hm' : stpL L C i k m = afterV (mirB (lnW E) (lnC E)) m := by rw [HST.out]; unfold stpV; rw [hcE]; rfl
        have hr := lnW_rng E
        have hc := lnC_bd HKE.out
        have hg1 := gb_mir hr.1 hr.2 hc.1 hc.2
        have cL := fun (W' : World) => lineP_any E W' HKE.out
        obtain ⟨la, hla⟩ : ∃ x, x = lnW E := ⟨_, rfl⟩
        obtain ⟨lc, hlc⟩ : ∃ x, x = lnC E := ⟨_, rfl⟩
        rw [← hla, ← hlc] at hm' hg1
        rw [← hla, ← hlc] at cL
        rw [← hlc] at hc
        have cM := fun (W' : World) => mirror_any la lc W' (by omega) (by omega)
        obtain ⟨M1, hM1⟩ : ∃ x, x = mirB la lc := ⟨_, rfl⟩
        rw [← hM1] at cM hm' hg1
        have cA := fun (W' : World) => after_any M1.1 M1.2.1 M1.2.2.1 M1.2.2.2.1 M1.2.2.2.2.1 M1.2.2.2.2.2 m.1 m.2.1 m.2.2.1 m.2.2.2.1 m.2.2.2.2.1 m.2.2.2.2.2 W' (gb_sm hg1 (by decide)) (gb_sm hgv (by omega))
        obtain ⟨m', hmm⟩ : ∃ m', m' = afterV M1 m := ⟨_, rfl⟩
        have cA2 : ∀ W' : World, Calls Tryz.prog 53 #[aggM M1, aggM m] W' fun e' w' => e' = .returned (aggM m') ∧ Below W'.heap.size W' w' := fun W' => by rw [hmm]; exact cA W'
        rw [← hmm] at hm'
        rw [← HST.out, hm'] at hgo
        have CL := Lib.hid cL
        have CMI := Lib.hid cM
        have CA := Lib.hid cA2
        have HMM := Lib.hid hm'
        have HGM := Lib.hid hgo
        have KM0' := Lib.hid (LB.one km)
        clear hcE hm' hr hc hg1 cL cM cA cA2 hla hlc hM1 hmm hgv hgo
        refine wp_region_inv (fun Lq aq WN => ∃ s : Nat → Value, aq = { tmps := #[.pointer (some ⟨pb, 0, none⟩), undef, u2, u3, .slice (some ⟨w.heap.size, 0, none⟩) L.length L.length, .slice A4 q.length c4', .int .i64 (i : Int), .int .i64 (k : Int), .pointer (some ⟨wi.heap.size, 0, none⟩), .int .i64 (j : Int), .bool true, .pointer (some ⟨wj.heap.size, 0, none⟩), .pointer (some ⟨pb, 0, none⟩), .pointer (some ⟨pb, 0, none⟩), .pointer (some ⟨pb, 4, none⟩), .slice (some ⟨gt, 0, none⟩) L.length ct, .int .i64 (L.length : Int), .slice (some ⟨w.heap.size, 0, none⟩) L.length L.length, .slice (some ⟨w.heap.size, 0, none⟩) L.length L.length, aggM stillV, .pointer (some ⟨w.heap.size, 0, none⟩), .slice (some ⟨w1.heap.size, 0, none⟩) 1 1, .slice (some ⟨gq, oq, none⟩) (qo.length + 1) cq, .int .i64 ((qo.length : Int) + 1), .bool true, .slice (some ⟨gq, oq, none⟩) (qo.length + 1) cq, .pointer (some ⟨gq, oq, none⟩), .int .i64 (i : Int), .slice (some ⟨gq, oq, none⟩) (qo.length + 1) cq, .slice A3 qo.length c3, .pointer (some ⟨pb, 0, none⟩), .pointer (some ⟨pb, 0, none⟩), .pointer (some ⟨pb, 4, none⟩), .slice (some ⟨gt, 0, none⟩) L.length ct, .int .i64 (i : Int), .pointer (some ⟨gt, i * 3, none⟩), .agg #[.int .i64 t.1, .int .i64 t.2.1, .int .i64 t.2.2], agg3E (edgeT t.1 t.2.1 t.2.2 0) (edgeT t.1 t.2.1 t.2.2 1) (edgeT t.1 t.2.1 t.2.2 2), .int .i64 (k : Int), .bool true, .int .i64 (k : Int), aggE E, .tuple #[.int .i64 (j : Int), .bool true], .pointer (some ⟨pb, 0, none⟩), .pointer (some ⟨pb, 0, none⟩), .pointer (some ⟨pb, 5, none⟩), .map (some nb), .pointer (some ⟨pb, 0, none⟩), .pointer (some ⟨pb, 0, none⟩), .pointer (some ⟨pb, 4, none⟩), .slice (some ⟨gt, 0, none⟩) L.length ct, .int .i64 (i : Int), .pointer (some ⟨gt, i * 3, none⟩), .agg #[.int .i64 t.1, .int .i64 t.2.1, .int .i64 t.2.2], .int .i64 (k : Int), aggT3 U, .tuple #[.int .i64 (j : Int), .bool true], .int .i64 (j : Int), .bool true, .bool true, .bool false, .slice (some ⟨w.heap.size, 0, none⟩) L.length L.length, .int .i64 (i : Int), .pointer (some ⟨w.heap.size, i * 6, none⟩), .agg #[.int .i64 m.1, .int .i64 m.2.1, .int .i64 m.2.2.1, .int .i64 m.2.2.2.1, .int .i64 m.2.2.2.2.1, .int .i64 m.2.2.2.2.2], .pointer (some ⟨pb, 0, none⟩), .pointer (some ⟨pb, 0, none⟩), .pointer (some ⟨pb, 6, none⟩), .map (some kb), .agg #[.int .i64 E.1, .int .i64 E.2.1, .int .i64 E.2.2.1, .int .i64 E.2.2.2], .int .i64 KD, .bool true, (s 0), (s 1), (s 2), (s 3), (s 4), u77, u78, u79, u80, u81, u82, u83, u84, u85, u86, u87, u88, u89, u90, u91, u92, u93, u94, u95, u96, u97, undef], defers := [] } ∧ Sv 6 [some (aggE E), some (aggL la lc), some (aggM M1), some (aggM m), some (aggM m'), some (undef)] Lq s ∧ Cl [(5, 0), (5, 1), (5, 2), (5, 3), (5, 4)] Lq ∧ (Lq.getD 5 false = false → WN.cell? ⟨wi.heap.size, 0, none⟩ = some (.int .i64 E.1) ∧ WN.cell? ⟨wi.heap.size, 1, none⟩ = some (.int .i64 E.2.1) ∧ WN.cell? ⟨wi.heap.size, 2, none⟩ = some (.int .i64 E.2.2.1) ∧ WN.cell? ⟨wi.heap.size, 3, none⟩ = some (.int .i64 E.2.2.2) ∧ Below w11.heap.size w11 WN) ∧ (Lq.getD 5 false = true → ∃ W0 : World, (W0.cell? ⟨wi.heap.size, 0, none⟩ = some (.int .i64 E.1) ∧ W0.cell? ⟨wi.heap.size, 1, none⟩ = some (.int .i64 E.2.1) ∧ W0.cell? ⟨wi.heap.size, 2, none⟩ = some (.int .i64 E.2.2.1) ∧ W0.cell? ⟨wi.heap.size, 3, none⟩ = some (.int .i64 E.2.2.2) ∧ Below w11.heap.size w11 W0) ∧ WN = set6 W0 wj.heap.size 0 m')) (by kernel_rfl) ?_ ?_ ?_
        ·exact ⟨listF [u72, u73, u74, u75, u76, undef], rfl, Sv.start 6 _ _, Cl.start _ _, fun _ => ⟨x0, x1, x2, x3, (Below.refl _ _).drew⟩, fun h => (by rw [getD_replicate_false] at h; cases h)⟩
        ·intro Lq aq WN i0 hI hr
         obtain ⟨s, rfl, hv, hcl, hst, _⟩ := hI
         have hi0 : i0 < 6 := ready_lt hr
         have hno := (mem_ready.1 hr).1
         have hsz := hv.sz
         have HV := Lib.hid hv
         have HST := Lib.hid hst
         have HCL := Lib.hid hcl
         clear hv hst hcl
         have hii : i0 = 0 ∨ i0 = 1 ∨ i0 = 2 ∨ i0 = 3 ∨ i0 = 4 ∨ i0 = 5 := by omega
         clear hi0
         rcases hii with rfl | rfl | rfl | rfl | rfl | rfl
         ·clear hr
          have hs0 : Lq.getD 5 false = false := HCL.out.no (i := 0) (by decide) hno
          obtain ⟨q0, q1, q2, q3, hbl⟩ := HST.out hs0
          refine wpOp_step rfl (fun K hK => ?_)
          go_simp
          refine hK _ _ ?_
          exact ⟨upd s 0 (aggE E), rfl, Sv.put HV.out (fun u hu => by cases hu; rfl), Cl.set HCL.out (by simp only [List.mem_cons, List.not_mem_nil, or_false]; rintro p (rfl | rfl | rfl | rfl | rfl) hp <;> first | assumption | (simp at hp; done)), fun _ => HST.out hs0, (fun hh => by rw [set_other (show (0 : Nat) ≠ 5 by decide), hs0] at hh; cases hh)⟩
         ·have d0 := ready_dep hr (k := 0) (by kernel_rfl)
          clear hr
          have hs0 : Lq.getD 5 false = false := HCL.out.no (i := 1) (by decide) hno
          have e0 : s 0 = aggE E := HV.out.v d0 rfl
          obtain ⟨q0, q1, q2, q3, hbl⟩ := HST.out hs0
          refine wpOp_step rfl (fun K hK => ?_)
          go_simp
          refine (CL.out _).mono ?_
          rintro e' wc ⟨he, hbc⟩
          subst he
          refine hK _ _ ?_
          exact ⟨upd (upd s 0 (aggE E)) 1 (aggL la lc), rfl, Sv.put (Sv.re (j := 0) (v := aggE E) HV.out e0) (fun u hu => by cases hu; rfl), Cl.set HCL.out (by simp only [List.mem_cons, List.not_mem_nil, or_false]; rintro p (rfl | rfl | rfl | rfl | rfl) hp <;> first | assumption | (simp at hp; done)), fun _ => ⟨sd q0 hbc, sd q1 hbc, sd q2 hbc, sd q3 hbc, stay_b hbl hbc⟩, (fun hh => by rw [set_other (show (1 : Nat) ≠ 5 by decide), hs0] at hh; cases hh)⟩
         ·have d1 := ready_dep hr (k := 1) (by kernel_rfl)
          clear hr
          have hs0 : Lq.getD 5 false = false := HCL.out.no (i := 2) (by decide) hno
          have e1 : s 1 = aggL la lc := HV.out.v d1 rfl
          obtain ⟨q0, q1, q2, q3, hbl⟩ := HST.out hs0
          refine wpOp_step rfl (fun K hK => ?_)
          go_simp
          refine (CMI.out _).mono ?_
          rintro e' wc ⟨he, hbc⟩
          subst he
          refine hK _ _ ?_
          exact ⟨upd (upd s 1 (aggL la lc)) 2 (aggM M1), rfl, Sv.put (Sv.re (j := 1) (v := aggL la lc) HV.out e1) (fun u hu => by cases hu; rfl), Cl.set HCL.out (by simp only [List.mem_cons, List.not_mem_nil, or_false]; rintro p (rfl | rfl | rfl | rfl | rfl) hp <;> first | assumption | (simp at hp; done)), fun _ => ⟨sd q0 hbc, sd q1 hbc, sd q2 hbc, sd q3 hbc, stay_b hbl hbc⟩, (fun hh => by rw [set_other (show (2 : Nat) ≠ 5 by decide), hs0] at hh; cases hh)⟩
         ·clear hr
          have hs0 : Lq.getD 5 false = false := HCL.out.no (i := 3) (by decide) hno
          obtain ⟨q0, q1, q2, q3, hbl⟩ := HST.out hs0
          have kmW := KM0'.out.below hbl
          obtain ⟨l0, l1, l2, l3, l4, l5⟩ := kmW.cells1
          refine wpOp_step rfl (fun K hK => ?_)
          go_simp
          refine hK _ _ ?_
          exact ⟨upd s 3 (aggM m), rfl, Sv.put HV.out (fun u hu => by cases hu; rfl), Cl.set HCL.out (by simp only [List.mem_cons, List.not_mem_nil, or_false]; rintro p (rfl | rfl | rfl | rfl | rfl) hp <;> first | assumption | (simp at hp; done)), fun _ => HST.out hs0, (fun hh => by rw [set_other (show (3 : Nat) ≠ 5 by decide), hs0] at hh; cases hh)⟩
         ·have d2 := ready_dep hr (k := 2) (by kernel_rfl)
          have d3 := ready_dep hr (k := 3) (by kernel_rfl)
          clear hr
          have hs0 : Lq.getD 5 false = false := HCL.out.no (i := 4) (by decide) hno
          have e2 : s 2 = aggM M1 := HV.out.v d2 rfl
          have e3 : s 3 = aggM m := HV.out.v d3 rfl
          obtain ⟨q0, q1, q2, q3, hbl⟩ := HST.out hs0
          refine wpOp_step rfl (fun K hK => ?_)
          go_simp
          refine (CA.out _).mono ?_
          rintro e' wc ⟨he, hbc⟩
          subst he
          refine hK _ _ ?_
          exact ⟨upd (upd (upd s 2 (aggM M1)) 3 (aggM m)) 4 (aggM m'), rfl, Sv.put (Sv.re (j := 3) (v := aggM m) (Sv.re (j := 2) (v := aggM M1) HV.out e2) e3) (fun u hu => by cases hu; rfl), Cl.set HCL.out (by simp only [List.mem_cons, List.not_mem_nil, or_false]; rintro p (rfl | rfl | rfl | rfl | rfl) hp <;> first | assumption | (simp at hp; done)), fun _ => ⟨sd q0 hbc, sd q1 hbc, sd q2 hbc, sd q3 hbc, stay_b hbl hbc⟩, (fun hh => by rw [set_other (show (4 : Nat) ≠ 5 by decide), hs0] at hh; cases hh)⟩
         ·have d0 := ready_dep hr (k := 0) (by kernel_rfl)
          have d1 := ready_dep hr (k := 1) (by kernel_rfl)
          have d2 := ready_dep hr (k := 2) (by kernel_rfl)
          have d3 := ready_dep hr (k := 3) (by kernel_rfl)
          have d4 := ready_dep hr (k := 4) (by kernel_rfl)
          clear hr
          have hs0 : Lq.getD 5 false = false := getD_both hno
          have e4 : s 4 = aggM m' := HV.out.v d4 rfl
          obtain ⟨q0, q1, q2, q3, hbl⟩ := HST.out hs0
          have kmW := KM0'.out.below hbl
          obtain ⟨l0, l1, l2, l3, l4, l5⟩ := kmW.cells1
          have fz := kmW.fz
          refine wpOp_step rfl (fun K hK => ?_)
          go_simp
          refine hK _ _ ?_
          exact ⟨upd (upd s 4 (aggM m')) 5 undef, rfl, Sv.put (Sv.re (j := 4) (v := aggM m') HV.out e4) (fun u hu => by cases hu; rfl), Cl.set HCL.out (by simp only [List.mem_cons, List.not_mem_nil, or_false]; rintro p (rfl | rfl | rfl | rfl | rfl) hp <;> first | assumption | (simp at hp; done)), (fun hh => by rw [set_self hsz (by decide)] at hh; cases hh), fun _ => ⟨WN, HST.out hs0, rfl⟩⟩
        ·intro Lq aq WN hI hrd
         obtain ⟨s, ha, hv, _, _, hst⟩ := hI
         have hall := all_listedM hrd hv.sz (by kernel_rfl)
         clear hrd
         have e0 : s 0 = (aggE E) := hv.v (hall 0 (by decide)) rfl
         have e1 : s 1 = (aggL la lc) := hv.v (hall 1 (by decide)) rfl
         have e2 : s 2 = (aggM M1) := hv.v (hall 2 (by decide)) rfl
         have e3 : s 3 = (aggM m) := hv.v (hall 3 (by decide)) rfl
         have e4 : s 4 = (aggM m') := hv.v (hall 4 (by decide)) rfl
         simp only [e0, e1, e2, e3, e4] at ha
         subst ha
         obtain ⟨W0, hst0, hWN⟩ := hst (hall 5 (by decide))
         clear hall hv hst e0 e1 e2 e3 e4
         obtain ⟨q0, q1, q2, q3, hbl⟩ := hst0
         have hkW := KM0'.out.below hbl
         have hkh : W0.heap[wj.heap.size]? = _ := hkW
         have hs12 := (HS11.out.below hbl).box6 hkh (by have := HS9S.out; omega) (by have := HS9S.out; omega) m'
         have KM := Lib.hid (hkW.set 0 m')
         rw [← hWN] at hs12 KM
         have KM : Hid (LB WN wj.heap.size [m']) := KM
         have HS12 := Lib.hid hs12
         obtain ⟨wz, hwz⟩ : ∃ x, x = WN := ⟨_, rfl⟩
         subst hwz
         clear hkW hkh hs12 hWN hbl q0 q1 q2 q3 KM0' x0 x1 x2 x3 km HS11
         obtain ⟨mj, hmj⟩ : ∃ mj, l[j]? = some mj := ⟨_, List.getElem?_eq_getElem (by omega)⟩
         obtain ⟨y0, y1, y2, y3, y4, y5⟩ := HS12.out.row.at_ hmj
         obtain ⟨l0, l1, l2, l3, l4, l5⟩ := KM.out.cells1
         have hjl2 : j < L.length := hjn
         have hm'z : stpL L C i k m ≠ zeroV := by rw [HMM.out]; exact gb_nz HGM.out
         have HMJ := Lib.hid hmj
         have HM1 := Lib.hid (And.intro hm1 hm1z)
         have HNZ := Lib.hid hm'z
         have HLL := Lib.hid hll
         clear hmj hm1 hm1z hm'z hM
         have r15 := eqM mj zeroV
         by_cases hz : mj = zeroV
         ·have hd : decide (mj = zeroV) = true := decide_eq_true hz
          rw [hd] at r15
          have r15 : ∀ w, (binOp .eql 57 (aggM mj) (.agg #[.int .i64 0, .int .i64 0, .int .i64 0, .int .i64 0, .int .i64 0, .int .i64 0])).run Tryz.prog w = .ok (.bool true) w := r15
          have fz := HS12.out.row.fz
          have HZ := Lib.hid hz
          have HMJ0 : Hid (l[j]? = some zeroV) := Lib.hid (HMJ.out.trans (by rw [hz]))
          have hs13 := HS12.out.row.set j m'
          have hq13 := HS12.out.que.setM (j := j) (m := m') (show wz.heap[w.heap.size]? = _ from HS12.out.row)
          have hb13 := set6_below2 HS12.out.bel HS12.out.ge j m'
          have HS13 := Lib.hid hs13
          have HQ13 := Lib.hid hq13
          have HB13 := Lib.hid hb13
          clear hz hs13 hq13 hb13 hd
          have hqle : q.length ≤ 100000 := by omega
          have hkl := known_lt HMJ0.out
          have hij : i ≠ j := by
           intro e
           have h1 := HM1.out.1
           rw [e, HMJ0.out] at h1
           exact HM1.out.2 (Option.some.inj h1).symm
          have hji2 : (j : Int) < (L.length : Int) := by omega
          have hj0 : (0 : Int) ≤ (j : Int) := by omega
          have hsz6 : (set6 wz w.heap.size j m').heap.size = wz.heap.size := by simp [set6]
          have hg13 : ((set6 wz w.heap.size j m').alloc (.cells #[.int .i64 ((j : Nat) : Int)] 3)).heap[wz.heap.size]? = some (.cells #[.int .i64 ((j : Nat) : Int)] 3 (0, 0)) := by
           rw [← hsz6]
           exact heap_alloc_new _ _
          have hq14 : Que w.heap.size ((set6 wz w.heap.size j m').alloc (.cells #[.int .i64 ((j : Nat) : Int)] 3)) (.slice A4 q.length c4') q := HQ13.out.below (below_new _ _)
          have hb14 : w.heap.size ≤ ((set6 wz w.heap.size j m').alloc (.cells #[.int .i64 ((j : Nat) : Int)] 3)).heap.size := Nat.le_trans HB13.out.size (below_new _ _).size
          have HG13 := Lib.hid hg13
          have HQ14 := Lib.hid hq14
          have HB14 := Lib.hid hb14
          clear hg13 hq14 hb14 hsz6
          go_wp2_with (at_builtin; change wpList _ _ _ _ _ ((set6 wz w.heap.size j m').alloc (.cells #[.int .i64 ((j : Nat) : Int)] 3)); go_loud (refine app_que rfl (.tmp 87) (.tmp 89) rfl rfl wz.heap.size j HG13.out rfl HQ14.out HB14.out hqle ?_); intro v9 w9 hq9 hb9 hk9 hs9)
          have hl9 : LB w9 w.heap.size (l.set j m') := by
           have h1 : LB ((set6 wz w.heap.size j m').alloc (.cells #[.int .i64 ((j : Nat) : Int)] 3)) w.heap.size (l.set j m') := HS13.out.below (below_new _ _)
           have h2 : ((set6 wz w.heap.size j m').alloc (.cells #[.int .i64 ((j : Nat) : Int)] 3)).heap[w.heap.size]? = _ := h1
           refine (hk9 w.heap.size ?_ (blk_lt h2)).trans h1
           intro t cs hh
           rw [h2] at hh
           simp only [Option.some.injEq, Obj.cells.injEq] at hh
           rw [← hh.2.1]
           decide
          have hb10 : Below w.heap.size w w9 := (ba HB13.out _).trans hb9
          have hinv := HS12.out.inv.new (i := i) (k := k) hk3 HM1.out.1 HM1.out.2 HNB.out HNZ.out HMJ0.out (fun b u h _ => h.more) (fun _ => by rw [HMM.out]; exact HGM.out)
          rw [HMM.out] at hinv
          have hm9 : (l.set j m')[i]? = some m := by rw [List.getElem?_set_ne (Ne.symm hij)]; exact HM1.out.1
          have hks := known_set (v := m') HMJ0.out (gb_nz HGM.out)
          have hcnt : (q ++ [j]).length + (L.length - knownN zeroV (l.set j m')) ≤ K0 := by
           rw [List.length_append, hks]
           have := HLL.out
           simp
           omega
          have HN := Lib.hid (show PlS w L C w.heap.size (l.set j m') (q ++ [j]) i (k + 1) v9 w9 from ⟨hinv, hl9, hq9, hb10, Nat.le_refl _⟩)
          have HM9 := Lib.hid (And.intro hm9 HM1.out.2)
          have HCNT := Lib.hid hcnt
          clear hl9 hb10 hinv hm9 hks hcnt hq9 hb9 hk9 hs9
          go_roundw
          case rel => exact ⟨k + 1, _, _, m, by omega, by go_num, HN, HM9, HCNT.out⟩
          case measure => simp [intOf]; omega
         ·have hd : decide (mj = zeroV) = false := decide_eq_false hz
          rw [hd] at r15
          have r15 : ∀ w, (binOp .eql 57 (aggM mj) (.agg #[.int .i64 0, .int .i64 0, .int .i64 0, .int .i64 0, .int .i64 0, .int .i64 0])).run Tryz.prog w = .ok (.bool false) w := r15
          have r18 := neM mj m'
          have hji2 : (j : Int) < (L.length : Int) := by omega
          have hj0 : (0 : Int) ≤ (j : Int) := by omega
          have HZ := Lib.hid hz
          clear hz hd
          by_cases heq : mj = m'
          ·have hd : (!decide (mj = m')) = false := by simp [heq]
           rw [hd] at r18
           have HEQ := Lib.hid heq
           clear heq hd
           go_wp2_with fail
           have hS18 := And.intro (show wz.drew.cell? ⟨w.heap.size, j * 6, none⟩ = some (.int .i64 mj.1) from y0) (And.intro (show wz.drew.cell? ⟨w.heap.size, j * 6 + 1, none⟩ = some (.int .i64 mj.2.1) from y1) (And.intro (show wz.drew.cell? ⟨w.heap.size, j * 6 + 2, none⟩ = some (.int .i64 mj.2.2.1) from y2) (And.intro (show wz.drew.cell? ⟨w.heap.size, j * 6 + 3, none⟩ = some (.int .i64 mj.2.2.2.1) from y3) (And.intro (show wz.drew.cell? ⟨w.heap.size, j * 6 + 4, none⟩ = some (.int .i64 mj.2.2.2.2.1) from y4) (And.intro (show wz.drew.cell? ⟨w.heap.size, j * 6 + 5, none⟩ = some (.int .i64 mj.2.2.2.2.2) from y5) (And.intro (show wz.drew.cell? ⟨wj.heap.size, 0, none⟩ = some (.int .i64 m'.1) from l0) (And.intro (show wz.drew.cell? ⟨wj.heap.size, 1, none⟩ = some (.int .i64 m'.2.1) from l1) (And.intro (show wz.drew.cell? ⟨wj.heap.size, 2, none⟩ = some (.int .i64 m'.2.2.1) from l2) (And.intro (show wz.drew.cell? ⟨wj.heap.size, 3, none⟩ = some (.int .i64 m'.2.2.2.1) from l3) (And.intro (show wz.drew.cell? ⟨wj.heap.size, 4, none⟩ = some (.int .i64 m'.2.2.2.2.1) from l4) (And.intro (show wz.drew.cell? ⟨wj.heap.size, 5, none⟩ = some (.int .i64 m'.2.2.2.2.2) from l5) (rfl : wz.drew = wz.drew))))))))))))
           go_region_held3 (fun w' => w'.cell? ⟨w.heap.size, j * 6, none⟩ = some (.int .i64 mj.1) ∧ w'.cell? ⟨w.heap.size, j * 6 + 1, none⟩ = some (.int .i64 mj.2.1) ∧ w'.cell? ⟨w.heap.size, j * 6 + 2, none⟩ = some (.int .i64 mj.2.2.1) ∧ w'.cell? ⟨w.heap.size, j * 6 + 3, none⟩ = some (.int .i64 mj.2.2.2.1) ∧ w'.cell? ⟨w.heap.size, j * 6 + 4, none⟩ = some (.int .i64 mj.2.2.2.2.1) ∧ w'.cell? ⟨w.heap.size, j * 6 + 5, none⟩ = some (.int .i64 mj.2.2.2.2.2) ∧ w'.cell? ⟨wj.heap.size, 0, none⟩ = some (.int .i64 m'.1) ∧ w'.cell? ⟨wj.heap.size, 1, none⟩ = some (.int .i64 m'.2.1) ∧ w'.cell? ⟨wj.heap.size, 2, none⟩ = some (.int .i64 m'.2.2.1) ∧ w'.cell? ⟨wj.heap.size, 3, none⟩ = some (.int .i64 m'.2.2.2.1) ∧ w'.cell? ⟨wj.heap.size, 4, none⟩ = some (.int .i64 m'.2.2.2.2.1) ∧ w'.cell? ⟨wj.heap.size, 5, none⟩ = some (.int .i64 m'.2.2.2.2.2) ∧ w' = wz.drew)
            (first
             | with_reducible exact hS18
             | with_reducible assumption)
            (first
             | fail)
           rename_i hSS18
           clear hSS18
           have hinv := HS12.out.inv.same (i := i) (k := k) HM1.out.1 HNB.out HNZ.out (by rw [HMM.out, ← HEQ.out]; exact HMJ.out)
           have HN := Lib.hid ((HS12.out.re hinv).below (below_drewN (Below.refl _ _) 1))
           clear hinv
           go_wp2
           go_roundw
           case rel => exact ⟨k + 1, l, q, m, by omega, by go_num, HN, HM1, hKl⟩
           case measure => simp [intOf]; omega
          ·have hd : (!decide (mj = m')) = true := by simp [heq]
           rw [hd] at r18
           have HEQ := Lib.hid heq
           clear heq hd
           go_wp2_with fail
           have hS18 := And.intro (show wz.drew.cell? ⟨w.heap.size, j * 6, none⟩ = some (.int .i64 mj.1) from y0) (And.intro (show wz.drew.cell? ⟨w.heap.size, j * 6 + 1, none⟩ = some (.int .i64 mj.2.1) from y1) (And.intro (show wz.drew.cell? ⟨w.heap.size, j * 6 + 2, none⟩ = some (.int .i64 mj.2.2.1) from y2) (And.intro (show wz.drew.cell? ⟨w.heap.size, j * 6 + 3, none⟩ = some (.int .i64 mj.2.2.2.1) from y3) (And.intro (show wz.drew.cell? ⟨w.heap.size, j * 6 + 4, none⟩ = some (.int .i64 mj.2.2.2.2.1) from y4) (And.intro (show wz.drew.cell? ⟨w.heap.size, j * 6 + 5, none⟩ = some (.int .i64 mj.2.2.2.2.2) from y5) (And.intro (show wz.drew.cell? ⟨wj.heap.size, 0, none⟩ = some (.int .i64 m'.1) from l0) (And.intro (show wz.drew.cell? ⟨wj.heap.size, 1, none⟩ = some (.int .i64 m'.2.1) from l1) (And.intro (show wz.drew.cell? ⟨wj.heap.size, 2, none⟩ = some (.int .i64 m'.2.2.1) from l2) (And.intro (show wz.drew.cell? ⟨wj.heap.size, 3, none⟩ = some (.int .i64 m'.2.2.2.1) from l3) (And.intro (show wz.drew.cell? ⟨wj.heap.size, 4, none⟩ = some (.int .i64 m'.2.2.2.2.1) from l4) (And.intro (show wz.drew.cell? ⟨wj.heap.size, 5, none⟩ = some (.int .i64 m'.2.2.2.2.2) from l5) (rfl : wz.drew = wz.drew))))))))))))
           go_region_held3 (fun w' => w'.cell? ⟨w.heap.size, j * 6, none⟩ = some (.int .i64 mj.1) ∧ w'.cell? ⟨w.heap.size, j * 6 + 1, none⟩ = some (.int .i64 mj.2.1) ∧ w'.cell? ⟨w.heap.size, j * 6 + 2, none⟩ = some (.int .i64 mj.2.2.1) ∧ w'.cell? ⟨w.heap.size, j * 6 + 3, none⟩ = some (.int .i64 mj.2.2.2.1) ∧ w'.cell? ⟨w.heap.size, j * 6 + 4, none⟩ = some (.int .i64 mj.2.2.2.2.1) ∧ w'.cell? ⟨w.heap.size, j * 6 + 5, none⟩ = some (.int .i64 mj.2.2.2.2.2) ∧ w'.cell? ⟨wj.heap.size, 0, none⟩ = some (.int .i64 m'.1) ∧ w'.cell? ⟨wj.heap.size, 1, none⟩ = some (.int .i64 m'.2.1) ∧ w'.cell? ⟨wj.heap.size, 2, none⟩ = some (.int .i64 m'.2.2.1) ∧ w'.cell? ⟨wj.heap.size, 3, none⟩ = some (.int .i64 m'.2.2.2.1) ∧ w'.cell? ⟨wj.heap.size, 4, none⟩ = some (.int .i64 m'.2.2.2.2.1) ∧ w'.cell? ⟨wj.heap.size, 5, none⟩ = some (.int .i64 m'.2.2.2.2.2) ∧ w' = wz.drew)
            (first
             | with_reducible exact hS18
             | with_reducible assumption)
            (first
             | fail)
           rename_i hSS18
           clear hSS18
           have hcl := HS12.out.inv.clash (i := i) (k := k) hk3 HM1.out.1 HM1.out.2 HNB.out HMJ.out HZ.out (by rw [HMM.out]; exact HEQ.out)
           have HCL := Lib.hid hcl
           have HBF := Lib.hid (HS12.out.bel.trans ((below_drewN (Below.refl wz.heap.size wz) 1).mono HS12.out.bel.size))
           clear hcl
           go_wp2
           exact bodyPost_ret (v := .tuple #[.slice none 0 0, .bool false]) (by simp [results, Tryz.results27, go_sem]) rfl ⟨HBF.out, .inl ⟨(by first | exact HCL.out | exact not_exists.1 HCL.out), rfl⟩⟩
    ·obtain rfl : k = 3 := by omega
     have HN := Lib.hid (hS.out.re hS.out.inv.over)
     have hmm := knM_eq hS.out.row
     have hlv := hS.out.que.len
     have HMM := Lib.hid hmm
     have HLV := Lib.hid hlv
     have hkn := known_le (z := zeroV) l
     have hll := hS.out.inv.len
     clear hmm hlv
     go_wp2
     go_roundw
     case rel => exact ⟨l, q, HN, by have h1 := HK0.out; omega⟩
     case measure =>
      have h1 := HMM.out
      have h2 := HME.out
      have h3 := HLE.out
      have h4 := HLV.out
      have h5 := HK0.out
      simp only [lenV, List.length_cons] at h3 h4 ⊢
      rw [h1, h2]
      omega
end
end Go.Proofs.YtbnkabmnenginaaGreatDoor
