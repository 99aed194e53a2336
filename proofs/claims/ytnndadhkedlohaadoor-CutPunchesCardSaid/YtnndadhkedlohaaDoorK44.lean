/- cut.pieces: what is there falls into pieces, across edges that hold. -/
import Derived.Test.YtnndadhkedlohaaDoorK35
namespace Go.Proofs.YtnndadhkedlohaaDoor
set_option linter.unusedSimpArgs false
set_option linter.unusedVariables false
section
open Go.RowKit Go.Maps
set_option maxRecDepth 100000 in
set_option maxHeartbeats 12800000 in
theorem pieces_any (pb nb kb W H B hg : Nat) (vm vc vt gv : Value) (hb : Array Value) (L : List T3) (mn mk : Nat) (fk : E4 → Option Int) (C : E4 → Bool) (gn : T3 → Bool) (hd : T3 → T3 → Bool) (w : World) (hp : PapI w pb nb kb W H vm vc vt L mn mk fk) (ho : w.ownsRow B 31 3 vt L.length (tcT L))
  (hL : ∀ t ∈ L, SmT t) (hLl : L.length ≤ 1000) (hso : L.Pairwise triLt) (hC : CutE L C gn hd) (hG : GoneR w gv gn) (hH : HoldR w hg hb hd L) (hent : ∀ (args : Array Value) (wx : World), (callFunc hg args).run Tryd.prog wx = .ok (.enter hg args) wx) :
  Calls Tryd.prog 17 #[.pointer (some ⟨pb, 0, none⟩), gv, .func (.func hg) #[] hb] w fun r w' => ∃ v vs, r = .returned v ∧ RowsT w' w.heap.size v (pcsL L C gn L.length) vs ∧ Below w.heap.size w w' := by
 have hmm := @run_makeMap Tryd.prog
 have hK4 : ∀ t ∈ L, K4 t := fun t ht => (hL t ht).2.2
 have hb0 := below_new w (.map #[] 0)
 have c4 := (hp.below hb0).c4
 obtain ⟨At, ct, hvt, _, _⟩ := own_slice ho
 subst hvt
 have hS0 : PcS w w.heap.size L C gn 0 [] [] (.slice none 0 0) (w.alloc (.map #[] 0)) := by
  refine ⟨?_, ?_, hb0, Nat.le_refl _, PcO.start L C gn⟩
  ·have h := MapV.made kTB w
   rw [seenB_nil]
   exact h
  ·have : pcsL L C gn 0 = [] := by simp [pcsL]
   rw [this]
   exact RowsT.nil _ _
 have hz0 : w.heap.size < (w.alloc (.map #[] 0)).heap.size := by simp
 have HL := Lib.hid hL
 have HK4 := Lib.hid hK4
 have HSO := Lib.hid hso
 have HP := Lib.hid hp
 have HO := Lib.hid ho
 have HC := Lib.hid hC
 have HG := Lib.hid hG
 have HH := Lib.hid hH
 have HS0 := Lib.hid hS0
 have HB0 := Lib.hid hb0
 clear hL hK4 hso hp ho hC hG hH hS0 hb0
 go_enter Tryd.func17, Tryd.ntmps17
 go_wp2_with fail
 generalize w.alloc (.map #[] 0) = w0 at c4 HS0 HB0 hz0 ⊢
 go_loopw [7, 23] (fun v x wr => ∃ (j : Nat) (old : List T3) (vs : List Value), j ≤ L.length ∧ x = .int .i64 j ∧ Hid (PcS w w.heap.size L C gn j old vs v wr)) (fun _ x _ => L.length - (intOf x).toNat)
 case atStart => exact ⟨0, [], [], by omega, rfl, HS0⟩
 case round =>
  clear HS0
  obtain ⟨j, old, vs, hj, rfl, hS⟩ := hrel
  obtain ⟨Av, cv, hvv, hcv, _⟩ := own_slice hS.out.rows.own
  subst hvv
  by_cases hjl : j < L.length
  ·have hji : (j : Int) < (L.length : Int) := by omega
   obtain ⟨a, ha⟩ : ∃ a, L[j]? = some a := ⟨_, List.getElem?_eq_getElem hjl⟩
   obtain ⟨gt, cpt, curt, hat, _, _, _, _⟩ := own_addr HO.out (by omega)
   cases hat
   obtain ⟨t0, t1, t2⟩ := own_tri (od HO.out hS.out.bel) ha
   have haL : a ∈ L := List.mem_of_getElem? ha
   have has := HL.out a haL
   have hbA := below_new wr (.cells #[.int .i64 a.1, .int .i64 a.2.1, .int .i64 a.2.2] 31)
   have hl1 : (Instr.lookup 55 (.map (some w.heap.size)) (aggT3 a) false).run Tryd.prog (wr.alloc (.cells #[.int .i64 a.1, .int .i64 a.2.1, .int .i64 a.2.2] 31)) = .ok (.bool (decide (a ∈ old))) (wr.alloc (.cells #[.int .i64 a.1, .int .i64 a.2.1, .int .i64 a.2.2] 31)) := by
    have h := (hS.out.seen.alloc (.cells #[.int .i64 a.1, .int .i64 a.2.1, .int .i64 a.2.2] 31)).look1 (a := a) has.ok
    rw [show kTB.z = false from rfl, seenB_val] at h
    exact h
   have hl2 := HG.out (wr.alloc (.cells #[.int .i64 a.1, .int .i64 a.2.1, .int .i64 a.2.2] 31)) a has.ok (stay_b hS.out.bel hbA)
   have hSA := hS.out.below hbA
   have hno := fun h => pcsL_no (c := C) (gn := gn) ha h
   have hyes := fun h1 h2 => pcsL_yes (c := C) (gn := gn) ha h1 h2
   have hfi := hS.out.inv.first HC.out HK4.out ha
   have hgo := hS.out.inv.gone ha
   have hse := hS.out.inv.seen ha
   have hnx := fun (q : List T3) (hg : gn a = false) (hn : a ∉ old) (hq : Closed L C a q) => hS.out.inv.next HK4.out ha hg hn hq
   have kU := heap_alloc_new wr (.cells #[.int .i64 a.1, .int .i64 a.2.1, .int .i64 a.2.2] 31)
   have u0 := cell_of_blk kU 0
   have u1 := cell_of_blk kU 1
   have u2 := cell_of_blk kU 2
   simp only [List.getElem?_toArray, List.getElem?_cons_zero, List.getElem?_cons_succ] at u0 u1 u2
   obtain ⟨G1, hG1⟩ : ∃ z, z = gn a := ⟨_, rfl⟩
   rw [← hG1] at hl2 hgo hnx hfi
   have HG1 := Lib.hid hG1
   have HSA := Lib.hid hSA
   have HNO := Lib.hid hno
   have HYES := Lib.hid hyes
   have HFI := Lib.hid hfi
   have HGO := Lib.hid hgo
   have HSE := Lib.hid hse
   have HNX := Lib.hid hnx
   have HA := Lib.hid haL
   have HAS := Lib.hid has
   clear hSA hno hyes hfi hgo hse hnx ha haL has hbA kU hG1
   by_cases hao : a ∈ old
   ·have hd1 : decide (a ∈ old) = true := decide_eq_true hao
    rw [hd1] at hl1
    have hp1 : pcsL L C gn (j + 1) = pcsL L C gn j := HNO.out fun h => (HFI.out (by rw [HG1.out]; exact h.2)).1 h.1 hao
    have hSN := HSA.out.skip hp1 (HSE.out hao)
    have HSN := Lib.hid hSN
    have HLE := Lib.hid hp1
    clear hSN hp1 hd1 hl2 u0 u1 u2
    go_wp2
    go_roundw
    case rel => exact ⟨j + 1, old, vs, by omega, by go_num, HSN⟩
    case measure => simp [intOf]; omega
   ·have hd1 : decide (a ∈ old) = false := decide_eq_false hao
    rw [hd1] at hl1
    have HAO := Lib.hid hao
    clear hd1 hao
    cases G1 with
    | true =>
     have hp1 : pcsL L C gn (j + 1) = pcsL L C gn j := HNO.out fun h => by rw [← HG1.out] at h; exact absurd h.2 (by decide)
     have hSN := HSA.out.skip hp1 (HGO.out rfl)
     have HSN := Lib.hid hSN
     have HLE := Lib.hid hp1
     clear hSN hp1 u0 u1 u2
     go_wp2
     go_roundw
     case rel => exact ⟨j + 1, old, vs, by omega, by go_num, HSN⟩
     case measure => simp [intOf]; omega
    | false =>
     have hfirst : firstB L C j = true := (HFI.out rfl).2 HAO.out
     have hp1 := HYES.out hfirst HG1.out.symm
     have HP1 := Lib.hid hp1
     have hol := hS.out.inv.len
     have hmb := hS.out.seen.lt
     clear hp1 hfirst
     go_wp2_with (at_mapUpdate; go_loud (refine wpList_putV (k := kTB) rfl _ _ _ rfl HSA.out.seen rfl (by unfold maxLen; omega) a HAS.out.ok true rfl rfl ?_); intro w1 hm1 hg1; have HM1 := Lib.hid hm1; have HG2 := Lib.hid hg1; have v0 := grow_c hg1 (by omega) u0; have v1 := grow_c hg1 (by omega) u1; have v2 := grow_c hg1 (by omega) u2; clear hm1 hg1)
     have hB0 : PcB (wr.alloc (.cells #[.int .i64 a.1, .int .i64 a.2.1, .int .i64 a.2.2] 31)) w.heap.size L C old a [a] 0 0 (.slice (some ⟨w1.heap.size, 0, none⟩) 1 1) (w1.alloc (.cells #[.int .i64 a.1, .int .i64 a.2.1, .int .i64 a.2.2] 31)) := by
      refine ⟨?_, ⟨rfl, .inr ⟨w1.heap.size, 1, _, rfl, HG2.out.size, heap_alloc_new w1 _, Nat.le_refl _, by decide, rfl, rfl⟩⟩, ?_, SpQ.start HA.out⟩
      ·have h := HM1.out.alloc (.cells #[.int .i64 a.1, .int .i64 a.2.1, .int .i64 a.2.2] 31)
       rw [seenB_snoc] at h
       rw [List.length_append]
       exact h
      ·have hs := HG2.out.size
       refine ⟨HG2.out.os, HG2.out.tape, HG2.out.output, by rw [World.size_alloc w1]; omega, fun k hk hne => ?_⟩
       rw [(below_new w1 (.cells #[.int .i64 a.1, .int .i64 a.2.1, .int .i64 a.2.2] 31)).block k (by omega)]
       exact HG2.out.block k hk hne
     have HB1 := Lib.hid hB0
     clear hB0 u0 u1 u2 v0 v1 v2 HM1 HG2 hl1 hl2
     obtain ⟨wo, hwo⟩ : ∃ x, x = wr := ⟨_, rfl⟩
     subst hwo
     generalize wo.alloc (.cells #[.int .i64 a.1, .int .i64 a.2.1, .int .i64 a.2.2] 31) = wA at HSA HB1 ⊢
     generalize w1.alloc (.cells #[.int .i64 a.1, .int .i64 a.2.1, .int .i64 a.2.2] 31) = w2 at HB1 ⊢
     go_loopw [11, 12] (fun v x wr => ∃ (q : List T3) (i : Nat), i ≤ q.length ∧ x = .int .i64 i ∧ Hid (PcB wA w.heap.size L C old a q i 0 v wr)) (fun _ x _ => L.length - (intOf x).toNat)
     case atStart => exact ⟨[a], 0, by simp, rfl, HB1⟩
     case round =>
      clear HB1
      obtain ⟨q, i, hi, rfl, hB⟩ := hrel
      have hql := hB.out.inv.len
      have hcl := hB.out.cnt HK4.out HSA.out.inv HA.out HAO.out
      obtain ⟨gq, cq, curq, hv, _, _, _, _⟩ := own_addr hB.out.own (List.length_pos_of_mem hB.out.inv.fst)
      subst hv
      by_cases hiq : i < q.length
      ·obtain ⟨t, ht⟩ : ∃ t, q[i]? = some t := ⟨_, List.getElem?_eq_getElem hiq⟩
       have htL := (hB.out.inv.sub t (List.mem_of_getElem? ht)).1
       have hts := HL.out t htL
       have HT := Lib.hid ht
       have HTL := Lib.hid htL
       have HTS := Lib.hid hts
       clear ht htL hts
       go_wp2_with fail
       go_loopw [11, 45] (fun v x wr => ∃ (q : List T3) (k gq cq : Nat), k ≤ 3 ∧ x = .int .i64 k ∧ v = .slice (some ⟨gq, 0, none⟩) q.length cq ∧ Hid (q[i]? = some t) ∧ i < q.length ∧ Hid (PcB wA w.heap.size L C old a q i k v wr)) (fun _ x _ => 3 - (intOf x).toNat)
       case atStart => exact ⟨q, 0, gq, cq, by omega, rfl, rfl, HT, hiq, hB⟩
       case round =>
        clear HT hiq hi hql hcl hB
        obtain ⟨q, k, gq, cq, hk, rfl, rfl, HT, hiq, hB⟩ := hrel
        have hql := hB.out.inv.len
        have hcl := hB.out.cnt HK4.out HSA.out.inv HA.out HAO.out
        by_cases hk3 : k < 3
        ·have hki : (k : Int) < 3 := by omega
         have hil : i < L.length := by omega
         obtain ⟨t0, t1, t2⟩ := own_tri hB.out.own HT.out
         have hnok := HTS.out.next hk3
         have cX := fun (w4 : World) => next_any t.1 t.2.1 t.2.2 k w4 hk3 (by have := HTS.out.1; omega) (by have := HTS.out.1; omega) (by have := HTS.out.2.1; omega) (by have := HTS.out.2.1; omega) HTS.out.2.2.1 HTS.out.2.2.2
         have hno2 := hB.out.no HC.out HK4.out HSA.out.inv HA.out HAO.out hk3 HT.out
         have hyes2 := hB.out.yes HC.out HA.out HG1.out.symm hk3 HT.out
         have hhd := fun (W' : World) (hn : nT t k ∈ L) (hb : Below w.heap.size w W') => HH.out W' t k HTL.out hk3 hn hb
         have hadd := fun (w6 w' : World) (p' : Value) (wr2 : World) (hb : Below wr.heap.size wr wr2) (hg : wr2.grownBy w6 (some w.heap.size)) (h1 : C (eT t k) = true) (h2 : nT t k ∈ L) (h3 : nT t k ∉ q) hm o1 o3 => (hB.out.below hb).add (w' := w') (p' := p') hg HT.out hk3 h1 h2 h3 hm o1 o3
         obtain ⟨U, hU⟩ : ∃ U, U = nT t k := ⟨_, rfl⟩
         rw [show nextT t.1 t.2.1 t.2.2 k = U from hU.symm] at cX
         rw [← hU] at hnok hno2 hyes2 hhd hadd
         have CX := Lib.hid cX
         have HNOK := Lib.hid hnok
         have HNO2 := Lib.hid hno2
         have HYES2 := Lib.hid hyes2
         have HHD := Lib.hid hhd
         have HADD := Lib.hid hadd
         clear cX hnok hno2 hyes2 hhd hadd hU
         go_wp2_with (go_at_call 41; refine (CX.out _).mono ?_; rintro r w4 ⟨rfl, hb4⟩; have HB4 := Lib.hid hb4; clear hb4)
         have hbw : Below w.heap.size w wr := hB.out.bel HSA.out.bel HSA.out.mbl
         have kU := heap_alloc_new w4 (.cells #[.int .i64 U.1, .int .i64 U.2.1, .int .i64 U.2.2] 31)
         have hb5 : Below wr.heap.size wr (w4.alloc (.cells #[.int .i64 U.1, .int .i64 U.2.1, .int .i64 U.2.2] 31)) := ba HB4.out _
         have hs4 : w.heap.size < w4.heap.size := Nat.lt_of_lt_of_le hB.out.seen.lt HB4.out.size
         replace t0 := sd t0 hb5
         replace t1 := sd t1 hb5
         replace t2 := sd t2 hb5
         clear HB4
         generalize w4.alloc (.cells #[.int .i64 U.1, .int .i64 U.2.1, .int .i64 U.2.2] 31) = w5 at kU hb5 t0 t1 t2 ⊢
         have hp5 := HP.out.below (stay_b hbw hb5)
         have c5 := hp5.c5
         have u0 := cell_of_blk kU 0
         have u1 := cell_of_blk kU 1
         have u2 := cell_of_blk kU 2
         simp only [List.getElem?_toArray, List.getElem?_cons_zero, List.getElem?_cons_succ] at u0 u1 u2
         obtain ⟨D1, hD1⟩ : ∃ b, b = decide (U ∈ L) := ⟨_, rfl⟩
         obtain ⟨V1, hV1⟩ : ∃ b, b = (numF L U).getD 0 := ⟨_, rfl⟩
         obtain ⟨b2, hb2⟩ : ∃ b, b = decide (U ∈ old ++ q) := ⟨_, rfl⟩
         obtain ⟨b3, hb3⟩ : ∃ b, b = gn U := ⟨_, rfl⟩
         obtain ⟨b4, hb4⟩ : ∃ b, b = hd t U := ⟨_, rfl⟩
         have HD1 := Lib.hid hD1
         have HV1 := Lib.hid hV1
         have HB2 := Lib.hid hb2
         have HB3 := Lib.hid hb3
         have HP5 := Lib.hid hp5
         have HB5 := Lib.hid hb5
         have HBW := Lib.hid hbw
         have hcc : (((!D1) || b2) || b3) = false → ∀ W' : World, Below w.heap.size w W' → Calls Tryd.prog hg (#[aggT3 t, aggT3 U] ++ hb) W' fun r W'' => r = .returned (.bool b4) ∧ Below W'.heap.size W' W'' := fun h W' hb => by
          rw [hb4]
          simp only [Bool.or_eq_false_iff, Bool.not_eq_false'] at h
          exact HHD.out W' (of_decide_eq_true (hD1.symm.trans h.1.1)) hb
         have hno3 := HNO2.out
         have hyes3 := HYES2.out
         rw [← hD1, ← hb2, ← hb3, ← hb4] at hno3 hyes3
         have HNO3 := Lib.hid hno3
         have HYES3 := Lib.hid hyes3
         have HCC := Lib.hid hcc
         clear hno3 hyes3 hcc HNO2 HYES2 HHD hD1 hV1 hb2 hb3 hb4 hp5 hb5 hbw kU
         refine rg_plain (fin := ?z2) [.pointer (some ⟨pb, 0, none⟩), .pointer (some ⟨pb, 0, none⟩), .pointer (some ⟨pb, 5, none⟩), .map (some nb), .agg #[.int .i64 U.1, .int .i64 U.2.1, .int .i64 U.2.2], .tuple #[.int .i64 V1, .bool D1], .tuple #[.int .i64 V1, .bool D1], .int .i64 V1, .bool D1, .int .i64 V1, .bool D1] (fun WN => WN.cell? ⟨w4.heap.size, 0, none⟩ = some (.int .i64 U.1) ∧ WN.cell? ⟨w4.heap.size, 1, none⟩ = some (.int .i64 U.2.1) ∧ WN.cell? ⟨w4.heap.size, 2, none⟩ = some (.int .i64 U.2.2) ∧ WN.cell? ⟨gq, i * 3, none⟩ = some (.int .i64 t.1) ∧ WN.cell? ⟨gq, i * 3 + 1, none⟩ = some (.int .i64 t.2.1) ∧ WN.cell? ⟨gq, i * 3 + 2, none⟩ = some (.int .i64 t.2.2) ∧ WN.cell? ⟨pb, 5, none⟩ = some (.map (some nb)) ∧ Below w5.heap.size w5 WN) ?hf (by kernel_rfl) (by kernel_rfl) rfl ⟨u0, u1, u2, t0, t1, t2, c5, (Below.refl _ _).drew⟩ (fun WN hst => ?hs) (fun WN hst => ?he)
         case hf => simp only [putOps, Act.put, List.setIfInBounds_toArray, List.set_cons_succ, List.set_cons_zero]; exact rfl
         case hs =>
          have HST := Lib.hid hst
          obtain ⟨u0, u1, u2, t0, t1, t2, c5, hbl⟩ := hst
          iterate 11 refine ⟨?_, fun K hK => ?_⟩
          ·trivial
          ·cases D1 <;> (go_simp; exact hK _ HST.out)
          ·(go_simp; exact hK _ HST.out)
          ·(go_simp; exact hK _ HST.out)
          ·(go_simp; exact hK _ HST.out)
          ·(go_simp; exact hK _ HST.out)
          ·have hl5 := (HP5.out.below hbl).look HNOK.out
           rw [← HD1.out, ← HV1.out] at hl5
           (go_simp; exact hK _ HST.out)
          ·(go_simp; exact hK _ HST.out)
          ·(go_simp; exact hK _ HST.out)
          ·(go_simp; exact hK _ HST.out)
          ·(go_simp; exact hK _ HST.out)
          ·(go_simp; exact hK _ HST.out)
         case he =>
          obtain ⟨u0, u1, u2, t0, t1, t2, c5, hbl⟩ := hst
          obtain ⟨w6, hw6⟩ : ∃ x, x = WN := ⟨_, rfl⟩
          subst hw6
          have HBL := Lib.hid hbl
          clear hbl c5
          go_wp2_with fail
          obtain ⟨V3_1, H3_1⟩ : ∃ V : Value, Hid (V = .bool (!D1)) := ⟨_, Lib.hid rfl⟩
          obtain ⟨V3_2, H3_2⟩ : ∃ V : Value, Hid (V = .bool (!D1)) := ⟨_, Lib.hid rfl⟩
          obtain ⟨V3_3, H3_3⟩ : ∃ V : Value, Hid (V = (bif D1 then .map (some w.heap.size) else undef)) := ⟨_, Lib.hid rfl⟩
          obtain ⟨V3_4, H3_4⟩ : ∃ V : Value, Hid (V = (bif D1 then .agg #[.int .i64 U.1, .int .i64 U.2.1, .int .i64 U.2.2] else undef)) := ⟨_, Lib.hid rfl⟩
          obtain ⟨V3_5, H3_5⟩ : ∃ V : Value, Hid (V = (bif D1 then .bool b2 else undef)) := ⟨_, Lib.hid rfl⟩
          obtain ⟨V3_6, H3_6⟩ : ∃ V : Value, Hid (V = .bool ((!D1) || b2)) := ⟨_, Lib.hid rfl⟩
          obtain ⟨V3_7, H3_7⟩ : ∃ V : Value, Hid (V = .bool ((!D1) || b2)) := ⟨_, Lib.hid rfl⟩
          obtain ⟨V3_8, H3_8⟩ : ∃ V : Value, Hid (V = (bif (!((!D1) || b2)) then gv else undef)) := ⟨_, Lib.hid rfl⟩
          obtain ⟨V3_9, H3_9⟩ : ∃ V : Value, Hid (V = (bif (!((!D1) || b2)) then .agg #[.int .i64 U.1, .int .i64 U.2.1, .int .i64 U.2.2] else undef)) := ⟨_, Lib.hid rfl⟩
          obtain ⟨V3_10, H3_10⟩ : ∃ V : Value, Hid (V = (bif (!((!D1) || b2)) then .bool b3 else undef)) := ⟨_, Lib.hid rfl⟩
          obtain ⟨V3_11, H3_11⟩ : ∃ V : Value, Hid (V = .bool (((!D1) || b2) || b3)) := ⟨_, Lib.hid rfl⟩
          obtain ⟨V3_12, H3_12⟩ : ∃ V : Value, Hid (V = .bool (((!D1) || b2) || b3)) := ⟨_, Lib.hid rfl⟩
          obtain ⟨V3_13, H3_13⟩ : ∃ V : Value, Hid (V = (bif (!(((!D1) || b2) || b3)) then .func (.func hg) #[] hb else undef)) := ⟨_, Lib.hid rfl⟩
          obtain ⟨V3_14, H3_14⟩ : ∃ V : Value, Hid (V = (bif (!(((!D1) || b2) || b3)) then .slice (some ⟨gq, 0, none⟩) q.length cq else undef)) := ⟨_, Lib.hid rfl⟩
          obtain ⟨V3_15, H3_15⟩ : ∃ V : Value, Hid (V = (bif (!(((!D1) || b2) || b3)) then .int .i64 (i : Int) else undef)) := ⟨_, Lib.hid rfl⟩
          obtain ⟨V3_16, H3_16⟩ : ∃ V : Value, Hid (V = (bif (!(((!D1) || b2) || b3)) then .pointer (some ⟨gq, i * 3, none⟩) else undef)) := ⟨_, Lib.hid rfl⟩
          obtain ⟨V3_17, H3_17⟩ : ∃ V : Value, Hid (V = (bif (!(((!D1) || b2) || b3)) then .agg #[.int .i64 t.1, .int .i64 t.2.1, .int .i64 t.2.2] else undef)) := ⟨_, Lib.hid rfl⟩
          obtain ⟨V3_18, H3_18⟩ : ∃ V : Value, Hid (V = (bif (!(((!D1) || b2) || b3)) then .agg #[.int .i64 U.1, .int .i64 U.2.1, .int .i64 U.2.2] else undef)) := ⟨_, Lib.hid rfl⟩
          obtain ⟨V3_19, H3_19⟩ : ∃ V : Value, Hid (V = (bif (!(((!D1) || b2) || b3)) then .bool b4 else undef)) := ⟨_, Lib.hid rfl⟩
          obtain ⟨V3_20, H3_20⟩ : ∃ V : Value, Hid (V = (bif (!(((!D1) || b2) || b3)) then .bool (!b4) else undef)) := ⟨_, Lib.hid rfl⟩
          obtain ⟨V3_21, H3_21⟩ : ∃ V : Value, Hid (V = .bool ((((!D1) || b2) || b3) || (!b4))) := ⟨_, Lib.hid rfl⟩
          refine rg_plain (fin := ?z4) [.bool D1, V3_1, V3_2, V3_3, V3_4, V3_5, V3_6, V3_7, V3_8, V3_9, V3_10, V3_11, V3_12, V3_13, V3_14, V3_15, V3_16, V3_17, V3_18, V3_19, V3_20, V3_21] (fun WN => WN.cell? ⟨w4.heap.size, 0, none⟩ = some (.int .i64 U.1) ∧ WN.cell? ⟨w4.heap.size, 1, none⟩ = some (.int .i64 U.2.1) ∧ WN.cell? ⟨w4.heap.size, 2, none⟩ = some (.int .i64 U.2.2) ∧ WN.cell? ⟨gq, i * 3, none⟩ = some (.int .i64 t.1) ∧ WN.cell? ⟨gq, i * 3 + 1, none⟩ = some (.int .i64 t.2.1) ∧ WN.cell? ⟨gq, i * 3 + 2, none⟩ = some (.int .i64 t.2.2) ∧ Below w6.heap.size w6 WN) ?hf (by kernel_rfl) (by kernel_rfl) rfl ⟨u0, u1, u2, t0, t1, t2, (Below.refl _ _).drew⟩ (fun WN hst => ?hs) (fun WN hst => ?he)
          case hf => simp only [putOps, Act.put, List.setIfInBounds_toArray, List.set_cons_succ, List.set_cons_zero]; exact rfl
          case hs =>
           have HST := Lib.hid hst
           obtain ⟨u0, u1, u2, t0, t1, t2, hbl⟩ := hst
           iterate 22 refine ⟨?_, fun K hK => ?_⟩
           ·trivial
           ·obtain rfl := H3_21.out
            obtain rfl := H3_12.out
            obtain rfl := H3_20.out
            generalize (!b4) = y0 at hK ⊢
            cases y0 <;> cases b3 <;> cases b2 <;> cases D1 <;> (go_simp; exact hK _ HST.out)
           ·obtain rfl := H3_20.out
            obtain rfl := H3_12.out
            obtain rfl := H3_19.out
            generalize (((!D1) || b2) || b3) = y0 at hK ⊢
            cases y0 <;> cases b4 <;> (go_simp; exact hK _ HST.out)
           ·obtain rfl := H3_19.out
            obtain rfl := H3_12.out
            obtain rfl := H3_13.out
            obtain rfl := H3_17.out
            obtain rfl := H3_18.out
            generalize (((!D1) || b2) || b3) = y0 at hK HCC ⊢
            cases y0 <;> first | (go_simp; exact hK _ HST.out; done) | (go_simp; refine (HCC.out rfl WN (stay_b (stay_b (stay_b HBW.out HB5.out) HBL.out) hbl)).mono ?_; rintro e' wc ⟨he, hbc⟩; subst he; exact hK _ ⟨sd u0 hbc, sd u1 hbc, sd u2 hbc, sd t0 hbc, sd t1 hbc, sd t2 hbc, stay_b hbl hbc⟩)
           ·obtain rfl := H3_18.out
            obtain rfl := H3_12.out
            generalize (((!D1) || b2) || b3) = y0 at hK ⊢
            cases y0 <;> (go_simp; exact hK _ HST.out)
           ·obtain rfl := H3_17.out
            obtain rfl := H3_12.out
            obtain rfl := H3_16.out
            generalize (((!D1) || b2) || b3) = y0 at hK ⊢
            cases y0 <;> (go_simp; exact hK _ HST.out)
           ·obtain rfl := H3_16.out
            obtain rfl := H3_12.out
            obtain rfl := H3_14.out
            obtain rfl := H3_15.out
            generalize (((!D1) || b2) || b3) = y0 at hK ⊢
            cases y0 <;> (go_simp; exact hK _ HST.out)
           ·obtain rfl := H3_15.out
            obtain rfl := H3_12.out
            generalize (((!D1) || b2) || b3) = y0 at hK ⊢
            cases y0 <;> (go_simp; exact hK _ HST.out)
           ·obtain rfl := H3_14.out
            obtain rfl := H3_12.out
            generalize (((!D1) || b2) || b3) = y0 at hK ⊢
            cases y0 <;> (go_simp; exact hK _ HST.out)
           ·obtain rfl := H3_13.out
            obtain rfl := H3_12.out
            generalize (((!D1) || b2) || b3) = y0 at hK ⊢
            cases y0 <;> (go_simp; exact hK _ HST.out)
           ·obtain rfl := H3_12.out
            obtain rfl := H3_11.out
            generalize (((!D1) || b2) || b3) = y0 at hK ⊢
            cases y0 <;> (go_simp; exact hK _ HST.out)
           ·obtain rfl := H3_11.out
            obtain rfl := H3_7.out
            obtain rfl := H3_10.out
            cases b3 <;> cases b2 <;> cases D1 <;> (go_simp; exact hK _ HST.out)
           ·have hl3 := HG.out WN U HNOK.out (stay_b (stay_b (stay_b HBW.out HB5.out) HBL.out) hbl)
            rw [← HB3.out] at hl3
            obtain rfl := H3_10.out
            obtain rfl := H3_7.out
            obtain rfl := H3_8.out
            obtain rfl := H3_9.out
            generalize ((!D1) || b2) = y0 at hK ⊢
            cases y0 <;> (go_simp; exact hK _ HST.out)
           ·obtain rfl := H3_9.out
            obtain rfl := H3_7.out
            generalize ((!D1) || b2) = y0 at hK ⊢
            cases y0 <;> (go_simp; exact hK _ HST.out)
           ·obtain rfl := H3_8.out
            obtain rfl := H3_7.out
            generalize ((!D1) || b2) = y0 at hK ⊢
            cases y0 <;> (go_simp; exact hK _ HST.out)
           ·obtain rfl := H3_7.out
            obtain rfl := H3_6.out
            generalize ((!D1) || b2) = y0 at hK ⊢
            cases y0 <;> (go_simp; exact hK _ HST.out)
           ·obtain rfl := H3_6.out
            obtain rfl := H3_2.out
            obtain rfl := H3_5.out
            cases D1 <;> cases b2 <;> (go_simp; exact hK _ HST.out)
           ·have hl2 : (Instr.lookup 55 (.map (some w.heap.size)) (aggT3 U) false).run Tryd.prog WN = .ok (.bool b2) WN := by
             have h := (((hB.out.below HB5.out).below HBL.out).below hbl).seen.look1 (a := U) HNOK.out
             rw [show kTB.z = false from rfl, seenB_val, ← HB2.out] at h
             exact h
            obtain rfl := H3_5.out
            obtain rfl := H3_2.out
            obtain rfl := H3_3.out
            obtain rfl := H3_4.out
            cases D1 <;> (go_simp; exact hK _ HST.out)
           ·obtain rfl := H3_4.out
            obtain rfl := H3_2.out
            cases D1 <;> (go_simp; exact hK _ HST.out)
           ·obtain rfl := H3_3.out
            obtain rfl := H3_2.out
            cases D1 <;> (go_simp; exact hK _ HST.out)
           ·obtain rfl := H3_2.out
            obtain rfl := H3_1.out
            generalize (!D1) = y0 at hK ⊢
            cases y0 <;> (go_simp; exact hK _ HST.out)
           ·obtain rfl := H3_1.out
            cases D1 <;> (go_simp; exact hK _ HST.out)
           ·cases D1 <;> (go_simp; exact hK _ HST.out)
          case he =>
           obtain ⟨u0, u1, u2, t0, t1, t2, hbl⟩ := hst
           obtain rfl := H3_21.out
           clear H3_1 H3_2 H3_3 H3_4 H3_5 H3_6 H3_7 H3_8 H3_9 H3_10 H3_11 H3_12 H3_13 H3_14 H3_15 H3_16 H3_17 H3_18 H3_19 H3_20 H3_21
           obtain ⟨G, hGG⟩ : ∃ z, z = ((((!D1) || b2) || b3) || (!b4)) := ⟨_, rfl⟩
           rw [← hGG]
           have hno4 := HNO3.out
           have hyes4 := HYES3.out
           rw [← hGG] at hno4 hyes4
           have hbr : Below wr.heap.size wr WN := stay_b (stay_b HB5.out HBL.out) hbl
           have HBR := Lib.hid hbr
           have HNO4 := Lib.hid hno4
           have HYES4 := Lib.hid hyes4
           clear hno4 hyes4 hbr hGG
           cases G with
           | true =>
            have hN := (hB.out.below HBR.out).re (HNO4.out (by first | rfl | trivial))
            have HN := Lib.hid hN
            clear hN u0 u1 u2 t0 t1 t2
            go_wp2
            go_roundw
            case rel => exact ⟨q, k + 1, gq, cq, by omega, by go_num, rfl, HT, hiq, HN⟩
            case measure => simp [intOf]; omega
           | false =>
            have hBN := hB.out.below HBR.out
            have hsz6 := HSA.out.bel.size
            have hge := (own_lt_of hB.out.own rfl).1
            have HBN := Lib.hid hBN
            clear hBN t0 t1 t2
            go_wp2_with (first
             | (at_mapUpdate; go_loud (refine wpList_putV (k := kTB) rfl _ _ _ rfl HBN.out.seen rfl (by unfold maxLen; omega) U HNOK.out true rfl rfl ?_); intro w8 hm8 hg8; have HM8 := Lib.hid hm8; have HG8 := Lib.hid hg8; have y0 := grow_c hg8 (by omega) u0; have y1 := grow_c hg8 (by omega) u1; have y2 := grow_c hg8 (by omega) u2; have HO8 := Lib.hid (HBN.out.own6 hg8); have hsz8 := Nat.le_trans HBN.out.gr.size hg8.size; clear hm8 hg8)
             | (at_builtin; go_loud (refine app_gen Tryd.underlying32 tri_info rfl (by decide) (by decide) rfl (.tmp 87) (.tmp 89) rfl wA.heap.size _ q.length (tcT q) [.int .i64 U.1, .int .i64 U.2.1, .int .i64 U.2.2] rfl HO8.out hsz8 1 _ rfl rfl rfl (tri_one _ _ _) (by omega) ?_); intro v' w' hown' hb' hgr'; obtain ⟨g9, c9, cur9, hv9, _⟩ := own_addr hown' (Nat.succ_pos _); subst hv9))
            obtain ⟨h1, h2, h3⟩ := HYES4.out (by first | rfl | trivial)
            have hN := HADD.out w8 w' (.slice (some ⟨g9, 0, none⟩) (q.length + 1) c9) WN HBR.out HG8.out h1 h2 h3 HM8.out hown' hgr'
            have HN := Lib.hid hN
            clear hN hown' hb' hgr' h1 h2 h3
            have hlq : (q ++ [U])[i]? = some t := by rw [List.getElem?_append_left hiq]; exact HT.out
            go_roundw
            case rel => exact ⟨q ++ [U], k + 1, g9, c9, by omega, by go_num, by simp, Lib.hid hlq, by simp; omega, HN⟩
            case measure => simp [intOf]; omega
        ·obtain rfl : k = 3 := by omega
         go_wp2
         go_roundw
         case rel => exact ⟨q, i + 1, by omega, by go_num, Lib.hid (hB.out.re hB.out.inv.next)⟩
         case measure => simp [intOf]; omega
      ·have hcd := hB.out.inv.done (by omega)
       have cS := sortT_any gq cq q.length wA.heap.size q wr rfl hB.out.own (by omega)
       have hcc := closed_comp HSO.out HA.out hcd (srtT_perm q) (srtT_sorted hcd.nd)
       have hnx := HNX.out q (by first | rfl | trivial) HAO.out hcd
       have hlen := (srtT_perm q).length_eq
       rw [hcc] at cS hlen
       have hgr := hB.out.gr
       have hrw := HSA.out.rows.grown hgr (fun b hb => by cases hb; exact HSA.out.seen.isM)
       have hbe := hB.out.bel HSA.out.bel HSA.out.mbl
       have CS := Lib.hid cS
       have HNX2 := Lib.hid hnx
       have HLN := Lib.hid hlen
       have HRW := Lib.hid hrw
       have HBE := Lib.hid hbe
       clear cS hcc hnx hlen hrw hbe hgr hcd
       have hfl := pcsL_len L C gn j
       have hsw := HSA.out.bel.size
       go_wp2_with (first
        | (go_at_call 42; go_loud (refine CS.out.mono ?_); rintro r w9 ⟨rfl, ho9, hg9⟩; have HX := Lib.hid (hB.out.srt HSA.out ho9 hg9); have hsz9 := HX.out.2.2.1.size; clear ho9 hg9)
        | (at_builtin; go_loud (refine app_gen Tryd.underlying33 tslP_info rfl (by decide) (by decide) rfl (.tmp 94) (.tmp 96) rfl w.heap.size _ (pcsL L C gn j).length vs [.slice (some ⟨gq, 0, none⟩) q.length cq] rfl HX.out.1.own hsz9 1 _ rfl rfl rfl (fun u hu => by simp only [List.mem_cons, List.not_mem_nil, or_false] at hu; subst hu; rfl) (by omega) ?_); intro v' w' hown' hb' hgr'))
       obtain ⟨hR9, hM9, hbe9, ho10⟩ := HX.out
       have hN : PcS w w.heap.size L C gn (j + 1) (old ++ q) (vs ++ [.slice (some ⟨gq, 0, none⟩) q.length cq]) v' w' := by
        refine ⟨hM9.heap (hgr'.grown.block _ hM9.lt (fun e => own_notmap hR9.own hM9.isM e.symm)), ?_, hbe9.trans hb', Nat.le_refl _, HNX2.out⟩
        rw [HP1.out]
        exact hR9.app (by rw [HLN.out]; exact ho10) hown' hgr'
       have HN := Lib.hid hN
       clear hN hown' hb' hgr' hR9 hM9 hbe9 ho10
       go_roundw
       case rel => exact ⟨j + 1, old ++ q, _, by omega, by go_num, HN⟩
       case measure => simp [intOf]; omega
  ·obtain rfl : j = L.length := by omega
   go_wp2
   go_ret
   exact ⟨_, vs, rfl, hS.out.rows, hS.out.bel⟩
end
end Go.Proofs.YtnndadhkedlohaaDoor
