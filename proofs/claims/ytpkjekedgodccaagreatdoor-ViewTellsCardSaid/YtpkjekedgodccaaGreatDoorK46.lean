/- The document's StateMay. -/
import Derived.Test.YtpkjekedgodccaaGreatDoorK40
import Derived.Test.YtpkjekedgodccaaGreatDoorK45
namespace Go.Proofs.YtpkjekedgodccaaGreatDoor
set_option linter.unusedSimpArgs false
set_option linter.unusedVariables false
section
open Go.RowKit Go.Maps
theorem newB_dimS {W H : Int} {mask : List Int} {cs : List C5} (h : newB W H mask cs = true) : ∃ Wn Hn : Nat, W = Wn ∧ H = Hn ∧ (1 ≤ Wn ∧ Wn ≤ 8) ∧ (1 ≤ Hn ∧ Hn ≤ 8) ∧ mask.length = Wn * Hn := by
 unfold newB at h
 simp only [Bool.and_eq_true, cellsB, decide_eq_true_eq] at h
 obtain ⟨⟨⟨⟨h1, h2⟩, h3⟩, _⟩, _⟩ := h
 obtain ⟨Wn, rfl⟩ := Int.eq_ofNat_of_zero_le (show 0 ≤ W by omega)
 obtain ⟨Hn, rfl⟩ := Int.eq_ofNat_of_zero_le (show 0 ≤ H by omega)
 refine ⟨Wn, Hn, rfl, rfl, by omega, by omega, ?_⟩
 have : (mask.length : Int) = ((Wn * Hn : Nat) : Int) := by rw [h3]; simp
 omega
theorem LieI.notIn {L : List T3} {ms : List V6} {sts : List Stk} {i q : Nat} (h : LieI L ms sts i q) {s : Stk} (hs : sts[i]? = some s) {t : T3} (hat : atI L ms (L.idxOf t) = s.1) (hno : t ∉ s.2.take q) (hlt : ∀ (j : Nat) (a : Stk), j < i → sts[j]? = some a → a.1 ≠ s.1) : t ∉ earl sts i q := by
 intro hm
 rcases mem_earl hm with ⟨j, a, hj, ha, hta⟩ | ⟨s', hs', hts⟩
 ·obtain ⟨p, hp⟩ := List.getElem?_of_mem hta
  obtain ⟨_, r2, _⟩ := h.tri j a p t (.inl hj) ha hp
  exact hlt j a hj ha (r2.symm.trans hat)
 ·rw [hs] at hs'
  cases hs'
  exact hno hts
theorem Rd.takeT {w : World} {A : Option Addr} {l : List T3} (h : Rd w 3 A l.length (tcT l)) {q : Nat} (hq : q ≤ l.length) : Rd w 3 A q (tcT (l.take q)) := by
 have e : tcT l = tcT (l.take q) ++ tcT (l.drop q) := by rw [← tcT_app, List.take_append_drop]
 refine ⟨by rw [tcT_len]; simp; omega, fun h0 => ?_⟩
 obtain ⟨b, off, e1, e2, e3⟩ := h.2 (by omega)
 refine ⟨b, off, e1, e2, fun j u hj => e3 j u ?_⟩
 rw [e, List.getElem?_append_left (List.getElem?_eq_some_iff.1 hj).1]
 exact hj
structure StI (L : List T3) (ms : List V6) (sts : List Stk) (i q : Nat) : Prop where
 inv : LieI L ms sts i q
 nd : (earl sts i q).Nodup
theorem StI.len {L : List T3} {ms : List V6} {sts : List Stk} {i q : Nat} (h : StI L ms sts i q) : (earl sts i q).length ≤ L.length := h.inv.many_le h.nd
theorem StI.step {L : List T3} {ms : List V6} {sts : List Stk} {i q : Nat} (h : StI L ms sts i q) {s : Stk} {t : T3} (hs : sts[i]? = some s) (ht : s.2[q]? = some t) (hne : s.2 ≠ []) (hla : ∀ (j : Nat) (a : Stk), j + 1 = i → sts[j]? = some a → triLt a.1 s.1) (h1 : t ∈ L) (h2 : t ∉ earl sts i q) (h3 : atI L ms (L.idxOf t) = s.1) : StI L ms sts i (q + 1) := by
 refine ⟨h.inv.tri_step hs ht hne hla h1 h3 h2, ?_⟩
 rw [earl_step hs ht, List.nodup_append]
 refine ⟨h.nd, by simp, fun a ha b hb e => ?_⟩
 rw [List.mem_singleton] at hb
 subst hb
 subst e
 exact h2 ha
set_option maxRecDepth 100000 in
set_option maxHeartbeats 25600000 in
theorem stateMay_any (W H : Int) (Am Ac Ap As : Option Addr) (nm cm nc cc np cp ns cS : Nat) (mask : List Int) (cs : List C5) (ms : List V6) (sts : List Stk) (w : World) (hm : Rd w 1 Am nm (vis mask)) (hc : Rd w 5 Ac nc (ccs cs)) (hp : Rd w 6 Ap np (mcs ms)) (hst : StkR w As ns sts)
  (hnm : nm ≤ 140737488351232) (hnc : nc ≤ 140737488351232) (hnp : np ≤ 140737488351232) :
  Calls Tryz.prog 8 #[.agg #[.int .i64 W, .int .i64 H, .slice Am nm cm, .slice Ac nc cc, .slice Ap np cp, .slice As ns cS]] w fun e w' => e = .returned (.bool (stateB W H mask cs ms sts)) ∧ Below w.heap.size w w' := by
 have kb0 := heap_alloc_new w (.cells #[.int .i64 W, .int .i64 H, .slice Am nm cm, .slice Ac nc cc, .slice Ap np cp, .slice As ns cS] 29)
 have hb0 := below_new w (.cells #[.int .i64 W, .int .i64 H, .slice Am nm cm, .slice Ac nc cc, .slice Ap np cp, .slice As ns cS] 29)
 have a0 := cell_of_blk kb0 0
 have a1 := cell_of_blk kb0 1
 have a2 := cell_of_blk kb0 2
 have a3 := cell_of_blk kb0 3
 have a4 := cell_of_blk kb0 4
 have a5 := cell_of_blk kb0 5
 simp only [List.getElem?_toArray, List.getElem?_cons_zero, List.getElem?_cons_succ] at a0 a1 a2 a3 a4 a5
 have cN := sheetMay_any W H Am Ac nm cm nc cc mask cs (w.alloc (.cells #[.int .i64 W, .int .i64 H, .slice Am nm cm, .slice Ac nc cc, .slice Ap np cp, .slice As ns cS] 29)) (hm.below hb0) (hc.below hb0) hnm hnc
 have HST := Lib.hid hst
 have HB0 := Lib.hid hb0
 have HP := Lib.hid (hp.below hb0)
 have HMK := Lib.hid (And.intro (hm.below hb0) (hc.below hb0))
 obtain ⟨R, hR⟩ : ∃ R, R = stateB W H mask cs ms sts := ⟨_, rfl⟩
 rw [← hR]
 have hyes : StateP W H mask cs ms sts → R = true := fun h => hR.trans (stateB_yes h)
 have hnot : ¬ StateP W H mask cs ms sts → R = false := fun h => hR.trans (stateB_no h)
 have HYES := Lib.hid hyes
 have HNOT := Lib.hid hnot
 clear hyes hnot hR hm hc hp hst hb0 kb0
 by_cases hNB : newB W H mask cs = true
 rotate_left
 ·have hNB : newB W H mask cs = false := by simpa using hNB
  rw [hNB] at cN
  have CN := Lib.hid cN
  have HN := Lib.hid (HNOT.out (fun h => by have := h.sheet; rw [hNB] at this; cases this))
  clear cN hNB
  go_enter Tryz.func8, Tryz.ntmps8
  go_wp2_with (go_at_call 16; refine CN.out.mono ?_; rintro r w1 ⟨rfl, hb1⟩; have HB1 := Lib.hid (stay_b HB0.out hb1); clear hb1)
  go_ret
  exact ⟨ret_bool HN.out.symm, HB1.out⟩
 rw [hNB] at cN
 have CN := Lib.hid cN
 obtain ⟨Wn, Hn, rfl, rfl, hW, hH, hml⟩ := newB_dimS hNB
 have hWt : ((Wn : Int)).toNat = Wn := by omega
 obtain ⟨L, hLe⟩ : ∃ L, L = trisL Wn mask := ⟨_, rfl⟩
 have hL0 : 0 < L.length := by
  have h1 := hNB
  unfold newB at h1
  simp only [Bool.and_eq_true] at h1
  have h2 := h1.2.2
  rw [hWt, ← hLe] at h2
  cases hl : L with
  | nil => rw [hl] at h2; simp [joinB] at h2
  | cons a l => simp
 have hin8 : ∀ t ∈ L, In8 t := fun t ht => by
  rw [hLe] at ht
  have := trisL_in (by omega) hml ht
  exact ⟨by omega, by omega, this.2.2.2.2⟩
 have hlen : L.length ≤ 1000 := by
  have h1 := trisL_len Wn mask
  have h2 : Wn * Hn ≤ 8 * 8 := Nat.mul_le_mul hW.2 hH.2
  rw [hLe]
  omega
 have hSP : StateP (Wn : Int) (Hn : Int) mask cs ms sts ↔ MapsP L (crsF false cs) ms ∧ StksP L ms sts := by
  constructor
  ·rintro ⟨s1, s2, s3⟩
   rw [hWt, ← hLe] at s2 s3
   exact ⟨s2, s3⟩
  ·rintro ⟨s1, s2⟩
   exact ⟨hNB, by rw [hWt, ← hLe]; exact s1, by rw [hWt, ← hLe]; exact s2⟩
 have HSP := Lib.hid hSP
 have hSM := (⟨hW, hH, hml, HMK.out.1, HMK.out.2, hnc⟩ : ShM _ Wn Hn Am nm mask Ac nc cs)
 have HSM := Lib.hid hSM
 have HLE := Lib.hid hLe
 have HIN := Lib.hid hin8
 clear cN hSP hSM hW hH hml HMK hNB hWt hLe hin8
 obtain ⟨MB, hMB⟩ : ∃ b, b = mapsB L (crsF false cs) ms := ⟨_, rfl⟩
 have HMB := Lib.hid hMB
 have cM := fun (w1 : World) (hb : Below (w.alloc (.cells #[.int .i64 (Wn : Int), .int .i64 (Hn : Int), .slice Am nm cm, .slice Ac nc cc, .slice Ap np cp, .slice As ns cS] 29)).heap.size (w.alloc (.cells #[.int .i64 (Wn : Int), .int .i64 (Hn : Int), .slice Am nm cm, .slice Ac nc cc, .slice Ap np cp, .slice As ns cS] 29)) w1) => mapsMay_any Wn Hn Am Ac Ap nm cm nc cc np cp mask cs ms w1 (HSM.out.below hb) (HP.out.below hb) hnp
 rw [← HLE.out, ← hMB] at cM
 have CM := Lib.hid cM
 clear cM hMB
 cases MB
 ·have HN := Lib.hid (HNOT.out (fun h => by have h1 := mapsB_yes (HSP.out.1 h).1; rw [← HMB.out] at h1; cases h1))
  go_enter Tryz.func8, Tryz.ntmps8
  go_wp2_with (first
   | (go_at_call 16; refine CN.out.mono ?_; rintro r w1 ⟨rfl, hb1⟩; have HB1 := Lib.hid hb1; replace a0 := sd a0 hb1; replace a1 := sd a1 hb1; replace a2 := sd a2 hb1; replace a3 := sd a3 hb1; replace a4 := sd a4 hb1; clear hb1 CN a5)
   | (go_at_call 17; refine (CM.out _ HB1.out).mono ?_; rintro r w2 ⟨rfl, hb2⟩; have HB2 := Lib.hid (stay_b HB0.out (stay_b HB1.out hb2)); clear hb2 CM a0 a1 a2 a3 a4))
  go_ret
  exact ⟨ret_bool HN.out.symm, HB2.out⟩
 have hMP := mapsB_iff.1 HMB.out.symm
 have hnpl : ms.length = L.length := hMP.len
 have hnp2 : np = L.length := by
  have := HP.out.1
  rw [mcs_len] at this
  omega
 subst hnp2
 have HMP := Lib.hid hMP
 clear hMP
 have cT := fun (w1 : World) (hb : Below (w.alloc (.cells #[.int .i64 (Wn : Int), .int .i64 (Hn : Int), .slice Am nm cm, .slice Ac nc cc, .slice Ap L.length cp, .slice As ns cS] 29)).heap.size (w.alloc (.cells #[.int .i64 (Wn : Int), .int .i64 (Hn : Int), .slice Am nm cm, .slice Ac nc cc, .slice Ap L.length cp, .slice As ns cS] 29)) w1) => trisOf_any Wn Hn Am Ac nm cm nc cc mask cs w1 (HSM.out.below hb)
 rw [← HLE.out] at cT
 have CT := Lib.hid cT
 clear cT
 have hnl : ns = sts.length := HST.out.len
 subst hnl
 go_enter Tryz.func8, Tryz.ntmps8
 go_wp2_with (first
  | (go_at_call 16; refine CN.out.mono ?_; rintro r w1 ⟨rfl, hb1⟩; have HB1 := Lib.hid hb1; replace a0 := sd a0 hb1; replace a1 := sd a1 hb1; replace a2 := sd a2 hb1; replace a3 := sd a3 hb1; replace a4 := sd a4 hb1; replace a5 := sd a5 hb1; clear hb1 CN)
  | (go_at_call 17; refine (CM.out _ HB1.out).mono ?_; rintro r w2 ⟨rfl, hb2⟩; have HB2 := Lib.hid (stay_b HB1.out hb2); replace a0 := sd a0 hb2; replace a1 := sd a1 hb2; replace a2 := sd a2 hb2; replace a3 := sd a3 hb2; replace a4 := sd a4 hb2; replace a5 := sd a5 hb2; clear hb2 CM)
  | (go_at_call 18; refine (CT.out _ HB2.out).mono ?_; rintro r w3 ⟨v, rfl, ho3, hb3⟩; obtain ⟨gt, ct, curt, hvt, _, _, _, _⟩ := own_addr ho3 hL0; subst hvt; have HO3 := Lib.hid ho3; have HP3 := Lib.hid (HP.out.below (stay_b HB2.out hb3)); have HB3 := Lib.hid (stay_b HB0.out (stay_b HB2.out hb3)); replace a4 := sd a4 hb3; replace a5 := sd a5 hb3; clear hb3 ho3 CT a0 a1 a2 a3))
 go_loopw [4, 5] (fun c v wr => ∃ i : Nat, i ≤ sts.length ∧ v = .int .i64 i ∧ c = .int .i64 ((earl sts i 0).length : Nat) ∧ Hid (StI L ms sts i 0) ∧ Hid (Below w3.heap.size w3 wr)) (fun _ v _ => sts.length - (intOf v).toNat)
 case atStart => exact ⟨0, by omega, rfl, by simp [earl], Lib.hid ⟨LieI.start _ _ _, by simp [earl]⟩, Lib.hid (Below.refl _ _)⟩
 case round =>
  obtain ⟨i, hi, rfl, rfl, hS, hbw3⟩ := hrel
  have hel := hS.out.len
  have hbw := HB3.out.trans (hbw3.out.mono HB3.out.size)
  have b4 := sd a4 hbw3.out
  have b5 := sd a5 hbw3.out
  have hnz := HST.out.sz
  by_cases hin : i < sts.length
  ·obtain ⟨s, hs⟩ : ∃ s, sts[i]? = some s := ⟨_, List.getElem?_eq_getElem (by omega)⟩
   obtain ⟨bS, oS, A', c', hA, hrd, hcap, y0, y1, y2, y3⟩ := HST.out.at2 hs
   subst hA
   replace y0 := sd y0 hbw
   replace y1 := sd y1 hbw
   replace y2 := sd y2 hbw
   replace y3 := sd y3 hbw
   have hii : (i : Int) < (sts.length : Int) := by omega
   have hi0 : (0 : Int) ≤ (i : Int) := by omega
   obtain ⟨hsl, hsc⟩ := hcap
   obtain ⟨p, hpv⟩ : ∃ p : Stk, 0 < i → sts[i - 1]? = some p := by
    by_cases h0 : 0 < i
    ·exact ⟨_, fun _ => List.getElem?_eq_getElem (show i - 1 < sts.length by omega)⟩
    ·exact ⟨s, fun h => absurd h h0⟩
   have hpc : 0 < i → wr.cell? ⟨bS, oS + (i - 1) * 4, none⟩ = some (.int .i64 p.1.1) ∧ wr.cell? ⟨bS, oS + (i - 1) * 4 + 1, none⟩ = some (.int .i64 p.1.2.1) ∧ wr.cell? ⟨bS, oS + (i - 1) * 4 + 2, none⟩ = some (.int .i64 p.1.2.2) := by
    intro h0
    obtain ⟨b2, o2, _, _, hA2, _, q0, q1, q2, _⟩ := HST.out.at_ (hpv h0)
    injection hA2 with hA2
    injection hA2 with e1 e2 _
    subst e1 e2
    exact ⟨sd q0 hbw, sd q1 hbw, sd q2 hbw⟩
   have HSI := Lib.hid hs
   have HRD := Lib.hid hrd
   have HPV := Lib.hid hpv
   obtain ⟨wo, hwo⟩ : ∃ x, x = wr := ⟨_, rfl⟩
   subst hwo
   have hbS := below_new wo (.cells #[.int .i64 s.1.1, .int .i64 s.1.2.1, .int .i64 s.1.2.2, .slice A' s.2.length c'] 54)
   have kS := heap_alloc_new wo (.cells #[.int .i64 s.1.1, .int .i64 s.1.2.1, .int .i64 s.1.2.2, .slice A' s.2.length c'] 54)
   have HBW := Lib.hid (hbw.trans (hbS.mono hbw.size))
   have HBO := Lib.hid (hbw3.out.trans (hbS.mono hbw3.out.size))
   clear hs hrd hpv hbw
   go_wp2_with fail
   have z0 := cell_of_blk kS 0
   have z1 := cell_of_blk kS 1
   have z2 := cell_of_blk kS 2
   have z3 := cell_of_blk kS 3
   simp only [List.getElem?_toArray, List.getElem?_cons_zero, List.getElem?_cons_succ] at z0 z1 z2 z3
   have hpc : 0 < i → (wo.alloc (.cells #[.int .i64 s.1.1, .int .i64 s.1.2.1, .int .i64 s.1.2.2, .slice A' s.2.length c'] 54)).cell? ⟨bS, oS + (i - 1) * 4, none⟩ = some (.int .i64 p.1.1) ∧ (wo.alloc (.cells #[.int .i64 s.1.1, .int .i64 s.1.2.1, .int .i64 s.1.2.2, .slice A' s.2.length c'] 54)).cell? ⟨bS, oS + (i - 1) * 4 + 1, none⟩ = some (.int .i64 p.1.2.1) ∧ (wo.alloc (.cells #[.int .i64 s.1.1, .int .i64 s.1.2.1, .int .i64 s.1.2.2, .slice A' s.2.length c'] 54)).cell? ⟨bS, oS + (i - 1) * 4 + 2, none⟩ = some (.int .i64 p.1.2.2) := fun h0 => by
    obtain ⟨q0, q1, q2⟩ := hpc h0
    exact ⟨sd q0 hbS, sd q1 hbS, sd q2 hbS⟩
   replace b4 := sd b4 hbS
   replace b5 := sd b5 hbS
   have HKS := Lib.hid kS
   clear kS y0 y1 y2 y3 hbS hbw3
   generalize wo.alloc (.cells #[.int .i64 s.1.1, .int .i64 s.1.2.1, .int .i64 s.1.2.2, .slice A' s.2.length c'] 54) = w5 at z0 z1 z2 z3 hpc b4 b5 HKS HBW HBO ⊢
   have cC : ∀ W : World, Calls Tryz.prog 19 #[aggT3 p.1, aggT3 s.1] W fun e w' => e = .returned (.bool (ltT p.1 s.1)) ∧ Below W.heap.size W w' := fun W => lessTri_any p.1.1 p.1.2.1 p.1.2.2 s.1.1 s.1.2.1 s.1.2.2 W
   obtain ⟨bz, hbz⟩ : ∃ b, b = ltT p.1 s.1 := ⟨_, rfl⟩
   rw [← hbz] at cC
   obtain ⟨b0, hb0⟩ : ∃ b, b = decide ((0 : Int) < (i : Int)) := ⟨_, rfl⟩
   obtain ⟨bl, hbl⟩ : ∃ b, b = ((s.2.length : Int) == 0) := ⟨_, rfl⟩
   have hpc2 : b0 = true → w5.cell? ⟨bS, oS + (i - 1) * 4, none⟩ = some (.int .i64 p.1.1) ∧ w5.cell? ⟨bS, oS + (i - 1) * 4 + 1, none⟩ = some (.int .i64 p.1.2.1) ∧ w5.cell? ⟨bS, oS + (i - 1) * 4 + 2, none⟩ = some (.int .i64 p.1.2.2) := fun h => hpc (by rw [hb0] at h; have := of_decide_eq_true h; omega)
   have hsub : b0 = true → IntKind.i64.wrap ((i : Int) - 1) = ((i - 1 : Nat) : Int) := fun h => by rw [hb0] at h; have := of_decide_eq_true h; rw [IntWalk.i64_in _ (by omega)]; omega
   have hjn : ((i - 1 : Nat) : Int) < (sts.length : Int) := by omega
   have hj0 : (0 : Int) ≤ ((i - 1 : Nat) : Int) := by omega
   have HPC := Lib.hid hpc2
   have HSUB := Lib.hid hsub
   have HBB := Lib.hid (And.intro hb0 (And.intro hbz hbl))
   have CC := Lib.hid cC
   have hb0n : decide (0 < i) = b0 := by rw [hb0]; exact decide_eq_decide.2 (by omega)
   have HQ := Lib.hid (And.intro hb0.symm (And.intro hbl.symm hb0n))
   clear hpc hpc2 hsub hb0 hbz hbl cC hb0n
   obtain ⟨V1_5, H1_5⟩ : ∃ V : Value, Hid (V = (bif (!bl) then .int .i64 i else undef)) := ⟨_, Lib.hid rfl⟩
   obtain ⟨V1_6, H1_6⟩ : ∃ V : Value, Hid (V = (bif (!bl) then .bool b0 else undef)) := ⟨_, Lib.hid rfl⟩
   obtain ⟨V1_7, H1_7⟩ : ∃ V : Value, Hid (V = (bif (!bl) then .bool b0 else undef)) := ⟨_, Lib.hid rfl⟩
   obtain ⟨V1_8, H1_8⟩ : ∃ V : Value, Hid (V = (bif ((!bl) && b0) then .pointer (some ⟨w.heap.size, 5, none⟩) else undef)) := ⟨_, Lib.hid rfl⟩
   obtain ⟨V1_9, H1_9⟩ : ∃ V : Value, Hid (V = (bif ((!bl) && b0) then .slice (some ⟨bS, oS, none⟩) sts.length cS else undef)) := ⟨_, Lib.hid rfl⟩
   obtain ⟨V1_10, H1_10⟩ : ∃ V : Value, Hid (V = (bif ((!bl) && b0) then .int .i64 i else undef)) := ⟨_, Lib.hid rfl⟩
   obtain ⟨V1_11, H1_11⟩ : ∃ V : Value, Hid (V = (bif ((!bl) && b0) then .int .i64 ((i - 1 : Nat) : Int) else undef)) := ⟨_, Lib.hid rfl⟩
   obtain ⟨V1_12, H1_12⟩ : ∃ V : Value, Hid (V = (bif ((!bl) && b0) then .pointer (some ⟨bS, oS + (i - 1) * 4, none⟩) else undef)) := ⟨_, Lib.hid rfl⟩
   obtain ⟨V1_13, H1_13⟩ : ∃ V : Value, Hid (V = (bif ((!bl) && b0) then .pointer (some ⟨bS, oS + (i - 1) * 4, none⟩) else undef)) := ⟨_, Lib.hid rfl⟩
   obtain ⟨V1_14, H1_14⟩ : ∃ V : Value, Hid (V = (bif ((!bl) && b0) then aggT3 p.1 else undef)) := ⟨_, Lib.hid rfl⟩
   obtain ⟨V1_15, H1_15⟩ : ∃ V : Value, Hid (V = (bif ((!bl) && b0) then .pointer (some ⟨wo.heap.size, 0, none⟩) else undef)) := ⟨_, Lib.hid rfl⟩
   obtain ⟨V1_16, H1_16⟩ : ∃ V : Value, Hid (V = (bif ((!bl) && b0) then aggT3 s.1 else undef)) := ⟨_, Lib.hid rfl⟩
   obtain ⟨V1_17, H1_17⟩ : ∃ V : Value, Hid (V = (bif ((!bl) && b0) then .bool bz else undef)) := ⟨_, Lib.hid rfl⟩
   obtain ⟨V1_18, H1_18⟩ : ∃ V : Value, Hid (V = (bif ((!bl) && b0) then .bool (!bz) else undef)) := ⟨_, Lib.hid rfl⟩
   obtain ⟨V1_19, H1_19⟩ : ∃ V : Value, Hid (V = (bif (!bl) then .bool (b0 && (!bz)) else undef)) := ⟨_, Lib.hid rfl⟩
   obtain ⟨V1_20, H1_20⟩ : ∃ V : Value, Hid (V = .bool (bl || (b0 && (!bz)))) := ⟨_, Lib.hid rfl⟩
   refine rg_plain (fin := ?z2) [.pointer (some ⟨wo.heap.size, 3, none⟩), (.slice A' s.2.length c'), .int .i64 (s.2.length : Int), .bool bl, .bool bl, V1_5, V1_6, V1_7, V1_8, V1_9, V1_10, V1_11, V1_12, V1_13, V1_14, V1_15, V1_16, V1_17, V1_18, V1_19, V1_20] (fun WN => WN.cell? ⟨wo.heap.size, 0, none⟩ = some (.int .i64 s.1.1) ∧ WN.cell? ⟨wo.heap.size, 1, none⟩ = some (.int .i64 s.1.2.1) ∧ WN.cell? ⟨wo.heap.size, 2, none⟩ = some (.int .i64 s.1.2.2) ∧ WN.cell? ⟨wo.heap.size, 3, none⟩ = some ((.slice A' s.2.length c')) ∧ WN.cell? ⟨w.heap.size, 5, none⟩ = some (.slice (some ⟨bS, oS, none⟩) sts.length cS) ∧ Below w5.heap.size w5 WN) ?hf (by kernel_rfl) (by kernel_rfl) rfl ⟨z0, z1, z2, z3, b5, (Below.refl _ _).drew⟩ (fun WN hst => ?hs) (fun WN hst => ?he)
   case hf => simp only [putOps, Act.put, List.setIfInBounds_toArray, List.set_cons_succ, List.set_cons_zero]; exact rfl
   case hs =>
    have HST := Lib.hid hst
    obtain ⟨z0, z1, z2, z3, b5, hbl⟩ := hst
    obtain ⟨g0, g1, g3⟩ := HQ.out
    have hpc : b0 = true → WN.cell? ⟨bS, oS + (i - 1) * 4, none⟩ = some (.int .i64 p.1.1) ∧ WN.cell? ⟨bS, oS + (i - 1) * 4 + 1, none⟩ = some (.int .i64 p.1.2.1) ∧ WN.cell? ⟨bS, oS + (i - 1) * 4 + 2, none⟩ = some (.int .i64 p.1.2.2) := fun h0 => by
     obtain ⟨c0, c1, c2⟩ := HPC.out h0
     exact ⟨sd c0 hbl, sd c1 hbl, sd c2 hbl⟩
    have hsub := HSUB.out
    iterate 21 refine ⟨?_, fun K hK => ?_⟩
    ·trivial
    ·obtain rfl := H1_20.out
     obtain rfl := H1_19.out
     generalize (b0 && (!bz)) = y1 at hK ⊢
     cases bl <;> cases y1 <;> (go_simp; exact hK _ HST.out)
    ·obtain rfl := H1_19.out
     obtain rfl := H1_7.out
     obtain rfl := H1_18.out
     generalize (!bz) = y2 at hK ⊢
     cases bl <;> cases b0 <;> cases y2 <;> (go_simp; exact hK _ HST.out)
    ·obtain rfl := H1_18.out
     obtain rfl := H1_7.out
     obtain rfl := H1_17.out
     generalize (!bl) = y0 at hK ⊢
     cases y0 <;> cases b0 <;> cases bz <;> (go_simp; exact hK _ HST.out)
    ·obtain rfl := H1_17.out
     obtain rfl := H1_7.out
     obtain rfl := H1_14.out
     obtain rfl := H1_16.out
     generalize (!bl) = y0 at hK ⊢
     cases y0 <;> cases b0 <;> first | (go_simp; exact hK _ HST.out; done) | (go_simp; refine (CC.out _).mono ?_; rintro e' wc ⟨he, hbc⟩; subst he; exact hK _ ⟨sd z0 hbc, sd z1 hbc, sd z2 hbc, sd z3 hbc, sd b5 hbc, stay_b hbl hbc⟩)
    ·obtain rfl := H1_16.out
     obtain rfl := H1_7.out
     obtain rfl := H1_15.out
     generalize (!bl) = y0 at hK ⊢
     cases y0 <;> cases b0 <;> (go_simp; exact hK _ HST.out)
    ·obtain rfl := H1_15.out
     obtain rfl := H1_7.out
     generalize (!bl) = y0 at hK ⊢
     cases y0 <;> cases b0 <;> (go_simp; exact hK _ HST.out)
    ·obtain rfl := H1_14.out
     obtain rfl := H1_7.out
     obtain rfl := H1_13.out
     generalize (!bl) = y0 at hK ⊢
     cases y0 <;> cases b0 <;> (go_simp; exact hK _ HST.out)
    ·obtain rfl := H1_13.out
     obtain rfl := H1_7.out
     obtain rfl := H1_12.out
     generalize (!bl) = y0 at hK ⊢
     cases y0 <;> cases b0 <;> (go_simp; exact hK _ HST.out)
    ·obtain rfl := H1_12.out
     obtain rfl := H1_7.out
     obtain rfl := H1_9.out
     obtain rfl := H1_11.out
     generalize (!bl) = y0 at hK ⊢
     cases y0 <;> cases b0 <;> (go_simp; exact hK _ HST.out)
    ·obtain rfl := H1_11.out
     obtain rfl := H1_7.out
     obtain rfl := H1_10.out
     generalize (!bl) = y0 at hK ⊢
     cases y0 <;> cases b0 <;> (go_simp; exact hK _ HST.out)
    ·obtain rfl := H1_10.out
     obtain rfl := H1_7.out
     generalize (!bl) = y0 at hK ⊢
     cases y0 <;> cases b0 <;> (go_simp; exact hK _ HST.out)
    ·obtain rfl := H1_9.out
     obtain rfl := H1_7.out
     obtain rfl := H1_8.out
     generalize (!bl) = y0 at hK ⊢
     cases y0 <;> cases b0 <;> (go_simp; exact hK _ HST.out)
    ·obtain rfl := H1_8.out
     obtain rfl := H1_7.out
     generalize (!bl) = y0 at hK ⊢
     cases y0 <;> cases b0 <;> (go_simp; exact hK _ HST.out)
    ·obtain rfl := H1_7.out
     obtain rfl := H1_6.out
     cases bl <;> cases b0 <;> (go_simp; exact hK _ HST.out)
    ·obtain rfl := H1_6.out
     obtain rfl := H1_5.out
     cases bl <;> (go_simp; exact hK _ HST.out)
    ·obtain rfl := H1_5.out
     cases bl <;> (go_simp; exact hK _ HST.out)
    ·cases bl <;> (go_simp; exact hK _ HST.out)
    ·(go_simp; exact hK _ HST.out)
    ·(go_simp; exact hK _ HST.out)
    ·(go_simp; exact hK _ HST.out)
    ·(go_simp; exact hK _ HST.out)
   case he =>
    obtain ⟨z0, z1, z2, z3, b5, hbl⟩ := hst
    obtain rfl := H1_20.out
    clear H1_5 H1_6 H1_7 H1_8 H1_9 H1_10 H1_11 H1_12 H1_13 H1_14 H1_15 H1_16 H1_17 H1_18 H1_19 H1_20
    -- (bl || (b0 && (!bz)))
    have HKS6 := Lib.hid (blk_below HKS.out hbl (blk_lt HKS.out))
    have HBW6 := Lib.hid (HBW.out.trans (hbl.mono HBW.out.size))
    have HBO6 := Lib.hid (HBO.out.trans (hbl.mono HBO.out.size))
    replace b4 := sd b4 hbl
    obtain ⟨w6, hw6⟩ : ∃ x, x = WN := ⟨_, rfl⟩
    subst hw6
    clear hbl HKS HBW HBO
    cases hc : (bl || (b0 && (!bz))) with
    | true =>
     have hno : ¬ StksP L ms sts := by
      intro hP
      obtain ⟨g0, g1, g2⟩ := HBB.out
      rcases (Bool.or_eq_true _ _).mp hc with h1 | h1
      ·rw [g2] at h1
       have h2 : (s.2.length : Int) = 0 := by simpa using h1
       exact hP.ne i s HSI.out (List.length_eq_zero_iff.1 (by omega))
      ·obtain ⟨h2, h3⟩ := (Bool.and_eq_true _ _).mp h1
       rw [g0] at h2
       have h2 := of_decide_eq_true h2
       have h4 := hP.lt (i - 1) p s (HPV.out (by omega)) (by rw [show i - 1 + 1 = i by omega]; exact HSI.out)
       rw [g1, ltT_yes h4] at h3
       cases h3
     have HN := Lib.hid (HNOT.out (fun h => hno (HSP.out.1 h).2))
     clear hno hc
     go_wp2
     go_ret
     exact ⟨ret_bool HN.out.symm, HBW6.out⟩
    | false =>
     obtain ⟨hc1, hc2⟩ := Bool.or_eq_false_iff.mp hc
     have hltA : ∀ (j : Nat) (a : Stk), j + 1 = i → sts[j]? = some a → triLt a.1 s.1 := by
      intro j a hj ha
      obtain ⟨g0, g1, g2⟩ := HBB.out
      have h1 := HPV.out (by omega)
      rw [show i - 1 = j by omega, ha] at h1
      cases h1
      have h2 : b0 = true := by rw [g0]; exact decide_eq_true (by omega)
      rw [h2, Bool.true_and, g1] at hc2
      refine ltT_iff.1 ?_
      simpa using hc2
     have hne : s.2 ≠ [] := by
      intro e
      obtain ⟨g0, g1, g2⟩ := HBB.out
      rw [g2, e] at hc1
      simp at hc1
     have hap : ∀ (j : Nat) (a : Stk), j < i → sts[j]? = some a → triLt a.1 s.1 := fun j a hj ha => hS.out.inv.apart (fun j' p' s' h1 h2 h3 => by
      by_cases e : j' + 1 = i
      ·have : s' = s := by rw [e, HSI.out] at h3; exact (Option.some.inj h3).symm
       subst this
       exact hltA j' p' e h2
      ·exact hS.out.inv.lt j' p' s' (.inl (by omega)) h2 h3) hj ha HSI.out
     have hlt0 : 0 < s.2.length := List.length_pos_iff.2 hne
     have hapn : ∀ (j : Nat) (a : Stk), j < i → sts[j]? = some a → a.1 ≠ s.1 := fun j a hj ha e => triLt_irrefl s.1 (by have := hap j a hj ha; rwa [e] at this)
     have HLA := Lib.hid hltA
     have HNE := Lib.hid hne
     have HAN := Lib.hid hapn
     clear hc hc1 hc2 hltA hne hap hapn HBB HPV HSUB HPC HQ CC
     go_wp2_with fail
     go_loopw [4, 7] (fun c v wr => ∃ q : Nat, q ≤ s.2.length ∧ v = .int .i64 q ∧ c = .int .i64 ((earl sts i q).length : Nat) ∧ Hid (StI L ms sts i q) ∧ Hid (Below w6.heap.size w6 wr)) (fun _ v _ => s.2.length - (intOf v).toNat)
     case atStart => exact ⟨0, by omega, rfl, rfl, hS, Lib.hid (Below.refl _ _)⟩
     case round =>
      clear hS z0 z1 z2 z3
      obtain ⟨q, hq, rfl, rfl, hS, hbq⟩ := hrel
      have hel2 := hS.out.len
      have hks := blk_below HKS6.out hbq.out (blk_lt HKS6.out)
      have z0 := cell_of_blk hks 0
      have z1 := cell_of_blk hks 1
      have z2 := cell_of_blk hks 2
      have z3 := cell_of_blk hks 3
      simp only [List.getElem?_toArray, List.getElem?_cons_zero, List.getElem?_cons_succ] at z0 z1 z2 z3
      clear hks
      by_cases hqn : q < s.2.length
      ·obtain ⟨t, ht⟩ : ∃ t, s.2[q]? = some t := ⟨_, List.getElem?_eq_getElem hqn⟩
       obtain ⟨bT, oT, hA2, t0, t1, t2⟩ := HRD.out.tr ht rfl
       subst hA2
       have hbw7 := HBW6.out.trans (hbq.out.mono HBW6.out.size)
       have hbi7 := HBO6.out.trans (hbq.out.mono HBO6.out.size)
       replace t0 := sd t0 hbw7
       replace t1 := sd t1 hbw7
       replace t2 := sd t2 hbw7
       have q4 := sd b4 hbq.out
       have hqi : (q : Int) < (s.2.length : Int) := by omega
       have hq0 : (0 : Int) ≤ (q : Int) := by omega
       have cP := placeOf_any _ (some ⟨gt, 0, none⟩) ct L t wr (od HO3.out hbi7) hlen
       obtain ⟨PL, hPL⟩ : ∃ z, z = placeI L t := ⟨_, rfl⟩
       rw [← hPL] at cP
       have HPL := Lib.hid hPL
       have CP := Lib.hid cP
       have HT := Lib.hid ht
       have HBW7 := Lib.hid hbw7
       have HBI7 := Lib.hid hbi7
       clear cP hPL ht hbw7 hbi7
       obtain ⟨wq, hwq⟩ : ∃ x, x = wr := ⟨_, rfl⟩
       subst hwq
       go_wp2_with (go_at_call 20; refine CP.out.mono ?_; rintro r w7 ⟨rfl, hb7⟩; have HBW8 := Lib.hid (HBW7.out.trans (hb7.mono HBW7.out.size)); have HBI8 := Lib.hid (HBI7.out.trans (hb7.mono HBI7.out.size)); have HBQ8 := Lib.hid (hbq.out.trans (hb7.mono hbq.out.size)); replace t0 := sd t0 hb7; replace t1 := sd t1 hb7; replace t2 := sd t2 hb7; replace z0 := sd z0 hb7; replace z1 := sd z1 hb7; replace z2 := sd z2 hb7; replace z3 := sd z3 hb7; replace q4 := sd q4 hb7; clear CP hb7 HBW7 HBI7)
       by_cases htL : t ∈ L
       rotate_left
       ·have hpl : PL = -1 := by rw [HPL.out]; unfold placeI; rw [if_neg htL]
        subst hpl
        have hcmp : (decide ((-1 : Int) < 0)) = true := by decide
        have HN := Lib.hid (HNOT.out (fun h => htL ((HSP.out.1 h).2.tri i s q t HSI.out HT.out).1))
        refine rg_plain (fin := ?z4) [.int .i64 (-1), .bool true, .bool true, undef, undef, undef, undef, undef, undef, undef, undef, undef, undef, undef, undef, undef, .bool true, .bool true, undef, undef, undef, undef, undef, undef, undef, undef, undef, undef, undef, .bool true] (fun WN => WN.cell? ⟨wo.heap.size, 0, none⟩ = some (.int .i64 s.1.1) ∧ WN.cell? ⟨wo.heap.size, 1, none⟩ = some (.int .i64 s.1.2.1) ∧ WN.cell? ⟨wo.heap.size, 2, none⟩ = some (.int .i64 s.1.2.2) ∧ WN.cell? ⟨wo.heap.size, 3, none⟩ = some ((.slice (some ⟨bT, oT, none⟩) s.2.length c')) ∧ Below w7.heap.size w7 WN) ?hf (by kernel_rfl) (by kernel_rfl) rfl ⟨z0, z1, z2, z3, (Below.refl _ _).drew⟩ (fun WN hst => ?hs) (fun WN hst => ?he)
        case hf => simp only [putOps, Act.put, List.setIfInBounds_toArray, List.set_cons_succ, List.set_cons_zero]; exact rfl
        case hs =>
         have HST := Lib.hid hst
         obtain ⟨z0, z1, z2, z3, hbl⟩ := hst
         iterate 30 refine ⟨?_, fun K hK => ?_⟩
         ·trivial
         ·(go_simp; exact hK _ HST.out)
         ·(go_simp; exact hK _ HST.out)
         ·(go_simp; exact hK _ HST.out)
         ·(go_simp; exact hK _ HST.out)
         ·(go_simp; exact hK _ HST.out)
         ·(go_simp; exact hK _ HST.out)
         ·(go_simp; exact hK _ HST.out)
         ·(go_simp; exact hK _ HST.out)
         ·(go_simp; exact hK _ HST.out)
         ·(go_simp; exact hK _ HST.out)
         ·(go_simp; exact hK _ HST.out)
         ·(go_simp; exact hK _ HST.out)
         ·(go_simp; exact hK _ HST.out)
         ·(go_simp; exact hK _ HST.out)
         ·(go_simp; exact hK _ HST.out)
         ·(go_simp; exact hK _ HST.out)
         ·(go_simp; exact hK _ HST.out)
         ·(go_simp; exact hK _ HST.out)
         ·(go_simp; exact hK _ HST.out)
         ·(go_simp; exact hK _ HST.out)
         ·(go_simp; exact hK _ HST.out)
         ·(go_simp; exact hK _ HST.out)
         ·(go_simp; exact hK _ HST.out)
         ·(go_simp; exact hK _ HST.out)
         ·(go_simp; exact hK _ HST.out)
         ·(go_simp; exact hK _ HST.out)
         ·(go_simp; exact hK _ HST.out)
         ·(go_simp; exact hK _ HST.out)
         ·(go_simp; exact hK _ HST.out)
         ·(go_simp; exact hK _ HST.out)
        case he =>
         obtain ⟨z0, z1, z2, z3, hbl⟩ := hst
         have HBF := Lib.hid (HBW8.out.trans (hbl.mono HBW8.out.size))
         clear hbl
         go_wp2
         go_ret
         exact ⟨ret_bool HN.out.symm, HBF.out⟩
       obtain ⟨kk, hkk⟩ : ∃ j, j = L.idxOf t := ⟨_, rfl⟩
       have hkl : kk < L.length := by rw [hkk]; exact List.idxOf_lt_length_of_mem htL
       have hpl : PL = (kk : Int) := by rw [HPL.out, hkk]; unfold placeI; rw [if_pos htL]
       subst hpl
       have hLt : L[kk]? = some t := by rw [hkk, List.getElem?_eq_getElem (List.idxOf_lt_length_of_mem htL)]; exact congrArg some (List.getElem_idxOf _)
       have hit := HIN.out t htL
       obtain ⟨bX, oX, m, hA3, hmi, hbX, y0, y1, y2, y3, y4, y5⟩ := Rd.mp (by rw [hnpl]; exact HP3.out) (show kk < ms.length by rw [hnpl]; exact hkl)
       subst hA3
       replace y0 := sd y0 HBI8.out
       replace y1 := sd y1 HBI8.out
       replace y2 := sd y2 HBI8.out
       replace y3 := sd y3 HBI8.out
       replace y4 := sd y4 HBI8.out
       replace y5 := sd y5 HBI8.out
       obtain ⟨v0, v1, v2⟩ := own_tri (od HO3.out HBI8.out) hLt
       have hmg : ms.getD kk zeroV = m := by rw [List.getD_eq_getElem?_getD, hmi]; rfl
       have hmay := (HMP.out.may kk hkl).1
       rw [hmg] at hmay
       have cM := fun (W : World) => moveOf_any m.1 m.2.1 m.2.2.1 m.2.2.2.1 m.2.2.2.2.1 m.2.2.2.2.2 t.1 t.2.1 t.2.2 W (gb_sm (may_sm hmay) (by omega)) (may_even hmay).1 (may_even hmay).2.1 (may_even hmay).2.2 (by have := hit.1; omega) (by have := hit.1; omega) (by have := hit.2.1; omega) (by have := hit.2.1; omega) hit.2.2.1 hit.2.2.2
       have hat : atI L ms kk = moveV m t := by unfold atI; rw [hmg, List.getD_eq_getElem?_getD, hLt]; rfl
       obtain ⟨U, hU⟩ : ∃ U, U = moveV m t := ⟨_, rfl⟩
       rw [show moveT m.1 m.2.1 m.2.2.1 m.2.2.2.1 m.2.2.2.2.1 m.2.2.2.2.2 t.1 t.2.1 t.2.2 = U from hU.symm] at cM
       rw [← hU] at hat
       have hnt : ∀ w, (binOp .neq 44 (aggT3 U) (aggT3 s.1)).run Tryz.prog w = .ok (.bool (!decide (U = s.1))) w := fun w => by rw [← eqT_dec]; exact neT U.1 U.2.1 U.2.2 s.1.1 s.1.2.1 s.1.2.2 w
       obtain ⟨bu, hbu⟩ : ∃ b, b = (!decide (U = s.1)) := ⟨_, rfl⟩
       rw [← hbu] at hnt
       have hlq : (s.2.take q).length = q := by simp; omega
       have cR := fun (W : World) (hb : Below w7.heap.size w7 W) => placeRd_any (some ⟨bT, oT, none⟩) c' (s.2.take q) t W (by rw [hlq]; exact (HRD.out.below (HBW8.out.trans (hb.mono HBW8.out.size))).takeT hq) (by omega)
       rw [hlq] at cR
       obtain ⟨P2, hP2⟩ : ∃ z, z = placeI (s.2.take q) t := ⟨_, rfl⟩
       rw [← hP2] at cR
       obtain ⟨b2, hb2⟩ : ∃ b, b = decide ((0 : Int) ≤ P2) := ⟨_, rfl⟩
       have hp2 : b2 = true ↔ t ∈ s.2.take q := by
        rw [hb2, hP2]
        unfold placeI
        by_cases hm : t ∈ s.2.take q
        ·rw [if_pos hm]; simp [hm]
        ·rw [if_neg hm]; simp [hm]
       have hcmp : (decide ((kk : Int) < 0)) = false := decide_eq_false (by omega)
       have hqc : q ≤ c' := by omega
       have hkki : (kk : Int) < (L.length : Int) := by omega
       have hkk0 : (0 : Int) ≤ (kk : Int) := by omega
       have CMV := Lib.hid cM
       have CR := Lib.hid cR
       have HAT := Lib.hid hat
       have HBU := Lib.hid hbu
       have HP2 := Lib.hid hp2
       have HQ2 := Lib.hid hb2.symm
       have HKK := Lib.hid hkk
       have HTL := Lib.hid htL
       clear cM cR hat hbu hp2 hb2 hP2 hkk htL hLt hit hmi hmg hmay hU hlq
       obtain ⟨V5_18, H5_18⟩ : ∃ V : Value, Hid (V = (bif (!bu) then .pointer (some ⟨wo.heap.size, 3, none⟩) else undef)) := ⟨_, Lib.hid rfl⟩
       obtain ⟨V5_19, H5_19⟩ : ∃ V : Value, Hid (V = (bif (!bu) then (.slice (some ⟨bT, oT, none⟩) s.2.length c') else undef)) := ⟨_, Lib.hid rfl⟩
       obtain ⟨V5_20, H5_20⟩ : ∃ V : Value, Hid (V = (bif (!bu) then .int .i64 (q : Int) else undef)) := ⟨_, Lib.hid rfl⟩
       obtain ⟨V5_21, H5_21⟩ : ∃ V : Value, Hid (V = (bif (!bu) then .slice (some ⟨bT, oT, none⟩) q c' else undef)) := ⟨_, Lib.hid rfl⟩
       obtain ⟨V5_22, H5_22⟩ : ∃ V : Value, Hid (V = (bif (!bu) then .pointer (some ⟨wo.heap.size, 3, none⟩) else undef)) := ⟨_, Lib.hid rfl⟩
       obtain ⟨V5_23, H5_23⟩ : ∃ V : Value, Hid (V = (bif (!bu) then (.slice (some ⟨bT, oT, none⟩) s.2.length c') else undef)) := ⟨_, Lib.hid rfl⟩
       obtain ⟨V5_24, H5_24⟩ : ∃ V : Value, Hid (V = (bif (!bu) then .int .i64 (q : Int) else undef)) := ⟨_, Lib.hid rfl⟩
       obtain ⟨V5_25, H5_25⟩ : ∃ V : Value, Hid (V = (bif (!bu) then .pointer (some ⟨bT, oT + q * 3, none⟩) else undef)) := ⟨_, Lib.hid rfl⟩
       obtain ⟨V5_26, H5_26⟩ : ∃ V : Value, Hid (V = (bif (!bu) then aggT3 t else undef)) := ⟨_, Lib.hid rfl⟩
       obtain ⟨V5_27, H5_27⟩ : ∃ V : Value, Hid (V = (bif (!bu) then .int .i64 P2 else undef)) := ⟨_, Lib.hid rfl⟩
       obtain ⟨V5_28, H5_28⟩ : ∃ V : Value, Hid (V = (bif (!bu) then .bool b2 else undef)) := ⟨_, Lib.hid rfl⟩
       obtain ⟨V5_29, H5_29⟩ : ∃ V : Value, Hid (V = .bool (bu || b2)) := ⟨_, Lib.hid rfl⟩
       refine rg_plain (fin := ?z6) [.int .i64 (kk : Int), .bool false, .bool false, .pointer (some ⟨w.heap.size, 4, none⟩), .slice (some ⟨bX, oX, none⟩) L.length cp, .int .i64 (kk : Int), .pointer (some ⟨bX, oX + kk * 6, none⟩), aggM m, .slice (some ⟨gt, 0, none⟩) L.length ct, .int .i64 (kk : Int), .pointer (some ⟨gt, kk * 3, none⟩), aggT3 t, aggT3 U, .pointer (some ⟨wo.heap.size, 0, none⟩), aggT3 s.1, .bool bu, .bool bu, .bool bu, V5_18, V5_19, V5_20, V5_21, V5_22, V5_23, V5_24, V5_25, V5_26, V5_27, V5_28, V5_29] (fun WN => WN.cell? ⟨wo.heap.size, 0, none⟩ = some (.int .i64 s.1.1) ∧ WN.cell? ⟨wo.heap.size, 1, none⟩ = some (.int .i64 s.1.2.1) ∧ WN.cell? ⟨wo.heap.size, 2, none⟩ = some (.int .i64 s.1.2.2) ∧ WN.cell? ⟨wo.heap.size, 3, none⟩ = some ((.slice (some ⟨bT, oT, none⟩) s.2.length c')) ∧ WN.cell? ⟨w.heap.size, 4, none⟩ = some (.slice (some ⟨bX, oX, none⟩) L.length cp) ∧ WN.cell? ⟨bX, oX + kk * 6, none⟩ = some (.int .i64 m.1) ∧ WN.cell? ⟨bX, oX + kk * 6 + 1, none⟩ = some (.int .i64 m.2.1) ∧ WN.cell? ⟨bX, oX + kk * 6 + 2, none⟩ = some (.int .i64 m.2.2.1) ∧ WN.cell? ⟨bX, oX + kk * 6 + 3, none⟩ = some (.int .i64 m.2.2.2.1) ∧ WN.cell? ⟨bX, oX + kk * 6 + 4, none⟩ = some (.int .i64 m.2.2.2.2.1) ∧ WN.cell? ⟨bX, oX + kk * 6 + 5, none⟩ = some (.int .i64 m.2.2.2.2.2) ∧ WN.cell? ⟨gt, kk * 3, none⟩ = some (.int .i64 t.1) ∧ WN.cell? ⟨gt, kk * 3 + 1, none⟩ = some (.int .i64 t.2.1) ∧ WN.cell? ⟨gt, kk * 3 + 2, none⟩ = some (.int .i64 t.2.2) ∧ WN.cell? ⟨bT, oT + q * 3, none⟩ = some (.int .i64 t.1) ∧ WN.cell? ⟨bT, oT + q * 3 + 1, none⟩ = some (.int .i64 t.2.1) ∧ WN.cell? ⟨bT, oT + q * 3 + 2, none⟩ = some (.int .i64 t.2.2) ∧ Below w7.heap.size w7 WN) ?hf (by kernel_rfl) (by kernel_rfl) rfl ⟨z0, z1, z2, z3, q4, y0, y1, y2, y3, y4, y5, v0, v1, v2, t0, t1, t2, (Below.refl _ _).drew⟩ (fun WN hst => ?hs) (fun WN hst => ?he)
       case hf => simp only [putOps, Act.put, List.setIfInBounds_toArray, List.set_cons_succ, List.set_cons_zero]; exact rfl
       case hs =>
        have HST := Lib.hid hst
        obtain ⟨z0, z1, z2, z3, q4, y0, y1, y2, y3, y4, y5, v0, v1, v2, t0, t1, t2, hbl⟩ := hst
        have hb2 := HQ2.out
        iterate 30 refine ⟨?_, fun K hK => ?_⟩
        ·trivial
        ·obtain rfl := H5_29.out
         obtain rfl := H5_28.out
         cases bu <;> cases b2 <;> (go_simp; exact hK _ HST.out)
        ·obtain rfl := H5_28.out
         obtain rfl := H5_27.out
         cases bu <;> (go_simp; exact hK _ HST.out)
        ·obtain rfl := H5_27.out
         obtain rfl := H5_21.out
         obtain rfl := H5_26.out
         cases bu <;> first | (go_simp; exact hK _ HST.out; done) | (go_simp; refine (CR.out WN hbl).mono ?_; rintro e' wc ⟨he, hbc⟩; subst he; exact hK _ ⟨sd z0 hbc, sd z1 hbc, sd z2 hbc, sd z3 hbc, sd q4 hbc, sd y0 hbc, sd y1 hbc, sd y2 hbc, sd y3 hbc, sd y4 hbc, sd y5 hbc, sd v0 hbc, sd v1 hbc, sd v2 hbc, sd t0 hbc, sd t1 hbc, sd t2 hbc, stay_b hbl hbc⟩)
        ·obtain rfl := H5_26.out
         obtain rfl := H5_25.out
         cases bu <;> (go_simp; exact hK _ HST.out)
        ·obtain rfl := H5_25.out
         obtain rfl := H5_23.out
         obtain rfl := H5_24.out
         cases bu <;> (go_simp; exact hK _ HST.out)
        ·obtain rfl := H5_24.out
         cases bu <;> (go_simp; exact hK _ HST.out)
        ·obtain rfl := H5_23.out
         obtain rfl := H5_22.out
         cases bu <;> (go_simp; exact hK _ HST.out)
        ·obtain rfl := H5_22.out
         cases bu <;> (go_simp; exact hK _ HST.out)
        ·obtain rfl := H5_21.out
         obtain rfl := H5_19.out
         obtain rfl := H5_20.out
         cases bu <;> (go_simp; exact hK _ HST.out)
        ·obtain rfl := H5_20.out
         cases bu <;> (go_simp; exact hK _ HST.out)
        ·obtain rfl := H5_19.out
         obtain rfl := H5_18.out
         cases bu <;> (go_simp; exact hK _ HST.out)
        ·obtain rfl := H5_18.out
         cases bu <;> (go_simp; exact hK _ HST.out)
        ·cases bu <;> (go_simp; exact hK _ HST.out)
        ·cases bu <;> (go_simp; exact hK _ HST.out)
        ·(go_simp; exact hK _ HST.out)
        ·(go_simp; exact hK _ HST.out)
        ·(go_simp; exact hK _ HST.out)
        ·(go_simp; refine (CMV.out WN).mono ?_; rintro e' wc ⟨he, hbc⟩; subst he; exact hK _ ⟨sd z0 hbc, sd z1 hbc, sd z2 hbc, sd z3 hbc, sd q4 hbc, sd y0 hbc, sd y1 hbc, sd y2 hbc, sd y3 hbc, sd y4 hbc, sd y5 hbc, sd v0 hbc, sd v1 hbc, sd v2 hbc, sd t0 hbc, sd t1 hbc, sd t2 hbc, stay_b hbl hbc⟩)
        ·(go_simp; exact hK _ HST.out)
        ·(go_simp; exact hK _ HST.out)
        ·(go_simp; exact hK _ HST.out)
        ·(go_simp; exact hK _ HST.out)
        ·(go_simp; exact hK _ HST.out)
        ·(go_simp; exact hK _ HST.out)
        ·(go_simp; exact hK _ HST.out)
        ·(go_simp; exact hK _ HST.out)
        ·(go_simp; exact hK _ HST.out)
        ·(go_simp; exact hK _ HST.out)
        ·(go_simp; exact hK _ HST.out)
        ·(go_simp; exact hK _ HST.out)
       case he =>
        obtain ⟨z0, z1, z2, z3, q4, y0, y1, y2, y3, y4, y5, v0, v1, v2, t0, t1, t2, hbl⟩ := hst
        obtain rfl := H5_29.out
        clear H5_18 H5_19 H5_20 H5_21 H5_22 H5_23 H5_24 H5_25 H5_26 H5_27 H5_28 H5_29
        -- (bu || b2)
        have HBF := Lib.hid (HBW8.out.trans (hbl.mono HBW8.out.size))
        have HBR := Lib.hid (HBQ8.out.trans (hbl.mono HBQ8.out.size))
        clear hbl
        cases hc : (bu || b2) with
        | true =>
         have HN := Lib.hid (HNOT.out (fun h => by
          obtain ⟨p1, p2, p3⟩ := (HSP.out.1 h).2.tri i s q t HSI.out HT.out
          rw [← HKK.out, HAT.out] at p2
          rcases (Bool.or_eq_true _ _).mp hc with h1 | h1
          ·rw [HBU.out, p2] at h1
           simp at h1
          ·exact p3 (HP2.out.1 h1)))
         clear hc
         go_wp2
         go_ret
         exact ⟨ret_bool HN.out.symm, HBF.out⟩
        | false =>
         obtain ⟨h1, h2⟩ := Bool.or_eq_false_iff.mp hc
         have hat : atI L ms (L.idxOf t) = s.1 := by
          rw [← HKK.out, HAT.out]
          rw [HBU.out] at h1
          simpa using h1
         have hno : t ∉ s.2.take q := fun h => by have := HP2.out.2 h; rw [h2] at this; cases this
         have hSN := Lib.hid (hS.out.step HSI.out HT.out HNE.out HLA.out HTL.out (hS.out.inv.notIn HSI.out hat hno HAN.out) hat)
         have hel3 : ((earl sts i (q + 1)).length : Int) = ((earl sts i q).length : Int) + 1 := by rw [earl_step HSI.out HT.out]; simp
         have hwr : IntKind.i64.wrap (((earl sts i q).length : Int) + 1) = ((earl sts i (q + 1)).length : Int) := by rw [hel3]; exact IntWalk.i64_in _ (by omega)
         have hwq : IntKind.i64.wrap ((q : Int) + 1) = ((q + 1 : Nat) : Int) := by rw [IntWalk.i64_in _ (by omega)]; omega
         clear hc h1 h2 hat hno hel3
         go_wp2
         go_roundw
         case rel => exact ⟨q + 1, by omega, by first | rfl | go_num, by first | rfl | exact congrArg _ hwr, hSN, HBR⟩
         case measure => simp [intOf]; omega
      ·obtain rfl : q = s.2.length := by omega
       have hel3 : ((earl sts (i + 1) 0).length : Int) = ((earl sts i s.2.length).length : Int) := by rw [earl_next HSI.out]
       have hSN := Lib.hid (show StI L ms sts (i + 1) 0 from ⟨hS.out.inv.next HSI.out hlt0, by rw [← earl_next HSI.out]; exact hS.out.nd⟩)
       have HBR := Lib.hid (HBO6.out.trans (hbq.out.mono HBO6.out.size))
       have hwi : IntKind.i64.wrap ((i : Int) + 1) = ((i + 1 : Nat) : Int) := by rw [IntWalk.i64_in _ (by omega)]; omega
       clear hS hbq
       go_wp2
       go_roundw
       case rel => exact ⟨i + 1, by omega, by first | rfl | go_num, by rw [hel3], hSN, HBR⟩
       case measure => simp [intOf]; omega
  ·obtain rfl : i = sts.length := by omega
   obtain ⟨CC, hCC⟩ : ∃ c : Int, c = ((earl sts sts.length 0).length : Int) := ⟨_, rfl⟩
   rw [← hCC]
   have hbR : (CC == (L.length : Int)) = R := by
    cases hbE : (CC == (L.length : Int)) with
    | true =>
     have h2 : (earl sts sts.length 0).length = L.length := by have := eq_of_beq hbE; omega
     rw [earl_zero, List.take_length] at h2
     exact (HYES.out (HSP.out.2 ⟨HMP.out, hS.out.inv.done h2⟩)).symm
    | false =>
     refine (HNOT.out fun h => ?_).symm
     have h2 := (HSP.out.1 h).2.many
     rw [← List.take_length (l := sts), ← earl_zero] at h2
     rw [hCC, h2] at hbE
     simp at hbE
   have HBR := Lib.hid hbR
   have HBF := Lib.hid hbw
   clear hS hbR hCC hbw hbw3
   go_wp2
   go_ret
   exact ⟨ret_bool HBR.out, HBF.out⟩
end
end Go.Proofs.YtpkjekedgodccaaGreatDoor
