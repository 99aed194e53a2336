/- The walk of the law ViewTells. Sheets that come in, opened.. -/
import Derived.Test.YtpkjekedgodccaaGreatDoorK41
import Derived.Test.YtpkjekedgodccaaGreatDoorK42
import Derived.Test.YtpkjekedgodccaaGreatDoorK40
import Derived.Test.YtpkjekedgodccaaGreatDoorK49
import Derived.Test.YtpkjekedgodccaaGreatDoorK46
import Derived.Test.YtpkjekedgodccaaGreatDoorK22
import Derived.ProofKit
import Derived.OpenShut
import Derived.Lib.SmallJoins
import Derived.SizedLaws
namespace Go.Proofs.YtpkjekedgodccaaGreatDoor
set_option linter.unusedSimpArgs false
set_option linter.unusedVariables false
section
open Go.RowKit Go.Maps
set_option maxRecDepth 100000 in
set_option maxHeartbeats 6400000 in
theorem view_walk (W H : Int) (Am Ac Ap As : Option Addr) (nm cm nc cc np cp ns cS : Nat) (mask : List Int) (cs : List C5) (ms : List V6) (sts : List Stk) (w : World) (hs : Steps w) (hm : Rd w 1 Am nm (vis mask)) (hc : Rd w 5 Ac nc (ccs cs)) (hp : Rd w 6 Ap np (mcs ms)) (hst : StkR w As ns sts) (hAm : Am = none → cm = 0) (hAc : Ac = none → cc = 0) (hAp : Ap = none → cp = 0)
    (hnm : nm * 8 ≤ 140737488351232) (hnc : nc * 40 ≤ 140737488351232) (hnp : np * 48 ≤ 140737488351232) (hts : ∀ s ∈ sts, s.2.length * 24 ≤ 140737488351232) (hns : ns * 48 ≤ 140737488351232) :
  Calls Tryz.prog 3 #[.agg #[.int .i64 W, .int .i64 H, .slice Am nm cm, .slice Ac nc cc, .slice Ap np cp, .slice As ns cS]] w fun e w' => e = .returned (.bool true) ∧ Below w.heap.size w w' := by
 have kb0 := heap_alloc_new w (.cells #[.int .i64 W, .int .i64 H, .slice Am nm cm, .slice Ac nc cc, .slice Ap np cp, .slice As ns cS] 29)
 have hb0 := below_new w (.cells #[.int .i64 W, .int .i64 H, .slice Am nm cm, .slice Ac nc cc, .slice Ap np cp, .slice As ns cS] 29)
 have a0 := cell_of_blk kb0 0
 have a1 := cell_of_blk kb0 1
 have a2 := cell_of_blk kb0 2
 have a3 := cell_of_blk kb0 3
 have a4 := cell_of_blk kb0 4
 have a5 := cell_of_blk kb0 5
 simp only [List.getElem?_toArray, List.getElem?_cons_zero, List.getElem?_cons_succ] at a0 a1 a2 a3 a4 a5
 have hs0 := hs.below hb0
 have hm0 := hm.below hb0
 have hc0 := hc.below hb0
 have hp0 := hp.below hb0
 have hst0 := hst.below hb0
 have hln : ns ≤ sts.length ∧ sts.length ≤ ns := ⟨Nat.le_of_eq hst.len, Nat.le_of_eq hst.len.symm⟩
 have hvw := fun (h : StateP W H mask cs ms sts) => vwPW h hm hc (by omega)
 have hpic := fun (h : stateB W H mask cs ms sts = true) => tops_pic ((stateB_iff).1 h) (hvw ((stateB_iff).1 h))
 have cS0 := fun (w' : World) (hb : Below (w.alloc (.cells #[.int .i64 W, .int .i64 H, .slice Am nm cm, .slice Ac nc cc, .slice Ap np cp, .slice As ns cS] 29)).heap.size (w.alloc (.cells #[.int .i64 W, .int .i64 H, .slice Am nm cm, .slice Ac nc cc, .slice Ap np cp, .slice As ns cS] 29)) w') => stateOf_any W H Am Ac Ap As nm cm nc cc np cp ns cS mask cs ms sts w' (hm0.below hb) (hc0.below hb) (hp0.below hb) (hst0.below hb) hnm hnc hnp hAm hAc hAp hts hns
 have cM := fun (w' : World) (hb : Below (w.alloc (.cells #[.int .i64 W, .int .i64 H, .slice Am nm cm, .slice Ac nc cc, .slice Ap np cp, .slice As ns cS] 29)).heap.size (w.alloc (.cells #[.int .i64 W, .int .i64 H, .slice Am nm cm, .slice Ac nc cc, .slice Ap np cp, .slice As ns cS] 29)) w') => stateMay_any W H Am Ac Ap As nm cm nc cc np cp ns cS mask cs ms sts w' (hm0.below hb) (hc0.below hb) (hp0.below hb) (hst0.below hb) (by omega) (by omega) (by omega)
 have cT := fun (w' : World) (hb : Below (w.alloc (.cells #[.int .i64 W, .int .i64 H, .slice Am nm cm, .slice Ac nc cc, .slice Ap np cp, .slice As ns cS] 29)).heap.size (w.alloc (.cells #[.int .i64 W, .int .i64 H, .slice Am nm cm, .slice Ac nc cc, .slice Ap np cp, .slice As ns cS] 29)) w') (Bm Bc Bp Bs : Option Addr) (c1 c2 c3 c4 : Nat) (g1 : Rd w' 1 Bm nm (vis mask)) (g2 : Rd w' 5 Bc nc (ccs cs)) (g3 : Rd w' 6 Bp np (mcs ms)) (g4 : StkR w' Bs ns sts) => viewTop_any W H Bm Bc Bp Bs nm c1 nc c2 np c3 ns c4 mask cs ms sts w' (hs0.below hb) g1 g2 g3 g4 (by omega) (by omega) (by omega)
 have cK := fun (w' : World) (hb : Below (w.alloc (.cells #[.int .i64 W, .int .i64 H, .slice Am nm cm, .slice Ac nc cc, .slice Ap np cp, .slice As ns cS] 29)).heap.size (w.alloc (.cells #[.int .i64 W, .int .i64 H, .slice Am nm cm, .slice Ac nc cc, .slice Ap np cp, .slice As ns cS] 29)) w') (Bm Bc Bp Bs : Option Addr) (c1 c2 c3 c4 : Nat) (g1 : Rd w' 1 Bm nm (vis mask)) (g2 : Rd w' 5 Bc nc (ccs cs)) (g3 : Rd w' 6 Bp np (mcs ms)) (g4 : StkR w' Bs ns sts) => viewThick_any W H Bm Bc Bp Bs nm c1 nc c2 np c3 ns c4 mask cs ms sts w' (hs0.below hb) g1 g2 g3 g4 (by omega) (by omega) (by omega)
 have cP := fun (w' : World) (hb : Below (w.alloc (.cells #[.int .i64 W, .int .i64 H, .slice Am nm cm, .slice Ac nc cc, .slice Ap np cp, .slice As ns cS] 29)).heap.size (w.alloc (.cells #[.int .i64 W, .int .i64 H, .slice Am nm cm, .slice Ac nc cc, .slice Ap np cp, .slice As ns cS] 29)) w') (Bm Bc Bp Bs : Option Addr) (c1 c2 c3 c4 : Nat) (g1 : Rd w' 1 Bm nm (vis mask)) (g2 : Rd w' 5 Bc nc (ccs cs)) (g3 : Rd w' 6 Bp np (mcs ms)) (g4 : StkR w' Bs ns sts) => viewPic_any W H Bm Bc Bp Bs nm c1 nc c2 np c3 ns c4 mask cs ms sts w' (hs0.below hb) g1 g2 g3 g4 (by omega) (by omega) (by omega) hpic
 have CS := Lib.hid cS0
 have CM := Lib.hid cM
 have CT := Lib.hid cT
 have CK := Lib.hid cK
 have CP := Lib.hid cP
 have HB0 := Lib.hid hb0
 have HVW := Lib.hid hvw
 have HPC := Lib.hid hpic
 have HM0 := Lib.hid hm0
 have HC0 := Lib.hid hc0
 have HP0 := Lib.hid hp0
 have HST0 := Lib.hid hst0
 clear cS0 cM cT cK cP hb0 hs hm hc hp hst hs0 hm0 hc0 hp0 hst0 kb0 hvw hpic
 go_enter Tryz.func3, Tryz.ntmps3
 go_wp2_with fail
 generalize w.alloc (.cells #[.int .i64 W, .int .i64 H, .slice Am nm cm, .slice Ac nc cc, .slice Ap np cp, .slice As ns cS] 29) = w0 at a0 a1 a2 a3 a4 a5 CS CM CT CK CP HB0 HM0 HC0 HP0 HST0 ⊢
 refine (CS.out _ (Below.refl _ _)).mono ?_
 rintro e w1 ⟨Bm, c1, Bc, c2, Bp, c3, Bs, c4, rfl, hm1, hc1, hp1, hst1, hb⟩
 replace a0 := sd a0 hb
 replace a1 := sd a1 hb
 replace a2 := sd a2 hb
 replace a3 := sd a3 hb
 replace a4 := sd a4 hb
 replace a5 := sd a5 hb
 have HB1 := Lib.hid (hb)
 have HM1 := Lib.hid hm1
 have HC1 := Lib.hid hc1
 have HP1 := Lib.hid hp1
 have HST1 := Lib.hid hst1
 clear hm1 hc1 hp1 hst1 hb
 go_wp2_with fail
 refine (CT.out _ HB1.out Bm Bc Bp Bs c1 c2 c3 c4 HM1.out HC1.out HP1.out HST1.out).mono ?_
 rintro e w2 ⟨hb, ⟨hF, rfl⟩ | ⟨hT, v, rfl, hrow⟩⟩
 ·skip
  replace a0 := sd a0 hb
  replace a1 := sd a1 hb
  replace a2 := sd a2 hb
  replace a3 := sd a3 hb
  replace a4 := sd a4 hb
  replace a5 := sd a5 hb
  have HB2 := Lib.hid (stay_b HB1.out hb)
  have HF := Lib.hid hF
  clear hb hF HM1 HC1 HP1 HST1 HPC HVW HM0 HC0 HP0 HST0
  go_wp2_with fail
  refine (CS.out _ HB2.out).mono ?_
  rintro e w3 ⟨Bm, c1, Bc, c2, Bp, c3, Bs, c4, rfl, hm1, hc1, hp1, hst1, hb⟩
  replace a0 := sd a0 hb
  replace a1 := sd a1 hb
  replace a2 := sd a2 hb
  replace a3 := sd a3 hb
  replace a4 := sd a4 hb
  replace a5 := sd a5 hb
  have HB3 := Lib.hid (stay_b HB2.out hb)
  have HM1 := Lib.hid hm1
  have HC1 := Lib.hid hc1
  have HP1 := Lib.hid hp1
  have HST1 := Lib.hid hst1
  clear hm1 hc1 hp1 hst1 hb
  go_wp2_with fail
  refine (CK.out _ HB3.out Bm Bc Bp Bs c1 c2 c3 c4 HM1.out HC1.out HP1.out HST1.out).mono ?_
  rintro e w4 ⟨hb, ⟨_, rfl⟩ | ⟨hT, _⟩⟩
  case inr => rw [HF.out] at hT; cases hT
  replace a0 := sd a0 hb
  replace a1 := sd a1 hb
  replace a2 := sd a2 hb
  replace a3 := sd a3 hb
  replace a4 := sd a4 hb
  replace a5 := sd a5 hb
  have HB4 := Lib.hid (stay_b HB3.out hb)
  clear hb HM1 HC1 HP1 HST1
  go_wp2_with fail
  refine (CS.out _ HB4.out).mono ?_
  rintro e w5 ⟨Bm, c1, Bc, c2, Bp, c3, Bs, c4, rfl, hm1, hc1, hp1, hst1, hb⟩
  replace a0 := sd a0 hb
  replace a1 := sd a1 hb
  replace a2 := sd a2 hb
  replace a3 := sd a3 hb
  replace a4 := sd a4 hb
  replace a5 := sd a5 hb
  have HB5 := Lib.hid (stay_b HB4.out hb)
  have HM1 := Lib.hid hm1
  have HC1 := Lib.hid hc1
  have HP1 := Lib.hid hp1
  have HST1 := Lib.hid hst1
  clear hm1 hc1 hp1 hst1 hb
  go_wp2_with fail
  refine (CP.out _ HB5.out Bm Bc Bp Bs c1 c2 c3 c4 HM1.out HC1.out HP1.out HST1.out).mono ?_
  rintro e w6 ⟨hb, ⟨_, rfl⟩ | ⟨hT, _⟩⟩
  case inr => rw [HF.out] at hT; cases hT
  replace a0 := sd a0 hb
  replace a1 := sd a1 hb
  replace a2 := sd a2 hb
  replace a3 := sd a3 hb
  replace a4 := sd a4 hb
  replace a5 := sd a5 hb
  have HB6 := Lib.hid (stay_b HB5.out hb)
  clear hb HM1 HC1 HP1 HST1
  have C0 := CM.out _ HB6.out
  rw [HF.out] at C0
  have CM0 := Lib.hid C0
  clear C0 CM CS CT CK CP
  go_wp2_with (go_at_call 8; refine CM0.out.mono ?_; rintro e w7 ⟨rfl, hb7⟩; have HB7 := Lib.hid (HB0.out.trans ((stay_b HB6.out hb7).mono HB0.out.size)); clear hb7)
  go_ret
  exact ⟨rfl, HB7.out⟩
 ·skip
  have hsp := stateB_iff.1 hT
  obtain ⟨Wn, Hn, rfl, rfl, hW8, hH8, hml⟩ := newB_dimV hsp.sheet
  have hvp := HVW.out hsp
  have hpc := HPC.out hT
  rw [Int.toNat_natCast] at hvp hpc hrow CP
  obtain ⟨A1, e1, hv, _, _⟩ := own_slice hrow
  subst hv
  have hsh : ShM w0 Wn Hn Am nm mask Ac nc cs := ⟨hW8, hH8, hml, HM0.out, HC0.out, by omega⟩
  have cTo := fun (w' : World) (hb : Below w0.heap.size w0 w') => topRef_any Wn Hn Am Ac Ap As nm cm nc cc np cp ns cS mask cs (trisL Wn mask) ms sts w' (hsh.below hb) rfl (HP0.out.below hb) (HST0.out.below hb) hvp
  have cTk := fun (w' : World) (hb : Below w0.heap.size w0 w') => thickOf_any (Wn : Int) (Hn : Int) Am Ac Ap As nm cm nc cc np cp ns cS sts w' (HST0.out.below hb)
  have cPi := fun (w' : World) (hb : Below w0.heap.size w0 w') => picRef_any Wn Hn Am Ac Ap As nm cm nc cc np cp ns cS mask cs (trisL Wn mask) ms sts w' (hsh.below hb) rfl (HP0.out.below hb) (HST0.out.below hb) hvp hpc
  obtain ⟨T, hTT⟩ : ∃ T, T = tops (trisL Wn mask) ms sts := ⟨_, rfl⟩
  rw [← hTT] at hrow cTo CP cPi
  have htl : T.length = sts.length := by rw [hTT, tops_len]
  have CTO := Lib.hid cTo
  have CTK := Lib.hid cTk
  have CPI := Lib.hid cPi
  have HTL := Lib.hid htl
  have HT := Lib.hid hT
  have HL := Lib.hid (Rd.of_own hrow)
  replace a0 := sd a0 hb
  replace a1 := sd a1 hb
  replace a2 := sd a2 hb
  replace a3 := sd a3 hb
  replace a4 := sd a4 hb
  replace a5 := sd a5 hb
  have HB2 := Lib.hid (stay_b HB1.out hb)
  clear hb hT hsp hvp hpc hsh cTo cTk cPi hTT htl hrow HM1 HC1 HP1 HST1 HPC HVW HM0 HC0 HP0 HST0 CT
  go_wp2_with fail
  refine (CS.out _ HB2.out).mono ?_
  rintro e w3 ⟨Bm, c1, Bc, c2, Bp, c3, Bs, c4, rfl, hm1, hc1, hp1, hst1, hb⟩
  replace a0 := sd a0 hb
  replace a1 := sd a1 hb
  replace a2 := sd a2 hb
  replace a3 := sd a3 hb
  replace a4 := sd a4 hb
  replace a5 := sd a5 hb
  replace HL := Lib.hid (HL.out.below hb)
  have HB3 := Lib.hid (stay_b HB2.out hb)
  have HM1 := Lib.hid hm1
  have HC1 := Lib.hid hc1
  have HP1 := Lib.hid hp1
  have HST1 := Lib.hid hst1
  clear hm1 hc1 hp1 hst1 hb
  go_wp2_with fail
  refine (CK.out _ HB3.out Bm Bc Bp Bs c1 c2 c3 c4 HM1.out HC1.out HP1.out HST1.out).mono ?_
  rintro e w4 ⟨hb, ⟨hF, _⟩ | ⟨_, rfl⟩⟩
  case inl => rw [HT.out] at hF; cases hF
  replace a0 := sd a0 hb
  replace a1 := sd a1 hb
  replace a2 := sd a2 hb
  replace a3 := sd a3 hb
  replace a4 := sd a4 hb
  replace a5 := sd a5 hb
  replace HL := Lib.hid (HL.out.below hb)
  have HB4 := Lib.hid (stay_b HB3.out hb)
  clear hb HM1 HC1 HP1 HST1 CK
  go_wp2_with fail
  refine (CS.out _ HB4.out).mono ?_
  rintro e w5 ⟨Bm, c1, Bc, c2, Bp, c3, Bs, c4, rfl, hm1, hc1, hp1, hst1, hb⟩
  replace a0 := sd a0 hb
  replace a1 := sd a1 hb
  replace a2 := sd a2 hb
  replace a3 := sd a3 hb
  replace a4 := sd a4 hb
  replace a5 := sd a5 hb
  replace HL := Lib.hid (HL.out.below hb)
  have HB5 := Lib.hid (stay_b HB4.out hb)
  have HM1 := Lib.hid hm1
  have HC1 := Lib.hid hc1
  have HP1 := Lib.hid hp1
  have HST1 := Lib.hid hst1
  clear hm1 hc1 hp1 hst1 hb
  go_wp2_with fail
  refine (CP.out _ HB5.out Bm Bc Bp Bs c1 c2 c3 c4 HM1.out HC1.out HP1.out HST1.out).mono ?_
  rintro e w6 ⟨hb, ⟨hF, _⟩ | ⟨_, rfl⟩⟩
  case inl => rw [HT.out] at hF; cases hF
  replace a0 := sd a0 hb
  replace a1 := sd a1 hb
  replace a2 := sd a2 hb
  replace a3 := sd a3 hb
  replace a4 := sd a4 hb
  replace a5 := sd a5 hb
  replace HL := Lib.hid (HL.out.below hb)
  have HB6 := Lib.hid (stay_b HB5.out hb)
  clear hb HM1 HC1 HP1 HST1 CP CS
  have C0 := CM.out _ HB6.out
  rw [HT.out] at C0
  have CM0 := Lib.hid C0
  clear C0 CM
  go_wp2_with (first
    | (go_at_call 8; refine CM0.out.mono ?_; rintro e w7 ⟨rfl, hb⟩; replace a0 := sd a0 hb; replace a1 := sd a1 hb; replace a2 := sd a2 hb; replace a3 := sd a3 hb; replace a4 := sd a4 hb; replace a5 := sd a5 hb; replace HL := Lib.hid (HL.out.below hb); have HB7 := Lib.hid (stay_b HB6.out hb); clear hb)
    | (go_at_call 9; refine (CTO.out _ HB7.out).mono ?_; rintro e w8 ⟨v8, rfl, hrow8, hb⟩; obtain ⟨A2, e2, hv8, _, _⟩ := own_slice hrow8; subst hv8; replace a0 := sd a0 hb; replace a1 := sd a1 hb; replace a2 := sd a2 hb; replace a3 := sd a3 hb; replace a4 := sd a4 hb; replace a5 := sd a5 hb; replace HL := Lib.hid (HL.out.below hb); have HB8 := Lib.hid (stay_b HB7.out hb); have HR8 := Lib.hid (Rd.of_own hrow8); clear hb hrow8)
    | (go_at_call 10; refine (CTK.out _ HB8.out).mono ?_; rintro e w9 ⟨rfl, hb⟩; replace a0 := sd a0 hb; replace a1 := sd a1 hb; replace a2 := sd a2 hb; replace a3 := sd a3 hb; replace a4 := sd a4 hb; replace a5 := sd a5 hb; replace HL := Lib.hid (HL.out.below hb); have HB9 := Lib.hid (stay_b HB8.out hb); replace HR8 := Lib.hid (HR8.out.below hb); clear hb)
    | (go_at_call 11; refine (CPI.out _ HB9.out).mono ?_; rintro e w10 ⟨rfl, hb⟩; replace a0 := sd a0 hb; replace a1 := sd a1 hb; replace a2 := sd a2 hb; replace a3 := sd a3 hb; replace a4 := sd a4 hb; replace a5 := sd a5 hb; replace HL := Lib.hid (HL.out.below hb); have HB10 := Lib.hid (stay_b HB9.out hb); replace HR8 := Lib.hid (HR8.out.below hb); clear hb))
  go_loopw [11] (fun v wr => ∃ i : Nat, i ≤ sts.length ∧ v = .int .i64 i ∧ Hid (Below w10.heap.size w10 wr)) (fun v _ => sts.length - (intOf v).toNat)
  case atStart => exact ⟨0, by omega, rfl, Lib.hid (Below.refl _ _)⟩
  case round =>
    obtain ⟨i, hi, rfl, hB⟩ := hrel
    obtain ⟨wo, hwo⟩ : ∃ x, x = wr := ⟨_, rfl⟩
    subst hwo
    by_cases hin : i < sts.length
    ·obtain ⟨s, hs⟩ : ∃ s, T[i]? = some s := ⟨_, List.getElem?_eq_getElem (by rw [HTL.out]; exact hin)⟩
     obtain ⟨b1, o1, hA1, _, p0, p1, p2, p3, p4, p5, p6⟩ := Rd.sn (HL.out.below hB.out) hs HTL.out.symm
     obtain ⟨b2, o2, hA2, _, q0, q1, q2, q3, q4, q5, q6⟩ := Rd.sn (HR8.out.below hB.out) hs HTL.out.symm
     subst hA1 hA2
     have hii : (i : Int) < (sts.length : Int) := by omega
     have hi0 : (0 : Int) ≤ (i : Int) := by omega
     have hwi : IntKind.i64.wrap ((i : Int) + 1) = ((i + 1 : Nat) : Int) := by rw [IntWalk.i64_in _ (by omega)]; omega
     go_upto_region 12 with fail
     refine rg_plain (fin := ?z1) [.slice (some ⟨b1, o1, none⟩) sts.length e1, .int .i64 (i : Int), .pointer (some ⟨b1, o1 + i * 7, none⟩), .agg #[.int .i64 s.1.1, .int .i64 s.1.2.1, .int .i64 s.1.2.2, .int .i64 s.2.1.1, .int .i64 s.2.1.2.1, .int .i64 s.2.1.2.2, .bool s.2.2], .slice (some ⟨b2, o2, none⟩) sts.length e2, .int .i64 (i : Int), .pointer (some ⟨b2, o2 + i * 7, none⟩), .agg #[.int .i64 s.1.1, .int .i64 s.1.2.1, .int .i64 s.1.2.2, .int .i64 s.2.1.1, .int .i64 s.2.1.2.1, .int .i64 s.2.1.2.2, .bool s.2.2], .bool false] (fun WN => WN.cell? ⟨b1, o1 + i * 7, none⟩ = some (.int .i64 s.1.1) ∧ WN.cell? ⟨b1, o1 + i * 7 + 1, none⟩ = some (.int .i64 s.1.2.1) ∧ WN.cell? ⟨b1, o1 + i * 7 + 2, none⟩ = some (.int .i64 s.1.2.2) ∧ WN.cell? ⟨b1, o1 + i * 7 + 3, none⟩ = some (.int .i64 s.2.1.1) ∧ WN.cell? ⟨b1, o1 + i * 7 + 4, none⟩ = some (.int .i64 s.2.1.2.1) ∧ WN.cell? ⟨b1, o1 + i * 7 + 5, none⟩ = some (.int .i64 s.2.1.2.2) ∧ WN.cell? ⟨b1, o1 + i * 7 + 6, none⟩ = some (.bool s.2.2) ∧ WN.cell? ⟨b2, o2 + i * 7, none⟩ = some (.int .i64 s.1.1) ∧ WN.cell? ⟨b2, o2 + i * 7 + 1, none⟩ = some (.int .i64 s.1.2.1) ∧ WN.cell? ⟨b2, o2 + i * 7 + 2, none⟩ = some (.int .i64 s.1.2.2) ∧ WN.cell? ⟨b2, o2 + i * 7 + 3, none⟩ = some (.int .i64 s.2.1.1) ∧ WN.cell? ⟨b2, o2 + i * 7 + 4, none⟩ = some (.int .i64 s.2.1.2.1) ∧ WN.cell? ⟨b2, o2 + i * 7 + 5, none⟩ = some (.int .i64 s.2.1.2.2) ∧ WN.cell? ⟨b2, o2 + i * 7 + 6, none⟩ = some (.bool s.2.2) ∧ Below wo.heap.size wo WN) ?hf (by kernel_rfl) (by kernel_rfl) rfl ⟨p0, p1, p2, p3, p4, p5, p6, q0, q1, q2, q3, q4, q5, q6, (Below.refl _ _).drew⟩ (fun WN hst => ?hs) (fun WN hst => ?he)
     case hf => simp only [putOps, Act.put, List.setIfInBounds_toArray, List.set_cons_succ, List.set_cons_zero]; exact rfl
     case hs =>
       have HST := Lib.hid hst
       obtain ⟨p0, p1, p2, p3, p4, p5, p6, q0, q1, q2, q3, q4, q5, q6, hbl⟩ := hst
       iterate 9 refine ⟨?_, fun K hK => ?_⟩
       · trivial
       all_goals try (go_simp; exact hK _ HST.out; done)
     case he =>
       obtain ⟨p0, p1, p2, p3, p4, p5, p6, q0, q1, q2, q3, q4, q5, q6, hbl⟩ := hst
       have HBN := Lib.hid (stay_b hB.out hbl)
       clear p0 p1 p2 p3 p4 p5 p6 q0 q1 q2 q3 q4 q5 q6
       go_wp2
       go_roundw
       case rel => exact ⟨i + 1, by omega, by first | rfl | go_num, HBN⟩
       case measure => simp [intOf]; omega
    ·obtain rfl : i = sts.length := by omega
     have hnn : ¬ ((sts.length : Int) < (sts.length : Int)) := by omega
     have HBF := Lib.hid (HB0.out.trans ((stay_b HB10.out hB.out).mono HB0.out.size))
     go_wp2
     go_ret
     exact ⟨rfl, HBF.out⟩
end
section
open Go.ChangeShapes Go.WideShapes Go.ChangeAt Go.RowKit Go.Joins
theorem add_add2 (a : Addr) (i j : Nat) : (a.add i).add j = a.add (i + j) := by
 obtain ⟨b, o, s⟩ := a
 by_cases hi : i = 0 <;> by_cases hj : j = 0 <;> cases s <;> simp [Addr.add, hi, hj, Nat.add_assoc]
section
variable {H : Type} {enc : TypeId × Value → H} {w : World} {base : Nat} {spare : Nat → Bool} {held : Bool}
theorem int_cell {m : Nat} {c : Value} {y : DataW H × List MemPlace} (h : DataW.trod enc Tryz.prog w base spare held m 3 [c] = some y) : ∃ a, c = .int .i64 a ∧ (Lit.int .i64 a).wf = true := by
 obtain ⟨a, e, _, wf⟩ := DataW.trod_int Tryz.underlying3 h
 simp only [List.cons.injEq, and_true] at e
 exact ⟨a, e, wf⟩
set_option maxRecDepth 100000 in
theorem point_cells {m : Nat} {c0 c1 : Value} {y : DataW H × List MemPlace} (h : DataW.trod enc Tryz.prog w base spare held m 98 [c0, c1] = some y) :
  ∃ a b, c0 = .int .i64 a ∧ c1 = .int .i64 b := by
 obtain ⟨xs, n, _, _, _, _, hf⟩ := DataW.trod_struct Tryz.underlying98 h
 have e : Tryz.prog.cellsOf 3 = 1 := by kernel_rfl
 have h0 := hf 0 _ rfl
 have h1 := hf 1 _ rfl
 simp only [List.getElem_toArray, List.getElem_cons_zero, List.getElem_cons_succ] at h0 h1
 rw [e] at h0 h1
 simp only [List.drop_zero, List.drop_succ_cons, List.take_succ_cons, List.take_zero] at h0 h1
 have hl : xs.length = 2 := by assumption
 obtain ⟨a, rfl, _⟩ := int_cell (h0.trans (List.getElem?_eq_getElem (by omega)))
 obtain ⟨b, rfl, _⟩ := int_cell (h1.trans (List.getElem?_eq_getElem (by omega)))
 exact ⟨a, b, rfl, rfl⟩
theorem list4 {α : Type} {l : List α} (h : l.length = 4) : ∃ a b c d, l = [a, b, c, d] := by
 match l, h with
 | [a, b, c, d], _ => exact ⟨a, b, c, d, rfl⟩
theorem list5 {α : Type} {l : List α} (h : l.length = 5) : ∃ a b c d e, l = [a, b, c, d, e] := by
 match l, h with
 | [a, b, c, d, e], _ => exact ⟨a, b, c, d, e, rfl⟩
set_option maxRecDepth 100000 in
theorem edge_cells {m : Nat} {c0 c1 c2 c3 : Value} {y : DataW H × List MemPlace} (h : DataW.trod enc Tryz.prog w base spare held m 100 [c0, c1, c2, c3] = some y) :
  ∃ a b c d : Int, c0 = .int .i64 a ∧ c1 = .int .i64 b ∧ c2 = .int .i64 c ∧ c3 = .int .i64 d := by
 obtain ⟨xs, n, _, _, _, hl, hg⟩ := DataW.trod_struct Tryz.underlying100 h
 have e : Tryz.prog.cellsOf 98 = 2 := by kernel_rfl
 have h0 := hg 0 _ rfl
 have h1 := hg 1 _ rfl
 simp only [List.getElem_toArray, List.getElem_cons_zero, List.getElem_cons_succ] at h0 h1
 rw [e] at h0 h1
 simp only [List.drop_zero, List.drop_succ_cons, List.take_succ_cons, List.take_zero] at h0 h1
 have hl : xs.length = 2 := by assumption
 obtain ⟨a, b, rfl, rfl⟩ := point_cells (h0.trans (List.getElem?_eq_getElem (by omega)))
 obtain ⟨c, e, rfl, rfl⟩ := point_cells (h1.trans (List.getElem?_eq_getElem (by omega)))
 exact ⟨a, b, c, e, rfl, rfl, rfl, rfl⟩
set_option maxRecDepth 100000 in
theorem crease_cells {m : Nat} {cs : List Value} {y : DataW H × List MemPlace} (h : DataW.trod enc Tryz.prog w base spare held m 102 cs = some y) :
  ∃ c : C5, cs = [.int .i64 c.1.1, .int .i64 c.1.2.1, .int .i64 c.1.2.2.1, .int .i64 c.1.2.2.2, .int .i64 c.2] := by
 obtain ⟨xs, n, _, _, hcl, hl, hg⟩ := DataW.trod_struct Tryz.underlying102 h
 obtain ⟨c0, c1, c2, c3, c4, rfl⟩ := list5 (hcl.trans (show Tryz.prog.cellsOf 102 = 5 by kernel_rfl))
 have e : Tryz.prog.cellsOf 100 = 4 := by kernel_rfl
 have e1 : Tryz.prog.cellsOf 3 = 1 := by kernel_rfl
 have h0 := hg 0 _ rfl
 have h1 := hg 1 _ rfl
 simp only [List.getElem_toArray, List.getElem_cons_zero, List.getElem_cons_succ] at h0 h1
 rw [e] at h0
 rw [e1] at h1
 simp only [List.drop_zero, List.drop_succ_cons, List.take_succ_cons, List.take_zero] at h0 h1
 have hl : xs.length = 2 := by assumption
 obtain ⟨a, b, c, d, rfl, rfl, rfl, rfl⟩ := edge_cells (h0.trans (List.getElem?_eq_getElem (by omega)))
 obtain ⟨k, rfl, _⟩ := int_cell (h1.trans (List.getElem?_eq_getElem (by omega)))
 exact ⟨((a, b, c, d), k), rfl⟩
theorem ccs_of : ∀ (n : Nat) (f : Nat → C5) , ∃ cs : List C5, cs.length = n ∧ ∀ i, i < n → cs[i]? = some (f i) := by
 intro n f
 exact ⟨(List.range n).map f, by simp, fun i hi => by simp [hi]⟩
theorem ccs_len5 (cs : List C5) : (ccs cs).length = cs.length * 5 := by
 induction cs with
 | nil => rfl
 | cons c cs ih => simp [ccs] at ih ⊢; omega
theorem ccs_nth : ∀ {cs : List C5} {i j : Nat} {c : C5}, cs[i]? = some c → j < 5 → (ccs cs)[i * 5 + j]? = [Value.int .i64 c.1.1, .int .i64 c.1.2.1, .int .i64 c.1.2.2.1, .int .i64 c.1.2.2.2, .int .i64 c.2][j]?
 | [], i, j, c, h, _ => by simp at h
 | a :: l, 0, j, c, h, hj => by
  simp at h
  subst h
  have e : ccs (a :: l) = [Value.int .i64 a.1.1, .int .i64 a.1.2.1, .int .i64 a.1.2.2.1, .int .i64 a.1.2.2.2, .int .i64 a.2] ++ ccs l := rfl
  rw [e, List.getElem?_append_left (by simp; omega)]
  simp
 | a :: l, i + 1, j, c, h, hj => by
  have := ccs_nth (cs := l) (i := i) (j := j) (c := c) (by simpa using h) hj
  have e : ccs (a :: l) = [Value.int .i64 a.1.1, .int .i64 a.1.2.1, .int .i64 a.1.2.2.1, .int .i64 a.1.2.2.2, .int .i64 a.2] ++ ccs l := rfl
  rw [e, List.getElem?_append_right (by simp; omega), ← this]
  congr 1
  simp
  omega
set_option maxRecDepth 100000 in
theorem open_creases {fuel : Nat} {cs : List Value} {x : DataW H × List MemPlace} (h : DataW.trod enc Tryz.prog w base spare held fuel 23 cs = some x) :
  ∃ (A : Option Addr) (n c : Nat) (l : List C5), cs = [.slice A n c] ∧ Rd w 5 A n (ccs l) ∧ (A = none → c = 0) ∧ ((x.1 = .nil ∧ n = 0) ∨ ∃ el sp, x.1 = .slice el sp ∧ el.length = n) := by
 rcases DataW.trod_slice Tryz.underlying23 h with ⟨rfl, rfl⟩ | ⟨a, len, cap, elems, rest, m, _, rfl, rfl, hb, hl, hm, hlen, hel, _, _⟩
 ·exact ⟨none, 0, 0, [], rfl, Rd.nil, fun _ => rfl, .inl ⟨rfl, rfl⟩⟩
 ·have e5 : Tryz.prog.cellsOf 102 = 5 := by kernel_rfl
  rw [e5] at hel
  have each : ∀ i, ∃ c : C5, i < len → ∀ j, j < 5 → w.cell? (a.add (i * 5 + j)) = [Value.int .i64 c.1.1, .int .i64 c.1.2.1, .int .i64 c.1.2.2.1, .int .i64 c.1.2.2.2, .int .i64 c.2][j]? := by
   intro i
   by_cases hi : i < len
   ·have h1 := hel i hi
    rw [List.getElem?_eq_getElem (by omega)] at h1
    rw [Option.bind_eq_some_iff] at h1
    obtain ⟨q, h2, h3⟩ := h1
    obtain ⟨c, rfl⟩ := crease_cells h3
    refine ⟨c, fun _ j hj => ?_⟩
    have h4 := (World.cells?_some h2).2.2 j hj
    rw [← add_add2]
    exact h4
   ·exact ⟨((0, 0, 0, 0), 0), fun h => absurd h hi⟩
  obtain ⟨f, hf⟩ := Classical.axiomOfChoice each
  obtain ⟨l, hl1, hl2⟩ := ccs_of len f
  refine ⟨some a, len, cap, l, rfl, ⟨by rw [ccs_len5, hl1], fun hp => ?_⟩, fun h => (by cases h), .inr ⟨_, _, rfl, by simp [hlen]⟩⟩
  have h0 := hf 0 hp 0 (by decide)
  obtain ⟨b, off, spot⟩ := a
  have hspot : spot = none := by simpa [Addr.add] using World.cell?_spot h0
  subst hspot
  refine ⟨b, off, rfl, World.block_lt_of_cell? w _ h0, fun j u hu => ?_⟩
  have hj : j < len * 5 := by
   have := (List.getElem?_eq_some_iff.1 hu).1
   rw [ccs_len5, hl1] at this
   exact this
  have hq : j / 5 < len := by omega
  have h1 := hf (j / 5) hq (j % 5) (by omega)
  rw [show j / 5 * 5 + j % 5 = j by omega, addr_add] at h1
  rw [h1, ← ccs_nth (hl2 (j / 5) hq) (by omega), show j / 5 * 5 + j % 5 = j by omega]
  exact hu
set_option maxRecDepth 100000 in
theorem open_row1 {fuel : Nat} {cs : List Value} {x : DataW H × List MemPlace} (h : DataW.trod enc Tryz.prog w base spare held fuel 22 cs = some x) :
  ∃ (A : Option Addr) (n c : Nat) (l : List Int), cs = [.slice A n c] ∧ Rd w 1 A n (vis l) ∧ (A = none → c = 0) ∧ ((x.1 = .nil ∧ n = 0) ∨ ∃ el sp, x.1 = .slice el sp ∧ el.length = n) := by
 rcases DataW.trod_slice Tryz.underlying22 h with ⟨rfl, rfl⟩ | ⟨a, len, cap, elems, rest, m, _, rfl, rfl, hb, hl, hm, hlen, hel, _, _⟩
 ·exact ⟨none, 0, 0, [], rfl, Rd.nil, fun _ => rfl, .inl ⟨rfl, rfl⟩⟩
 ·have e1 : Tryz.prog.cellsOf 3 = 1 := by kernel_rfl
  rw [e1] at hel
  have each : ∀ i, ∃ c : Int, i < len → w.cell? (a.add i) = some (.int .i64 c) := by
   intro i
   by_cases hi : i < len
   ·have h1 := hel i hi
    rw [List.getElem?_eq_getElem (by omega)] at h1
    rw [Option.bind_eq_some_iff] at h1
    obtain ⟨q, h2, h3⟩ := h1
    obtain ⟨_, hq1, h4⟩ := World.cells?_some h2
    match q, hq1 with
    | [u], _ =>
     obtain ⟨c, rfl, _⟩ := int_cell h3
     refine ⟨c, fun _ => ?_⟩
     have h5 := h4 0 (by decide)
     rw [add_add2, show i * 1 + 0 = i by omega] at h5
     exact h5
   ·exact ⟨0, fun h => absurd h hi⟩
  obtain ⟨f, hf⟩ := Classical.axiomOfChoice each
  refine ⟨some a, len, cap, (List.range len).map f, rfl, ⟨by simp, fun hp => ?_⟩, fun h => (by cases h), .inr ⟨_, _, rfl, by simp [hlen]⟩⟩
  have h0 := hf 0 hp
  obtain ⟨b, off, spot⟩ := a
  have hspot : spot = none := by simpa [Addr.add] using World.cell?_spot h0
  subst hspot
  refine ⟨b, off, rfl, World.block_lt_of_cell? w _ h0, fun j u hu => ?_⟩
  have hj : j < len := by
   have := (List.getElem?_eq_some_iff.1 hu).1
   simpa using this
  have h1 := hf j hj
  rw [addr_add] at h1
  rw [h1]
  simp [hj] at hu
  rw [hu]
end
end
end Go.Proofs.YtpkjekedgodccaaGreatDoor
