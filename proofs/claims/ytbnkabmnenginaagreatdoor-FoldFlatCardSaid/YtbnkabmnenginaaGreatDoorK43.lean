/- The document's Heaped. -/
import Derived.Test.YtbnkabmnenginaaGreatDoorK42
import Derived.Test.YtbnkabmnenginaaGreatDoorK34
import Derived.Deep.CutBlock
namespace Go.Proofs.YtbnkabmnenginaaGreatDoor
set_option linter.unusedSimpArgs false
set_option linter.unusedVariables false
section
open Go.RowKit Go.Maps
set_option maxRecDepth 100000 in
set_option maxHeartbeats 12800000 in
theorem heaped_any (W H : Nat) (Am Ac Ap Ah : Option Addr) (nm cm nc cc cp ch : Nat) (mask : List Int) (cs : List C5) (L : List T3) (ms : List V6) (hts : List Int) (A : Nat → T3) (w : World) (hS : ShM w W H Am nm mask Ac nc cs) (hL : trisL W mask = L) (hnd : L.Nodup) (hLl : L.length ≤ 1000)
  (hml : ms.length = L.length) (hhl : hts.length = L.length) (hp : Rd w 6 Ap L.length (mcs ms)) (hh : Rd w 1 Ah L.length (vis hts)) (hmv : ∀ (i : Nat) (m : V6) (t : T3), ms[i]? = some m → L[i]? = some t → ∀ W' : World, Calls Tryz.prog 41 #[aggM m, aggT3 t] W' fun e w' => e = .returned (aggT3 (A i)) ∧ Below W'.heap.size W' w')
  (hnm : nm * 8 ≤ 140737488351232) (hnc : nc * 40 ≤ 140737488351232) (hAm : Am = none → cm = 0) (hAc : Ac = none → cc = 0) (hAp : Ap = none → cp = 0) :
  Calls Tryz.prog 22 #[shV W H Am nm cm Ac nc cc, .slice Ap L.length cp, .slice Ah L.length ch] w fun e w' => ∃ Bm cm2 Bc cc2 Bp cp2 Bs n cS, n = (heapN L A hts L.length).length ∧ e = .returned (.agg #[.int .i64 W, .int .i64 H, .slice Bm nm cm2, .slice Bc nc cc2, .slice Bp L.length cp2, .slice Bs n cS]) ∧ w'.ownsRow w.heap.size 3 1 (.slice Bm nm cm2) nm (vis mask) ∧ w'.ownsRow w.heap.size 52 5 (.slice Bc nc cc2) nc (ccs cs) ∧ w'.ownsRow w.heap.size 57 6 (.slice Bp L.length cp2) L.length (mcs ms) ∧ StkW w' w.heap.size (.slice Bs n cS) (heapN L A hts L.length) ∧ Below w.heap.size w w' := by
 have kb0 := blk_alloc (heap_alloc_new w (.cells #[.int .i64 W, .int .i64 H, .slice Am nm cm, .slice Ac nc cc] 25)) (.cells #[.int .i64 0, .int .i64 0, .slice none 0 0, .slice none 0 0, .slice none 0 0, .slice none 0 0] 29)
 have kr := heap_alloc_new (w.alloc (.cells #[.int .i64 W, .int .i64 H, .slice Am nm cm, .slice Ac nc cc] 25)) (.cells #[.int .i64 0, .int .i64 0, .slice none 0 0, .slice none 0 0, .slice none 0 0, .slice none 0 0] 29)
 rw [World.size_alloc] at kr
 have hb0 := ba (below_new w (.cells #[.int .i64 W, .int .i64 H, .slice Am nm cm, .slice Ac nc cc] 25)) (.cells #[.int .i64 0, .int .i64 0, .slice none 0 0, .slice none 0 0, .slice none 0 0, .slice none 0 0] 29)
 have a0 := cell_of_blk kb0 0
 have a1 := cell_of_blk kb0 1
 have a2 := cell_of_blk kb0 2
 have a3 := cell_of_blk kb0 3
 simp only [List.getElem?_toArray, List.getElem?_cons_zero, List.getElem?_cons_succ] at a0 a1 a2 a3
 have cT := trisOf_any W H Am Ac nm cm nc cc mask cs ((w.alloc (.cells #[.int .i64 W, .int .i64 H, .slice Am nm cm, .slice Ac nc cc] 25)).alloc (.cells #[.int .i64 0, .int .i64 0, .slice none 0 0, .slice none 0 0, .slice none 0 0, .slice none 0 0] 29)) (hS.below hb0)
 rw [hL] at cT
 have cN := fun (W' : World) (hb : Below w.heap.size w W') => sheetOfO_any W H Am Ac nm cm nc cc mask cs W' (hS.rm.below hb) (hS.rc.below hb) hnm hnc hAm hAc
 unfold shV at cT
 have CT := Lib.hid cT
 have CN := Lib.hid cN
 have HP := Lib.hid hp
 have HH := Lib.hid hh
 have HMV := Lib.hid hmv
 have HND := Lib.hid hnd
 have HML := Lib.hid hml
 have HHL := Lib.hid hhl
 have HB0 := Lib.hid hb0
 have KR := Lib.hid kr
 clear cT cN hp hh hmv hnd hml hhl hb0 kb0 kr hS hL
 unfold shV
 go_enter Tryz.func22, Tryz.ntmps22
 go_wp2_with (first
  | (go_at_call 21; refine CT.out.mono ?_; rintro e w2 ⟨vt, rfl, ho2, hb2⟩; obtain ⟨At, ct, hvt, _, _⟩ := own_slice ho2; subst hvt; have HO2 := Lib.hid ho2; have HB2 := Lib.hid (HB0.out.trans (hb2.mono HB0.out.size)); have KR2 := Lib.hid (blk_below KR.out hb2 (blk_lt KR.out)); replace a0 := sd a0 hb2; replace a1 := sd a1 hb2; replace a2 := sd a2 hb2; replace a3 := sd a3 hb2; have hsz2 := hb2.size; clear ho2 hb2 CT)
  | (go_at_call 5; refine (CN.out _ HB2.out).mono ?_; rintro e w3 ⟨Bm, cm2, Bc, cc2, rfl, h1, h2, hb3⟩; have HR3 := Lib.hid (And.intro h1 h2); have HB3 := Lib.hid (stay_b HB2.out hb3); have KR3 := Lib.hid (blk_below KR2.out hb3 (blk_lt KR2.out)); have HO3 := Lib.hid (od HO2.out hb3); have hsz3 := hb3.size; clear h1 h2 hb3 a0 a1 a2 a3)
  | (at_builtin; refine app_copy Tryz.underlying26 map_info6 rfl (by decide) rfl _ _ rfl rfl Ap L.length cp (mcs ms) rfl hAp (HP.out.below HB3.out) (mcs_one6 _) (by omega) (by omega) ?_; intro v4 w4 ho4 hb4; obtain ⟨Bp, cp2, hv4, _, _⟩ := own_slice ho4; subst hv4; have HR4 := Lib.hid (And.intro (od HR3.out.1 hb4) (And.intro (od HR3.out.2 hb4) ho4)); have HB4 := Lib.hid (stay_b HB3.out hb4); have KR4 := Lib.hid (blk_below KR3.out hb4 (blk_lt KR3.out)); have HO4 := Lib.hid (od HO3.out hb4); have hsz4 := hb4.size; clear ho4 hb4)
  | fail)
 have hbg := below_new w4 (.cells #[.int .i64 W, .int .i64 H, .slice Bm nm cm2, .slice Bc nc cc2, .slice Bp L.length cp2, .slice none 0 0] 29)
 have kg := heap_alloc_new w4 (.cells #[.int .i64 W, .int .i64 H, .slice Bm nm cm2, .slice Bc nc cc2, .slice Bp L.length cp2, .slice none 0 0] 29)
 have hg4 : w4.heap.size < (w4.alloc (.cells #[.int .i64 W, .int .i64 H, .slice Bm nm cm2, .slice Bc nc cc2, .slice Bp L.length cp2, .slice none 0 0] 29)).heap.size := by simp
 have HW6 := Lib.hid (stay_b HB4.out hbg)
 have HR6 := Lib.hid (And.intro (od HR4.out.1 hbg) (And.intro (od HR4.out.2.1 hbg) (od HR4.out.2.2 hbg)))
 have KR6 := Lib.hid (blk_below KR4.out hbg (blk_lt KR4.out))
 have HO6 := Lib.hid (od HO4.out hbg)
 have HGB6 := Lib.hid kg
 have hkr := blk_lt KR.out
 have hszk : ((w.alloc (.cells #[.int .i64 W, .int .i64 H, .slice Am nm cm, .slice Ac nc cc] 25)).alloc (.cells #[.int .i64 0, .int .i64 0, .slice none 0 0, .slice none 0 0, .slice none 0 0, .slice none 0 0] 29)).heap.size = w.heap.size + 2 := by simp
 clear hbg kg KR4 KR3 KR2 KR HR3 HR4 HO2 HO3 HO4
 generalize hg : w4.heap.size = g at HGB6 hg4 ⊢
 generalize w4.alloc (.cells #[.int .i64 W, .int .i64 H, .slice Bm nm cm2, .slice Bc nc cc2, .slice Bp L.length cp2, .slice none 0 0] 29) = w6 at HW6 HR6 KR6 HO6 HGB6 hg4 ⊢
 have hwg : w.heap.size + 1 < g := by omega
 have hg6 : g < w6.heap.size := by omega
 have hI0 : StI w6 g W H (.slice Bm nm cm2) (.slice Bc nc cc2) (.slice Bp L.length cp2) (.slice none 0 0) (.slice none 0 0) (heapN L A hts 0) w6 := ⟨Kp2.refl _ _ _, HGB6.out, StkW.nil _ _, hg6⟩
 have HI0 := Lib.hid hI0
 clear hI0 HB2 HB3 HB4 CN
 go_loopw [9] (fun v wr => ∃ (i : Nat) (S : Value), i ≤ L.length ∧ v = .int .i64 i ∧ Hid (StI w6 g W H (.slice Bm nm cm2) (.slice Bc nc cc2) (.slice Bp L.length cp2) S S (heapN L A hts i) wr)) (fun v _ => L.length - (intOf v).toNat)
 case atStart => exact ⟨0, .slice none 0 0, by omega, rfl, HI0⟩
 case round =>
  clear HI0
  obtain ⟨i, S, hi, rfl, hI⟩ := hrel
  by_cases hin : i < L.length
  ·obtain ⟨t, ht⟩ : ∃ t, L[i]? = some t := ⟨_, List.getElem?_eq_getElem hin⟩
   obtain ⟨gt, ct2, _, hve, _, _, _, hgtH⟩ := own_addr HO6.out (show 0 < L.length by omega)
   cases hve
   have hgtg : gt ≠ g := fun e => by rw [e, HGB6.out] at hgtH; simp at hgtH
   obtain ⟨t0, t1, t2⟩ := own_tri HO6.out ht
   have t0 := hI.out.kp.cell t0 hgtg hgtg
   have t1 := hI.out.kp.cell t1 hgtg hgtg
   have t2 := hI.out.kp.cell t2 hgtg hgtg
   obtain ⟨wo, hwo⟩ : ∃ x, x = wr := ⟨_, rfl⟩
   subst hwo
   have hww : Below w.heap.size w wo := HW6.out.trans (hI.out.kp.out (by omega) (by omega) HW6.out.size)
   obtain ⟨bX, oX, m, hA, hmi, hbX, m0, m1, m2, m3, m4, m5⟩ := Rd.mp (ms := ms) (by rw [HML.out]; exact HP.out) (show i < ms.length by rw [HML.out]; exact hin)
   subst hA
   replace m0 := sd m0 hww
   replace m1 := sd m1 hww
   replace m2 := sd m2 hww
   replace m3 := sd m3 hww
   replace m4 := sd m4 hww
   replace m5 := sd m5 hww
   obtain ⟨a, ha⟩ : ∃ a, a = A i := ⟨_, rfl⟩
   have cM := HMV.out i m t hmi ht
   rw [← ha] at cM
   have CM := Lib.hid cM
   have HT := Lib.hid ht
   have HA := Lib.hid ha
   obtain ⟨sts, hsts⟩ : ∃ s, s = heapN L A hts i := ⟨_, rfl⟩
   rw [← hsts] at hI
   have hbd : HpQ L i sts := by rw [hsts]; exact heapN_B A hts hi
   have HBD := Lib.hid hbd
   have HSTS := Lib.hid hsts
   have hslen := hbd.len
   have hii : (i : Int) < (L.length : Int) := by omega
   have hi0 : (0 : Int) ≤ (i : Int) := by omega
   have HI := hI
   have hlt := HI.out.kp.size
   have HRT := Lib.hid (own_kp2 HO6.out HI.out.kp (by simp [Value.ownBlock, hgtg]) (by simp [Value.ownBlock, hgtg]))
   have HWW := Lib.hid hww
   clear ht ha hgtH hI hww hmi cM hsts hbd
   go_wp2_with fail
   refine rg_flo (fin := ?z1) [8, 10] 9 [[true, true, true, true, true, true, true, true, false, false, false], [false, false, false, false, false, false, false, false, false, false, false], [false, false, false, false, false, false, false, false, false, false, false]] [[true, true, true, true, true, true, true, true, false, false, false], [false, false, false, false, false, false, false, false, false, false, false], [false, false, false, false, false, false, false, false, false, false, false]] [[3, 7, 2, 6, 0, 1, 4, 5], [9, 8, 3, 7, 2, 6, 0, 1, 4, 5]] [] (fun x => [.slice (some ⟨bX, oX, none⟩) L.length cp, .int .i64 (i : Int), .pointer (some ⟨bX, oX + i * 6, none⟩), aggM m, .slice (some ⟨gt, 0, none⟩) L.length ct, .int .i64 (i : Int), .pointer (some ⟨gt, i * 3, none⟩), aggT3 t, (x 0), (x 2), (x 1)]) (fun jS bS x WN => match jS, bS with | 0, false => WN.cell? ⟨bX, oX + i * 6, none⟩ = some (.int .i64 m.1) ∧ WN.cell? ⟨bX, oX + i * 6 + 1, none⟩ = some (.int .i64 m.2.1) ∧ WN.cell? ⟨bX, oX + i * 6 + 2, none⟩ = some (.int .i64 m.2.2.1) ∧ WN.cell? ⟨bX, oX + i * 6 + 3, none⟩ = some (.int .i64 m.2.2.2.1) ∧ WN.cell? ⟨bX, oX + i * 6 + 4, none⟩ = some (.int .i64 m.2.2.2.2.1) ∧ WN.cell? ⟨bX, oX + i * 6 + 5, none⟩ = some (.int .i64 m.2.2.2.2.2) ∧ WN.cell? ⟨gt, i * 3, none⟩ = some (.int .i64 t.1) ∧ WN.cell? ⟨gt, i * 3 + 1, none⟩ = some (.int .i64 t.2.1) ∧ WN.cell? ⟨gt, i * 3 + 2, none⟩ = some (.int .i64 t.2.2) ∧ Below wo.heap.size wo WN | 0, true => WN.cell? ⟨bX, oX + i * 6, none⟩ = some (.int .i64 m.1) ∧ WN.cell? ⟨bX, oX + i * 6 + 1, none⟩ = some (.int .i64 m.2.1) ∧ WN.cell? ⟨bX, oX + i * 6 + 2, none⟩ = some (.int .i64 m.2.2.1) ∧ WN.cell? ⟨bX, oX + i * 6 + 3, none⟩ = some (.int .i64 m.2.2.2.1) ∧ WN.cell? ⟨bX, oX + i * 6 + 4, none⟩ = some (.int .i64 m.2.2.2.2.1) ∧ WN.cell? ⟨bX, oX + i * 6 + 5, none⟩ = some (.int .i64 m.2.2.2.2.2) ∧ WN.cell? ⟨gt, i * 3, none⟩ = some (.int .i64 t.1) ∧ WN.cell? ⟨gt, i * 3 + 1, none⟩ = some (.int .i64 t.2.1) ∧ WN.cell? ⟨gt, i * 3 + 2, none⟩ = some (.int .i64 t.2.2) ∧ Below wo.heap.size wo WN ∧ (∃ gb, Hid (x 2 = .pointer (some ⟨gb, 0, none⟩)) ∧ WN.heap[gb]? = some (.cells #[.int .i64 0, .int .i64 0, .int .i64 0] 59 (0, 0)) ∧ Hid (wo.heap.size ≤ gb)) | 1, false => WN.cell? ⟨bX, oX + i * 6, none⟩ = some (.int .i64 m.1) ∧ WN.cell? ⟨bX, oX + i * 6 + 1, none⟩ = some (.int .i64 m.2.1) ∧ WN.cell? ⟨bX, oX + i * 6 + 2, none⟩ = some (.int .i64 m.2.2.1) ∧ WN.cell? ⟨bX, oX + i * 6 + 3, none⟩ = some (.int .i64 m.2.2.2.1) ∧ WN.cell? ⟨bX, oX + i * 6 + 4, none⟩ = some (.int .i64 m.2.2.2.2.1) ∧ WN.cell? ⟨bX, oX + i * 6 + 5, none⟩ = some (.int .i64 m.2.2.2.2.2) ∧ WN.cell? ⟨gt, i * 3, none⟩ = some (.int .i64 t.1) ∧ WN.cell? ⟨gt, i * 3 + 1, none⟩ = some (.int .i64 t.2.1) ∧ WN.cell? ⟨gt, i * 3 + 2, none⟩ = some (.int .i64 t.2.2) ∧ Below wo.heap.size wo WN ∧ Hid (x 0 = aggT3 a) | 1, true => WN.cell? ⟨bX, oX + i * 6, none⟩ = some (.int .i64 m.1) ∧ WN.cell? ⟨bX, oX + i * 6 + 1, none⟩ = some (.int .i64 m.2.1) ∧ WN.cell? ⟨bX, oX + i * 6 + 2, none⟩ = some (.int .i64 m.2.2.1) ∧ WN.cell? ⟨bX, oX + i * 6 + 3, none⟩ = some (.int .i64 m.2.2.2.1) ∧ WN.cell? ⟨bX, oX + i * 6 + 4, none⟩ = some (.int .i64 m.2.2.2.2.1) ∧ WN.cell? ⟨bX, oX + i * 6 + 5, none⟩ = some (.int .i64 m.2.2.2.2.2) ∧ WN.cell? ⟨gt, i * 3, none⟩ = some (.int .i64 t.1) ∧ WN.cell? ⟨gt, i * 3 + 1, none⟩ = some (.int .i64 t.2.1) ∧ WN.cell? ⟨gt, i * 3 + 2, none⟩ = some (.int .i64 t.2.2) ∧ Below wo.heap.size wo WN ∧ (∃ gb, Hid (x 2 = .pointer (some ⟨gb, 0, none⟩)) ∧ WN.heap[gb]? = some (.cells #[.int .i64 0, .int .i64 0, .int .i64 0] 59 (0, 0)) ∧ Hid (wo.heap.size ≤ gb)) ∧ Hid (x 0 = aggT3 a) | _, false => False | _, true => Below wo.heap.size wo WN ∧ ∃ gb, Hid (x 2 = .pointer (some ⟨gb, 0, none⟩)) ∧ WN.heap[gb]? = some (.cells #[.int .i64 a.1, .int .i64 a.2.1, .int .i64 a.2.2] 59 (0, 0)) ∧ Hid (wo.heap.size ≤ gb) ∧ Hid (x 0 = aggT3 a)) ?hf (by kernel_rfl) (by kernel_rfl) (fun _ => rfl) (by kernel_rfl) ?hv ?hvf ⟨m0, m1, m2, m3, m4, m5, t0, t1, t2, (Below.refl _ _).drew⟩ ?hA ?hT ?hF (fun x WN hst => ?he)
   case hf => intro x; simp only [putOps, Act.put, List.setIfInBounds_toArray, List.set_cons_succ, List.set_cons_zero]; exact rfl
   case hv =>
    intro x jS t v h
    cases jS with
    | zero => cases h; rfl
    | succ jS =>
     cases jS with
     | zero => cases h; rfl
     | succ jS =>
      simp at h
   case hvf => intro x v; rfl
   case hA =>
    intro jS b x WN hj hst
    have hj : jS ≤ 2 := hj
    rcases (show jS = 0 ∨ jS = 1 ∨ jS = 2 by omega) with rfl | rfl | rfl <;> cases b
    ·have HST := Lib.hid hst
     obtain ⟨m0, m1, m2, m3, m4, m5, t0, t1, t2, hbl⟩ := hst
     iterate 8 refine ⟨?_, fun K hK => ?_⟩
     ·trivial
     all_goals try (go_simp; exact hK _ HST.out; done)
    ·have HST := Lib.hid hst
     obtain ⟨m0, m1, m2, m3, m4, m5, t0, t1, t2, hbl, ⟨gb, hx2, hkg, hgb⟩⟩ := hst
     iterate 8 refine ⟨?_, fun K hK => ?_⟩
     ·trivial
     all_goals try (go_simp; exact hK _ HST.out; done)
    ·trivial
    ·trivial
    ·exact hst.elim
    ·trivial
   case hT =>
    intro jS b t x WN ht hw hst o ho K hK
    cases jS with
    | zero =>
     cases ht; cases ho
     cases b
     ·obtain ⟨m0, m1, m2, m3, m4, m5, t0, t1, t2, hbl⟩ := hst
      go_simp
      refine (CM.out WN).mono ?_
      rintro e' wc ⟨he, hbc⟩
      subst he
      exact hK _ _ ⟨sd m0 hbc, sd m1 hbc, sd m2 hbc, sd m3 hbc, sd m4 hbc, sd m5 hbc, sd t0 hbc, sd t1 hbc, sd t2 hbc, stay_b hbl hbc, Lib.hid rfl⟩
     ·obtain ⟨m0, m1, m2, m3, m4, m5, t0, t1, t2, hbl, ⟨gb, hx2, hkg, hgb⟩⟩ := hst
      go_simp
      refine (CM.out WN).mono ?_
      rintro e' wc ⟨he, hbc⟩
      subst he
      exact hK _ _ ⟨sd m0 hbc, sd m1 hbc, sd m2 hbc, sd m3 hbc, sd m4 hbc, sd m5 hbc, sd t0 hbc, sd t1 hbc, sd t2 hbc, stay_b hbl hbc, ⟨gb, hx2, blk_below hkg hbc (blk_lt hkg), hgb⟩, Lib.hid rfl⟩
    | succ jS =>
     cases jS with
     | zero =>
      cases ht; cases ho
      cases b
      ·exact absurd (hw (by kernel_rfl)) (by decide)
      ·obtain ⟨m0, m1, m2, m3, m4, m5, t0, t1, t2, hbl, ⟨gb, hx2, hkg, hgb⟩, hx0⟩ := hst
       have hx := hx2.out
       have hz := hx0.out
       have z0 := cell_of_blk hkg 0
       have z1 := cell_of_blk hkg 1
       have z2 := cell_of_blk hkg 2
       simp only [List.getElem?_toArray, List.getElem?_cons_zero, List.getElem?_cons_succ] at z0 z1 z2
       have zf := frozen_of_blk hkg
       have zl := blk_lt hkg
       have hkk := Lib.hid (blk_set (blk_set (blk_set hkg 0 (.int .i64 a.1)) 1 (.int .i64 a.2.1)) 2 (.int .i64 a.2.2))
       have hbb := Lib.hid (((hbl.setCell (p := ⟨gb, 0, none⟩) hgb.out (.int .i64 a.1)).setCell (p := ⟨gb, 1, none⟩) hgb.out (.int .i64 a.2.1)).setCell (p := ⟨gb, 2, none⟩) hgb.out (.int .i64 a.2.2))
       rw [hx, hz] at hK ⊢
       go_simp
       exact hK undef _ ⟨hbb.out, gb, hx2, by simpa using hkk.out, hgb, hx0⟩
     | succ jS =>
      simp at ht
   case hF =>
    intro jS x WN hj hst o ho K hK
    have hj : jS ≤ 2 := hj
    cases ho
    rcases (show jS = 0 ∨ jS = 1 ∨ jS = 2 by omega) with rfl | rfl | rfl
    ·obtain ⟨m0, m1, m2, m3, m4, m5, t0, t1, t2, hbl⟩ := hst
     go_simp
     exact hK (.pointer (some ⟨WN.heap.size, 0, none⟩)) _ ⟨al_c m0 (.cells #[.int .i64 0, .int .i64 0, .int .i64 0] 59), al_c m1 (.cells #[.int .i64 0, .int .i64 0, .int .i64 0] 59), al_c m2 (.cells #[.int .i64 0, .int .i64 0, .int .i64 0] 59), al_c m3 (.cells #[.int .i64 0, .int .i64 0, .int .i64 0] 59), al_c m4 (.cells #[.int .i64 0, .int .i64 0, .int .i64 0] 59), al_c m5 (.cells #[.int .i64 0, .int .i64 0, .int .i64 0] 59), al_c t0 (.cells #[.int .i64 0, .int .i64 0, .int .i64 0] 59), al_c t1 (.cells #[.int .i64 0, .int .i64 0, .int .i64 0] 59), al_c t2 (.cells #[.int .i64 0, .int .i64 0, .int .i64 0] 59), hbl.alloc hbl.size (.cells #[.int .i64 0, .int .i64 0, .int .i64 0] 59), ⟨WN.heap.size, Lib.hid rfl, heap_alloc_new WN (.cells #[.int .i64 0, .int .i64 0, .int .i64 0] 59), Lib.hid hbl.size⟩⟩
    ·obtain ⟨m0, m1, m2, m3, m4, m5, t0, t1, t2, hbl, hx0⟩ := hst
     go_simp
     exact hK (.pointer (some ⟨WN.heap.size, 0, none⟩)) _ ⟨al_c m0 (.cells #[.int .i64 0, .int .i64 0, .int .i64 0] 59), al_c m1 (.cells #[.int .i64 0, .int .i64 0, .int .i64 0] 59), al_c m2 (.cells #[.int .i64 0, .int .i64 0, .int .i64 0] 59), al_c m3 (.cells #[.int .i64 0, .int .i64 0, .int .i64 0] 59), al_c m4 (.cells #[.int .i64 0, .int .i64 0, .int .i64 0] 59), al_c m5 (.cells #[.int .i64 0, .int .i64 0, .int .i64 0] 59), al_c t0 (.cells #[.int .i64 0, .int .i64 0, .int .i64 0] 59), al_c t1 (.cells #[.int .i64 0, .int .i64 0, .int .i64 0] 59), al_c t2 (.cells #[.int .i64 0, .int .i64 0, .int .i64 0] 59), hbl.alloc hbl.size (.cells #[.int .i64 0, .int .i64 0, .int .i64 0] 59), ⟨WN.heap.size, Lib.hid rfl, heap_alloc_new WN (.cells #[.int .i64 0, .int .i64 0, .int .i64 0] 59), Lib.hid hbl.size⟩, hx0⟩
    ·exact hst.elim
   case he =>
    obtain ⟨hbl, gb, hx2, hkg, hgb, hx0⟩ := hst
    have e2 := hx2.out
    have e0 := hx0.out
    rw [e2, e0]
    obtain ⟨w7, hw7⟩ : ∃ x, x = WN := ⟨_, rfl⟩
    subst hw7
    have HKB := Lib.hid hkg
    have HI7 := Lib.hid (HI.out.below hbl)
    have HRT7 := Lib.hid (od HRT.out hbl)
    have HW7 := Lib.hid (HWW.out.trans (hbl.mono HWW.out.size))
    have hgb' := hgb.out
    have hb7 := hbl.size
    clear e2 e0 hx2 hx0 hkg hbl hgb m0 m1 m2 m3 m4 m5 t0 t1 t2 CM HI HRT HWW
    obtain ⟨AS, cS, hSS⟩ := HI7.out.stk.sl
    subst hSS
    have hww : Below w7.heap.size w7 w7 := Below.refl _ _
    have cL := fun (u : T3) (W' : World) => lessTri_any u.1 u.2.1 u.2.2 a.1 a.2.1 a.2.2 W'
    have CL := Lib.hid cL
    clear cL
    go_outline
    go_upto_block 2 with fail
    go_cut [11] from 23 to 150 (fun v wx => v = .int .i64 (kOf a sts : Int) ∧ Hid (Below w7.heap.size w7 wx))
    case first =>
     go_wp2_with fail
     go_loopw [11] (fun v wr => ∃ kk : Nat, kk ≤ kOf a sts ∧ v = .int .i64 kk ∧ Hid (Below w7.heap.size w7 wr)) (fun v _ => sts.length - (intOf v).toNat)
     case atStart => exact ⟨0, by omega, rfl, Lib.hid hww⟩
     case round =>
      obtain ⟨kk, hkk, rfl, hbk⟩ := hrel
      have hkl := kOf_le a sts
      have hI8 := HI7.out.below hbk.out
      have c5 := hI8.cell
      by_cases hki : kk < sts.length
      ·obtain ⟨u, hu⟩ : ∃ u, sts[kk]? = some u := ⟨_, List.getElem?_eq_getElem hki⟩
       obtain ⟨xs0, hrow0, _⟩ := hI8.stk.row
       obtain ⟨gS, cS2, _, hve, _, _, _, _⟩ := own_addr hrow0 (show 0 < sts.length by omega)
       injection hve with q1 q2 q3
       clear q2 q3
       subst q1
       obtain ⟨v9, s0, s1, s2, _, _⟩ := hI8.stk.at_ hu
       have hki1 : (kk : Int) < (sts.length : Int) := by omega
       have hki0 : (0 : Int) ≤ (kk : Int) := by omega
       obtain ⟨B, hB⟩ : ∃ B, B = ltT u.1 a := ⟨_, rfl⟩
       have cL := CL.out u.1
       rw [show ((u.1.1, u.1.2.1, u.1.2.2) : T3) = u.1 from rfl, show ((a.1, a.2.1, a.2.2) : T3) = a from rfl, ← hB] at cL
       have CLU := Lib.hid cL
       have HUB := Lib.hid (And.intro hu hB)
       have kb := blk_below HKB.out hbk.out (blk_lt HKB.out)
       have b0 := cell_of_blk kb 0
       have b1 := cell_of_blk kb 1
       have b2 := cell_of_blk kb 2
       simp only [List.getElem?_toArray, List.getElem?_cons_zero, List.getElem?_cons_succ] at b0 b1 b2
       obtain ⟨wi, hwi⟩ : ∃ x, x = wr := ⟨_, rfl⟩
       subst hwi
       have HBK := hbk
       clear hu hB hrow0 cL kb hI8 hbk
       go_wp2_with fail
       refine rg_plain (fin := ?z3) [.int .i64 (kk : Int), .pointer (some ⟨g, 5, none⟩), .slice (some ⟨gS, 0, none⟩) sts.length cS, .int .i64 (sts.length : Int), .bool true, .bool true, .pointer (some ⟨g, 5, none⟩), .slice (some ⟨gS, 0, none⟩) sts.length cS, .int .i64 (kk : Int), .pointer (some ⟨gS, kk * 4, none⟩), .pointer (some ⟨gS, kk * 4, none⟩), aggT3 u.1, aggT3 a, .bool B, .bool B] (fun WN => WN.cell? ⟨g, 5, none⟩ = some (.slice (some ⟨gS, 0, none⟩) sts.length cS) ∧ WN.cell? ⟨gS, kk * 4, none⟩ = some (.int .i64 u.1.1) ∧ WN.cell? ⟨gS, kk * 4 + 1, none⟩ = some (.int .i64 u.1.2.1) ∧ WN.cell? ⟨gS, kk * 4 + 2, none⟩ = some (.int .i64 u.1.2.2) ∧ WN.cell? ⟨gb, 0, none⟩ = some (.int .i64 a.1) ∧ WN.cell? ⟨gb, 1, none⟩ = some (.int .i64 a.2.1) ∧ WN.cell? ⟨gb, 2, none⟩ = some (.int .i64 a.2.2) ∧ Below wi.heap.size wi WN) ?hf (by kernel_rfl) (by kernel_rfl) rfl ⟨c5, s0, s1, s2, b0, b1, b2, (Below.refl _ _).drew⟩ (fun WN hst => ?hs) (fun WN hst => ?he)
       case hf => simp only [putOps, Act.put, List.setIfInBounds_toArray, List.set_cons_succ, List.set_cons_zero]; exact rfl
       case hs =>
        have HST := Lib.hid hst
        obtain ⟨c5, s0, s1, s2, b0, b1, b2, hbl⟩ := hst
        iterate 15 refine ⟨?_, fun K hK => ?_⟩
        ·trivial
        ·cases B <;> (go_simp; exact hK _ HST.out)
        ·(go_simp; refine (CLU.out _).mono ?_; rintro e' wc ⟨he, hbc⟩; subst he; exact hK _ ⟨sd c5 hbc, sd s0 hbc, sd s1 hbc, sd s2 hbc, sd b0 hbc, sd b1 hbc, sd b2 hbc, stay_b hbl hbc⟩)
        ·(go_simp; exact hK _ HST.out)
        ·(go_simp; exact hK _ HST.out)
        ·(go_simp; exact hK _ HST.out)
        ·(go_simp; exact hK _ HST.out)
        ·(go_simp; exact hK _ HST.out)
        ·(go_simp; exact hK _ HST.out)
        ·(go_simp; exact hK _ HST.out)
        ·(go_simp; exact hK _ HST.out)
        ·(go_simp; exact hK _ HST.out)
        ·(go_simp; exact hK _ HST.out)
        ·(go_simp; exact hK _ HST.out)
        ·(go_simp; exact hK _ HST.out)
        ·(go_simp; exact hK _ HST.out)
       case he =>
        obtain ⟨c5, s0, s1, s2, b0, b1, b2, hbl⟩ := hst
        have HBN := Lib.hid (HBK.out.trans (hbl.mono HBK.out.size))
        clear hbl c5 s0 s1 s2 b0 b1 b2 CLU HBK
        cases B with
        | true =>
         have hstep := tw_step (p := fun s : Stk => ltT s.1 a) HUB.out.1 HUB.out.2.symm hkk
         have hk1 : kk + 1 ≤ kOf a sts := hstep
         have hwk : IntKind.i64.wrap ((kk : Int) + 1) = ((kk + 1 : Nat) : Int) := by rw [IntWalk.i64_in _ (by omega)]; omega
         clear hstep HUB
         go_wp2
         go_roundw
         case rel => exact ⟨kk + 1, hk1, by first | rfl | go_num, HBN⟩
         case measure => simp [intOf]; omega
        | false =>
         have hke : kOf a sts = kk := tw_stop (p := fun s : Stk => ltT s.1 a) HUB.out.1 HUB.out.2.symm hkk
         have HKE := Lib.hid hke
         clear HUB hke
         go_wp2_with fail
         go_meet
         case rel => exact ⟨by rw [HKE.out], HBN⟩
      ·obtain rfl : kk = sts.length := by omega
       obtain ⟨wi, hwi⟩ : ∃ x, x = wr := ⟨_, rfl⟩
       subst hwi
       have HBK := hbk
       clear hI8 hbk
       go_wp2_with fail
       refine rg_plain (fin := ?z5) [.int .i64 (sts.length : Int), .pointer (some ⟨g, 5, none⟩), .slice AS sts.length cS, .int .i64 (sts.length : Int), .bool false, .bool false, undef, undef, undef, undef, undef, undef, undef, undef, .bool false] (fun WN => WN.cell? ⟨g, 5, none⟩ = some (.slice AS sts.length cS) ∧ Below wi.heap.size wi WN) ?hf (by kernel_rfl) (by kernel_rfl) rfl ⟨c5, (Below.refl _ _).drew⟩ (fun WN hst => ?hs) (fun WN hst => ?he)
       case hf => simp only [putOps, Act.put, List.setIfInBounds_toArray, List.set_cons_succ, List.set_cons_zero]; exact rfl
       case hs =>
        have HST := Lib.hid hst
        obtain ⟨c5, hbl⟩ := hst
        iterate 15 refine ⟨?_, fun K hK => ?_⟩
        ·trivial
        ·(go_simp; exact hK _ HST.out)
        ·(go_simp; exact hK _ HST.out)
        ·(go_simp; exact hK _ HST.out)
        ·(go_simp; exact hK _ HST.out)
        ·(go_simp; exact hK _ HST.out)
        ·(go_simp; exact hK _ HST.out)
        ·(go_simp; exact hK _ HST.out)
        ·(go_simp; exact hK _ HST.out)
        ·(go_simp; exact hK _ HST.out)
        ·(go_simp; exact hK _ HST.out)
        ·(go_simp; exact hK _ HST.out)
        ·(go_simp; exact hK _ HST.out)
        ·(go_simp; exact hK _ HST.out)
        ·(go_simp; exact hK _ HST.out)
        ·(go_simp; exact hK _ HST.out)
       case he =>
        obtain ⟨c5, hbl⟩ := hst
        have HBN := Lib.hid (HBK.out.trans (hbl.mono HBK.out.size))
        have HKE := Lib.hid (show kOf a sts = sts.length by omega)
        clear hbl HBK c5
        go_wp2_with fail
        go_meet
        case rel => exact ⟨by rw [HKE.out], HBN⟩
    case rest =>
     obtain ⟨hv, hbc⟩ := hcut
     subst hv
     obtain ⟨w8, hw8⟩ : ∃ x, x = wc := ⟨_, rfl⟩
     subst hw8
     obtain ⟨q, hq⟩ : ∃ q, q = kOf a sts := ⟨_, rfl⟩
     rw [← hq]
     have hql : q ≤ sts.length := by rw [hq]; exact kOf_le a sts
     have HQ := Lib.hid hq
     have HI8 := Lib.hid (HI7.out.below hbc.out)
     have HRT8 := Lib.hid (od HRT7.out hbc.out)
     have HW8 := Lib.hid (HW7.out.trans (hbc.out.mono HW7.out.size))
     have HKB8 := Lib.hid (blk_below HKB.out hbc.out (blk_lt HKB.out))
     have h78 := hbc.out.size
     clear hq hbc HKB HI7 HRT7 HW7 CL hww
     go_upto_region 10 with fail
     obtain ⟨hA, hhA⟩ : ∃ b, b = hasA a sts := ⟨_, rfl⟩
     have HHA := Lib.hid hhA
     clear hhA
     go_cut [69] from 23 to 150 (fun v wx => v = .bool (!hA) ∧ Hid (Below w8.heap.size w8 wx))
     case first =>
      have c5 := HI8.out.cell
      by_cases hki : q < sts.length
      ·obtain ⟨u, hu⟩ : ∃ u, sts[q]? = some u := ⟨_, List.getElem?_eq_getElem hki⟩
       obtain ⟨xs0, hrow0, _⟩ := HI8.out.stk.row
       obtain ⟨gS, cS2, _, hve, _, _, _, _⟩ := own_addr hrow0 (show 0 < sts.length by omega)
       injection hve with q1 q2 q3
       clear q2 q3
       subst q1
       obtain ⟨v9, s0, s1, s2, _, _⟩ := HI8.out.stk.at_ hu
       have hki1 : (q : Int) < (sts.length : Int) := by omega
       have hki0 : (0 : Int) ≤ (q : Int) := by omega
       have hkn : ¬ ((q : Int) = (sts.length : Int)) := by omega
       have hkn2 : ((q : Int) == (sts.length : Int)) = false := by simp; omega
       have hB : (!eqL [(u.1.1, a.1), (u.1.2.1, a.2.1), (u.1.2.2, a.2.2)]) = !hA := by
        rw [eqL_tr3, HHA.out, hasA_some (a := a) (by rw [← HQ.out]; exact hu)]
       have r : ∀ w' : World, (binOp .neq 59 (.agg #[.int .i64 u.1.1, .int .i64 u.1.2.1, .int .i64 u.1.2.2]) (.agg #[.int .i64 a.1, .int .i64 a.2.1, .int .i64 a.2.2])).run Tryz.prog w' = .ok (.bool (!hA)) w' := fun w' => by rw [← hB]; exact neT _ _ _ _ _ _ _
       have b0 := cell_of_blk HKB8.out 0
       have b1 := cell_of_blk HKB8.out 1
       have b2 := cell_of_blk HKB8.out 2
       simp only [List.getElem?_toArray, List.getElem?_cons_zero, List.getElem?_cons_succ] at b0 b1 b2
       have RR := Lib.hid r
       clear hu hrow0 r hB
       refine rg_plain (fin := ?z7) [.int .i64 (q : Int), .pointer (some ⟨g, 5, none⟩), .slice (some ⟨gS, 0, none⟩) sts.length cS, .int .i64 (sts.length : Int), .bool false, .bool false, .pointer (some ⟨g, 5, none⟩), .slice (some ⟨gS, 0, none⟩) sts.length cS, .int .i64 (q : Int), .pointer (some ⟨gS, q * 4, none⟩), .pointer (some ⟨gS, q * 4, none⟩), aggT3 u.1, aggT3 a, .bool (!hA), .bool (!hA)] (fun WN => WN.cell? ⟨g, 5, none⟩ = some (.slice (some ⟨gS, 0, none⟩) sts.length cS) ∧ WN.cell? ⟨gS, q * 4, none⟩ = some (.int .i64 u.1.1) ∧ WN.cell? ⟨gS, q * 4 + 1, none⟩ = some (.int .i64 u.1.2.1) ∧ WN.cell? ⟨gS, q * 4 + 2, none⟩ = some (.int .i64 u.1.2.2) ∧ WN.cell? ⟨gb, 0, none⟩ = some (.int .i64 a.1) ∧ WN.cell? ⟨gb, 1, none⟩ = some (.int .i64 a.2.1) ∧ WN.cell? ⟨gb, 2, none⟩ = some (.int .i64 a.2.2) ∧ Below w8.heap.size w8 WN) ?hf (by kernel_rfl) (by kernel_rfl) rfl ⟨c5, s0, s1, s2, b0, b1, b2, (Below.refl _ _).drew⟩ (fun WN hst => ?hs) (fun WN hst => ?he)
       case hf => simp only [putOps, Act.put, List.setIfInBounds_toArray, List.set_cons_succ, List.set_cons_zero]; exact rfl
       case hs =>
        have HST := Lib.hid hst
        obtain ⟨c5, s0, s1, s2, b0, b1, b2, hbl⟩ := hst
        iterate 15 refine ⟨?_, fun K hK => ?_⟩
        ·trivial
        ·generalize (!hA) = y0 at hK ⊢
         cases y0 <;> (go_simp; exact hK _ HST.out)
        ·have r := RR.out
         (go_simp; exact hK _ HST.out)
        ·(go_simp; exact hK _ HST.out)
        ·(go_simp; exact hK _ HST.out)
        ·(go_simp; exact hK _ HST.out)
        ·(go_simp; exact hK _ HST.out)
        ·(go_simp; exact hK _ HST.out)
        ·(go_simp; exact hK _ HST.out)
        ·(go_simp; exact hK _ HST.out)
        ·(go_simp; exact hK _ HST.out)
        ·(go_simp; exact hK _ HST.out)
        ·(go_simp; exact hK _ HST.out)
        ·(go_simp; exact hK _ HST.out)
        ·(go_simp; exact hK _ HST.out)
        ·(go_simp; exact hK _ HST.out)
       case he =>
        obtain ⟨c5, s0, s1, s2, b0, b1, b2, hbl⟩ := hst
        have HBN := Lib.hid hbl
        clear hbl c5 s0 s1 s2 b0 b1 b2 RR
        go_wp2_with fail
        go_meet
        case rel => exact ⟨rfl, HBN⟩
      ·have hqe : q = sts.length := by omega
       have hAe : hA = false := by rw [HHA.out]; exact hasA_end (by rw [← HQ.out]; exact hqe)
       subst hqe hAe
       refine rg_plain (fin := ?z9) [.int .i64 (sts.length : Int), .pointer (some ⟨g, 5, none⟩), .slice AS sts.length cS, .int .i64 (sts.length : Int), .bool true, .bool true, undef, undef, undef, undef, undef, undef, undef, undef, .bool true] (fun WN => WN.cell? ⟨g, 5, none⟩ = some (.slice AS sts.length cS) ∧ Below w8.heap.size w8 WN) ?hf (by kernel_rfl) (by kernel_rfl) rfl ⟨c5, (Below.refl _ _).drew⟩ (fun WN hst => ?hs) (fun WN hst => ?he)
       case hf => simp only [putOps, Act.put, List.setIfInBounds_toArray, List.set_cons_succ, List.set_cons_zero]; exact rfl
       case hs =>
        have HST := Lib.hid hst
        obtain ⟨c5, hbl⟩ := hst
        iterate 15 refine ⟨?_, fun K hK => ?_⟩
        ·trivial
        ·(go_simp; exact hK _ HST.out)
        ·(go_simp; exact hK _ HST.out)
        ·(go_simp; exact hK _ HST.out)
        ·(go_simp; exact hK _ HST.out)
        ·(go_simp; exact hK _ HST.out)
        ·(go_simp; exact hK _ HST.out)
        ·(go_simp; exact hK _ HST.out)
        ·(go_simp; exact hK _ HST.out)
        ·(go_simp; exact hK _ HST.out)
        ·(go_simp; exact hK _ HST.out)
        ·(go_simp; exact hK _ HST.out)
        ·(go_simp; exact hK _ HST.out)
        ·(go_simp; exact hK _ HST.out)
        ·(go_simp; exact hK _ HST.out)
        ·(go_simp; exact hK _ HST.out)
       case he =>
        obtain ⟨c5, hbl⟩ := hst
        have HBN := Lib.hid hbl
        clear hbl c5
        go_wp2_with fail
        go_meet
        case rel => exact ⟨rfl, HBN⟩
     case rest =>
      obtain ⟨hv, hbc⟩ := hcut
      subst hv
      obtain ⟨w9, hw9⟩ : ∃ x, x = wc := ⟨_, rfl⟩
      subst hw9
      have HI9 := Lib.hid (HI8.out.below hbc.out)
      have HRT9 := Lib.hid (od HRT8.out hbc.out)
      have HW9 := Lib.hid (HW8.out.trans (hbc.out.mono HW8.out.size))
      have HKB9 := Lib.hid (blk_below HKB8.out hbc.out (blk_lt HKB8.out))
      have h89 := hbc.out.size
      clear hbc HKB8 HI8 HRT8 HW8
      go_upto_if 69 with fail
      go_cut [12] from 23 to 150 (fun v wx => ∃ S2 : Value, Hid (StI w6 g W H (.slice Bm nm cm2) (.slice Bc nc cc2) (.slice Bp L.length cp2) S2 S2 (insS a sts) wx))
      case first =>
       cases hA with
       | true =>
        have hins : insS a sts = sts := by unfold insS; rw [if_pos HHA.out.symm]
        have h1 : Hid (StI w6 g W H (.slice Bm nm cm2) (.slice Bc nc cc2) (.slice Bp L.length cp2) (.slice AS sts.length cS) (.slice AS sts.length cS) (insS a sts) w9) := by rw [hins]; exact HI9
        clear hins
        go_wp2_with fail
        go_meet
        case rel => exact ⟨_, h1⟩
       | false =>
        have hins : insS a sts = sts.take q ++ (a, []) :: sts.drop q := by unfold insS; rw [if_neg (by rw [← HHA.out]; simp), ← HQ.out]
        have HINS := Lib.hid hins
        obtain ⟨xs0, hown, hpush⟩ := HI9.out.push (s := (((0, 0, 0) : T3), ([] : List T3))) (u := .slice none 0 0) (World.ownsRow_nil _ _ _ _)
        have c5 := HI9.out.cell
        have hsz6 := HI9.out.kp.size
        have HOWN := Lib.hid hown
        have HPUSH := Lib.hid hpush
        have HROW := Lib.hid hown
        clear hown hpush hins
        go_wp2_with (first
         | (at_builtin; go_loud (refine app_gen Tryz.underlying27 stack_info rfl (by decide) (by decide) rfl (.tmp 71) (.tmp 73) rfl w6.heap.size (.slice AS sts.length cS) sts.length xs0 [.int .i64 0, .int .i64 0, .int .i64 0, .slice none 0 0] rfl HOWN.out hsz6 1 _ rfl rfl rfl (stk_one _ _ _ _ _ _) (by omega) ?_); intro v' w' hown' hb' hgr'; have hI3 := HPUSH.out v' w' hown' hgr'; have hkb3 := (hgr'.grown.block gb (blk_lt HKB9.out) (fun e => own_not HROW.out HKB9.out (by decide) e.symm)).trans HKB9.out; obtain ⟨Av2, cv2, hv2, _, _⟩ := own_slice hown'; subst hv2; have f5 := frozen_of_blk hI3.blk; have l5 := blk_lt hI3.blk; have c5' := hI3.cell; have HI3 := Lib.hid hI3; have HKB3 := Lib.hid hkb3; clear hown' hb' hgr' hI3 hkb3)
         | fail)
        have HI4 := Lib.hid HI3.out.store
        have HKB4 : Hid ((w'.setCell ⟨g, 5, none⟩ (.slice Av2 (sts.length + 1) cv2)).heap[gb]? = some (.cells #[.int .i64 a.1, .int .i64 a.2.1, .int .i64 a.2.2] 59 (0, 0))) := Lib.hid (blk_far HKB3.out (show gb ≠ g by omega) _)
        clear f5 l5 c5' HI3 HKB3 c5 HOWN HPUSH HROW
        generalize w'.setCell ⟨g, 5, none⟩ (.slice Av2 (sts.length + 1) cv2) = wp at HI4 HKB4 ⊢
        obtain ⟨xs1, hrow1, _⟩ := HI4.out.stk.row
        obtain ⟨gS, cS2, _, hve, _, _, _, _⟩ := own_addr hrow1 (show 0 < (sts ++ [((((0, 0, 0) : T3), ([] : List T3)) : Stk)]).length by simp)
        injection hve with q1 q2 q3
        clear q2 q3 hrow1
        subst q1
        have hI5 : StI w6 g W H (.slice Bm nm cm2) (.slice Bc nc cc2) (.slice Bp L.length cp2) (.slice (some ⟨gS, 0, none⟩) (sts.length + 1) cv2) (.slice (some ⟨gS, 0, none⟩) (sts.length + 1) cv2) (upS ((((0, 0, 0) : T3), ([] : List T3)) : Stk) sts sts.length) wp := by rw [upS_start]; exact HI4.out
        have HI5 := Lib.hid hI5
        clear hI5 HI4
        go_loopw [12] (fun v wr => ∃ j : Nat, q ≤ j ∧ j ≤ sts.length ∧ v = .int .i64 j ∧ Hid (StI w6 g W H (.slice Bm nm cm2) (.slice Bc nc cc2) (.slice Bp L.length cp2) (.slice (some ⟨gS, 0, none⟩) (sts.length + 1) cv2) (.slice (some ⟨gS, 0, none⟩) (sts.length + 1) cv2) (upS ((((0, 0, 0) : T3), ([] : List T3)) : Stk) sts j) wr) ∧ Hid (wr.heap[gb]? = some (.cells #[.int .i64 a.1, .int .i64 a.2.1, .int .i64 a.2.2] 59 (0, 0)))) (fun v _ => (intOf v).toNat)
        case atStart => exact ⟨sts.length, hql, Nat.le_refl _, rfl, HI5, HKB4⟩
        case round =>
         clear HI5 HKB4
         obtain ⟨j, hqj, hjs, rfl, hI5, hkb5⟩ := hrel
         obtain ⟨wi, hwi⟩ : ∃ x, x = wr := ⟨_, rfl⟩
         subst hwi
         have HI5 := hI5
         have HKB5 := hkb5
         clear hI5 hkb5
         have c5 := HI5.out.cell
         obtain ⟨cs9, hbk, _⟩ := HI5.out.stk.blk
         have hgbS : gb ≠ gS := fun e => by have h1 := HKB5.out; rw [e, hbk] at h1; simp at h1
         by_cases hlt : q < j
         ·obtain ⟨j1, rfl⟩ : ∃ j1, j = j1 + 1 := ⟨j - 1, by omega⟩
          obtain ⟨s, hsx⟩ : ∃ s, sts[j1]? = some s := ⟨_, List.getElem?_eq_getElem (by omega)⟩
          obtain ⟨u, s0, s1, s2, s3, hru⟩ := HI5.out.stk.at_ (upS_at (z := ((((0, 0, 0) : T3), ([] : List T3)) : Stk)) hsx)
          obtain ⟨Au, cu, hu, _, _⟩ := own_slice hru
          subst hu
          obtain ⟨s9, hs9⟩ : ∃ s9, (upS ((((0, 0, 0) : T3), ([] : List T3)) : Stk) sts (j1 + 1))[j1 + 1]? = some s9 := ⟨_, List.getElem?_eq_getElem (by rw [upS_len hjs]; omega)⟩
          obtain ⟨u9, r0, r1, r2, r3, _⟩ := HI5.out.stk.at_ hs9
          have HU := Lib.hid hru
          have HSS := Lib.hid hsx
          clear hs9
          have hj0 : (0 : Int) ≤ (j1 : Int) := by omega
          have hj1 : (j1 : Int) < (sts.length : Int) + 1 := by omega
          have hj2 : (j1 : Int) + 1 < (sts.length : Int) + 1 := by omega
          have hjq : (q : Int) < (j1 : Int) + 1 := by omega
          have hwj : IntKind.i64.wrap (j1 : Int) = (j1 : Int) := by rw [IntWalk.i64_in _ (by omega)]
          clear hsx hru
          go_wp2_with fail
          refine rg_chain (fin := ?z10) [10] [9, 8, 1, 2, 7, 0, 4, 6, 3, 5] [true, true, true, true, true, true, true, true, true, true, false] [false, false, false, false, false, false, false, false, false, false, false] (fun x => [.pointer (some ⟨g, 5, none⟩), .slice (some ⟨gS, 0, none⟩) (sts.length + 1) cv2, .int .i64 ((j1 : Int) + 1), .pointer (some ⟨g, 5, none⟩), .slice (some ⟨gS, 0, none⟩) (sts.length + 1) cv2, .int .i64 ((j1 : Int) + 1), .int .i64 (j1 : Int), .pointer (some ⟨gS, j1 * 4, none⟩), .agg #[.int .i64 s.1.1, .int .i64 s.1.2.1, .int .i64 s.1.2.2, .slice Au s.2.length cu], .pointer (some ⟨gS, (j1 + 1) * 4, none⟩), (x 0)]) (fun j _ WN => match j with | 0 => WN.cell? ⟨g, 5, none⟩ = some (.slice (some ⟨gS, 0, none⟩) (sts.length + 1) cv2) ∧ WN.cell? ⟨gS, j1 * 4, none⟩ = some (.int .i64 s.1.1) ∧ WN.cell? ⟨gS, j1 * 4 + 1, none⟩ = some (.int .i64 s.1.2.1) ∧ WN.cell? ⟨gS, j1 * 4 + 2, none⟩ = some (.int .i64 s.1.2.2) ∧ WN.cell? ⟨gS, j1 * 4 + 3, none⟩ = some (.slice Au s.2.length cu) ∧ WN.cell? ⟨gS, (j1 + 1) * 4, none⟩ = some (.int .i64 s9.1.1) ∧ WN.cell? ⟨gS, (j1 + 1) * 4 + 1, none⟩ = some (.int .i64 s9.1.2.1) ∧ WN.cell? ⟨gS, (j1 + 1) * 4 + 2, none⟩ = some (.int .i64 s9.1.2.2) ∧ WN.cell? ⟨gS, (j1 + 1) * 4 + 3, none⟩ = some (u9) ∧ WN.heap[gS]? = some (.cells cs9 62 (0, 0)) ∧ Below wi.heap.size wi WN | _ => ∃ W0 : World, (W0.cell? ⟨g, 5, none⟩ = some (.slice (some ⟨gS, 0, none⟩) (sts.length + 1) cv2) ∧ W0.cell? ⟨gS, j1 * 4, none⟩ = some (.int .i64 s.1.1) ∧ W0.cell? ⟨gS, j1 * 4 + 1, none⟩ = some (.int .i64 s.1.2.1) ∧ W0.cell? ⟨gS, j1 * 4 + 2, none⟩ = some (.int .i64 s.1.2.2) ∧ W0.cell? ⟨gS, j1 * 4 + 3, none⟩ = some (.slice Au s.2.length cu) ∧ W0.cell? ⟨gS, (j1 + 1) * 4, none⟩ = some (.int .i64 s9.1.1) ∧ W0.cell? ⟨gS, (j1 + 1) * 4 + 1, none⟩ = some (.int .i64 s9.1.2.1) ∧ W0.cell? ⟨gS, (j1 + 1) * 4 + 2, none⟩ = some (.int .i64 s9.1.2.2) ∧ W0.cell? ⟨gS, (j1 + 1) * 4 + 3, none⟩ = some (u9) ∧ W0.heap[gS]? = some (.cells cs9 62 (0, 0)) ∧ Below wi.heap.size wi W0) ∧ WN = (((W0.setCell ⟨gS, (j1 + 1) * 4, none⟩ (.int .i64 s.1.1)).setCell ⟨gS, (j1 + 1) * 4 + 1, none⟩ (.int .i64 s.1.2.1)).setCell ⟨gS, (j1 + 1) * 4 + 2, none⟩ (.int .i64 s.1.2.2)).setCell ⟨gS, (j1 + 1) * 4 + 3, none⟩ (.slice Au s.2.length cu)) ?hf (by kernel_rfl) (by kernel_rfl) (fun _ => rfl) (by kernel_rfl) ?hv ⟨c5, s0, s1, s2, s3, r0, r1, r2, r3, hbk, (Below.refl _ _).drew⟩ (fun x WN hst => ?hs) ?hB ?hT (fun x WN hst => ?he)
          case hf => intro x; simp only [putOps, Act.put, List.setIfInBounds_toArray, List.set_cons_succ, List.set_cons_zero]; exact rfl
          case hv =>
           intro x j t v h; cases j with
           | zero => cases h; rfl
           | succ j => simp at h
          case hs =>
           have HST := Lib.hid hst
           obtain ⟨c5, s0, s1, s2, s3, r0, r1, r2, r3, hbk, hbl⟩ := hst
           iterate 10 refine ⟨?_, fun K hK => ?_⟩
           ·trivial
           all_goals try (go_simp; exact hK _ HST.out; done)
          case hB => intro j x WN _ _ _; trivial
          case hT =>
           intro j t x WN ht hst o ho K hK
           obtain rfl : j = 0 := by cases j with | zero => rfl | succ j => simp at ht
           cases ht; cases ho
           have HST := Lib.hid hst
           obtain ⟨c5, s0, s1, s2, s3, r0, r1, r2, r3, hbk, hbl⟩ := hst
           have zf := frozen_of_blk hbk
           have zl := blk_lt hbk
           go_simp
           exact hK undef _ ⟨_, HST.out, rfl⟩
          case he =>
           obtain ⟨W0, hst, hWN⟩ := hst
           obtain ⟨c5, s0, s1, s2, s3, r0, r1, r2, r3, hbk, hbl⟩ := hst
           have hu5 := od HU.out hbl
           have hn5 := (HI5.out.below hbl).put4 (i := j1 + 1) (by rw [upS_len hjs]; omega) s hu5
           rw [upS_step HSS.out] at hn5
           have HN5 := Lib.hid hn5
           have HNB : Hid (((((W0.setCell ⟨gS, (j1 + 1) * 4, none⟩ (.int .i64 s.1.1)).setCell ⟨gS, (j1 + 1) * 4 + 1, none⟩ (.int .i64 s.1.2.1)).setCell ⟨gS, (j1 + 1) * 4 + 2, none⟩ (.int .i64 s.1.2.2)).setCell ⟨gS, (j1 + 1) * 4 + 3, none⟩ (.slice Au s.2.length cu)).heap[gb]? = some (.cells #[.int .i64 a.1, .int .i64 a.2.1, .int .i64 a.2.2] 59 (0, 0))) := Lib.hid (blk_far (blk_far (blk_far (blk_far (blk_below HKB5.out hbl (blk_lt HKB5.out)) hgbS _) hgbS _) hgbS _) hgbS _)
           clear hn5 hu5 hbl c5 s0 s1 s2 s3 r0 r1 r2 r3 hbk HI5 HKB5 HU HSS
           rw [← hWN] at HN5 HNB
           clear hWN
           go_wp2
           go_roundw
           case rel => exact ⟨j1, by omega, by omega, by first | rfl | go_num, HN5, HNB⟩
           case measure => simp [intOf]
         ·obtain rfl : j = q := by omega
          have zf := frozen_of_blk hbk
          have zl := blk_lt hbk
          have b0 := cell_of_blk HKB5.out 0
          have b1 := cell_of_blk HKB5.out 1
          have b2 := cell_of_blk HKB5.out 2
          simp only [List.getElem?_toArray, List.getElem?_cons_zero, List.getElem?_cons_succ] at b0 b1 b2
          have hj0 : (0 : Int) ≤ (j : Int) := by omega
          have hj1 : (j : Int) < (sts.length : Int) + 1 := by omega
          obtain ⟨s9, hs9⟩ : ∃ s9, (upS ((((0, 0, 0) : T3), ([] : List T3)) : Stk) sts j)[j]? = some s9 := ⟨_, List.getElem?_eq_getElem (by rw [upS_len hql]; omega)⟩
          obtain ⟨u9, r0, r1, r2, r3, _⟩ := HI5.out.stk.at_ hs9
          clear hs9
          have hn5 := HI5.out.put4 (i := j) (by rw [upS_len hql]; omega) ((a, []) : Stk) (World.ownsRow_nil _ _ _ _)
          rw [upS_end hql, ← HINS.out] at hn5
          have HN5 := Lib.hid hn5
          clear hn5 HINS
          go_wp2_with fail
          go_meet
          case rel => exact ⟨_, HN5⟩
      case rest =>
       obtain ⟨S2, hI⟩ := hcut
       obtain ⟨w10, hw10⟩ : ∃ x, x = wc := ⟨_, rfl⟩
       subst hw10
       obtain ⟨sn, hsn⟩ : ∃ s, s = insS a sts := ⟨_, rfl⟩
       obtain ⟨l, hl⟩ := ins_at a sts
       have hste := fun (p : T3 → Bool) (t : T3) => hstep_eq (p := p) (t := t) hl
       have hbi := HBD.out.ins a
       rw [← HQ.out, ← hsn] at hl hste
       rw [← hsn] at hbi hI
       have hsnl := hbi.1
       obtain ⟨hll, hlm⟩ := hbi.2 _ (List.mem_of_getElem? hl)
       simp only at hll hlm
       have hqn := (List.getElem?_eq_some_iff.1 hl).1
       obtain ⟨A2, c2, hSS2⟩ := hI.out.stk.sl
       subst hSS2
       obtain ⟨xs0, hrow0, _⟩ := hI.out.stk.row
       obtain ⟨gS, cS2, _, hve, _, _, _, _⟩ := own_addr hrow0 (show 0 < sn.length by omega)
       injection hve with q1 q2 q3
       clear q2 q3
       subst q1
       have c5 := hI.out.cell
       obtain ⟨v9, z0, z1, z2, z3, hrl⟩ := hI.out.stk.at_ hl
       simp only at hrl z0 z1 z2
       obtain ⟨Al, cl, hv, hlc, hcm⟩ := own_slice hrl
       subst hv
       simp only [maxLen] at hlc hcm
       have HAL := Lib.hid (own_none hrl)
       obtain ⟨p, hp⟩ : ∃ p, p = lowB L hts i := ⟨_, rfl⟩
       have hww : Below w.heap.size w w10 := HW6.out.trans (hI.out.kp.out (by omega) (by omega) HW6.out.size)
       have HI10 := hI
       have HL := Lib.hid hl
       have HLM := Lib.hid hlm
       have HSTE := Lib.hid hste
       have HSN := Lib.hid hsn
       have HRL := Lib.hid hrl
       have HPP := Lib.hid hp
       have HW10 := Lib.hid hww
       have HRT10 := Lib.hid (own_kp2 HO6.out hI.out.kp (by simp [Value.ownBlock, hgtg]) (by simp [Value.ownBlock, hgtg]))
       have hq0 : (0 : Int) ≤ (q : Int) := by omega
       have hq1 : (q : Int) < (sn.length : Int) := by omega
       have h610 := hI.out.kp.size
       clear hl hlm hste hsn hrl hp hww hI hbi hrow0 HW9 HRT9 HI9 HKB9 HHA
       have hb0 : Below w10.heap.size w10 w10 := Below.refl _ _
       go_upto_block 6 with fail
       go_cut [14] from 23 to 150 (fun v wx => v = .int .i64 ((l.takeWhile p).length : Int) ∧ Hid (Below w10.heap.size w10 wx))
       case first =>
        go_wp2_with fail
        go_loopw [14] (fun v wr => ∃ n : Nat, n ≤ (l.takeWhile p).length ∧ v = .int .i64 n ∧ Hid (Below w10.heap.size w10 wr)) (fun v _ => l.length - (intOf v).toNat)
        case atStart => exact ⟨0, by omega, rfl, Lib.hid hb0⟩
        case round =>
         obtain ⟨n, hn, rfl, hbk⟩ := hrel
         have hnl := tw_len p l
         obtain ⟨wi, hwi⟩ : ∃ x, x = wr := ⟨_, rfl⟩
         subst hwi
         have HBK := hbk
         clear hbk
         by_cases hni : n < l.length
         ·obtain ⟨u, hu⟩ : ∃ u, l[n]? = some u := ⟨_, List.getElem?_eq_getElem hni⟩
          have hwi : Below w.heap.size w wi := HW10.out.trans (HBK.out.mono HW10.out.size)
          have hrl := HRL.out
          obtain ⟨gl, cl2, _, hve, _, _, _, _⟩ := own_addr hrl (show 0 < l.length by omega)
          injection hve with q1 q2 q3
          clear q2 q3
          subst q1
          obtain ⟨y0, y1, y2⟩ := own_tri hrl hu
          have y0 := sd y0 HBK.out
          have y1 := sd y1 HBK.out
          have y2 := sd y2 HBK.out
          have huL := HLM.out u (List.mem_of_getElem? hu)
          obtain ⟨d, hd⟩ : ∃ d, d = L.idxOf u := ⟨_, rfl⟩
          have hdl : d < L.length := by rw [hd]; exact List.idxOf_lt_length_of_mem huL
          have hpl : placeI L u = (d : Int) := by unfold placeI; rw [if_pos huL, hd]
          obtain ⟨bh, oh, X, hAh, hbh, hX, x0⟩ := Rd.int HH.out hdl
          subst hAh
          obtain ⟨bh2, oh2, Y, hAh2, _, hY, x1⟩ := Rd.int HH.out hin
          injection hAh2 with q1
          injection q1 with q1 q2
          subst q1 q2
          have x0 := sd x0 hwi
          have x1 := sd x1 hwi
          have hrt := od HRT10.out HBK.out
          have cP := fun (W' : World) (hb : Below wi.heap.size wi W') => placeRd_any (some ⟨gt, 0, none⟩) ct L u W' ((Rd.of_own hrt).below hb) (by omega)
          rw [hpl] at cP
          have CP := Lib.hid cP
          obtain ⟨B, hB⟩ : ∃ B, B = p u := ⟨_, rfl⟩
          have hB2 : decide (X < Y) = B := by
           rw [hB, HPP.out, lowB, ← hd, List.getD_eq_getElem?_getD, List.getD_eq_getElem?_getD, hX, hY]
           rfl
          have HB2 := Lib.hid hB2
          have HUB := Lib.hid (And.intro hu hB)
          have hni1 : (n : Int) < (l.length : Int) := by omega
          have hni0 : (0 : Int) ≤ (n : Int) := by omega
          have hd0 : (0 : Int) ≤ (d : Int) := by omega
          have hd1 : (d : Int) < (L.length : Int) := by omega
          clear hu hrl huL hd hpl hX hY hrt cP hB hB2 hwi
          go_wp2_with fail
          refine rg_plain (fin := ?z12) [.int .i64 (n : Int), .slice (some ⟨gl, 0, none⟩) l.length cl, .int .i64 (l.length : Int), .bool true, .bool true, .slice (some ⟨bh, oh, none⟩) L.length ch, .slice (some ⟨gt, 0, none⟩) L.length ct, .slice (some ⟨gl, 0, none⟩) l.length cl, .int .i64 (n : Int), .pointer (some ⟨gl, n * 3, none⟩), aggT3 u, .int .i64 (d : Int), .pointer (some ⟨bh, oh + d, none⟩), .int .i64 X, .slice (some ⟨bh, oh, none⟩) L.length ch, .int .i64 (i : Int), .pointer (some ⟨bh, oh + i, none⟩), .int .i64 Y, .bool B, .bool B] (fun WN => WN.cell? ⟨gl, n * 3, none⟩ = some (.int .i64 u.1) ∧ WN.cell? ⟨gl, n * 3 + 1, none⟩ = some (.int .i64 u.2.1) ∧ WN.cell? ⟨gl, n * 3 + 2, none⟩ = some (.int .i64 u.2.2) ∧ WN.cell? ⟨bh, oh + d, none⟩ = some (.int .i64 X) ∧ WN.cell? ⟨bh, oh + i, none⟩ = some (.int .i64 Y) ∧ Below wi.heap.size wi WN) ?hf (by kernel_rfl) (by kernel_rfl) rfl ⟨y0, y1, y2, x0, x1, (Below.refl _ _).drew⟩ (fun WN hst => ?hs) (fun WN hst => ?he)
          case hf => simp only [putOps, Act.put, List.setIfInBounds_toArray, List.set_cons_succ, List.set_cons_zero]; exact rfl
          case hs =>
           have HST := Lib.hid hst
           obtain ⟨y0, y1, y2, x0, x1, hbl⟩ := hst
           iterate 20 refine ⟨?_, fun K hK => ?_⟩
           ·trivial
           ·cases B <;> (go_simp; exact hK _ HST.out)
           ·have hb := HB2.out
            (go_simp; exact hK _ HST.out)
           ·(go_simp; exact hK _ HST.out)
           ·(go_simp; exact hK _ HST.out)
           ·(go_simp; exact hK _ HST.out)
           ·(go_simp; exact hK _ HST.out)
           ·(go_simp; exact hK _ HST.out)
           ·(go_simp; exact hK _ HST.out)
           ·(go_simp; refine (CP.out _ hbl).mono ?_; rintro e' wc ⟨he, hbc⟩; subst he; exact hK _ ⟨sd y0 hbc, sd y1 hbc, sd y2 hbc, sd x0 hbc, sd x1 hbc, stay_b hbl hbc⟩)
           ·(go_simp; exact hK _ HST.out)
           ·(go_simp; exact hK _ HST.out)
           ·(go_simp; exact hK _ HST.out)
           ·(go_simp; exact hK _ HST.out)
           ·(go_simp; exact hK _ HST.out)
           ·(go_simp; exact hK _ HST.out)
           ·(go_simp; exact hK _ HST.out)
           ·(go_simp; exact hK _ HST.out)
           ·(go_simp; exact hK _ HST.out)
           ·(go_simp; exact hK _ HST.out)
           ·(go_simp; exact hK _ HST.out)
          case he =>
           obtain ⟨y0, y1, y2, x0, x1, hbl⟩ := hst
           have HBN := Lib.hid (HBK.out.trans (hbl.mono HBK.out.size))
           clear hbl y0 y1 y2 x0 x1 CP HBK HB2
           cases B with
           | true =>
            have hn1 : n + 1 ≤ (l.takeWhile p).length := tw_step HUB.out.1 HUB.out.2.symm hn
            have hwk : IntKind.i64.wrap ((n : Int) + 1) = ((n + 1 : Nat) : Int) := by rw [IntWalk.i64_in _ (by omega)]; omega
            clear HUB
            go_wp2
            go_roundw
            case rel => exact ⟨n + 1, hn1, by first | rfl | go_num, HBN⟩
            case measure => simp [intOf]; omega
           | false =>
            have hke : (l.takeWhile p).length = n := tw_stop HUB.out.1 HUB.out.2.symm hn
            have HKE := Lib.hid hke
            clear HUB hke
            go_wp2_with fail
            go_meet
            case rel => exact ⟨by rw [HKE.out], HBN⟩
         ·obtain rfl : n = l.length := by omega
          have HKE := Lib.hid (show (l.takeWhile p).length = l.length by omega)
          go_wp2_with fail
          refine rg_plain (fin := ?z14) [.int .i64 (l.length : Int), .slice Al l.length cl, .int .i64 (l.length : Int), .bool false, .bool false, undef, undef, undef, undef, undef, undef, undef, undef, undef, undef, undef, undef, undef, undef, .bool false] (fun WN => Below wi.heap.size wi WN) ?hf (by kernel_rfl) (by kernel_rfl) rfl (Below.refl _ _).drew (fun WN hst => ?hs) (fun WN hst => ?he)
          case hf => simp only [putOps, Act.put, List.setIfInBounds_toArray, List.set_cons_succ, List.set_cons_zero]; exact rfl
          case hs =>
           have HST := Lib.hid hst
           have hbl := hst
           iterate 20 refine ⟨?_, fun K hK => ?_⟩
           ·trivial
           ·(go_simp; exact hK _ HST.out)
           ·(go_simp; exact hK _ HST.out)
           ·(go_simp; exact hK _ HST.out)
           ·(go_simp; exact hK _ HST.out)
           ·(go_simp; exact hK _ HST.out)
           ·(go_simp; exact hK _ HST.out)
           ·(go_simp; exact hK _ HST.out)
           ·(go_simp; exact hK _ HST.out)
           ·(go_simp; exact hK _ HST.out)
           ·(go_simp; exact hK _ HST.out)
           ·(go_simp; exact hK _ HST.out)
           ·(go_simp; exact hK _ HST.out)
           ·(go_simp; exact hK _ HST.out)
           ·(go_simp; exact hK _ HST.out)
           ·(go_simp; exact hK _ HST.out)
           ·(go_simp; exact hK _ HST.out)
           ·(go_simp; exact hK _ HST.out)
           ·(go_simp; exact hK _ HST.out)
           ·(go_simp; exact hK _ HST.out)
           ·(go_simp; exact hK _ HST.out)
          case he =>
           have hbl := hst
           have HBN := Lib.hid (HBK.out.trans (hbl.mono HBK.out.size))
           clear hbl HBK
           go_wp2_with fail
           go_meet
           case rel => exact ⟨by rw [HKE.out], HBN⟩
       case rest =>
        obtain ⟨hv, hbc⟩ := hcut
        subst hv
        obtain ⟨w11, hw11⟩ : ∃ x, x = wc := ⟨_, rfl⟩
        subst hw11
        obtain ⟨n, hn⟩ : ∃ n, n = (l.takeWhile p).length := ⟨_, rfl⟩
        rw [← hn]
        have hnl : n ≤ l.length := by rw [hn]; exact tw_len p l
        have HN := Lib.hid hn
        have HI11 := Lib.hid (HI10.out.below hbc.out)
        have HRT11 := Lib.hid (od HRT10.out hbc.out)
        have HRL11 := Lib.hid (od HRL.out hbc.out)
        have h611 := hbc.out.size
        have hn0 : (0 : Int) ≤ (n : Int) := by omega
        have hn1 : (n : Int) ≤ (l.length : Int) := by omega
        have hn2 : (n : Int) ≤ (cl : Int) := by omega
        have hn3 : (l.length : Int) ≤ (cl : Int) := by omega
        clear hn hbc HI10 HRT10 HRL HW10 c5 z0 z1 z2 z3 hb0
        obtain ⟨t0, t1, t2⟩ := own_tri HRT11.out HT.out
        have HRD := Lib.hid (rdTake (q := n) (Rd.of_own HRL11.out) hnl)
        have hb0 : Below w11.heap.size w11 w11 := Below.refl _ _
        have HBB := Lib.hid hb0
        clear hb0
        go_wp2_with (first
         | ((fail_if_success (have hx := HDONE)); at_builtin; refine app_copy Tryz.underlying60 tri_info rfl (by decide) rfl _ _ rfl rfl Al n cl (tcT (l.take n)) rfl HAL.out HRD.out (tcT_ones _) (by omega) (by omega) ?_; intro v12 w12 ho12 hb12; obtain ⟨B12, c12, hv12, _, _⟩ := own_slice ho12; subst hv12; have HDONE := trivial; have HO12 := Lib.hid ho12; have HB12 := Lib.hid hb12; replace t0 := sd t0 hb12; replace t1 := sd t1 hb12; replace t2 := sd t2 hb12; have hsz12 := hb12.size; clear ho12 hb12)
         | (have hx := HDONE; clear hx; at_builtin; go_loud (refine app_gen Tryz.underlying60 tri_info rfl (by decide) (by decide) rfl (.tmp 134) (.tmp 139) rfl w11.heap.size (.slice B12 n c12) n (tcT (l.take n)) [.int .i64 t.1, .int .i64 t.2.1, .int .i64 t.2.2] rfl HO12.out hsz12 1 _ rfl rfl rfl (tri_one _ _ _) (by omega) ?_); intro v13 w13 ho13 hb13 hg13; obtain ⟨B13, c13, hv13, _, _⟩ := own_slice ho13; subst hv13; have HO13 := Lib.hid ho13; have HB13 := Lib.hid (HB12.out.trans hb13); clear ho13 hb13 hg13)
         | fail)
        have c5 := (HI11.out.below HB13.out).cell
        obtain ⟨v9, z0, z1, z2, z3, _⟩ := (HI11.out.below HB13.out).stk.at_ HL.out
        obtain ⟨cs9, hbk, _⟩ := (HI11.out.below HB13.out).stk.blk
        have hsz13 := HB13.out.size
        obtain ⟨Ax, hax⟩ : ∃ Ax : Option Addr, Ax = if cl = n then Al else Option.map (fun x => x.add (n * 3)) Al := ⟨_, rfl⟩
        have hxr := rdSuf (Rd.of_own HRL11.out) hnl hlc
        have hxn := rdSuf_none (q := n) HAL.out
        rw [← hax] at hxr hxn
        have HAX := Lib.hid hax
        have HXR := Lib.hid (hxr.below HB13.out)
        have HXN := Lib.hid hxn
        have hcn : l.length - n ≤ 1000 := by omega
        clear hax hxr hxn HAL HRD HBB HDONE HO12 HB12 t0 t1 t2
        refine rg_chn (fin := ?z15) [7, 10] [[true, true, true, true, true, true, true, false, true, true, false], [true, true, true, false, false, false, false, false, true, true, false], [false, false, false, false, false, false, false, false, false, false, false]] [[3, 6, 4, 5], [9, 7, 8, 3, 6, 1, 2, 4, 5, 0]] (fun x => [.pointer (some ⟨g, 5, none⟩), .slice (some ⟨gS, 0, none⟩) sn.length c2, .int .i64 (q : Int), .slice B13 (n + 1) c13, .slice Al l.length cl, .int .i64 (n : Int), .slice Ax (l.length - n) (cl - n), (x 0), .pointer (some ⟨gS, q * 4, none⟩), .pointer (some ⟨gS, q * 4 + 3, none⟩), (x 1)]) (fun jS x WN => match jS with | 0 => WN.cell? ⟨g, 5, none⟩ = some (.slice (some ⟨gS, 0, none⟩) sn.length c2) ∧ WN.cell? ⟨gS, q * 4 + 3, none⟩ = some (v9) ∧ WN.heap[gS]? = some (.cells cs9 62 (0, 0)) ∧ Below w13.heap.size w13 WN | 1 => WN.cell? ⟨g, 5, none⟩ = some (.slice (some ⟨gS, 0, none⟩) sn.length c2) ∧ Hid (Below w11.heap.size w11 WN) ∧ Hid (WN.ownsRow w11.heap.size 59 3 (x 0) (l.length + 1) (tcT (insT p l t))) | _ => ∃ W0 : World, Hid (Below w11.heap.size w11 W0) ∧ Hid (W0.ownsRow w11.heap.size 59 3 (x 0) (l.length + 1) (tcT (insT p l t))) ∧ WN = W0.setCell ⟨gS, q * 4 + 3, none⟩ (x 0)) ?hf (by kernel_rfl) (by kernel_rfl) (fun _ => rfl) (by kernel_rfl) ?hv ⟨c5, z3, hbk, (Below.refl _ _).drew⟩ ?hA ?hT (fun x WN hst => ?he)
        case hf => intro x; simp only [putOps, Act.put, List.setIfInBounds_toArray, List.set_cons_succ, List.set_cons_zero]; exact rfl
        case hv =>
         intro x jS t v h
         cases jS with
         | zero => cases h; rfl
         | succ jS =>
          cases jS with
          | zero => cases h; rfl
          | succ jS =>
           simp at h
        case hA =>
         intro jS x WN hj hst
         have hj : jS ≤ 2 := hj
         rcases (show jS = 0 ∨ jS = 1 ∨ jS = 2 by omega) with rfl | rfl | rfl
         ·have HST := Lib.hid hst
          obtain ⟨c5, z3, hbk, hbl⟩ := hst
          iterate 9 refine ⟨?_, fun K hK => ?_⟩
          ·trivial
          all_goals try (go_simp; exact hK _ HST.out; done)
          ·go_simp
           rw [← HAX.out]
           exact hK _ HST.out
         ·have HST := Lib.hid hst
          obtain ⟨c5, h1, h2⟩ := hst
          iterate 5 refine ⟨?_, fun K hK => ?_⟩
          ·trivial
          all_goals try (go_simp; exact hK _ HST.out; done)
         ·trivial
        case hT =>
         intro jS t x WN ht hst o ho K hK
         cases jS with
         | zero =>
          cases ht; cases ho
          obtain ⟨c5, z3, hbk, hbl⟩ := hst
          have hown := od HO13.out hbl
          have hwsz := hbl.size
          refine step_appM Tryz.underlying60 tri_info rfl (by decide) rfl _ _ rfl w11.heap.size (.slice B13 (n + 1) c13) (n + 1) (tcT (l.take n) ++ [.int .i64 t.1, .int .i64 t.2.1, .int .i64 t.2.2]) (tcT (l.drop n)) rfl hown (by omega) Ax (l.length - n) (cl - n) rfl HXN.out (HXR.out.below hbl) (tcT_ones _) (by omega) (by omega) (fun vv ww h1 h2 => hK vv ww ?_)
          rw [insT_tc HN.out, show n + 1 + (l.length - n) = l.length + 1 by omega] at h1
          have h3 := (stay_b HB13.out hbl).trans h2
          exact ⟨(HI11.out.below h3).cell, Lib.hid h3, Lib.hid h1⟩
         | succ jS =>
          cases jS with
          | zero =>
           cases ht; cases ho
           obtain ⟨c5, h1, h2⟩ := hst
           obtain ⟨A9, c9, hx9, _⟩ := own_slice h2.out
           obtain ⟨cs9, hbk, _⟩ := (HI11.out.below h1.out).stk.blk
           obtain ⟨v9, _, _, _, z3, _⟩ := (HI11.out.below h1.out).stk.at_ HL.out
           have zf := frozen_of_blk hbk
           have zl := blk_lt hbk
           rw [hx9] at hK ⊢
           go_simp
           refine hK undef _ ⟨WN, h1, ?_, ?_⟩
           ·exact h2
           ·rw [show updV x (0 + 1) undef 0 = x 0 from rfl, hx9]
          | succ jS =>
           simp at ht
        case he =>
         obtain ⟨W0, h1, h2, hWN⟩ := hst
         have hu := own_mono h2.out (show w6.heap.size ≤ w11.heap.size by omega)
         rw [← insT_len p l t] at hu
         have hn5 := (HI11.out.below h1.out).put1 HL.out hu
         rw [← hWN, ← HSTE.out] at hn5
         have hhe : heapN L A hts (i + 1) = hstep a p t sts := by
          rw [heapN, ← HA.out, ← HPP.out, ← HSTS.out, List.getD_eq_getElem?_getD, HT.out]
          rfl
         rw [← hhe] at hn5
         have HFIN := Lib.hid hn5
         obtain ⟨U9, hU9⟩ : ∃ U9, U9 = x 0 := ⟨_, rfl⟩
         clear hn5 hhe hu h1 h2 hWN hU9
         have hwi2 : IntKind.i64.wrap ((i : Int) + 1) = ((i + 1 : Nat) : Int) := by rw [IntWalk.i64_in _ (by omega)]; omega
         go_wp2
         go_roundw
         case rel => exact ⟨i + 1, _, by omega, by first | rfl | go_num, HFIN⟩
         case measure => simp [intOf]; omega
  ·obtain rfl : i = L.length := by omega
   obtain ⟨As2, cS2, hS2⟩ := hI.out.stk.sl
   subst hS2
   have kr := hI.out.kp.ob KR6.out (show w.heap.size + 1 ≠ g by omega) (show w.heap.size + 1 ≠ g by omega)
   have hgk := hI.out.blk
   have z0 := cell_of_blk hgk 0
   have z1 := cell_of_blk hgk 1
   have z2 := cell_of_blk hgk 2
   have z3 := cell_of_blk hgk 3
   have z4 := cell_of_blk hgk 4
   have z5 := cell_of_blk hgk 5
   have y0 := cell_of_blk kr 0
   have y1 := cell_of_blk kr 1
   have y2 := cell_of_blk kr 2
   have y3 := cell_of_blk kr 3
   have y4 := cell_of_blk kr 4
   have y5 := cell_of_blk kr 5
   simp only [List.getElem?_toArray, List.getElem?_cons_zero, List.getElem?_cons_succ] at z0 z1 z2 z3 z4 z5 y0 y1 y2 y3 y4 y5
   have yf := frozen_of_blk kr
   have yl := blk_lt kr
   clear hgk
   have KRR := Lib.hid kr
   clear kr
   go_wp2_with fail
   have kr := KRR.out
   have hn1 := own_not HR6.out.1 HGB6.out (by decide)
   have hn2 := own_not HR6.out.2.1 HGB6.out (by decide)
   have hn3 := own_not HR6.out.2.2 HGB6.out (by decide)
   have hbW : Below w.heap.size w wr := HW6.out.trans (hI.out.kp.out (by omega) (by omega) HW6.out.size)
   have hkF := blk_set6 kr (.int .i64 W) (.int .i64 H) (.slice Bm nm cm2) (.slice Bc nc cc2) (.slice Bp L.length cp2) (.slice As2 (heapN L A hts L.length).length cS2)
   have o1 := own_set6 (own_kp2 HR6.out.1 hI.out.kp hn1 hn1) kr (by decide) (.int .i64 W) (.int .i64 H) (.slice Bm nm cm2) (.slice Bc nc cc2) (.slice Bp L.length cp2) (.slice As2 (heapN L A hts L.length).length cS2)
   have o2 := own_set6 (own_kp2 HR6.out.2.1 hI.out.kp hn2 hn2) kr (by decide) (.int .i64 W) (.int .i64 H) (.slice Bm nm cm2) (.slice Bc nc cc2) (.slice Bp L.length cp2) (.slice As2 (heapN L A hts L.length).length cS2)
   have o3 := own_set6 (own_kp2 HR6.out.2.2 hI.out.kp hn3 hn3) kr (by decide) (.int .i64 W) (.int .i64 H) (.slice Bm nm cm2) (.slice Bc nc cc2) (.slice Bp L.length cp2) (.slice As2 (heapN L A hts L.length).length cS2)
   have o4 := hI.out.stk.set6 kr (by decide) (by decide) (.int .i64 W) (.int .i64 H) (.slice Bm nm cm2) (.slice Bc nc cc2) (.slice Bp L.length cp2) (.slice As2 (heapN L A hts L.length).length cS2)
   have hbF := below_set6 hbW (Nat.le_succ w.heap.size) (.int .i64 W) (.int .i64 H) (.slice Bm nm cm2) (.slice Bc nc cc2) (.slice Bp L.length cp2) (.slice As2 (heapN L A hts L.length).length cS2)
   generalize ((((((wr.setCell ⟨w.heap.size + 1, 0, none⟩ (.int .i64 W)).setCell ⟨w.heap.size + 1, 1, none⟩ (.int .i64 H)).setCell ⟨w.heap.size + 1, 2, none⟩ (.slice Bm nm cm2)).setCell ⟨w.heap.size + 1, 3, none⟩ (.slice Bc nc cc2)).setCell ⟨w.heap.size + 1, 4, none⟩ (.slice Bp L.length cp2)).setCell ⟨w.heap.size + 1, 5, none⟩ (.slice As2 (heapN L A hts L.length).length cS2)) = wF at hkF o1 o2 o3 o4 hbF ⊢
   have j0 := cell_of_blk hkF 0
   have j1 := cell_of_blk hkF 1
   have j2 := cell_of_blk hkF 2
   have j3 := cell_of_blk hkF 3
   have j4 := cell_of_blk hkF 4
   have j5 := cell_of_blk hkF 5
   simp only [List.getElem?_toArray, List.getElem?_cons_zero, List.getElem?_cons_succ] at j0 j1 j2 j3 j4 j5
   exact bodyPost_ret (v := .agg #[.int .i64 W, .int .i64 H, .slice Bm nm cm2, .slice Bc nc cc2, .slice Bp L.length cp2, .slice As2 (heapN L A hts L.length).length cS2]) (by simp [results, Tryz.results22, go_sem, j0, j1, j2, j3, j4, j5]) rfl ⟨Bm, cm2, Bc, cc2, Bp, cp2, As2, _, cS2, rfl, rfl, own_mono o1 (by omega), own_mono o2 (by omega), own_mono o3 (by omega), o4.mono (by have := HW6.out.size; omega), hbF⟩
end
end Go.Proofs.YtbnkabmnenginaaGreatDoor
