/- Turned over?; view.TopOf. view.Top; how thick: view.Thick, the document's ThickOf. The text of a cell of a picture. -/
import Derived.Test.YtpkjekedgodccaaGreatDoorK31
import Derived.Test.YtpkjekedgodccaaGreatDoorK33
import Derived.Test.YtpkjekedgodccaaGreatDoorK32
namespace Go.Proofs.YtpkjekedgodccaaGreatDoor
set_option linter.unusedSimpArgs false
set_option linter.unusedVariables false
section
open Go.RowKit Go.Maps
set_option maxHeartbeats 3200000 in
theorem turned_any (m : V6) (hm : turnedB m.1 m.2.1 m.2.2.1 m.2.2.2.1 = true) (w : World) : Calls Tryz.prog 32 #[aggM m] w fun e w' => e = .returned (.bool (turnB m)) ∧ Below w.heap.size w w' := by
 obtain ⟨a, b, c, d, e, f⟩ := m
 have hb := below_new w (.cells #[.int .i64 a, .int .i64 b, .int .i64 c, .int .i64 d, .int .i64 e, .int .i64 f] 63)
 simp only [turnedB, oneB, Bool.or_eq_true, Bool.and_eq_true, beq_iff_eq] at hm
 have HB := Lib.hid hb
 clear hb
 rcases hm with ⟨⟨h1 | h1, h2⟩, h3 | h3, h4⟩ | ⟨⟨h1 | h1, h2⟩, h3 | h3, h4⟩ <;> subst h1 h2 h3 h4 <;> (go_enter Tryz.func32, Tryz.ntmps32; go_wp2; go_ret; exact ⟨by simp [turnB], HB.out⟩)
set_option maxHeartbeats 3200000 in
theorem turnsOver_any (m : V6) (hm : turnedB m.1 m.2.1 m.2.2.1 m.2.2.2.1 = true) (w : World) : Calls Tryz.prog 22 #[aggM m] w fun e w' => e = .returned (.bool (turnB m)) ∧ Below w.heap.size w w' := by
 obtain ⟨a, b, c, d, e, f⟩ := m
 have hb := below_new w (.cells #[.int .i64 a, .int .i64 b, .int .i64 c, .int .i64 d, .int .i64 e, .int .i64 f] 63)
 simp only [turnedB, oneB, Bool.or_eq_true, Bool.and_eq_true, beq_iff_eq] at hm
 have HB := Lib.hid hb
 clear hb
 rcases hm with ⟨⟨h1 | h1, h2⟩, h3 | h3, h4⟩ | ⟨⟨h1 | h1, h2⟩, h3 | h3, h4⟩ <;> subst h1 h2 h3 h4 <;> (go_enter Tryz.func22, Tryz.ntmps22; go_wp2; go_ret; exact ⟨by simp [turnB], HB.out⟩)
set_option maxRecDepth 100000 in
set_option maxHeartbeats 6400000 in
theorem topOf_any (W H : Int) (Am Ac Ap As : Option Addr) (nm cm nc cc np cp ns cS : Nat) (B xb pb nb kb Wn Hn mn mk : Nat) (vm vc vt vl : Value) (gm cq mb : Nat) (va : Value) (L : List T3) (ms : List V6) (fk : E4 → Option Int) (sts : List Stk) (w : World) (hst : StkR w As ns sts) (ho : OpnR w B xb pb nb kb Wn Hn mn mk vm vc vt vl gm cq mb va L ms fk) (hv : VwP L ms sts) :
  Calls Tryz.prog 13 #[.agg #[.int .i64 W, .int .i64 H, .slice Am nm cm, .slice Ac nc cc, .slice Ap np cp, .slice As ns cS], .pointer (some ⟨xb, 0, none⟩)] w fun e w' => ∃ v, e = .returned v ∧ w'.ownsRow w.heap.size 46 7 v sts.length (sns (tops L ms sts)) ∧ Below w.heap.size w w' := by
 have kb0 := heap_alloc_new w (.cells #[.int .i64 W, .int .i64 H, .slice Am nm cm, .slice Ac nc cc, .slice Ap np cp, .slice As ns cS] 29)
 have hb0 := below_new w (.cells #[.int .i64 W, .int .i64 H, .slice Am nm cm, .slice Ac nc cc, .slice Ap np cp, .slice As ns cS] 29)
 have a5 := cell_of_blk kb0 5
 simp only [List.getElem?_toArray, List.getElem?_cons_zero, List.getElem?_cons_succ] at a5
 have hsz0 : w.heap.size ≤ (w.alloc (.cells #[.int .i64 W, .int .i64 H, .slice Am nm cm, .slice Ac nc cc, .slice Ap np cp, .slice As ns cS] 29)).heap.size := hb0.size
 have hnl := hst.len
 have HST := Lib.hid (hst.below hb0)
 have HO := Lib.hid (ho.below hb0)
 have HV := Lib.hid hv
 have HB0 := Lib.hid hb0
 have hv6 := hv.few
 have hrow0 : Hid ((w.alloc (.cells #[.int .i64 W, .int .i64 H, .slice Am nm cm, .slice Ac nc cc, .slice Ap np cp, .slice As ns cS] 29)).ownsRow (w.alloc (.cells #[.int .i64 W, .int .i64 H, .slice Am nm cm, .slice Ac nc cc, .slice Ap np cp, .slice As ns cS] 29)).heap.size 46 7 (.slice none 0 0) 0 (sns (tops L ms (sts.take 0)))) := Lib.hid (World.ownsRow_nil _ _ _ _)
 have HNL := Lib.hid hnl
 clear hst ho hv hb0 kb0 hnl
 go_enter Tryz.func13, Tryz.ntmps13
 go_wp2_with fail
 generalize w.alloc (.cells #[.int .i64 W, .int .i64 H, .slice Am nm cm, .slice Ac nc cc, .slice Ap np cp, .slice As ns cS] 29) = w0 at a5 HST HO HB0 hrow0 hsz0 ⊢
 go_loopw [5, 12] (fun x v wr => ∃ (i : Nat) (T : Value), i ≤ sts.length ∧ v = .int .i64 i ∧ T = x ∧ Hid (wr.ownsRow w0.heap.size 46 7 T i (sns (tops L ms (sts.take i)))) ∧ Hid (Below w0.heap.size w0 wr)) (fun _ v _ => sts.length - (intOf v).toNat)
 case atStart => exact ⟨0, _, by omega, rfl, rfl, hrow0, Lib.hid (Below.refl _ _)⟩
 case round =>
  clear hrow0
  obtain ⟨i, T, hi, rfl, rfl, hrow, hbr⟩ := hrel
  obtain ⟨wo, hwo⟩ : ∃ x, x = wr := ⟨_, rfl⟩
  subst hwo
  by_cases hin : i < sts.length
  ·skip
   obtain ⟨s, hs⟩ : ∃ s, sts[i]? = some s := ⟨_, List.getElem?_eq_getElem hin⟩
   obtain ⟨hne, htL⟩ := HV.out.ne s (List.mem_of_getElem? hs)
   obtain ⟨bS, oS, A2, c2, hA, hbS, hr2, hq2, s0, s1, s2, s3⟩ := HST.out.at3 hs
   cases hA
   obtain ⟨t, ht⟩ : ∃ t, t = lastT s.2 := ⟨_, rfl⟩
   have hsl : 0 < s.2.length := List.length_pos_iff.2 hne
   have htq : s.2[s.2.length - 1]? = some t := by rw [ht, lastT, List.getD_eq_getElem?_getD, List.getElem?_eq_getElem (by omega)]; rfl
   obtain ⟨bT, oT, hA2, t0, t1, t2⟩ := Rd.tr hr2 htq rfl
   subst hA2
   rw [← ht] at htL
   obtain ⟨d, hd⟩ : ∃ d, d = L.idxOf t := ⟨_, rfl⟩
   have hdl : d < L.length := by rw [hd]; exact List.idxOf_lt_length_of_mem htL
   obtain ⟨m, hm⟩ : ∃ m, ms[d]? = some m := ⟨_, List.getElem?_eq_getElem (by rw [HV.out.len]; exact hdl)⟩
   obtain ⟨b, hb⟩ : ∃ b, b = turnB m := ⟨_, rfl⟩
   have htop : topA L ms s = (s.1, t, b) := by rw [topA, ← ht, ← hd, List.getD_eq_getElem?_getD, hm, hb]; rfl
   have hwT := fun (W' : World) => turned_any m (HV.out.map m (List.mem_of_getElem? hm)) W'
   rw [← hb] at hwT
   have CT := Lib.hid hwT
   have HTOP := Lib.hid htop
   have HSI := Lib.hid hs
   have hsl1 : (((s.2.length : Nat) : Int) - 1) = ((s.2.length - 1 : Nat) : Int) := by omega
   have hsw : IntKind.i64.wrap (((s.2.length : Nat) : Int) - 1) = ((s.2.length - 1 : Nat) : Int) := by rw [hsl1, IntWalk.i64_in _ (by omega)]
   obtain ⟨e, he⟩ : ∃ e, e = s.2.length - 1 := ⟨_, rfl⟩
   rw [← he] at hsw t0 t1 t2
   have he0 : (0 : Int) ≤ (e : Int) := by omega
   have hen : (e : Int) < (s.2.length : Int) := by omega
   have hii : (i : Int) < (ns : Int) := by have := HST.out.len; omega
   have hi0 : (0 : Int) ≤ (i : Int) := by omega
   have hd0 : (0 : Int) ≤ (d : Int) := by omega
   have hd1 : (d : Int) < (L.length : Int) := by omega
   have HTL := Lib.hid (And.intro htL hd)
   have HM := Lib.hid hm
   replace s0 := sd s0 hbr.out
   replace s1 := sd s1 hbr.out
   replace s2 := sd s2 hbr.out
   replace s3 := sd s3 hbr.out
   replace t0 := sd t0 hbr.out
   replace t1 := sd t1 hbr.out
   replace t2 := sd t2 hbr.out
   have ho := HO.out.below hbr.out
   have HOW := Lib.hid ho
   have kS1 := heap_alloc_new wo (.cells #[.int .i64 s.1.1, .int .i64 s.1.2.1, .int .i64 s.1.2.2, .slice (some ⟨bT, oT, none⟩) s.2.length c2] 54)
   have y0 := cell_of_blk kS1 0
   have y1 := cell_of_blk kS1 1
   have y2 := cell_of_blk kS1 2
   have y3 := cell_of_blk kS1 3
   simp only [List.getElem?_toArray, List.getElem?_cons_zero, List.getElem?_cons_succ] at y0 y1 y2 y3
   replace t0 := al_c t0 (.cells #[.int .i64 s.1.1, .int .i64 s.1.2.1, .int .i64 s.1.2.2, .slice (some ⟨bT, oT, none⟩) s.2.length c2] 54)
   replace t1 := al_c t1 (.cells #[.int .i64 s.1.1, .int .i64 s.1.2.1, .int .i64 s.1.2.2, .slice (some ⟨bT, oT, none⟩) s.2.length c2] 54)
   replace t2 := al_c t2 (.cells #[.int .i64 s.1.1, .int .i64 s.1.2.1, .int .i64 s.1.2.2, .slice (some ⟨bT, oT, none⟩) s.2.length c2] 54)
   have hdr := hr2
   clear hs hne htL hr2 hq2 ht htq hd hm hb htop hwT hsl1 he ho hdr kS1
   go_wp2_with fail
   have kb1 := blk_alloc (heap_alloc_new wo (.cells #[.int .i64 s.1.1, .int .i64 s.1.2.1, .int .i64 s.1.2.2, .slice (some ⟨bT, oT, none⟩) s.2.length c2] 54)) (.cells #[.int .i64 t.1, .int .i64 t.2.1, .int .i64 t.2.2] 44)
   have kb2 := heap_alloc_new (wo.alloc (.cells #[.int .i64 s.1.1, .int .i64 s.1.2.1, .int .i64 s.1.2.2, .slice (some ⟨bT, oT, none⟩) s.2.length c2] 54)) (.cells #[.int .i64 t.1, .int .i64 t.2.1, .int .i64 t.2.2] 44)
   rw [World.size_alloc] at kb2
   have hbo := ba (below_new wo (.cells #[.int .i64 s.1.1, .int .i64 s.1.2.1, .int .i64 s.1.2.2, .slice (some ⟨bT, oT, none⟩) s.2.length c2] 54)) (.cells #[.int .i64 t.1, .int .i64 t.2.1, .int .i64 t.2.2] 44)
   have x0 := cell_of_blk kb1 0
   have x1 := cell_of_blk kb1 1
   have x2 := cell_of_blk kb1 2
   have z0 := cell_of_blk kb2 0
   have z1 := cell_of_blk kb2 1
   have z2 := cell_of_blk kb2 2
   simp only [List.getElem?_toArray, List.getElem?_cons_zero, List.getElem?_cons_succ] at x0 x1 x2 z0 z1 z2
   have HBO := Lib.hid hbo
   clear kb1 kb2 hbo y0 y1 y2 y3 s0 s1 s2 s3 t0 t1 t2
   generalize (wo.alloc (.cells #[.int .i64 s.1.1, .int .i64 s.1.2.1, .int .i64 s.1.2.2, .slice (some ⟨bT, oT, none⟩) s.2.length c2] 54)).alloc (.cells #[.int .i64 t.1, .int .i64 t.2.1, .int .i64 t.2.2] 44) = w1 at x0 x1 x2 z0 z1 z2 HBO ⊢
   have ho1 := HOW.out.below HBO.out
   have hb1 := Lib.hid (hbr.out.trans (HBO.out.mono hbr.out.size))
   have hro1 := Lib.hid (od hrow.out HBO.out)
   have p0 := ho1.pil.c0
   have p1 := ho1.pil.c1
   have p5 := ho1.pap.c5
   obtain ⟨m0, m1, m2, m3, m4, m5⟩ := own_maps ho1.map HM.out
   have hsw0 : w0.heap.size ≤ w1.heap.size := hb1.out.size
   have HO1 := Lib.hid ho1
   have hlk : ∀ W' : World, Below w1.heap.size w1 W' → (Instr.lookup 69 (.map (some nb)) (aggT3 t) false).run Tryz.prog W' = .ok (.int .i64 (d : Int)) W' := fun W' hb => by
    rw [HTL.out.2]
    exact (HO1.out.below hb).look HTL.out.1 (HV.out.inr t HTL.out.1)
   have HLK := Lib.hid hlk
   clear ho1 hlk HOW
   obtain ⟨Ta, Tc, hTv, _, _⟩ := own_slice hro1.out
   subst hTv
   refine rg_acc (by kernel_rfl) (by kernel_rfl) (s := 46) rfl rfl (rg_chnA (fin := ?z1) [21, 22] [[true, true, true, true, true, true, true, true, true, true, true, true, true, true, true, true, true, true, true, true, true, false, false, false], [true, false, false, false, false, false, false, false, false, false, false, false, false, false, false, false, false, false, false, false, false, false, false, false], [false, false, false, false, false, false, false, false, false, false, false, false, false, false, false, false, false, false, false, false, false, false, false, true]] [[20, 2, 3, 19, 1, 18, 17, 7, 16, 6, 14, 15, 5, 13, 4, 12, 11, 10, 9, 8], [0, 21, 20, 2, 3, 19, 1, 18, 17, 7, 16, 6, 14, 15, 5, 13, 4, 12, 11, 10, 9, 8]] (fun x => [.slice Ta i Tc, .pointer (some ⟨wo.heap.size, 0, none⟩), aggT3 s.1, aggT3 t, .pointer (some ⟨xb, 0, none⟩), .pointer (some ⟨xb, 0, none⟩), .pointer (some ⟨xb, 1, none⟩), .slice (some ⟨gm, 0, none⟩) L.length cq, .pointer (some ⟨xb, 0, none⟩), .pointer (some ⟨xb, 0, none⟩), .pointer (some ⟨xb, 0, none⟩), .pointer (some ⟨pb, 0, none⟩), .pointer (some ⟨pb, 0, none⟩), .pointer (some ⟨pb, 5, none⟩), .map (some nb), aggT3 t, .int .i64 (d : Int), .pointer (some ⟨gm, d * 6, none⟩), aggM m, .bool b, .agg #[.int .i64 s.1.1, .int .i64 s.1.2.1, .int .i64 s.1.2.2, .int .i64 t.1, .int .i64 t.2.1, .int .i64 t.2.2, .bool b], (x 0), (x 1), undef]) (fun jS x WN => match jS with | 0 => WN.cell? ⟨wo.heap.size, 0, none⟩ = some (.int .i64 s.1.1) ∧ WN.cell? ⟨wo.heap.size, 1, none⟩ = some (.int .i64 s.1.2.1) ∧ WN.cell? ⟨wo.heap.size, 2, none⟩ = some (.int .i64 s.1.2.2) ∧ WN.cell? ⟨wo.heap.size + 1, 0, none⟩ = some (.int .i64 t.1) ∧ WN.cell? ⟨wo.heap.size + 1, 1, none⟩ = some (.int .i64 t.2.1) ∧ WN.cell? ⟨wo.heap.size + 1, 2, none⟩ = some (.int .i64 t.2.2) ∧ WN.cell? ⟨xb, 0, none⟩ = some (.pointer (some ⟨pb, 0, none⟩)) ∧ WN.cell? ⟨xb, 1, none⟩ = some (.slice (some ⟨gm, 0, none⟩) L.length cq) ∧ WN.cell? ⟨pb, 5, none⟩ = some (.map (some nb)) ∧ WN.cell? ⟨gm, d * 6, none⟩ = some (.int .i64 m.1) ∧ WN.cell? ⟨gm, d * 6 + 1, none⟩ = some (.int .i64 m.2.1) ∧ WN.cell? ⟨gm, d * 6 + 2, none⟩ = some (.int .i64 m.2.2.1) ∧ WN.cell? ⟨gm, d * 6 + 3, none⟩ = some (.int .i64 m.2.2.2.1) ∧ WN.cell? ⟨gm, d * 6 + 4, none⟩ = some (.int .i64 m.2.2.2.2.1) ∧ WN.cell? ⟨gm, d * 6 + 5, none⟩ = some (.int .i64 m.2.2.2.2.2) ∧ Below w1.heap.size w1 WN | 1 => WN.cell? ⟨wo.heap.size, 0, none⟩ = some (.int .i64 s.1.1) ∧ WN.cell? ⟨wo.heap.size, 1, none⟩ = some (.int .i64 s.1.2.1) ∧ WN.cell? ⟨wo.heap.size, 2, none⟩ = some (.int .i64 s.1.2.2) ∧ WN.cell? ⟨wo.heap.size + 1, 0, none⟩ = some (.int .i64 t.1) ∧ WN.cell? ⟨wo.heap.size + 1, 1, none⟩ = some (.int .i64 t.2.1) ∧ WN.cell? ⟨wo.heap.size + 1, 2, none⟩ = some (.int .i64 t.2.2) ∧ WN.cell? ⟨xb, 0, none⟩ = some (.pointer (some ⟨pb, 0, none⟩)) ∧ WN.cell? ⟨xb, 1, none⟩ = some (.slice (some ⟨gm, 0, none⟩) L.length cq) ∧ WN.cell? ⟨pb, 5, none⟩ = some (.map (some nb)) ∧ WN.cell? ⟨gm, d * 6, none⟩ = some (.int .i64 m.1) ∧ WN.cell? ⟨gm, d * 6 + 1, none⟩ = some (.int .i64 m.2.1) ∧ WN.cell? ⟨gm, d * 6 + 2, none⟩ = some (.int .i64 m.2.2.1) ∧ WN.cell? ⟨gm, d * 6 + 3, none⟩ = some (.int .i64 m.2.2.2.1) ∧ WN.cell? ⟨gm, d * 6 + 4, none⟩ = some (.int .i64 m.2.2.2.2.1) ∧ WN.cell? ⟨gm, d * 6 + 5, none⟩ = some (.int .i64 m.2.2.2.2.2) ∧ Below w1.heap.size w1 WN ∧ ∃ g2, Hid (x 0 = .slice (some ⟨g2, 0, none⟩) 1 1) ∧ WN.heap[g2]? = some (.cells #[.int .i64 s.1.1, .int .i64 s.1.2.1, .int .i64 s.1.2.2, .int .i64 t.1, .int .i64 t.2.1, .int .i64 t.2.2, .bool b] 46 (0, 0)) | _ => Hid (Below w0.heap.size w1 WN) ∧ Hid (WN.ownsRow w0.heap.size 46 7 (x 1) (i + 1) (sns (tops L ms (sts.take (i + 1)))))) ?hf (by kernel_rfl) (fun _ => rfl) (by kernel_rfl) ?hv ⟨x0, x1, x2, z0, z1, z2, p0, p1, p5, m0, m1, m2, m3, m4, m5, (Below.refl _ _).drew⟩ ?hA ?hT) ?he
   case hf => intro x; simp only [noLast, dropDst, List.toList_toArray, putOps, Act.put, List.setIfInBounds_toArray, List.set_cons_succ, List.set_cons_zero]; exact rfl
   case hv =>
    intro x jS t v h
    cases jS with
    | zero => cases h; rfl
    | succ jS =>
     cases jS with
     | zero => cases h; rfl
     | succ jS =>
      simp at h
   case hA =>
    intro jS x WN hj hst
    have hj : jS ≤ 2 := hj
    rcases (show jS = 0 ∨ jS = 1 ∨ jS = 2 by omega) with rfl | rfl | rfl
    ·have HST := Lib.hid hst
     obtain ⟨x0, x1, x2, z0, z1, z2, p0, p1, p5, m0, m1, m2, m3, m4, m5, hbl⟩ := hst
     iterate 21 refine ⟨?_, fun K hK => ?_⟩
     ·trivial
     all_goals try (go_simp; exact hK _ HST.out; done)
     ·go_simp
      refine (CT.out _).mono ?_
      rintro e' wc ⟨he, hbc⟩
      subst he
      exact hK _ ⟨sd x0 hbc, sd x1 hbc, sd x2 hbc, sd z0 hbc, sd z1 hbc, sd z2 hbc, sd p0 hbc, sd p1 hbc, sd p5 hbc, sd m0 hbc, sd m1 hbc, sd m2 hbc, sd m3 hbc, sd m4 hbc, sd m5 hbc, stay_b hbl hbc⟩
     ·have hlk := HLK.out WN hbl
      go_simp
      exact hK _ HST.out
    ·have HST := Lib.hid hst
     obtain ⟨x0, x1, x2, z0, z1, z2, p0, p1, p5, m0, m1, m2, m3, m4, m5, hbl, g2, hx0, hkg⟩ := hst
     iterate 1 refine ⟨?_, fun K hK => ?_⟩
     ·trivial
     all_goals try (go_simp; exact hK _ HST.out; done)
    ·have HST := Lib.hid hst
     obtain ⟨h1, h2⟩ := hst
     iterate 1 refine ⟨?_, fun K hK => ?_⟩
     ·trivial
     all_goals try (go_simp; exact hK _ HST.out; done)
   case hT =>
    intro jS t x WN ht hst o ho K hK
    cases jS with
    | zero =>
     cases ht
     simp only [noLast, dropDst, List.toList_toArray, List.getElem?_toArray, List.getElem?_cons_succ, List.getElem?_cons_zero, Option.some.injEq] at ho
     subst ho
     obtain ⟨x0, x1, x2, z0, z1, z2, p0, p1, p5, m0, m1, m2, m3, m4, m5, hbl⟩ := hst
     go_simp
     exact hK (.slice (some ⟨WN.heap.size, 0, none⟩) 1 1) _ ⟨al_c x0 (.cells #[.int .i64 s.1.1, .int .i64 s.1.2.1, .int .i64 s.1.2.2, .int .i64 t.1, .int .i64 t.2.1, .int .i64 t.2.2, .bool b] 46), al_c x1 (.cells #[.int .i64 s.1.1, .int .i64 s.1.2.1, .int .i64 s.1.2.2, .int .i64 t.1, .int .i64 t.2.1, .int .i64 t.2.2, .bool b] 46), al_c x2 (.cells #[.int .i64 s.1.1, .int .i64 s.1.2.1, .int .i64 s.1.2.2, .int .i64 t.1, .int .i64 t.2.1, .int .i64 t.2.2, .bool b] 46), al_c z0 (.cells #[.int .i64 s.1.1, .int .i64 s.1.2.1, .int .i64 s.1.2.2, .int .i64 t.1, .int .i64 t.2.1, .int .i64 t.2.2, .bool b] 46), al_c z1 (.cells #[.int .i64 s.1.1, .int .i64 s.1.2.1, .int .i64 s.1.2.2, .int .i64 t.1, .int .i64 t.2.1, .int .i64 t.2.2, .bool b] 46), al_c z2 (.cells #[.int .i64 s.1.1, .int .i64 s.1.2.1, .int .i64 s.1.2.2, .int .i64 t.1, .int .i64 t.2.1, .int .i64 t.2.2, .bool b] 46), al_c p0 (.cells #[.int .i64 s.1.1, .int .i64 s.1.2.1, .int .i64 s.1.2.2, .int .i64 t.1, .int .i64 t.2.1, .int .i64 t.2.2, .bool b] 46), al_c p1 (.cells #[.int .i64 s.1.1, .int .i64 s.1.2.1, .int .i64 s.1.2.2, .int .i64 t.1, .int .i64 t.2.1, .int .i64 t.2.2, .bool b] 46), al_c p5 (.cells #[.int .i64 s.1.1, .int .i64 s.1.2.1, .int .i64 s.1.2.2, .int .i64 t.1, .int .i64 t.2.1, .int .i64 t.2.2, .bool b] 46), al_c m0 (.cells #[.int .i64 s.1.1, .int .i64 s.1.2.1, .int .i64 s.1.2.2, .int .i64 t.1, .int .i64 t.2.1, .int .i64 t.2.2, .bool b] 46), al_c m1 (.cells #[.int .i64 s.1.1, .int .i64 s.1.2.1, .int .i64 s.1.2.2, .int .i64 t.1, .int .i64 t.2.1, .int .i64 t.2.2, .bool b] 46), al_c m2 (.cells #[.int .i64 s.1.1, .int .i64 s.1.2.1, .int .i64 s.1.2.2, .int .i64 t.1, .int .i64 t.2.1, .int .i64 t.2.2, .bool b] 46), al_c m3 (.cells #[.int .i64 s.1.1, .int .i64 s.1.2.1, .int .i64 s.1.2.2, .int .i64 t.1, .int .i64 t.2.1, .int .i64 t.2.2, .bool b] 46), al_c m4 (.cells #[.int .i64 s.1.1, .int .i64 s.1.2.1, .int .i64 s.1.2.2, .int .i64 t.1, .int .i64 t.2.1, .int .i64 t.2.2, .bool b] 46), al_c m5 (.cells #[.int .i64 s.1.1, .int .i64 s.1.2.1, .int .i64 s.1.2.2, .int .i64 t.1, .int .i64 t.2.1, .int .i64 t.2.2, .bool b] 46), hbl.alloc hbl.size (.cells #[.int .i64 s.1.1, .int .i64 s.1.2.1, .int .i64 s.1.2.2, .int .i64 t.1, .int .i64 t.2.1, .int .i64 t.2.2, .bool b] 46), WN.heap.size, Lib.hid rfl, heap_alloc_new WN (.cells #[.int .i64 s.1.1, .int .i64 s.1.2.1, .int .i64 s.1.2.2, .int .i64 t.1, .int .i64 t.2.1, .int .i64 t.2.2, .bool b] 46)⟩
    | succ jS =>
     cases jS with
     | zero =>
      cases ht
      simp only [noLast, dropDst, List.toList_toArray, List.getElem?_toArray, List.getElem?_cons_succ, List.getElem?_cons_zero, Option.some.injEq] at ho
      subst ho
      obtain ⟨x0, x1, x2, z0, z1, z2, p0, p1, p5, m0, m1, m2, m3, m4, m5, hbl, g2, hx0, hkg⟩ := hst
      have hrow := od hro1.out hbl
      have hwsz := hbl.size
      refine step_app Tryz.underlying30 seen_info rfl (by decide) (by decide) rfl _ _ rfl w0.heap.size (.slice Ta i Tc) i (sns (tops L ms (sts.take i))) (snC (s.1, t, b)) rfl hrow (by omega) 1 g2 hx0.out hkg rfl (snC_one _) (by omega) (fun vv ww h1 h2 h3 => hK vv ww ?_)
      rw [← sns_one, ← sns_app, ← HTOP.out, ← tops_take HSI.out] at h1
      exact ⟨Lib.hid ((hbl.mono hsw0).trans h2), Lib.hid h1⟩
     | succ jS =>
      simp at ht
   case he =>
    rintro aq WN ⟨x, rfl, hst⟩
    obtain ⟨h1, h2⟩ := hst
    have HRN := h2
    have HBN := Lib.hid (hb1.out.trans h1.out)
    clear h1 h2 x0 x1 x2 z0 z1 z2 p0 p1 p5 m0 m1 m2 m3 m4 m5 HLK HO1 CT HTOP HSI hsw
    have hwi : IntKind.i64.wrap ((i : Int) + 1) = ((i + 1 : Nat) : Int) := by rw [IntWalk.i64_in _ (by omega)]; omega
    go_wp2
    go_roundw
    case rel => exact ⟨i + 1, _, by omega, by first | rfl | go_num, rfl, HRN, HBN⟩
    case measure => simp [intOf]; omega
  ·obtain rfl : i = sts.length := by omega
   rw [List.take_length] at hrow
   have HR := hrow
   have HB := hbr
   have hnn : ¬ ((sts.length : Int) < (ns : Int)) := by have := HST.out.len; omega
   clear hrow hbr
   go_wp2
   exact bodyPost_ret (v := T) (by simp [results, Tryz.results13, go_sem]) rfl ⟨T, rfl, own_mono HR.out hsz0, HB0.out.trans (HB.out.mono hsz0)⟩
end
section
open Go.RowKit Go.Maps
def thkN (l : List Stk) : Nat := l.foldl (fun m s => if m < s.2.length then s.2.length else m) 0
theorem thk_step {l : List Stk} {i : Nat} {s : Stk} (hs : l[i]? = some s) : thkN (l.take (i + 1)) = if thkN (l.take i) < s.2.length then s.2.length else thkN (l.take i) := by
 unfold thkN
 rw [List.take_add_one, hs, List.foldl_append]
 rfl
theorem newB_dimV {W H : Int} {mask : List Int} {cs : List C5} (h : newB W H mask cs = true) : ∃ Wn Hn : Nat, W = Wn ∧ H = Hn ∧ (1 ≤ Wn ∧ Wn ≤ 8) ∧ (1 ≤ Hn ∧ Hn ≤ 8) ∧ mask.length = Wn * Hn := by
 unfold newB at h
 simp only [Bool.and_eq_true, cellsB, decide_eq_true_eq] at h
 obtain ⟨⟨⟨⟨h1, h2⟩, h3⟩, _⟩, _⟩ := h
 obtain ⟨Wn, rfl⟩ := Int.eq_ofNat_of_zero_le (show 0 ≤ W by omega)
 obtain ⟨Hn, rfl⟩ := Int.eq_ofNat_of_zero_le (show 0 ≤ H by omega)
 refine ⟨Wn, Hn, rfl, rfl, by omega, by omega, ?_⟩
 have : (mask.length : Int) = ((Wn * Hn : Nat) : Int) := by rw [h3]; simp
 omega
theorem vwPW {w : World} {Am Ac : Option Addr} {nm nc : Nat} {W H : Int} {mask : List Int} {cs : List C5} {ms : List V6} {sts : List Stk} (h : StateP W H mask cs ms sts) (hm : Rd w 1 Am nm (vis mask)) (hc : Rd w 5 Ac nc (ccs cs)) (hnc : nc ≤ 140737488351232) : VwP (trisL W.toNat mask) ms sts := by
 obtain ⟨Wn, Hn, rfl, rfl, hW, hH, hml⟩ := newB_dimV h.sheet
 have hsh : ShM w Wn Hn Am nm mask Ac nc cs := ⟨hW, hH, hml, hm, hc, hnc⟩
 rw [Int.toNat_natCast]
 refine vwP h (fun t ht => ?_) hsh.tris_len
 have := trisL_in (by omega) hml ht
 exact ⟨by omega, by omega, this.2.2.2.2⟩
set_option maxRecDepth 100000 in
set_option maxHeartbeats 6400000 in
theorem viewTop_any (W H : Int) (Am Ac Ap As : Option Addr) (nm cm nc cc np cp ns cS : Nat) (mask : List Int) (cs : List C5) (ms : List V6) (sts : List Stk) (w : World) (hs : Steps w) (hm : Rd w 1 Am nm (vis mask)) (hc : Rd w 5 Ac nc (ccs cs)) (hp : Rd w 6 Ap np (mcs ms)) (hst : StkR w As ns sts) (hnm : nm ≤ 140737488351232) (hnc : nc ≤ 140737488351232) (hnp : np ≤ 140737488351232) :
  Calls Tryz.prog 4 #[.agg #[.int .i64 W, .int .i64 H, .slice Am nm cm, .slice Ac nc cc, .slice Ap np cp, .slice As ns cS]] w fun e w' => Below w.heap.size w w' ∧ ((stateB W H mask cs ms sts = false ∧ e = .returned (.tuple #[.slice none 0 0, .int .i64 10])) ∨ (stateB W H mask cs ms sts = true ∧ ∃ v, e = .returned (.tuple #[v, .int .i64 0]) ∧ w'.ownsRow w.heap.size 46 7 v sts.length (sns (tops (trisL W.toNat mask) ms sts)))) := by
 have kb0 := heap_alloc_new w (.cells #[.int .i64 W, .int .i64 H, .slice Am nm cm, .slice Ac nc cc, .slice Ap np cp, .slice As ns cS] 29)
 have hb0 := below_new w (.cells #[.int .i64 W, .int .i64 H, .slice Am nm cm, .slice Ac nc cc, .slice Ap np cp, .slice As ns cS] 29)
 have a0 := cell_of_blk kb0 0
 have a1 := cell_of_blk kb0 1
 have a2 := cell_of_blk kb0 2
 have a3 := cell_of_blk kb0 3
 have a4 := cell_of_blk kb0 4
 have a5 := cell_of_blk kb0 5
 simp only [List.getElem?_toArray, List.getElem?_cons_zero, List.getElem?_cons_succ] at a0 a1 a2 a3 a4 a5
 have hsz0 : w.heap.size ≤ (w.alloc (.cells #[.int .i64 W, .int .i64 H, .slice Am nm cm, .slice Ac nc cc, .slice Ap np cp, .slice As ns cS] 29)).heap.size := hb0.size
 have cO := open_any W H Am Ac Ap As nm cm nc cc np cp ns cS mask cs ms sts (w.alloc (.cells #[.int .i64 W, .int .i64 H, .slice Am nm cm, .slice Ac nc cc, .slice Ap np cp, .slice As ns cS] 29)) (hs.below hb0) (hm.below hb0) (hc.below hb0) (hp.below hb0) (hst.below hb0) hnm hnc hnp
 have CO := Lib.hid cO
 have HST := Lib.hid (hst.below hb0)
 have hvw := fun (h : StateP W H mask cs ms sts) => vwPW h hm hc hnc
 have HVW := Lib.hid hvw
 have HB0 := Lib.hid hb0
 clear cO hs hm hc hp hst hb0 kb0 hvw
 go_enter Tryz.func4, Tryz.ntmps4
 go_wp2_with fail
 generalize w.alloc (.cells #[.int .i64 W, .int .i64 H, .slice Am nm cm, .slice Ac nc cc, .slice Ap np cp, .slice As ns cS] 29) = w0 at a0 a1 a2 a3 a4 a5 HST HB0 CO hsz0 ⊢
 refine CO.out.mono ?_
 rintro e w2 ⟨hb2, ⟨hF, v, rfl⟩ | ⟨hT, xb, rfl, hop⟩⟩
 ·have HF := Lib.hid hF
  have HB2 := Lib.hid hb2
  clear hF hb2 CO a0 a1 a2 a3 a4 a5
  go_wp2
  exact bodyPost_ret (v := .tuple #[.slice none 0 0, .int .i64 10]) (by simp [results, Tryz.results4, go_sem]) rfl ⟨HB0.out.trans (HB2.out.mono hsz0), .inl ⟨HF.out, rfl⟩⟩
 ·replace a0 := sd a0 hb2
  replace a1 := sd a1 hb2
  replace a2 := sd a2 hb2
  replace a3 := sd a3 hb2
  replace a4 := sd a4 hb2
  replace a5 := sd a5 hb2
  obtain ⟨Wn, Hn, pb, nb, kb, mn, mb, gm, cq, vm, vc, vt, va, vl, rfl, rfl, hW, hH, hml, hsp, hor⟩ := hop.r
  have hvp := HVW.out hsp
  rw [Int.toNat_natCast] at hvp
  have cT := topOf_any (Wn : Int) (Hn : Int) Am Ac Ap As nm cm nc cc np cp ns cS _ xb pb nb kb Wn Hn mn cs.length vm vc vt vl gm cq mb va (trisL Wn mask) ms (kindF cs) sts w2 (HST.out.below hb2) hor hvp
  have CT := Lib.hid cT
  have HT := Lib.hid hT
  have HB2 := Lib.hid (HB0.out.trans (hb2.mono hsz0))
  have hsz2 := HB2.out.size
  clear cT hT hb2 hor hvp hop hsp CO HVW HST
  go_wp2_with fail
  refine CT.out.mono ?_
  rintro e w3 ⟨v, rfl, hrow, hb3⟩
  have HR := Lib.hid (own_mono hrow hsz2)
  have HB3 := Lib.hid (HB2.out.trans (hb3.mono hsz2))
  clear hrow hb3 CT a0 a1 a2 a3 a4 a5
  go_wp2
  exact bodyPost_ret (v := .tuple #[v, .int .i64 0]) (by simp [results, Tryz.results4, go_sem]) rfl ⟨HB3.out, .inr ⟨HT.out, v, rfl, by rw [Int.toNat_natCast]; exact HR.out⟩⟩
set_option maxRecDepth 100000 in
set_option maxHeartbeats 6400000 in
theorem thickOf_any (W H : Int) (Am Ac Ap As : Option Addr) (nm cm nc cc np cp ns cS : Nat) (sts : List Stk) (w : World) (hst : StkR w As ns sts) :
    Calls Tryz.prog 10 #[.agg #[.int .i64 W, .int .i64 H, .slice Am nm cm, .slice Ac nc cc, .slice Ap np cp, .slice As ns cS]] w fun e w' => e = .returned (.int .i64 (thkN sts : Int)) ∧ Below w.heap.size w w' := by
  have kb0 := heap_alloc_new w (.cells #[.int .i64 W, .int .i64 H, .slice Am nm cm, .slice Ac nc cc, .slice Ap np cp, .slice As ns cS] 29)
  have hb0 := below_new w (.cells #[.int .i64 W, .int .i64 H, .slice Am nm cm, .slice Ac nc cc, .slice Ap np cp, .slice As ns cS] 29)
  have a5 := cell_of_blk kb0 5
  simp only [List.getElem?_toArray, List.getElem?_cons_zero, List.getElem?_cons_succ] at a5
  have HST := Lib.hid (hst.below hb0)
  have HB0 := Lib.hid hb0
  have hn1 : ns ≤ sts.length := Nat.le_of_eq hst.len
  have hn2 : sts.length ≤ ns := Nat.le_of_eq hst.len.symm
  have hsz := hst.sz
  clear hst hb0 kb0
  go_enter Tryz.func10, Tryz.ntmps10
  go_wp2_with fail
  generalize w.alloc (.cells #[.int .i64 W, .int .i64 H, .slice Am nm cm, .slice Ac nc cc, .slice Ap np cp, .slice As ns cS] 29) = w0 at a5 HST HB0 ⊢
  go_loopw [3, 4] (fun x v wr => ∃ i : Nat, i ≤ sts.length ∧ v = .int .i64 i ∧ x = .int .i64 (thkN (sts.take i) : Int) ∧ wr = w0) (fun _ v _ => sts.length - (intOf v).toNat)
  case atStart => exact ⟨0, by omega, rfl, rfl, rfl⟩
  case round =>
    obtain ⟨i, hi, rfl, rfl, rfl⟩ := hrel
    by_cases hin : i < sts.length
    ·obtain ⟨s, hs⟩ : ∃ s, sts[i]? = some s := ⟨_, List.getElem?_eq_getElem hin⟩
     obtain ⟨bS, oS, A2, c2, hA, hbS, _, hq2, s0, s1, s2, s3⟩ := HST.out.at3 hs
     cases hA
     have hii : (i : Int) < (ns : Int) := by omega
     have hi0 : (0 : Int) ≤ (i : Int) := by omega
     have hst := thk_step hs
     obtain ⟨k0, hk0⟩ : ∃ k, k = thkN (sts.take i) := ⟨_, rfl⟩
     rw [← hk0] at hst ⊢
     have HST2 := Lib.hid hst
     have hwi : IntKind.i64.wrap ((i : Int) + 1) = ((i + 1 : Nat) : Int) := by rw [IntWalk.i64_in _ (by omega)]; omega
     clear hst hk0 hs hq2
     by_cases hlt : k0 < s.2.length
     ·have hlt1 : (k0 : Int) < (s.2.length : Int) := by omega
      have hfin : Hid (thkN (sts.take (i + 1)) = s.2.length) := Lib.hid (by rw [HST2.out, if_pos hlt])
      clear HST2
      go_wp2
      go_roundw
      case rel => exact ⟨i + 1, by omega, by first | rfl | go_num, by rw [hfin.out], trivial⟩
      case measure => simp [intOf]; omega
     ·have hlt1 : ¬ ((k0 : Int) < (s.2.length : Int)) := by omega
      have hfin : Hid (thkN (sts.take (i + 1)) = k0) := Lib.hid (by rw [HST2.out, if_neg hlt])
      clear HST2
      go_wp2
      go_roundw
      case rel => exact ⟨i + 1, by omega, by first | rfl | go_num, by rw [hfin.out], trivial⟩
      case measure => simp [intOf]; omega
    ·obtain rfl : i = sts.length := by omega
     rw [List.take_length]
     have hnn : ¬ ((sts.length : Int) < (ns : Int)) := by omega
     go_wp2
     go_ret
     exact ⟨rfl, HB0.out⟩
end
section
open Go.RowKit Go.Maps
set_option maxRecDepth 100000 in
theorem dig_ext (c : Int) (h : 0 ≤ c ∧ c ≤ 15) : (⟨#[48, 49, 50, 51, 52, 53, 54, 55, 56, 57, 97, 98, 99, 100, 101, 102]⟩ : ByteArray).extract c.toNat (c + 1).toNat = ⟨#[hexB c]⟩ := by
 have hq : c = 0 ∨ c = 1 ∨ c = 2 ∨ c = 3 ∨ c = 4 ∨ c = 5 ∨ c = 6 ∨ c = 7 ∨ c = 8 ∨ c = 9 ∨ c = 10 ∨ c = 11 ∨ c = 12 ∨ c = 13 ∨ c = 14 ∨ c = 15 := by omega
 rcases hq with rfl | rfl | rfl | rfl | rfl | rfl | rfl | rfl | rfl | rfl | rfl | rfl | rfl | rfl | rfl | rfl <;> rfl
set_option maxRecDepth 100000 in
set_option maxHeartbeats 6400000 in
theorem shown_any (c b : Int) (hc : 0 ≤ c ∧ c ≤ 15) (hb : 0 ≤ b ∧ b ≤ 15) (h0 : c = 0 → b = 0) (w : World) :
  Calls Tryz.prog 33 #[.agg #[.int .i64 c, .int .i64 b]] w fun e w' => e = .returned (.string ⟨(cellT c b).toArray⟩) ∧ Below w.heap.size w w' := by
 have kb0 := heap_alloc_new w (.cells #[.int .i64 c, .int .i64 b] 85)
 have hb0 := below_new w (.cells #[.int .i64 c, .int .i64 b] 85)
 have a0 := cell_of_blk kb0 0
 have a1 := cell_of_blk kb0 1
 simp only [List.getElem?_toArray, List.getElem?_cons_zero, List.getElem?_cons_succ] at a0 a1
 have HB0 := Lib.hid hb0
 by_cases hz : c = 0
 ·obtain rfl := h0 hz
  subst hz
  clear h0 hb0 kb0
  go_enter Tryz.func33, Tryz.ntmps33
  go_wp2_with fail
  go_ret
  exact ⟨rfl, HB0.out⟩
 ·have hct : cellT c b = [hexB c, hexB b] := by unfold cellT; rw [if_neg hz]
  have HCT := Lib.hid hct
  have D1 := Lib.hid (dig_ext c hc)
  have D2 := Lib.hid (dig_ext b hb)
  have c1 : 0 ≤ c + 1 := by omega
  have c2 : c + 1 ≤ 16 := by omega
  have c3 : c ≤ c + 1 := by omega
  have c4 : 0 ≤ c := hc.1
  have b1 : 0 ≤ b + 1 := by omega
  have b2 : b + 1 ≤ 16 := by omega
  have b3 : b ≤ b + 1 := by omega
  have b4 : 0 ≤ b := hb.1
  have w1 : IntKind.i64.wrap (c + 1) = c + 1 := IntWalk.i64_in _ (by omega)
  have w2 : IntKind.i64.wrap (b + 1) = b + 1 := IntWalk.i64_in _ (by omega)
  clear h0 hb0 kb0 hct
  go_enter Tryz.func33, Tryz.ntmps33
  go_wp2_with fail
  generalize w.alloc (.cells #[.int .i64 c, .int .i64 b] 85) = w1' at a0 a1 HB0 ⊢
  refine rg_plain (fin := ?z1) [.pointer (some ⟨w.heap.size, 0, none⟩), .int .i64 c, .pointer (some ⟨w.heap.size, 0, none⟩), .int .i64 c, .int .i64 (c + 1), .string ⟨#[hexB c]⟩, .pointer (some ⟨w.heap.size, 1, none⟩), .int .i64 b, .pointer (some ⟨w.heap.size, 1, none⟩), .int .i64 b, .int .i64 (b + 1), .string ⟨#[hexB b]⟩, .string ⟨#[hexB c, hexB b]⟩, .string ⟨#[hexB c, hexB b]⟩] (fun WN => WN.cell? ⟨w.heap.size, 0, none⟩ = some (.int .i64 c) ∧ WN.cell? ⟨w.heap.size, 1, none⟩ = some (.int .i64 b) ∧ Below w1'.heap.size w1' WN) ?hf (by kernel_rfl) (by kernel_rfl) rfl ⟨a0, a1, (Below.refl _ _).drew⟩ (fun WN hst => ?hs) (fun WN hst => ?he)
  case hf => simp only [putOps, Act.put, List.setIfInBounds_toArray, List.set_cons_succ, List.set_cons_zero]; exact rfl
  case hs =>
   have HST := Lib.hid hst
   obtain ⟨a0, a1, hbl⟩ := hst
   iterate 14 refine ⟨?_, fun K hK => ?_⟩
   ·trivial
   all_goals try (go_simp; exact hK _ HST.out; done)
   ·go_simp
    rw [D2.out]
    exact hK _ HST.out
   ·go_simp
    rw [D1.out]
    exact hK _ HST.out
  case he =>
   obtain ⟨a0, a1, hbl⟩ := hst
   try go_wp2
   exact bodyPost_ret (v := .string ⟨#[hexB c, hexB b]⟩) (by simp [results, Tryz.results33, go_sem]) rfl ⟨by rw [HCT.out], stay_b HB0.out hbl⟩
end
end Go.Proofs.YtpkjekedgodccaaGreatDoor
