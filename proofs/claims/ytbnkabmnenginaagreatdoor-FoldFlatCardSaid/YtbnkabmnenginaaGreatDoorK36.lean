/- (*Pile).Heap: the triangles are laid up, place by place, in the order that a function tells. A sheet without creases lies as it is: all its maps are the one that changes nothing (for FoldFlat).. -/
import Derived.Test.YtbnkabmnenginaaGreatDoorK31
import Derived.Test.YtbnkabmnenginaaGreatDoorK32
import Derived.Test.YtbnkabmnenginaaGreatDoorK27
import Derived.Maps.RangeWalk
import Derived.Test.YtbnkabmnenginaaGreatDoorK23
namespace Go.Proofs.YtbnkabmnenginaaGreatDoor
set_option linter.unusedSimpArgs false
set_option linter.unusedVariables false
section
open Go.RowKit Go.Maps Go.Sort Go.Shelf
set_option maxRecDepth 100000 in
set_option maxHeartbeats 12800000 in
theorem heap_any (xb pb gl mb0 B gf : Nat) (cb : Array Value) (cf : Nat → Nat → Int) (vm va : Value) (ats : List T3) (ls0 : List Nat) (w : World) (hO : SWO (ltOf cf)) (eg : ∀ args w, (callFunc gf args).run Tryz.prog w = .ok (.enter gf args) w)
  (hcmp : ∀ (W : World) (g size : Nat), w.heap.size ≤ g → Kp2 w W gl xb → CmpLays1 Tryz.prog gf cb encI cf g 0 size W) (h0 : 0 < ats.length) (hN : ats.length ≤ 1000) (hok : ∀ a ∈ ats, inR a.1 ∧ inR a.2.1 ∧ inR a.2.2)
  (hx : PilB w xb pb vm va (.slice (some ⟨gl, 0, none⟩) ats.length ats.length) mb0) (hva : w.ownsRow B 59 3 va ats.length (tcT ats)) (hls : ls0.length = ats.length) (hlev : w.heap[gl]? = some (.cells (visN ls0).toArray 3 (0, 0))) :
  Calls Tryz.prog 12 #[.pointer (some ⟨xb, 0, none⟩), .func (.func gf) #[] cb] w fun r w' => r = .returned (.tuple #[]) ∧ ∃ (n : Nat) (f : T3 → Option Value) (G : T3 → List Nat) (ls : List Nat), n ≤ ats.length ∧ PilB w' xb pb vm va (.slice (some ⟨gl, 0, none⟩) ats.length ats.length) w.heap.size ∧ PilM w' w.heap.size w.heap.size n f G ∧ (∀ x, (f x).isSome = true ↔ x ∈ ats) ∧ (∀ x, (G x).Perm (grpA ats ats.length x)) ∧ (∀ x, (G x).Pairwise fun i j => ltOf cf j i = false) ∧ ls.length = ats.length ∧ w'.heap[gl]? = some (.cells (visN ls).toArray 3 (0, 0)) ∧ (∀ (x : T3) (p j : Nat), (G x)[p]? = some j → ls[j]? = some p) ∧ Kp2 w w' gl xb := by
 obtain ⟨ga, ca, cura, rfl, _, _, hgB, hgH⟩ := own_addr hva h0
 have hxlt := blk_lt (show w.heap[xb]? = _ from hx)
 have hglt := blk_lt hlev
 have hxg : xb ≠ gl := fun e => by have h1 : w.heap[xb]? = _ := hx; rw [e, hlev] at h1; simp at h1
 have hag : ga ≠ gl := fun e => by rw [e, hlev] at hgH; simp at hgH
 have hax : ga ≠ xb := fun e => by have h1 : w.heap[xb]? = _ := hx; rw [← e, hgH] at h1; simp at h1
 have hmm := @run_makeMap Tryz.prog
 have HX := Lib.hid hx
 have HVA := Lib.hid hva
 have HLEV := Lib.hid hlev
 have HLS := Lib.hid hls
 have HC := Lib.hid hcmp
 have HOK := Lib.hid hok
 have HEG := Lib.hid eg
 have HSWO := Lib.hid hO
 have hS0 : HpA w pb vm (.slice (some ⟨ga, 0, none⟩) ats.length ca) (.slice (some ⟨gl, 0, none⟩) ats.length ats.length) ats ls0 xb gl w.heap.size 0 ((w.setCell ⟨xb, 4, none⟩ (.map (some w.heap.size))).alloc (.map #[] 0)) := by
  have hsz : (w.setCell ⟨xb, 4, none⟩ (.map (some w.heap.size))).heap.size = w.heap.size := World.size_setCell _ _ _
  have hb := below_new (w.setCell ⟨xb, 4, none⟩ (.map (some w.heap.size))) (.map #[] 0)
  have hp : PilB (w.setCell ⟨xb, 4, none⟩ (.map (some w.heap.size))) xb pb vm (.slice (some ⟨ga, 0, none⟩) ats.length ca) (.slice (some ⟨gl, 0, none⟩) ats.length ats.length) w.heap.size := by
   have := blk_set (show w.heap[xb]? = _ from HX.out) 4 (.map (some w.heap.size))
   unfold PilB
   simpa using this
  have hlv := blk_far HLEV.out (fun e => hxg e.symm) (p := ⟨xb, 4, none⟩) (.map (some w.heap.size))
  have hk : Kp2 w (w.setCell ⟨xb, 4, none⟩ (.map (some w.heap.size))) gl xb := ⟨rfl, rfl, rfl, Nat.le_of_eq hsz.symm, fun k _ _ h2 => Below.heap_setCell w ⟨xb, 4, none⟩ _ k h2⟩
  refine ⟨hp.below hb, blk_below hlv hb (blk_lt hlv), ⟨0, fun _ => none, Nat.le_refl _, ?_⟩, hk.below hb⟩
  have := PilM.made (w.setCell ⟨xb, 4, none⟩ (.map (some w.heap.size))) w.heap.size
  rw [hsz] at this
  exact this
 have HS0 := Lib.hid hS0
 have x2 := hS0.pil.c2
 have c4 := hx.c4
 have fz := hx.fz 4
 clear hS0
 clear hx hva hlev hls hcmp hok eg hO hgH
 go_enter Tryz.func12, Tryz.ntmps12
 go_wp2_with fail
 clear x2 c4 fz hmm
 generalize (w.setCell ⟨xb, 4, none⟩ (.map (some w.heap.size))).alloc (.map #[] 0) = w0 at HS0 ⊢
 go_loopw [19] (fun v wr => ∃ i : Nat, i ≤ ats.length ∧ v = .int .i64 i ∧ Hid (HpA w pb vm (.slice (some ⟨ga, 0, none⟩) ats.length ca) (.slice (some ⟨gl, 0, none⟩) ats.length ats.length) ats ls0 xb gl w.heap.size i wr)) (fun v _ => ats.length - (intOf v).toNat)
 case atStart => exact ⟨0, by omega, rfl, HS0⟩
 case round =>
  clear HS0
  obtain ⟨i, hi, rfl, hS⟩ := hrel
  by_cases hin : i < ats.length
  ·obtain ⟨a, ha⟩ : ∃ a, ats[i]? = some a := ⟨_, List.getElem?_eq_getElem hin⟩
   have hii : (i : Int) < (ats.length : Int) := by omega
   have hi0 : (0 : Int) ≤ (i : Int) := by omega
   obtain ⟨t0, t1, t2⟩ := own_tri HVA.out ha
   have t0 := hS.out.kp.cell t0 hag hax
   have t1 := hS.out.kp.cell t1 hag hax
   have t2 := hS.out.kp.cell t2 hag hax
   have hoka := HOK.out a (List.mem_of_getElem? ha)
   have HAI := Lib.hid ha
   have HKA := Lib.hid hoka
   obtain ⟨wo, hwo⟩ : ∃ x, x = wr := ⟨_, rfl⟩
   subst hwo
   have hbS := below_new wo (.cells #[.int .i64 a.1, .int .i64 a.2.1, .int .i64 a.2.2] 59)
   have kS := heap_alloc_new wo (.cells #[.int .i64 a.1, .int .i64 a.2.1, .int .i64 a.2.2] 59)
   have HS1 := Lib.hid (hS.out.below hbS)
   have hwsz := hS.out.kp.size
   clear ha hoka hS
   go_wp2_with fail
   have z0 := cell_of_blk kS 0
   have z1 := cell_of_blk kS 1
   have z2 := cell_of_blk kS 2
   simp only [List.getElem?_toArray, List.getElem?_cons_zero, List.getElem?_cons_succ] at z0 z1 z2
   have HKS := Lib.hid kS
   clear kS t0 t1 t2 hbS
   generalize wo.alloc (.cells #[.int .i64 a.1, .int .i64 a.2.1, .int .i64 a.2.2] 59) = w7 at z0 z1 z2 HKS HS1 ⊢
   obtain ⟨n, f, hn, hPM⟩ := HS1.out.map
   have hgl := grpA_len ats i a
   obtain ⟨wd, hwd⟩ : ∃ x, x = w7.drew := ⟨_, rfl⟩
   obtain ⟨wa, hwa⟩ : ∃ x, x = wd.alloc (.cells #[.int .i64 (i : Int)] 3) := ⟨_, rfl⟩
   have h7d : Below w7.heap.size w7 wd := by rw [hwd]; exact (Below.refl _ _).drew
   have hda : Below wd.heap.size wd wa := by rw [hwa]; exact below_new wd _
   have h7a : Below w7.heap.size w7 wa := h7d.trans (hda.mono h7d.size)
   have hPa := hPM.below h7a
   have hXa := HS1.out.below h7a
   have hsza := hXa.kp.size
   obtain ⟨st, w8, o, hrun, hg1, ho, hstore⟩ := hPa.map.enter lawT (by unfold maxLen; omega) (a := a) HKA.out
   have hrun : (Instr.mapEntry 76 (.map (some w.heap.size)) (aggT3 a)).run Tryz.prog wa = .ok (.tuple #[(f a).getD (.slice none 0 0), st]) w8 := hrun
   have hval := hPa.val a
   have hnm := own_notmap hval hPa.map.is
   have hrow8 := hval.kept hg1 (.inr hnm)
   have hgw8 : w8.heap[wd.heap.size]? = some (.cells #[.int .i64 (i : Int)] 3 (0, 0)) := by
    have h1 : wa.heap[wd.heap.size]? = some (.cells #[.int .i64 (i : Int)] 3 (0, 0)) := by rw [hwa]; exact heap_alloc_new wd _
    refine (hg1.block _ (blk_lt h1) (fun e => ?_)).trans h1
    obtain ⟨es, c, hm⟩ := hPa.map.is
    rw [← Option.some.inj e, h1] at hm
    cases hm
   obtain ⟨FV, hFV⟩ : ∃ F, F = (f a).getD (.slice none 0 0) := ⟨_, rfl⟩
   rw [← hFV] at hrun hrow8 hnm
   obtain ⟨G, hG⟩ : ∃ G, G = grpA ats i a := ⟨_, rfl⟩
   rw [← hG] at hrow8 hgl
   have hsz8 := hg1.size
   have hq8 : G.length + 1 ≤ 2147483648 := by omega
   have hw8 : w.heap.size ≤ w8.heap.size := by omega
   have x4 := HS1.out.pil.c4
   have HPA := Lib.hid hPa
   have HXA := Lib.hid hXa
   have HRUN := Lib.hid hrun
   have HG1 := Lib.hid hg1
   have HO8 := Lib.hid ho
   have HSTO := Lib.hid hstore
   have HFV := Lib.hid hFV
   have HGE := Lib.hid hG
   have HROW := Lib.hid hrow8
   have HGW := Lib.hid hgw8
   have HWA := Lib.hid hwa
   have HWD := Lib.hid hwd
   have HNN := Lib.hid hnm
   have HN4 := Lib.hid hn
   clear hn hPM hwd hwa h7d hda h7a hPa hXa hrun hg1 ho hstore hval hnm hrow8 hgw8 hFV hG hsz8
   refine rg_chn (fin := ?z1) [6, 7, 9, 11] [[true, true, true, true, true, true, false, false, false, false, false, false], [true, true, true, true, true, false, false, false, false, false, false, false], [false, false, false, false, false, true, false, false, true, false, true, false], [false, false, false, false, false, false, false, false, false, false, true, false], [false, false, false, false, false, false, false, false, false, false, false, false]] [[5], [3, 4, 2, 1, 0], [8, 6, 7, 5, 3, 4, 2, 1, 0], [3, 10, 9, 2, 7, 8, 6, 1, 4, 5, 0]] (fun x => [.pointer (some ⟨xb, 0, none⟩), .pointer (some ⟨xb, 0, none⟩), .pointer (some ⟨xb, 4, none⟩), .map (some w.heap.size), aggT3 a, .int .i64 (i : Int), (x 0), (x 1), FV, (x 2), st, (x 3)]) (fun jS x WN => match jS with | 0 => Hid (WN = wd) ∧ WN.cell? ⟨xb, 4, none⟩ = some (.map (some w.heap.size)) ∧ WN.cell? ⟨wo.heap.size, 0, none⟩ = some (.int .i64 a.1) ∧ WN.cell? ⟨wo.heap.size, 1, none⟩ = some (.int .i64 a.2.1) ∧ WN.cell? ⟨wo.heap.size, 2, none⟩ = some (.int .i64 a.2.2) | 1 => Hid (WN = wa) ∧ Hid (x 0 = .slice (some ⟨wd.heap.size, 0, none⟩) 1 1) ∧ WN.cell? ⟨xb, 4, none⟩ = some (.map (some w.heap.size)) ∧ WN.cell? ⟨wo.heap.size, 0, none⟩ = some (.int .i64 a.1) ∧ WN.cell? ⟨wo.heap.size, 1, none⟩ = some (.int .i64 a.2.1) ∧ WN.cell? ⟨wo.heap.size, 2, none⟩ = some (.int .i64 a.2.2) | 2 => Hid (WN = w8) ∧ Hid (x 0 = .slice (some ⟨wd.heap.size, 0, none⟩) 1 1) ∧ Hid (x 1 = .tuple #[FV, st]) | 3 => Hid (x 1 = .tuple #[FV, st]) ∧ Hid (WN.ownsRow w.heap.size 3 1 (x 2) (G.length + 1) (visN G ++ [.int .i64 (i : Int)])) ∧ Hid (GrowOf w8 WN FV (x 2)) | _ => Hid (HpA w pb vm (.slice (some ⟨ga, 0, none⟩) ats.length ca) (.slice (some ⟨gl, 0, none⟩) ats.length ats.length) ats ls0 xb gl w.heap.size (i + 1) WN)) ?hf (by kernel_rfl) (by kernel_rfl) (fun _ => rfl) (by kernel_rfl) ?hv ⟨HWD.out ▸ Lib.hid rfl, x4, z0, z1, z2⟩ ?hA ?hT (fun x WN hst => ?he)
   case hf => intro x; simp only [putOps, Act.put, List.setIfInBounds_toArray, List.set_cons_succ, List.set_cons_zero]; exact rfl
   case hv =>
    intro x jS t v h
    cases jS with
    | zero => cases h; rfl
    | succ jS =>
     cases jS with
     | zero => cases h; rfl
     | succ jS =>
      cases jS with
      | zero => cases h; rfl
      | succ jS =>
       cases jS with
       | zero => cases h; rfl
       | succ jS =>
        simp at h
   case hA =>
    intro jS x WN hj hst
    have hj : jS ≤ 4 := hj
    rcases (show jS = 0 ∨ jS = 1 ∨ jS = 2 ∨ jS = 3 ∨ jS = 4 by omega) with rfl | rfl | rfl | rfl | rfl
    ·have HST := Lib.hid hst
     obtain ⟨hW, x4, z0, z1, z2⟩ := hst
     iterate 6 refine ⟨?_, fun K hK => ?_⟩
     ·trivial
     all_goals try (go_simp; exact hK _ HST.out; done)
    ·have HST := Lib.hid hst
     obtain ⟨hW, hx0, x4, z0, z1, z2⟩ := hst
     iterate 5 refine ⟨?_, fun K hK => ?_⟩
     ·trivial
     all_goals try (go_simp; exact hK _ HST.out; done)
    ·have HST := Lib.hid hst
     obtain ⟨hW, hx0, hx1⟩ := hst
     iterate 3 refine ⟨?_, fun K hK => ?_⟩
     ·trivial
     all_goals try (go_simp; exact hK _ HST.out; done)
     ·have hx1 := hx1.out
      have hK2 := hK _ HST.out
      rw [hx1] at hK2 ⊢
      go_simp
      exact hK2
     ·have hx1 := hx1.out
      have hK2 := hK _ HST.out
      rw [hx1] at hK2 ⊢
      go_simp
      exact hK2
    ·have HST := Lib.hid hst
     obtain ⟨hx1, hrow, hgrow⟩ := hst
     iterate 1 refine ⟨?_, fun K hK => ?_⟩
     ·trivial
     ·have hx1 := hx1.out
      have hK2 := hK _ HST.out
      rw [hx1] at hK2 ⊢
      go_simp
      exact hK2
    ·trivial
   case hT =>
    intro jS t x WN ht hst o ho K hK
    cases jS with
    | zero =>
     cases ht; cases ho
     obtain ⟨hW, x4, z0, z1, z2⟩ := hst
     go_simp
     exact hK (.slice (some ⟨WN.heap.size, 0, none⟩) 1 1) _ ⟨Lib.hid (by rw [hW.out]; exact HWA.out.symm), Lib.hid (congrArg (fun W : World => Value.slice (some ⟨W.heap.size, 0, none⟩) 1 1) hW.out), al_c x4 (.cells #[.int .i64 (i : Int)] 3), al_c z0 (.cells #[.int .i64 (i : Int)] 3), al_c z1 (.cells #[.int .i64 (i : Int)] 3), al_c z2 (.cells #[.int .i64 (i : Int)] 3)⟩
    | succ jS =>
     cases jS with
     | zero =>
      cases ht; cases ho
      obtain ⟨hW, hx0, x4, z0, z1, z2⟩ := hst
      have hrun := HRUN.out
      rw [← hW.out] at hrun
      go_simp
      exact hK (.tuple #[FV, st]) _ ⟨Lib.hid rfl, hx0, Lib.hid rfl⟩
     | succ jS =>
      cases jS with
      | zero =>
       cases ht; cases ho
       obtain ⟨hW, hx0, hx1⟩ := hst
       have hrow := HROW.out
       have hgw := HGW.out
       have hsz := hw8
       rw [← hW.out] at hrow hgw hsz
       refine step_app Tryz.underlying22 int_info rfl (by decide) (by decide) rfl _ _ rfl w.heap.size FV G.length (visN G) [.int .i64 (i : Int)] rfl hrow hsz 1 wd.heap.size hx0.out hgw rfl (fun u hu => by rw [List.mem_singleton] at hu; subst hu; rfl) hq8 (fun vv ww h1 h2 h3 => hK vv ww ⟨hx1, Lib.hid h1, Lib.hid (by rw [← hW.out]; exact h3)⟩)
      | succ jS =>
       cases jS with
       | zero =>
        cases ht; cases ho
        obtain ⟨hx1, hrow, hgrow⟩ := hst
        have hg2 := hgrow.out
        have ho3 := (hg2.grown.block w.heap.size (blk_lt HO8.out) (fun e => HNN.out e.symm)).trans HO8.out
        obtain ⟨w9, e1, e2, e3⟩ := HSTO.out (x 2) WN ho3
        have e1 : (Instr.entryStore 76 (.map (some w.heap.size)) st (x 2)).run Tryz.prog WN = .ok () w9 := e1
        go_simp
        have hg2f := hg2
        rw [HFV.out] at hg2f
        have hrw : WN.ownsRow w.heap.size 3 1 (x 2) ((grpA ats i a).length + 1) (visN (grpA ats i a ++ [i])) := by rw [← HGE.out, show visN (G ++ [i]) = visN G ++ [.int .i64 (i : Int)] by simp [visN]]; exact hrow.out
        exact hK undef w9 (Lib.hid (HXA.out.pushed HN4.out HPA.out HG1.out hg2f hrw e2 e3 HAI.out hxlt hglt (Nat.le_refl _)))
       | succ jS =>
        simp at ht
   case he =>
    have hX := hst
    clear x4 z0 z1 z2
    have hwi : IntKind.i64.wrap ((i : Int) + 1) = ((i + 1 : Nat) : Int) := by rw [IntWalk.i64_in _ (by omega)]; omega
    go_wp2
    go_roundw
    case rel => exact ⟨i + 1, by omega, by first | rfl | go_num, hX⟩
    case measure => simp [intOf]; omega
  ·obtain rfl : i = ats.length := by omega
   obtain ⟨nM, f, hnM, hPM⟩ := hS.out.map
   obtain ⟨D0, hown, hD, ks, hks⟩ := hPM.map
   have x4 := hS.out.pil.c4
   have hwsz := hS.out.kp.size
   have HD := Lib.hid hD
   have HPM := Lib.hid hPM
   have HNM := Lib.hid hnM
   have HKS0 := Lib.hid hks
   clear hD hPM hnM hks
   obtain ⟨wR, hwR⟩ : ∃ x, x = wr := ⟨_, rfl⟩
   subst hwR
   go_wp2_with (first
    | (at_range; refine wpList_range_own _ rfl _ 76 rfl 59 22 kPV.law Tryz.underlying76 _ w.heap.size nM _ rfl hown ?_; intro w0 hrg0 hg0 hs0)
    | fail)
   go_frame
   have hmap0 : Below wR.heap.size wR w0 := ⟨hg0.os, hg0.tape, hg0.output, hg0.size, fun j hj => hg0.block j hj (fun e => by cases e)⟩
   have hB0 : HpB w pb vm (.slice (some ⟨ga, 0, none⟩) ats.length ca) (.slice (some ⟨gl, 0, none⟩) ats.length ats.length) ats cf xb gl w.heap.size f [] (0, 0, 0) 0 (grpA ats ats.length) w0 := by
    refine ⟨?_, ⟨ls0, HLS.out, ?_, fun x hx => (by simp at hx), fun p j hp => by omega⟩, fun x => List.Perm.refl _, fun x hx => (by simp at hx), fun t v hv => ⟨?_, (HPM.out.row t v hv).2⟩, hS.out.kp.grown hg0 (fun b e => by cases e)⟩
    ·exact (hg0.block _ (blk_lt hS.out.pil) (fun e => by cases e)).trans hS.out.pil
    ·exact (hg0.block _ (blk_lt hS.out.lev) (fun e => by cases e)).trans hS.out.lev
    ·exact own_below (HPM.out.row t v hv).1 hmap0 (Nat.le_refl _)
   have HB0 := Lib.hid hB0
   have HCS := Lib.hid (CamK.start HD.out.keys)
   clear hB0 hown x4
   go_loopw [41] (fun _ wr => ∃ (left : Lit → Bool) (cnt : Nat) (ss : List T3) (G : T3 → List Nat) (z : T3), wr.ranges Tryz.prog 59 rdV w.heap.size wR.heap.size nM D0 left cnt ∧ Hid (CamK kdT D0 (fun a => (f a).isSome = true) left ss) ∧ Hid (HpB w pb vm (.slice (some ⟨ga, 0, none⟩) ats.length ca) (.slice (some ⟨gl, 0, none⟩) ats.length ats.length) ats cf xb gl w.heap.size f ss z 0 G wr))
    (fun _ wr => wr.rangeLeft w.heap.size wR.heap.size)
   case atStart => exact ⟨_, _, [], grpA ats ats.length, (0, 0, 0), hrg0, HCS, HB0⟩
   case round =>
    clear HB0 HCS hg0 hmap0 hrg0
    obtain ⟨left, cnt, ss, G, z, hrg, hC, hB⟩ := hrel
    have x4 := hB.out.pil.c4
    go_wp2_with (first
     | (at_next; refine wpList_next_ranges _ rfl _ rfl 59 kPV.law rdV id id (fun key kl hk => ⟨key, rfl⟩) (fun v _ _ => ⟨v, rfl⟩) w.heap.size wR.heap.size nM _ _ _ rfl hrg ?_ ?_)
     | fail)
    ·-- nothing is left
     intro hc0 hl0
     go_wp2
     go_end0
     have hB := hB.out
     have hC := hC.out
     have hP := HPM.out
     have hks := HKS0.out
     have hall : ∀ x, (f x).isSome = true → x ∈ ss := fun x hx => hC.done hl0 (hks.2.2.1 x ((hks.2.1 x).1 hx)) hx
     have hnil : ∀ x, f x = none → G x = [] := fun x hx => by
      have h1 := hB.perm x
      rw [hP.no x hx] at h1
      exact h1.eq_nil
     have hin : ∀ x, G x ≠ [] → x ∈ ss := fun x hx => hall x (by cases hf : f x with | none => exact absurd (hnil x hf) hx | some v => rfl)
     obtain ⟨ls, l1, l2, l3⟩ := hB.lev
     refine ⟨by first | rfl | simp, nM, f, G, ls, HNM.out, hB.pil, ⟨⟨D0, hrg.owns, HD.out, ks, hks⟩, hnil, hB.row, hP.far⟩, fun x => ⟨fun hx => ?_, fun hx => ?_⟩, hB.perm, fun x => ?_, l1, l2, fun x p j hj => l3.1 x (hin x (fun e => by rw [e] at hj; simp at hj)) p j hj, hB.kp⟩
     ·obtain ⟨v, hv⟩ := Option.isSome_iff_exists.1 hx
      obtain ⟨j, hj⟩ := List.exists_mem_of_ne_nil _ (hP.row x v hv).2
      exact List.mem_of_getElem? (grpA_mem.1 hj).2
     ·cases hf : f x with
      | some v => rfl
      | none =>
       obtain ⟨j, hj⟩ := List.getElem?_of_mem hx
       have h1 : j ∈ grpA ats ats.length x := grpA_mem.2 ⟨(List.getElem?_eq_some_iff.1 hj).1, hj⟩
       rw [hP.no x hf] at h1
       simp at h1
     ·by_cases e : G x = []
      ·rw [e]; exact List.Pairwise.nil
      ·exact hB.srt x (hin x e)
    ·-- an entry has come
     intro x c kl yd yp w1 cnt2 hkey hlk hv _ hat hrg2 hlt hg2 hs2 hen
     obtain ⟨a, hxa, hok, hS, hna, hak⟩ := hC.out.who HD.out.keys hkey hlk hat
     have hC2 := hC.out.step hok hS hna hak
     obtain ⟨v0, hfv⟩ := Option.isSome_iff_exists.1 hS
     have hcv : c = v0 := by
      have h1 := hat (.map [])
      rw [HD.out.at_ a kl v0 hok hak hfv] at h1
      rw [← hv] at h1
      exact (DataW.held.inj h1).symm
     subst hcv
     have hB1 := (hB.out.walk hg2 (ranges_iter hrg) hwsz).at0 a
     have hgl := grpA_len ats ats.length a
     have hga := (hB1.perm a).length_eq
     obtain ⟨hrow, hne⟩ := hB1.row a c hfv
     obtain ⟨q, hq⟩ : ∃ q, q = (G a).length := ⟨_, rfl⟩
     rw [← hq] at hrow hga
     have hpos : 0 < q := by rw [hq]; exact List.length_pos_iff.2 hne
     have hq8 : q ≤ 1000 := by omega
     obtain ⟨g, cc, curg, hce, hcc, hcm, hge, hgH⟩ := own_addr hrow hpos
     subst hce
     have hgm : g ≠ w.heap.size := fun e => own_notmap hrow (ranges_map hrg2) (by rw [e]; rfl)
     have hgr : g ≠ wR.heap.size := fun e => ranges_iter hrg2 _ _ _ (by rw [← e]; exact hgH)
     have cS := sortI_any gf cb cf HSWO.out HEG.out g cc q w.heap.size (G a) w1 hq hrow (by omega) (HC.out w1 g _ hge hB1.kp)
     have hxe : x = aggT3 a := hxa
     have hfar : ∀ t v, t ≠ a → f t = some v → v.ownBlock ≠ some g := fun t v ht hv => HPM.out.far t a v _ ht hv hfv
     have HB1 := Lib.hid hB1
     have HC2 := Lib.hid hC2
     have HFV := Lib.hid hfv
     have HFAR := Lib.hid hfar
     have HNA := Lib.hid hna
     have HQ := Lib.hid hq
     have CS := Lib.hid cS
     have HRG2 := Lib.hid hrg2
     have HRG := Lib.hid hrg
     have HPRE := Lib.hid (And.intro hgm (And.intro hgr (And.intro hge hlt)))
     subst hxe
     clear hB1 hC2 hfv hfar hna hB hC hrow hxa hok hS hak hkey hlk hat hv hg2 hs2 hgH x4 hne hgl hga hcc hcm hq cS hrg2 hgm hgr hge hlt hrg
     go_wp2_with (go_at_call 29; refine CS.out.mono ?_; rintro e w2 ⟨rfl, ⟨l', hp', hsrt, hrow2⟩, hg3⟩)
     have hrg3 := HRG2.out.kept hg3 (fun e => HPRE.out.1 (Option.some.inj e).symm) (fun e => HPRE.out.2.1 (Option.some.inj e).symm)
     have hB2 := HB1.out.sorted HNA.out (by rw [← HQ.out]; exact HFV.out) HFAR.out hp' (by rw [← HQ.out]; exact hrow2) hg3 HPRE.out.2.2.1 hxlt hglt
     obtain ⟨G2, hG2⟩ : ∃ F, F = fun x => if x = a then l' else G x := ⟨_, rfl⟩
     have h2a : G2 a = l' := by rw [hG2]; simp
     have h2q : (G2 a).length = q := by rw [h2a, hp'.length_eq, HQ.out]
     have h2s : (G2 a).Pairwise fun i j => ltOf cf j i = false := by rw [h2a]; exact hsrt
     rw [← hG2] at hB2
     have HR3 := Lib.hid hrg3
     have HB2 := Lib.hid hB2
     have H2Q := Lib.hid h2q
     have H2S := Lib.hid h2s
     clear hrg3 hB2 hG2 h2a h2q h2s hp' hsrt hrow2 hg3
     obtain ⟨wi, hwi⟩ : ∃ x, x = wr := ⟨_, rfl⟩
     subst hwi
     go_loopw [50] (fun v wr => ∃ h : Nat, h ≤ q ∧ v = .int .i64 h ∧ Hid (wr.ranges Tryz.prog 59 rdV w.heap.size wR.heap.size nM D0 (fun z => left z && !z.sameKey kl) cnt2) ∧ Hid (HpB w pb vm (.slice (some ⟨ga, 0, none⟩) ats.length ca) (.slice (some ⟨gl, 0, none⟩) ats.length ats.length) ats cf xb gl w.heap.size f ss a h G2 wr)) (fun v _ => q - (intOf v).toNat)
     case atStart => exact ⟨0, by omega, rfl, HR3, HB2⟩
     case round =>
      clear HR3 HB2
      obtain ⟨h, hh, rfl, hR, hB⟩ := hrel
      by_cases hhq : h < q
      ·obtain ⟨j, hj⟩ : ∃ j, (G2 a)[h]? = some j := ⟨_, List.getElem?_eq_getElem (by rw [H2Q.out]; exact hhq)⟩
       have hrowj := (hB.out.row a _ HFV.out).1
       rw [H2Q.out] at hrowj
       have c0 := own_num hrowj hj
       have hjn := (grpA_mem.1 ((hB.out.perm a).mem_iff.1 (List.mem_of_getElem? hj))).1
       obtain ⟨ls, l1, l2, l3⟩ := hB.out.lev
       have x3 := hB.out.pil.c3
       have hcl := cell_of_blk l2 j
       rw [List.getElem?_toArray, visN_at (by rw [l1]; exact hjn)] at hcl
       have fz := frozen_of_blk l2 j
       have hltg := blk_lt l2
       have hhi : (h : Int) < (q : Int) := by omega
       have hh0 : (0 : Int) ≤ (h : Int) := by omega
       have hji : (j : Int) < (ats.length : Int) := by omega
       have hj0 : (0 : Int) ≤ (j : Int) := by omega
       have HJ := Lib.hid hj
       clear hj hrowj l1 l2 l3
       go_wp2_with fail
       have hB' := hB.out.level HNA.out HJ.out hglt
       have hR' := hR.out.kept (grown_set _ gl j (.int .i64 (h : Int))) (fun e => by have := Option.some.inj e; omega) (fun e => by have := Option.some.inj e; omega)
       have HB' := Lib.hid hB'
       have HR' := Lib.hid hR'
       have hwh : IntKind.i64.wrap ((h : Int) + 1) = ((h + 1 : Nat) : Int) := by rw [IntWalk.i64_in _ (by omega)]; omega
       clear hB' hR' hB hR c0 x3 hcl fz hltg
       go_roundw
       case rel => exact ⟨h + 1, by omega, by first | rfl | go_num, HR', HB'⟩
       case measure => simp [intOf]; omega
      ·obtain rfl : h = q := by omega
       have hBn := HpB.next (by rw [H2Q.out]; exact hB.out) H2S.out a
       have HBN := Lib.hid hBn
       clear hBn hB
       go_wp2_with fail
       go_roundw
       case rel => exact ⟨_, cnt2, ss ++ [a], G2, a, hR.out, HC2, HBN⟩
       case measure => rw [hR.out.left_eq, HRG.out.left_eq]; exact HPRE.out.2.2.2
end
section
open Go.RowKit Go.Maps
theorem facF_nil (e : E4) : facF (kindF []) e = true := by simp [facF, kindF]
theorem stpV_all {C : E4 → Bool} (h : ∀ e, C e = true) (e : E4) (m : V6) : stpV C e m = m := by
 unfold stpV
 rw [if_pos (h e)]
theorem stpL_all {L : List T3} {C : E4 → Bool} (h : ∀ e, C e = true) (i k : Nat) (m : V6) : stpL L C i k m = m := by
 unfold stpL
 split
 ·exact stpV_all h _ m
 ·rfl
theorem still_cns {L : List T3} {C : E4 → Bool} (h : ∀ e, C e = true) : Cns L.length (nbL L) (stpL L C) stillV (fun _ => stillV) :=
 ⟨rfl, fun i k j _ _ _ => (stpL_all h i k stillV).symm⟩
theorem still_all {L : List T3} {C : E4 → Bool} (hnd : L.Nodup) (hl : ∀ t ∈ L, K4 t) (hj : joinB L = true) (h : ∀ e, C e = true) {l : List V6} (hll : l.length = L.length)
  (hc : Cns L.length (nbL L) (stpL L C) stillV (fun i => l.getD i zeroV)) : l = List.replicate L.length stillV := by
 have hu := Cns.uniq (conn_of hnd hl hj) hc (still_cns h)
 apply List.ext_getElem (by simp [hll])
 intro i h1 h2
 have h3 := hu i (by omega)
 simp only [List.getD, List.getElem?_eq_getElem h1, Option.getD_some] at h3
 rw [h3, List.getElem_replicate]
end
end Go.Proofs.YtbnkabmnenginaaGreatDoor
