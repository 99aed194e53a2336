/- pile.placed. 'm[k]++' on a map of numbers: the entry, then the store.. Words for lies: what holds while stacks are being laid. -/
import Derived.Test.YtpkjekedgodccaaGreatDoorK23
import Derived.Test.YtpkjekedgodccaaGreatDoorK15
namespace Go.Proofs.YtpkjekedgodccaaGreatDoor
set_option linter.unusedSimpArgs false
set_option linter.unusedVariables false
section
open Go.RowKit Go.Maps
structure PlcS (w : World) (pb : Nat) (vm : Value) (L : List T3) (ms : List V6) (gl mb xb i : Nat) (va : Value) (wr : World) : Prop where
 pil : PilB wr xb pb vm va (.slice (some ⟨gl, 0, none⟩) L.length L.length) mb
 own : wr.ownsRow w.heap.size 44 3 va i (tcT ((atsL L ms).take i))
 lev : wr.heap[gl]? = some (.cells (Array.replicate L.length (.int .i64 0)) 3 (0, 0))
 map : MapV kPV wr mb 0 (fun _ => none)
 bel : Below w.heap.size w wr
 ge : w.heap.size ≤ gl ∧ w.heap.size ≤ mb ∧ w.heap.size ≤ xb
section
variable {w wr w' : World} {pb : Nat} {vm va : Value} {L : List T3} {ms : List V6} {gl mb xb i : Nat}
theorem PlcS.below (h : PlcS w pb vm L ms gl mb xb i va wr) (hb : Below wr.heap.size wr w') : PlcS w pb vm L ms gl mb xb i va w' :=
 ⟨h.pil.below hb, od h.own hb, blk_below h.lev hb (blk_lt h.lev), h.map.stay hb, stay_b h.bel hb, h.ge⟩
theorem PlcS.ne (h : PlcS w pb vm L ms gl mb xb i va wr) : va.ownBlock ≠ some xb ∧ va.ownBlock ≠ some gl ∧ va.ownBlock ≠ some mb :=
 ⟨own_not h.own h.pil (by decide), own_not h.own h.lev (by decide), own_notmap h.own h.map.is⟩
end
set_option maxRecDepth 100000 in
set_option maxHeartbeats 12800000 in
theorem placed_any (pb nb kb W H B : Nat) (vm vc vt : Value) (L : List T3) (mn mk : Nat) (fk : E4 → Option Int) (Ax : Option Addr) (cx : Nat) (ms : List V6) (w : World) (hs : Steps w) (hp : PapI w pb nb kb W H vm vc vt L mn mk fk) (ho : w.ownsRow B 44 3 vt L.length (tcT L))
  (hI : ∀ t ∈ L, In8 t) (hLl : L.length ≤ 1000) (hml : ms.length = L.length) (hm : Rd w 6 Ax L.length (mcs ms)) (hsm : ∀ m ∈ ms, Sm m.1 m.2.1 m.2.2.1 m.2.2.2.1 m.2.2.2.2.1 m.2.2.2.2.2) :
  Calls Tryz.prog 28 #[.pointer (some ⟨pb, 0, none⟩), .slice Ax L.length cx] w fun r w' => ∃ xb gl mb va, r = .returned (.pointer (some ⟨xb, 0, none⟩)) ∧ PlcS w pb (.slice Ax L.length cx) L ms gl mb xb L.length va w' := by
 have hmk := make_ints L.length hLl
 have hmm := @run_makeMap Tryz.prog
 have HP := Lib.hid hp
 have HO := Lib.hid ho
 have HS := Lib.hid hs
 have HI := Lib.hid hI
 have HM := Lib.hid hm
 have HSM := Lib.hid hsm
 have HML := Lib.hid hml
 clear hp ho hs hI hm hsm hml
 go_enter Tryz.func28, Tryz.ntmps28
 go_wp2_with fail
 have kx : (((w.alloc (.cells (Array.replicate L.length (.int .i64 0)) 3)).alloc (.map #[] 0)).alloc (.cells #[.pointer (some ⟨pb, 0, none⟩), .slice Ax L.length cx, .slice none 0 0, .slice (some ⟨w.heap.size, 0, none⟩) L.length L.length, .map (some (w.heap.size + 1))] 80)).heap.size = w.heap.size + 3 := by simp
 have hP0 : PlcS w pb (.slice Ax L.length cx) L ms w.heap.size (w.heap.size + 1) (w.heap.size + 1 + 1) 0 (.slice none 0 0) (((w.alloc (.cells (Array.replicate L.length (.int .i64 0)) 3)).alloc (.map #[] 0)).alloc (.cells #[.pointer (some ⟨pb, 0, none⟩), .slice Ax L.length cx, .slice none 0 0, .slice (some ⟨w.heap.size, 0, none⟩) L.length L.length, .map (some (w.heap.size + 1))] 80)) := by
  refine ⟨?_, World.ownsRow_nil _ _ _ _, blk_alloc (blk_alloc (heap_alloc_new w _) _) _, ?_, ((below_new w _).alloc (by simp) _).alloc (by simp; omega) _, Nat.le_refl _, by omega, by omega⟩
  ·have := heap_alloc_new ((w.alloc (.cells (Array.replicate L.length (.int .i64 0)) 3)).alloc (.map #[] 0)) (.cells #[.pointer (some ⟨pb, 0, none⟩), .slice Ax L.length cx, .slice none 0 0, .slice (some ⟨w.heap.size, 0, none⟩) L.length L.length, .map (some (w.heap.size + 1))] 80)
   unfold PilB
   simpa using this
  ·have := MapV.made kPV (w.alloc (.cells (Array.replicate L.length (.int .i64 0)) 3))
   simp only [World.size_alloc] at this
   exact this.alloc _
 have HP0 := Lib.hid hP0
 clear hP0 kx hmk hmm
 generalize (((w.alloc (.cells (Array.replicate L.length (.int .i64 0)) 3)).alloc (.map #[] 0)).alloc (.cells #[.pointer (some ⟨pb, 0, none⟩), .slice Ax L.length cx, .slice none 0 0, .slice (some ⟨w.heap.size, 0, none⟩) L.length L.length, .map (some (w.heap.size + 1))] 80)) = w5 at HP0 ⊢
 go_loopw [18] (fun v wr => ∃ (i : Nat) (va : Value), i ≤ L.length ∧ v = .int .i64 i ∧ Hid (PlcS w pb (.slice Ax L.length cx) L ms w.heap.size (w.heap.size + 1) (w.heap.size + 1 + 1) i va wr)) (fun v _ => L.length - (intOf v).toNat)
 case atStart => exact ⟨0, _, by omega, rfl, HP0⟩
 case round =>
  clear HP0
  obtain ⟨i, va, hi, rfl, hS⟩ := hrel
  by_cases hin : i < L.length
  ·obtain ⟨bX, oX, m, hA, hmi, hbX, y0, y1, y2, y3, y4, y5⟩ := Rd.mp (by rw [HML.out]; exact HM.out) (show i < ms.length by rw [HML.out]; exact hin)
   subst hA
   obtain ⟨t, ht⟩ : ∃ t, L[i]? = some t := ⟨_, List.getElem?_eq_getElem hin⟩
   have hbw := hS.out.bel
   have y0 := sd y0 hbw
   have y1 := sd y1 hbw
   have y2 := sd y2 hbw
   have y3 := sd y3 hbw
   have y4 := sd y4 hbw
   have y5 := sd y5 hbw
   have hsm := HSM.out m (List.mem_of_getElem? hmi)
   have hit := HI.out t (List.mem_of_getElem? ht)
   have hii : (i : Int) < (L.length : Int) := by omega
   have hi0 : (0 : Int) ≤ (i : Int) := by omega
   have hat : atI L ms i = moveV m t := by unfold atI; rw [List.getD_eq_getElem?_getD, List.getD_eq_getElem?_getD, hmi, ht]; rfl
   have htk : (atsL L ms).take (i + 1) = (atsL L ms).take i ++ [moveV m t] := by rw [List.take_add_one, atsL_at hin, hat]; rfl
   have cM := fun (W : World) (h : Below wr.heap.size wr W) => move_any m.1 m.2.1 m.2.2.1 m.2.2.2.1 m.2.2.2.2.1 m.2.2.2.2.2 t.1 t.2.1 t.2.2 W (HS.out.below (hbw.trans (h.mono hbw.size))) hsm (by have := hit.1; omega) (by have := hit.1; omega) (by have := hit.2.1; omega) (by have := hit.2.1; omega) hit.2.2.1 hit.2.2.2
   obtain ⟨U, hU⟩ : ∃ U, U = moveV m t := ⟨_, rfl⟩
   rw [show moveT m.1 m.2.1 m.2.2.1 m.2.2.2.1 m.2.2.2.2.1 m.2.2.2.2.2 t.1 t.2.1 t.2.2 = U from hU.symm] at cM
   rw [← hU] at htk
   have CM := Lib.hid cM
   have HTK := Lib.hid htk
   have HT := Lib.hid ht
   clear cM hsm hit hat htk hU hmi ht
   obtain ⟨wi, hwi⟩ : ∃ x, x = wr := ⟨_, rfl⟩
   subst hwi
   go_wp2_with fail
   have kM := heap_alloc_new wi (.cells #[.int .i64 m.1, .int .i64 m.2.1, .int .i64 m.2.2.1, .int .i64 m.2.2.2.1, .int .i64 m.2.2.2.2.1, .int .i64 m.2.2.2.2.2] 63)
   have hbM := below_new wi (.cells #[.int .i64 m.1, .int .i64 m.2.1, .int .i64 m.2.2.1, .int .i64 m.2.2.2.1, .int .i64 m.2.2.2.2.1, .int .i64 m.2.2.2.2.2] 63)
   have hS6 := hS.out.below hbM
   have z0 := cell_of_blk kM 0
   have z1 := cell_of_blk kM 1
   have z2 := cell_of_blk kM 2
   have z3 := cell_of_blk kM 3
   have z4 := cell_of_blk kM 4
   have z5 := cell_of_blk kM 5
   simp only [List.getElem?_toArray, List.getElem?_cons_zero, List.getElem?_cons_succ] at z0 z1 z2 z3 z4 z5
   have HS6 := Lib.hid hS6
   have HBM := Lib.hid hbM
   clear y0 y1 y2 y3 y4 y5 hS hS6 kM
   generalize wi.alloc (.cells #[.int .i64 m.1, .int .i64 m.2.1, .int .i64 m.2.2.1, .int .i64 m.2.2.2.1, .int .i64 m.2.2.2.2.1, .int .i64 m.2.2.2.2.2] 63) = w6 at z0 z1 z2 z3 z4 z5 HS6 HBM hbM ⊢
   have p2 := HS6.out.pil.c2
   have hbw6 := HS6.out.bel
   have c4 := sd HP.out.c4 hbw6
   have hL0 : 0 < L.length := by omega
   have HO6 := Lib.hid (od HO.out hbw6)
   obtain ⟨gt, ct, curt, hvt, _, _, _, _⟩ := own_addr HO6.out hL0
   subst hvt
   obtain ⟨t0, t1, t2⟩ := own_tri HO6.out HT.out
   refine rg_chn (fin := ?z1) [14, 15, 18] [[true, true, true, true, true, true, true, true, true, true, true, true, true, true, false, false, true, true, false], [true, true, true, true, true, false, false, false, false, false, false, false, false, false, false, false, true, true, false], [true, false, false, false, false, false, false, false, false, false, false, false, false, false, false, false, true, true, false], [false, false, false, false, false, false, false, false, false, false, false, false, false, false, false, false, false, false, false]] [[13, 5, 12, 11, 9, 10, 8, 7, 6], [4, 14, 3, 13, 2, 5, 12, 1, 11, 9, 10, 8, 7, 6], [17, 15, 16, 4, 14, 0, 3, 13, 2, 5, 12, 1, 11, 9, 10, 8, 7, 6]] (fun x => [.pointer (some ⟨w.heap.size + 1 + 1, 0, none⟩), .pointer (some ⟨w.heap.size + 1 + 1, 0, none⟩), .pointer (some ⟨w.heap.size + 1 + 1, 0, none⟩), .pointer (some ⟨w.heap.size + 1 + 1, 2, none⟩), va, aggM m, .pointer (some ⟨pb, 0, none⟩), .pointer (some ⟨pb, 0, none⟩), .pointer (some ⟨pb, 4, none⟩), .slice (some ⟨gt, 0, none⟩) L.length ct, .int .i64 i, .pointer (some ⟨gt, i * 3, none⟩), aggT3 t, aggT3 U, (x 0), (x 1), .pointer (some ⟨w.heap.size + 1 + 1, 0, none⟩), .pointer (some ⟨w.heap.size + 1 + 1, 2, none⟩), (x 2)]) (fun j x WN => match j with | 0 => WN.cell? ⟨wi.heap.size, 0, none⟩ = some (.int .i64 m.1) ∧ WN.cell? ⟨wi.heap.size, 1, none⟩ = some (.int .i64 m.2.1) ∧ WN.cell? ⟨wi.heap.size, 2, none⟩ = some (.int .i64 m.2.2.1) ∧ WN.cell? ⟨wi.heap.size, 3, none⟩ = some (.int .i64 m.2.2.2.1) ∧ WN.cell? ⟨wi.heap.size, 4, none⟩ = some (.int .i64 m.2.2.2.2.1) ∧ WN.cell? ⟨wi.heap.size, 5, none⟩ = some (.int .i64 m.2.2.2.2.2) ∧ WN.cell? ⟨w.heap.size + 1 + 1, 2, none⟩ = some (va) ∧ WN.cell? ⟨pb, 4, none⟩ = some (.slice (some ⟨gt, 0, none⟩) L.length ct) ∧ WN.cell? ⟨gt, i * 3, none⟩ = some (.int .i64 t.1) ∧ WN.cell? ⟨gt, i * 3 + 1, none⟩ = some (.int .i64 t.2.1) ∧ WN.cell? ⟨gt, i * 3 + 2, none⟩ = some (.int .i64 t.2.2) ∧ Below w6.heap.size w6 WN | 1 => WN.cell? ⟨wi.heap.size, 0, none⟩ = some (.int .i64 m.1) ∧ WN.cell? ⟨wi.heap.size, 1, none⟩ = some (.int .i64 m.2.1) ∧ WN.cell? ⟨wi.heap.size, 2, none⟩ = some (.int .i64 m.2.2.1) ∧ WN.cell? ⟨wi.heap.size, 3, none⟩ = some (.int .i64 m.2.2.2.1) ∧ WN.cell? ⟨wi.heap.size, 4, none⟩ = some (.int .i64 m.2.2.2.2.1) ∧ WN.cell? ⟨wi.heap.size, 5, none⟩ = some (.int .i64 m.2.2.2.2.2) ∧ WN.cell? ⟨w.heap.size + 1 + 1, 2, none⟩ = some (va) ∧ WN.cell? ⟨pb, 4, none⟩ = some (.slice (some ⟨gt, 0, none⟩) L.length ct) ∧ WN.cell? ⟨gt, i * 3, none⟩ = some (.int .i64 t.1) ∧ WN.cell? ⟨gt, i * 3 + 1, none⟩ = some (.int .i64 t.2.1) ∧ WN.cell? ⟨gt, i * 3 + 2, none⟩ = some (.int .i64 t.2.2) ∧ Below w6.heap.size w6 WN ∧ ∃ g, Hid (x 0 = .slice (some ⟨g, 0, none⟩) 1 1) ∧ WN.heap[g]? = some (.cells #[.int .i64 U.1, .int .i64 U.2.1, .int .i64 U.2.2] 44 (0, 0)) | 2 => PilB WN (w.heap.size + 1 + 1) pb (.slice (some ⟨bX, oX, none⟩) L.length cx) va (.slice (some ⟨w.heap.size, 0, none⟩) L.length L.length) (w.heap.size + 1) ∧ WN.ownsRow w.heap.size 44 3 (x 1) (i + 1) (tcT ((atsL L ms).take (i + 1))) ∧ WN.heap[w.heap.size]? = some (.cells (Array.replicate L.length (.int .i64 0)) 3 (0, 0)) ∧ MapV kPV WN (w.heap.size + 1) 0 (fun _ => none) ∧ Below w.heap.size w WN | _ => PlcS w pb (.slice (some ⟨bX, oX, none⟩) L.length cx) L ms w.heap.size (w.heap.size + 1) (w.heap.size + 1 + 1) (i + 1) (x 1) WN) ?hf (by kernel_rfl) (by kernel_rfl) (fun _ => rfl) (by kernel_rfl) ?hv ⟨z0, z1, z2, z3, z4, z5, p2, c4, t0, t1, t2, (Below.refl _ _).drew⟩ ?hA ?hT (fun x WN hst => ?he)
   case hf => intro x; simp only [putOps, Act.put, List.setIfInBounds_toArray, List.set_cons_succ, List.set_cons_zero]; exact rfl
   case hv =>
    intro x j t v h
    cases j with
    | zero => cases h; rfl
    | succ j =>
     cases j with
     | zero => cases h; rfl
     | succ j =>
      cases j with
      | zero => cases h; rfl
      | succ j =>
       simp at h
   case hA =>
    intro j x WN hj hst
    have hj : j ≤ 3 := hj
    rcases (show j = 0 ∨ j = 1 ∨ j = 2 ∨ j = 3 by omega) with rfl | rfl | rfl | rfl
    ·have HST := Lib.hid hst
     obtain ⟨q0, q1, q2, q3, q4, q5, q6, q7, q8, q9, q10, hbl⟩ := hst
     iterate 16 refine ⟨?_, fun K hK => ?_⟩
     ·trivial
     all_goals try (go_simp; exact hK _ HST.out; done)
     ·go_simp
      refine (CM.out WN (hbM.trans (hbl.mono hbM.size))).mono ?_
      rintro e' wc ⟨he, hbc⟩
      subst he
      exact hK _ ⟨sd q0 hbc, sd q1 hbc, sd q2 hbc, sd q3 hbc, sd q4 hbc, sd q5 hbc, sd q6 hbc, sd q7 hbc, sd q8 hbc, sd q9 hbc, sd q10 hbc, stay_b hbl hbc⟩
    ·have HST := Lib.hid hst
     obtain ⟨q0, q1, q2, q3, q4, q5, q6, q7, q8, q9, q10, hbl, g, hx0, hkg⟩ := hst
     iterate 7 refine ⟨?_, fun K hK => ?_⟩
     ·trivial
     all_goals try (go_simp; exact hK _ HST.out; done)
    ·have HST := Lib.hid hst
     obtain ⟨s0, s1, s2, s3, s4⟩ := hst
     iterate 3 refine ⟨?_, fun K hK => ?_⟩
     ·trivial
     all_goals try (go_simp; exact hK _ HST.out; done)
    ·trivial
   case hT =>
    intro j t x WN ht hst o ho K hK
    cases j with
    | zero =>
     cases ht; cases ho
     obtain ⟨q0, q1, q2, q3, q4, q5, q6, q7, q8, q9, q10, hbl⟩ := hst
     go_simp
     exact hK (.slice (some ⟨WN.heap.size, 0, none⟩) 1 1) _ ⟨al_c q0 (.cells #[.int .i64 U.1, .int .i64 U.2.1, .int .i64 U.2.2] 44), al_c q1 (.cells #[.int .i64 U.1, .int .i64 U.2.1, .int .i64 U.2.2] 44), al_c q2 (.cells #[.int .i64 U.1, .int .i64 U.2.1, .int .i64 U.2.2] 44), al_c q3 (.cells #[.int .i64 U.1, .int .i64 U.2.1, .int .i64 U.2.2] 44), al_c q4 (.cells #[.int .i64 U.1, .int .i64 U.2.1, .int .i64 U.2.2] 44), al_c q5 (.cells #[.int .i64 U.1, .int .i64 U.2.1, .int .i64 U.2.2] 44), al_c q6 (.cells #[.int .i64 U.1, .int .i64 U.2.1, .int .i64 U.2.2] 44), al_c q7 (.cells #[.int .i64 U.1, .int .i64 U.2.1, .int .i64 U.2.2] 44), al_c q8 (.cells #[.int .i64 U.1, .int .i64 U.2.1, .int .i64 U.2.2] 44), al_c q9 (.cells #[.int .i64 U.1, .int .i64 U.2.1, .int .i64 U.2.2] 44), al_c q10 (.cells #[.int .i64 U.1, .int .i64 U.2.1, .int .i64 U.2.2] 44), hbl.alloc hbl.size (.cells #[.int .i64 U.1, .int .i64 U.2.1, .int .i64 U.2.2] 44), WN.heap.size, Lib.hid rfl, heap_alloc_new WN (.cells #[.int .i64 U.1, .int .i64 U.2.1, .int .i64 U.2.2] 44)⟩
    | succ j =>
     cases j with
     | zero =>
      cases ht; cases ho
      obtain ⟨q0, q1, q2, q3, q4, q5, q6, q7, q8, q9, q10, hbl, g, hx0, hkg⟩ := hst
      have hS7 := HS6.out.below hbl
      have hne := hS7.ne
      refine step_app Tryz.underlying52 tri_info rfl (by decide) (by decide) rfl _ _ rfl w.heap.size va i (tcT ((atsL L ms).take i)) [.int .i64 U.1, .int .i64 U.2.1, .int .i64 U.2.2] rfl hS7.own hS7.bel.size 1 g hx0.out hkg rfl (tri_one _ _ _) (by omega) (fun vv ww h1 h2 h3 => hK vv ww ?_)
      rw [← tcT_one, ← tcT_app, show (U.1, U.2.1, U.2.2) = U from rfl, ← HTK.out] at h1
      exact ⟨(h3.grown.block _ (blk_lt hS7.pil) (fun e => hne.1 e.symm)).trans hS7.pil, h1, (h3.grown.block _ (blk_lt hS7.lev) (fun e => hne.2.1 e.symm)).trans hS7.lev, hS7.map.grown h3.grown (fun e => hne.2.2 e.symm), hS7.bel.trans (h2.mono (Nat.le_refl _))⟩
     | succ j =>
      cases j with
      | zero =>
       cases ht; cases ho
       obtain ⟨s0, s1, s2, s3, s4⟩ := hst
       have fz := s0.fz
       have hlt := blk_lt s0
       have hc2 := s0.c2
       obtain ⟨A1, c1, hv1, _⟩ := own_slice s1
       rw [hv1] at hK
       go_simp
       refine hK undef _ ?_
       show PlcS w pb (.slice (some ⟨bX, oX, none⟩) L.length cx) L ms w.heap.size (w.heap.size + 1) (w.heap.size + 1 + 1) (i + 1) (x 1) _
       rw [hv1] at s1 ⊢
       refine ⟨s0.setA _, own_set s1 (fun k hk e => own_not s1 s0 (by decide) (by rw [hk, e])) 2 _, blk_far s2 (by simp; omega) _, ?_, s4.setCell (by simp only []; omega) _, HS6.out.ge⟩
       exact s3.heap (Below.heap_setCell _ _ _ _ (by simp))
      | succ j =>
       simp at ht
   case he =>
    have hfin := hst
    have HF := Lib.hid hfin
    clear hfin
    go_wp2
    go_roundw
    case rel => exact ⟨i + 1, _, by omega, by go_num, HF⟩
    case measure => simp [intOf]; omega
  ·obtain rfl : i = L.length := by omega
   go_wp2
   go_ret
   exact ⟨_, _, _, _, rfl, hS.out⟩
end
section
open Go.RowKit Go.Maps Go.WideElems Go.ChangeMaps
structure EntI {α : Type} [DecidableEq α] (k : KE α) (w1 : World) (b n : Nat) (f : α → Option Int) (a : α) (st : Value) : Prop where
 lt : b < w1.heap.size
 look : (Instr.lookup k.T (.map (some b)) (k.enc a) false).run Tryz.prog w1 = .ok (.int .i64 ((f a).getD 0)) w1
 store : ∀ v : Int, (Lit.int .i64 v).wf = true → ∃ w2, (Instr.entryStore k.T (.map (some b)) st (.int .i64 v)).run Tryz.prog w1 = .ok () w2 ∧ MapI k w2 b (n + 1) (setF f a v) ∧ w1.grownBy w2 (some b)
section
variable {α : Type} [DecidableEq α] {k : KE α} {w : World} {b n : Nat} {f : α → Option Int}
theorem grown_setBlock {w : World} {b : Nat} {o' : Obj} {es : Array MapEntry} {c : Nat} (h : w.heap[b]? = some (.map es c)) : w.grownBy (setBlock w b o') (some b) := ⟨rfl, rfl, rfl, by simp [setBlock], fun i _ hi => heap_setBlock_other h _ (fun e => hi (by rw [e]))⟩
theorem setBlock_two (w : World) (b : Nat) (o o' : Obj) : setBlock (setBlock w b o) b o' = setBlock w b o' := by simp [setBlock]
theorem MapI.enter (K : WideMaps.KeyLaw Tryz.prog k.K) (h : MapI k w b n f) (hn : n < maxLen) {a : α} (ha : k.ok a) :
  ∃ (v0 st : Value) (w1 : World), (Instr.mapEntry k.T (.map (some b)) (k.enc a)).run Tryz.prog w = .ok (.tuple #[v0, st]) w1 ∧ EntI k w1 b n f a st ∧ w.grownBy w1 (some b) := by
 obtain ⟨l, hl⟩ := k.key a ha
 have hput := fun (v : Int) (hv : (Lit.int .i64 v).wf = true) => h.put hn ha hv
 have h0 := h
 obtain ⟨D, ⟨es, c, hb, F, hs, hD⟩, h2, h3⟩ := h
 obtain ⟨v0, st, es1, c1, hrun, _, hst⟩ := entry_then_store K k.ht zeroInt hb F hl
 have hb1 : (setBlock w b (.map es1 c1)).heap[b]? = some (.map es1 c1) := heap_setBlock_same hb _
 refine ⟨v0, _, _, hrun, ⟨blk_lt hb1, ?_, ?_⟩, grown_setBlock hb⟩
 ·-- what is read there
  rcases K.find w hl es.toList F.keys with ⟨f1, f2⟩ | ⟨j, e0, f1, f2, f3⟩
  ·obtain ⟨w', e1, e2, _⟩ := hput 0 (by decide)
   have e3 : (Instr.mapUpdate k.T (.map (some b)) (k.enc a) (.int .i64 0)).run Tryz.prog w = .ok () (setBlock w b (.map (es.push ⟨k.enc a, .int .i64 0, c⟩) (c + 1))) := by
    simp [Instr.mapUpdate, run_underlying k.ht, MapKept.run_getObj_map hb, K.check w false hl, f1, MapKept.run_setObj_map _ hb, Result.andThen, setBlock]
   have e4 : (Instr.mapEntry k.T (.map (some b)) (k.enc a)).run Tryz.prog w = .ok (.tuple #[.int .i64 0, goInt c]) (setBlock w b (.map (es.push ⟨k.enc a, .int .i64 0, c⟩) (c + 1))) := by
    simp [Instr.mapEntry, run_underlying k.ht, MapKept.run_getObj_map hb, K.check w false hl, f1, zeroInt, MapKept.run_setObj_map _ hb, Result.andThen, setBlock]
   rw [hrun] at e4
   rw [e1] at e3
   have e5 := (Result.ok.inj e4).2
   have e6 := (Result.ok.inj e3).2
   rw [e5, ← e6]
   have e7 := e2.look1 ha
   have hnone : (f a).getD 0 = 0 := by
    have h4 := (h0.look1 ha)
    have h5 : (Instr.lookup k.T (.map (some b)) (k.enc a) false).run Tryz.prog w = .ok (.int .i64 0) w := by
     simp [Instr.lookup, run_underlying k.ht, MapKept.run_getObj_map hb, K.check w _ hl, f1, zeroInt, Result.andThen]
    rw [h4] at h5
    have := (Result.ok.inj h5).1
    simpa using this
   rw [show (setF f a 0 a).getD 0 = (f a).getD 0 by rw [hnone]; simp [setF]] at e7
   exact e7
  ·have hj : es[j]? = some e0 := by simpa using f2
   have hsame : es.modify j (fun e => { e with key := k.enc a }) = es := by
    apply Array.ext'
    rw [Array.toList_modify, ChangeMaps.modify_eq_set _ _ _ _ f2]
    have : ({ e0 with key := k.enc a } : MapEntry) = e0 := by rw [← f3]
    rw [this]
    exact WideElems.set_self _ _ _ f2
   have e4 : (Instr.mapEntry k.T (.map (some b)) (k.enc a)).run Tryz.prog w = .ok (.tuple #[e0.val, goInt e0.born]) (setBlock w b (.map es c)) := by
    simp [Instr.mapEntry, run_underlying k.ht, MapKept.run_getObj_map hb, K.check w false hl, f1, hj, f3, K.stays w hl, hsame, MapKept.run_setObj_map _ hb, Result.andThen, setBlock]
   rw [hrun] at e4
   rw [(Result.ok.inj e4).2]
   exact (h0.heap (w' := setBlock w b (.map es c)) ((heap_setBlock_same hb _).trans hb.symm)).look1 ha
 ·intro v hv
  obtain ⟨es', c', g1, g2⟩ := hst _ (.int .i64 v) hb1
  obtain ⟨w', e1, e2, _⟩ := hput v hv
  rw [e1] at g2
  have e6 := (Result.ok.inj g2).2
  refine ⟨_, g1, ?_, grown_setBlock hb1⟩
  rw [setBlock_two, ← e6]
  exact e2
end
theorem grown_of_below {a b : World} {r : Option Nat} (h : Below a.heap.size a b) : a.grownBy b r := ⟨h.os, h.tape, h.output, h.size, fun k hk _ => h.block k hk⟩
section
variable {α : Type} [DecidableEq α]
def EnB (k : KE α) (wd : World) (mb n : Nat) (f : α → Option Int) (a : α) (v : Value) (W : World) : Prop := ∃ v0 st, v = .tuple #[v0, st] ∧ EntI k W mb n f a st ∧ wd.grownBy W (some mb)
structure EnC (k : KE α) (wd : World) (mb n : Nat) (f : α → Option Int) (a : α) (z : Int) (W : World) : Prop where
 map : MapI k W mb (n + 1) (setF f a z)
 grown : wd.grownBy W (some mb)
def EnS (k : KE α) (wd : World) (mb n : Nat) (f : α → Option Int) (a : α) (z : Int) (la lb : Bool) (v : Value) (W : World) : Prop := match lb, la with
 | true, _ => EnC k wd mb n f a z W
 | false, true => EnB k wd mb n f a v W
 | false, false => Below wd.heap.size wd W
variable {k : KE α} {wd : World} {mb n : Nat} {f : α → Option Int} {a : α} {z : Int} {la lb : Bool} {v : Value} {W : World}
theorem EnS.grown (h : EnS k wd mb n f a z la lb v W) : wd.grownBy W (some mb) := by
 cases lb
 ·cases la
  ·exact grown_of_below h
  ·obtain ⟨_, _, _, _, h⟩ := h
   exact h
 ·exact EnC.grown h
theorem EnS.look (h : EnS k wd mb n f a z la false v W) (hm : MapI k wd mb n f) (ha : k.ok a) : (Instr.lookup k.T (.map (some mb)) (k.enc a) false).run Tryz.prog W = .ok (.int .i64 ((f a).getD 0)) W := by
 cases la
 ·exact (hm.stay h).look1 ha
 ·obtain ⟨_, _, _, h, _⟩ := h
  exact h.look
theorem EnS.atA (h : EnS k wd mb n f a z la lb v W) (h1 : la = false) (h2 : lb = false) : Below wd.heap.size wd W := by subst h1 h2; exact h
theorem EnS.keep {L : Array Bool} {e s i : Nat} {v' : Value} (h : EnS k wd mb n f a z (L.getD e false) (L.getD s false) v W) (h1 : i ≠ e) (h2 : i ≠ s) (hv : v' = v) :
  EnS k wd mb n f a z ((L.setIfInBounds i true).getD e false) ((L.setIfInBounds i true).getD s false) v' W := by
 rw [set_other h1, set_other h2, hv]
 exact h
theorem EnS.call {L : Array Bool} {e s i : Nat} {v' : Value} {W' : World} (h : EnS k wd mb n f a z (L.getD e false) (L.getD s false) v W) (he : L.getD e false = false) (hs : L.getD s false = false) (h1 : i ≠ e) (h2 : i ≠ s) (hb : Below W.heap.size W W') :
  EnS k wd mb n f a z ((L.setIfInBounds i true).getD e false) ((L.setIfInBounds i true).getD s false) v' W' := by
 rw [set_other h1, set_other h2, he, hs]
 exact stay_b (EnS.atA h he hs) hb
end
def Cl (ps : List (Nat × Nat)) (L : Array Bool) : Prop := ∀ p ∈ ps, L.getD p.1 false = true → L.getD p.2 false = true
theorem Cl.start (ps : List (Nat × Nat)) (n : Nat) : Cl ps (Array.replicate n false) := fun p _ h => by
 rw [getD_replicate_false] at h
 cases h
theorem Cl.set {ps : List (Nat × Nat)} {L : Array Bool} {i : Nat} (h : Cl ps L) (hi : ∀ p ∈ ps, p.1 = i → L.getD p.2 false = true) : Cl ps (L.setIfInBounds i true) := by
 intro p hp h1
 by_cases e : p.1 = i
 ·exact getD_set_true (hi p hp e)
 ·rw [set_other (fun e' => e e'.symm)] at h1
  exact getD_set_true (h p hp h1)
theorem Cl.no {ps : List (Nat × Nat)} {L : Array Bool} {i s : Nat} (h : Cl ps L) (hp : (s, i) ∈ ps) (hn : L.getD i true = false) : L.getD s false = false := by
 cases hs : L.getD s false
 ·rfl
 ·have := h (s, i) hp hs
  rw [getD_both hn] at this
  cases this
end
section
section
open Go.RowKit Go.Maps Go.WideElems Go.ChangeMaps
theorem keyOf_I {z : Int} (h : inR z) : ∃ l, keyOf Tryz.prog 3 (.int .i64 z) = some l := ⟨_, keyOf_int_mk Tryz.underlying3 (wf_of h)⟩
def kNI : KE Int where
 K := 3
 T := 130
 enc z := .int .i64 z
 ok z := inR z
 law := int_keyed Tryz.underlying3
 ht := Tryz.underlying130
 key z h := keyOf_I h
 inj a b h := by injection h
theorem MapV.enter {α β : Type} [DecidableEq α] {k : KV α β} {w : World} {b n : Nat} {f : α → Option β} (K : WideMaps.KeyLaw Tryz.prog k.K) (h : MapV k w b n f) (hn : n < maxLen) {a : α} (ha : k.ok a) :
  ∃ (st : Value) (w1 : World) (o : Obj), (Instr.mapEntry k.T (.map (some b)) (k.enc a)).run Tryz.prog w = .ok (.tuple #[k.val ((f a).getD k.z), st]) w1 ∧ w.grownBy w1 (some b) ∧ w1.heap[b]? = some o ∧
   ∀ (v : β) (w2 : World), w2.heap[b]? = some o → ∃ w3, (Instr.entryStore k.T (.map (some b)) st (k.val v)).run Tryz.prog w2 = .ok () w3 ∧ MapV k w3 b (n + 1) (setV f a v) ∧ w2.grownBy w3 (some b) := by
 obtain ⟨l, hl⟩ := k.key a ha
 have hput := fun v : β => h.put hn ha v
 have hlook := h.look1 ha
 obtain ⟨D, ⟨es, c, hb, F, hs, hD⟩, h2, h3⟩ := h
 obtain ⟨v0, st, es1, c1, hrun, hv0, hst⟩ := entry_then_store K k.ht k.hz hb F hl
 have hb1 : (setBlock w b (.map es1 c1)).heap[b]? = some (.map es1 c1) := heap_setBlock_same hb _
 refine ⟨goInt st, setBlock w b (.map es1 c1), .map es1 c1, ?_, grown_setBlock hb, hb1, fun v w2 hw2 => ?_⟩
 ·rw [hrun]
  have hv : v0 = k.val ((f a).getD k.z) := by
   rcases K.find w hl es.toList F.keys with ⟨f1, f2⟩ | ⟨j, e0, f1, f2, f3⟩
   ·have h5 : (Instr.lookup k.T (.map (some b)) (k.enc a) false).run Tryz.prog w = .ok (k.val k.z) w := by
     simp [Instr.lookup, run_underlying k.ht, MapKept.run_getObj_map hb, K.check w _ hl, f1, k.hz, Result.andThen]
    rw [hlook] at h5
    rw [(Result.ok.inj h5).1]
    rcases hv0 with ⟨e0, he0, hk0, _⟩ | ⟨_, h6⟩
    ·exact absurd hk0 (f2 e0 he0)
    ·exact h6
   ·have hj : es[j]? = some e0 := by simpa using f2
    have h5 : (Instr.lookup k.T (.map (some b)) (k.enc a) false).run Tryz.prog w = .ok e0.val w := by
     simp [Instr.lookup, run_underlying k.ht, MapKept.run_getObj_map hb, K.check w _ hl, f1, hj, Result.andThen]
    have hsame : es.modify j (fun e => { e with key := k.enc a }) = es := by
     apply Array.ext'
     rw [Array.toList_modify, ChangeMaps.modify_eq_set _ _ _ _ f2]
     have : ({ e0 with key := k.enc a } : MapEntry) = e0 := by rw [← f3]
     rw [this]
     exact WideElems.set_self _ _ _ f2
    have e4 : (Instr.mapEntry k.T (.map (some b)) (k.enc a)).run Tryz.prog w = .ok (.tuple #[e0.val, goInt e0.born]) (setBlock w b (.map es c)) := by
     simp [Instr.mapEntry, run_underlying k.ht, MapKept.run_getObj_map hb, K.check w false hl, f1, hj, f3, K.stays w hl, hsame, MapKept.run_setObj_map _ hb, Result.andThen, setBlock]
    rw [hrun] at e4
    rw [hlook] at h5
    have e5 := (Result.ok.inj e4).1
    simp at e5
    rw [e5.1, (Result.ok.inj h5).1]
  rw [hv]
 ·obtain ⟨es', c', g1, g2⟩ := hst w2 (k.val v) hw2
  obtain ⟨w', e1, e2, _⟩ := hput v
  rw [e1] at g2
  have e6 := (Result.ok.inj g2).2
  refine ⟨_, g1, ?_, grown_setBlock hw2⟩
  refine e2.heap ?_
  rw [heap_setBlock_same hw2, e6, heap_setBlock_same hb]
end
section
open Go.RowKit Go.Maps
variable {w w' : World} {base b n : Nat} {f : T3 → Option Value} {g : T3 → List Nat}
theorem PilM.made (w : World) (base : Nat) : PilM (w.alloc (.map #[] 0)) base w.heap.size 0 (fun _ => none) (fun _ => []) :=
 ⟨MapV.made _ _, fun _ _ => rfl, fun t v h => (by cases h), fun t t' v v' _ h => (by cases h)⟩
theorem PilM.of_map (h : MapV kPV w b n (fun _ => none)) (base : Nat) : PilM w base b n (fun _ => none) (fun _ => []) :=
 ⟨h, fun _ _ => rfl, fun t v h => (by cases h), fun t t' v v' _ h => (by cases h)⟩
theorem PilM.below (h : PilM w base b n f g) (hb : Below w.heap.size w w') : PilM w' base b n f g :=
 ⟨h.map.stay hb, h.no, fun t v hv => ⟨own_below (h.row t v hv).1 hb (Nat.le_refl _), (h.row t v hv).2⟩, h.far⟩
theorem PilM.other (h : PilM w base b n f g) {r : Nat} (hg : w.grownBy w' (some r)) (hr : r ≠ b) (hn : ∀ t v, f t = some v → v.ownBlock ≠ some r) : PilM w' base b n f g :=
 ⟨h.map.grown hg (fun e => hr (Option.some.inj e).symm), h.no, fun t v hv => ⟨(h.row t v hv).1.kept hg (.inr (hn t v hv)), (h.row t v hv).2⟩, h.far⟩
theorem PilM.val (h : PilM w base b n f g) (t : T3) : w.ownsRow base 3 1 ((f t).getD (.slice none 0 0)) (g t).length (visN (g t)) := by
 cases hf : f t with
 | none => rw [h.no t hf]; exact World.ownsRow_nil _ _ _ _
 | some v => exact (h.row t v hf).1
theorem PilM.put {w1 w2 w3 : World} (h : PilM w base b n f g) (hg1 : w.grownBy w1 (some b)) {t : T3} {v' : Value} {z : Nat} (ho : w2.ownsRow base 3 1 v' ((g t).length + 1) (visN (g t ++ [z]))) (hg2 : w1.grownBy w2 ((f t).getD (.slice none 0 0)).ownBlock)
  (hat : v'.ownBlock = ((f t).getD (.slice none 0 0)).ownBlock ∨ ∃ q, v'.ownBlock = some q ∧ w.heap.size ≤ q) (hm : MapV kPV w3 b (n + 1) (setV f t v')) (hg3 : w2.grownBy w3 (some b)) (hnb : ∀ t v, f t = some v → v.ownBlock ≠ some b) (hvb : v'.ownBlock ≠ some b) :
  PilM w3 base b (n + 1) (setV f t v') (fun x => if x = t then g t ++ [z] else g x) := by
 refine ⟨hm, fun x hx => ?_, fun x v hx => ?_, fun x y v u hxy hx hy => ?_⟩
 ·by_cases e : x = t
  ·subst e
   rw [setV_self] at hx
   cases hx
  ·rw [setV_ne _ _ e] at hx
   rw [if_neg e]
   exact h.no x hx
 ·by_cases e : x = t
  ·subst e
   rw [setV_self] at hx
   cases hx
   rw [if_pos rfl]
   refine ⟨?_, by simp⟩
   have := ho.kept hg3 (.inr hvb)
   simpa using this
  ·rw [setV_ne _ _ e] at hx
   rw [if_neg e]
   have h0 := h.row x v hx
   have h1 := h0.1.kept hg1 (.inr (hnb x v hx))
   refine ⟨(h1.kept hg2 (.inr ?_)).kept hg3 (.inr (hnb x v hx)), h0.2⟩
   cases hf : f t with
   | none => intro e2; cases hv : v.ownBlock with
    | none => 
      rcases h0.1.2 with ⟨hv0, hl⟩ | ⟨g0, _, _, hv0, _⟩
      ·have := h0.2; rw [List.length_eq_zero_iff] at hl; exact this hl
      ·subst hv0; cases hv
    | some q => rw [hv] at e2; cases e2
   | some u => exact h.far x t v u e hx hf
 ·by_cases e : x = t
  ·subst e
   rw [setV_self] at hx
   cases hx
   rw [setV_ne _ _ (Ne.symm hxy)] at hy
   have hu := h.row y u hy
   intro e2
   rcases hat with h1 | ⟨q, h1, h2⟩
   ·cases hf : f x with
    | none =>
     rw [hf] at h1
     rw [h1] at e2
     rcases hu.1.2 with ⟨_, hl⟩ | ⟨g0, _, _, hv0, _⟩
     ·rw [List.length_eq_zero_iff] at hl
      exact hu.2 hl
     ·subst hv0; cases e2
    | some v0 =>
     rw [hf] at h1
     exact h.far x y v0 u hxy hf hy (h1.symm.trans e2)
   ·rw [h1] at e2
    have := (hu.1.lt q e2.symm).2
    omega
  ·rw [setV_ne _ _ e] at hx
   by_cases e3 : y = t
   ·subst e3
    rw [setV_self] at hy
    cases hy
    have hu := h.row x v hx
    intro e2
    rcases hat with h1 | ⟨q, h1, h2⟩
    ·cases hf : f y with
     | none =>
      rw [hf] at h1
      rw [h1] at e2
      rcases hu.1.2 with ⟨_, hl⟩ | ⟨g0, _, _, hv0, _⟩
      ·rw [List.length_eq_zero_iff] at hl
       exact hu.2 hl
      ·subst hv0; cases e2
     | some v0 =>
      rw [hf] at h1
      exact h.far x y v v0 hxy hx hf (e2.trans h1)
    ·rw [h1] at e2
     have := (hu.1.lt q e2).2
     omega
   ·rw [setV_ne _ _ e3] at hy
    exact h.far x y v u hxy hx hy
end
end
end Go.Proofs.YtpkjekedgodccaaGreatDoor
