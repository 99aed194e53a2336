/- pile.placed. -/
import Derived.Test.YtbnkabmnenginaaGreatDoorK27
namespace Go.Proofs.YtbnkabmnenginaaGreatDoor
set_option linter.unusedSimpArgs false
set_option linter.unusedVariables false
section
open Go.RowKit Go.Maps
structure PlcS (w : World) (pb : Nat) (vm : Value) (L : List T3) (ms : List V6) (gl mb xb i : Nat) (va : Value) (wr : World) : Prop where
 pil : PilB wr xb pb vm va (.slice (some ⟨gl, 0, none⟩) L.length L.length) mb
 own : wr.ownsRow w.heap.size 59 3 va i (tcT ((atsL L ms).take i))
 lev : wr.heap[gl]? = some (.cells (Array.replicate L.length (.int .i64 0)) 3 (0, 0))
 map : MapV kPV wr mb 0 (fun _ => none)
 bel : Below w.heap.size w wr
 ge : w.heap.size ≤ gl ∧ w.heap.size ≤ mb ∧ w.heap.size ≤ xb
section
variable {w wr w' : World} {pb : Nat} {vm va : Value} {L : List T3} {ms : List V6} {gl mb xb i : Nat}
theorem PlcS.below (h : PlcS w pb vm L ms gl mb xb i va wr) (hb : Below wr.heap.size wr w') : PlcS w pb vm L ms gl mb xb i va w' :=
 ⟨h.pil.below hb, od h.own hb, blk_below h.lev hb (blk_lt h.lev), h.map.stay hb, stay_b h.bel hb, h.ge⟩
theorem PlcS.ne (h : PlcS w pb vm L ms gl mb xb i va wr) : va.ownBlock ≠ some xb ∧ va.ownBlock ≠ some gl ∧ va.ownBlock ≠ some mb :=
 ⟨own_not h.own h.pil (by decide), own_not h.own h.lev (by decide), own_notmap h.own h.map.is⟩
end
set_option maxRecDepth 100000 in
set_option maxHeartbeats 12800000 in
theorem placed_any (pb nb kb W H B : Nat) (vm vc vt : Value) (L : List T3) (mn mk : Nat) (fk : E4 → Option Int) (Ax : Option Addr) (cx : Nat) (ms : List V6) (w : World) (hs : Steps w) (hp : PapI w pb nb kb W H vm vc vt L mn mk fk) (ho : w.ownsRow B 59 3 vt L.length (tcT L))
  (hI : ∀ t ∈ L, In8 t) (hLl : L.length ≤ 1000) (hml : ms.length = L.length) (hm : Rd w 6 Ax L.length (mcs ms)) (hsm : ∀ m ∈ ms, Sm m.1 m.2.1 m.2.2.1 m.2.2.2.1 m.2.2.2.2.1 m.2.2.2.2.2) :
  Calls Tryz.prog 28 #[.pointer (some ⟨pb, 0, none⟩), .slice Ax L.length cx] w fun r w' => ∃ xb gl mb va, r = .returned (.pointer (some ⟨xb, 0, none⟩)) ∧ PlcS w pb (.slice Ax L.length cx) L ms gl mb xb L.length va w' := by
 have hmk := make_ints L.length hLl
 have hmm := @run_makeMap Tryz.prog
 have HP := Lib.hid hp
 have HO := Lib.hid ho
 have HS := Lib.hid hs
 have HI := Lib.hid hI
 have HM := Lib.hid hm
 have HSM := Lib.hid hsm
 have HML := Lib.hid hml
 clear hp ho hs hI hm hsm hml
 go_enter Tryz.func28, Tryz.ntmps28
 go_wp2_with fail
 have kx : (((w.alloc (.cells (Array.replicate L.length (.int .i64 0)) 3)).alloc (.map #[] 0)).alloc (.cells #[.pointer (some ⟨pb, 0, none⟩), .slice Ax L.length cx, .slice none 0 0, .slice (some ⟨w.heap.size, 0, none⟩) L.length L.length, .map (some (w.heap.size + 1))] 78)).heap.size = w.heap.size + 3 := by simp
 have hP0 : PlcS w pb (.slice Ax L.length cx) L ms w.heap.size (w.heap.size + 1) (w.heap.size + 1 + 1) 0 (.slice none 0 0) (((w.alloc (.cells (Array.replicate L.length (.int .i64 0)) 3)).alloc (.map #[] 0)).alloc (.cells #[.pointer (some ⟨pb, 0, none⟩), .slice Ax L.length cx, .slice none 0 0, .slice (some ⟨w.heap.size, 0, none⟩) L.length L.length, .map (some (w.heap.size + 1))] 78)) := by
  refine ⟨?_, World.ownsRow_nil _ _ _ _, blk_alloc (blk_alloc (heap_alloc_new w _) _) _, ?_, ((below_new w _).alloc (by simp) _).alloc (by simp; omega) _, Nat.le_refl _, by omega, by omega⟩
  ·have := heap_alloc_new ((w.alloc (.cells (Array.replicate L.length (.int .i64 0)) 3)).alloc (.map #[] 0)) (.cells #[.pointer (some ⟨pb, 0, none⟩), .slice Ax L.length cx, .slice none 0 0, .slice (some ⟨w.heap.size, 0, none⟩) L.length L.length, .map (some (w.heap.size + 1))] 78)
   unfold PilB
   simpa using this
  ·have := MapV.made kPV (w.alloc (.cells (Array.replicate L.length (.int .i64 0)) 3))
   simp only [World.size_alloc] at this
   exact this.alloc _
 have HP0 := Lib.hid hP0
 clear hP0 kx hmk hmm
 generalize (((w.alloc (.cells (Array.replicate L.length (.int .i64 0)) 3)).alloc (.map #[] 0)).alloc (.cells #[.pointer (some ⟨pb, 0, none⟩), .slice Ax L.length cx, .slice none 0 0, .slice (some ⟨w.heap.size, 0, none⟩) L.length L.length, .map (some (w.heap.size + 1))] 78)) = w5 at HP0 ⊢
 go_loopw [18] (fun v wr => ∃ (i : Nat) (va : Value), i ≤ L.length ∧ v = .int .i64 i ∧ Hid (PlcS w pb (.slice Ax L.length cx) L ms w.heap.size (w.heap.size + 1) (w.heap.size + 1 + 1) i va wr)) (fun v _ => L.length - (intOf v).toNat)
 case atStart => exact ⟨0, _, by omega, rfl, HP0⟩
 case round =>
  clear HP0
  obtain ⟨i, va, hi, rfl, hS⟩ := hrel
  by_cases hin : i < L.length
  ·obtain ⟨bX, oX, m, hA, hmi, hbX, y0, y1, y2, y3, y4, y5⟩ := Rd.mp (by rw [HML.out]; exact HM.out) (show i < ms.length by rw [HML.out]; exact hin)
   subst hA
   obtain ⟨t, ht⟩ : ∃ t, L[i]? = some t := ⟨_, List.getElem?_eq_getElem hin⟩
   have hbw := hS.out.bel
   have y0 := sd y0 hbw
   have y1 := sd y1 hbw
   have y2 := sd y2 hbw
   have y3 := sd y3 hbw
   have y4 := sd y4 hbw
   have y5 := sd y5 hbw
   have hsm := HSM.out m (List.mem_of_getElem? hmi)
   have hit := HI.out t (List.mem_of_getElem? ht)
   have hii : (i : Int) < (L.length : Int) := by omega
   have hi0 : (0 : Int) ≤ (i : Int) := by omega
   have hat : atI L ms i = moveV m t := by unfold atI; rw [List.getD_eq_getElem?_getD, List.getD_eq_getElem?_getD, hmi, ht]; rfl
   have htk : (atsL L ms).take (i + 1) = (atsL L ms).take i ++ [moveV m t] := by rw [List.take_add_one, atsL_at hin, hat]; rfl
   have cM := fun (W : World) (h : Below wr.heap.size wr W) => move_any m.1 m.2.1 m.2.2.1 m.2.2.2.1 m.2.2.2.2.1 m.2.2.2.2.2 t.1 t.2.1 t.2.2 W (HS.out.below (hbw.trans (h.mono hbw.size))) hsm (by have := hit.1; omega) (by have := hit.1; omega) (by have := hit.2.1; omega) (by have := hit.2.1; omega) hit.2.2.1 hit.2.2.2
   obtain ⟨U, hU⟩ : ∃ U, U = moveV m t := ⟨_, rfl⟩
   rw [show moveT m.1 m.2.1 m.2.2.1 m.2.2.2.1 m.2.2.2.2.1 m.2.2.2.2.2 t.1 t.2.1 t.2.2 = U from hU.symm] at cM
   rw [← hU] at htk
   have CM := Lib.hid cM
   have HTK := Lib.hid htk
   have HT := Lib.hid ht
   clear cM hsm hit hat htk hU hmi ht
   obtain ⟨wi, hwi⟩ : ∃ x, x = wr := ⟨_, rfl⟩
   subst hwi
   go_wp2_with fail
   have kM := heap_alloc_new wi (.cells #[.int .i64 m.1, .int .i64 m.2.1, .int .i64 m.2.2.1, .int .i64 m.2.2.2.1, .int .i64 m.2.2.2.2.1, .int .i64 m.2.2.2.2.2] 57)
   have hbM := below_new wi (.cells #[.int .i64 m.1, .int .i64 m.2.1, .int .i64 m.2.2.1, .int .i64 m.2.2.2.1, .int .i64 m.2.2.2.2.1, .int .i64 m.2.2.2.2.2] 57)
   have hS6 := hS.out.below hbM
   have z0 := cell_of_blk kM 0
   have z1 := cell_of_blk kM 1
   have z2 := cell_of_blk kM 2
   have z3 := cell_of_blk kM 3
   have z4 := cell_of_blk kM 4
   have z5 := cell_of_blk kM 5
   simp only [List.getElem?_toArray, List.getElem?_cons_zero, List.getElem?_cons_succ] at z0 z1 z2 z3 z4 z5
   have HS6 := Lib.hid hS6
   have HBM := Lib.hid hbM
   clear y0 y1 y2 y3 y4 y5 hS hS6 kM
   generalize wi.alloc (.cells #[.int .i64 m.1, .int .i64 m.2.1, .int .i64 m.2.2.1, .int .i64 m.2.2.2.1, .int .i64 m.2.2.2.2.1, .int .i64 m.2.2.2.2.2] 57) = w6 at z0 z1 z2 z3 z4 z5 HS6 HBM hbM ⊢
   have p2 := HS6.out.pil.c2
   have hbw6 := HS6.out.bel
   have c4 := sd HP.out.c4 hbw6
   have hL0 : 0 < L.length := by omega
   have HO6 := Lib.hid (od HO.out hbw6)
   obtain ⟨gt, ct, curt, hvt, _, _, _, _⟩ := own_addr HO6.out hL0
   subst hvt
   obtain ⟨t0, t1, t2⟩ := own_tri HO6.out HT.out
   refine rg_chn (fin := ?z1) [14, 15, 18] [[true, true, true, true, true, true, true, true, true, true, true, true, true, true, false, false, true, true, false], [true, true, true, true, true, false, false, false, false, false, false, false, false, false, false, false, true, true, false], [true, false, false, false, false, false, false, false, false, false, false, false, false, false, false, false, true, true, false], [false, false, false, false, false, false, false, false, false, false, false, false, false, false, false, false, false, false, false]] [[13, 5, 12, 11, 9, 10, 8, 7, 6], [4, 14, 3, 13, 2, 5, 12, 1, 11, 9, 10, 8, 7, 6], [17, 15, 16, 4, 14, 0, 3, 13, 2, 5, 12, 1, 11, 9, 10, 8, 7, 6]] (fun x => [.pointer (some ⟨w.heap.size + 1 + 1, 0, none⟩), .pointer (some ⟨w.heap.size + 1 + 1, 0, none⟩), .pointer (some ⟨w.heap.size + 1 + 1, 0, none⟩), .pointer (some ⟨w.heap.size + 1 + 1, 2, none⟩), va, aggM m, .pointer (some ⟨pb, 0, none⟩), .pointer (some ⟨pb, 0, none⟩), .pointer (some ⟨pb, 4, none⟩), .slice (some ⟨gt, 0, none⟩) L.length ct, .int .i64 i, .pointer (some ⟨gt, i * 3, none⟩), aggT3 t, aggT3 U, (x 0), (x 1), .pointer (some ⟨w.heap.size + 1 + 1, 0, none⟩), .pointer (some ⟨w.heap.size + 1 + 1, 2, none⟩), (x 2)]) (fun j x WN => match j with | 0 => WN.cell? ⟨wi.heap.size, 0, none⟩ = some (.int .i64 m.1) ∧ WN.cell? ⟨wi.heap.size, 1, none⟩ = some (.int .i64 m.2.1) ∧ WN.cell? ⟨wi.heap.size, 2, none⟩ = some (.int .i64 m.2.2.1) ∧ WN.cell? ⟨wi.heap.size, 3, none⟩ = some (.int .i64 m.2.2.2.1) ∧ WN.cell? ⟨wi.heap.size, 4, none⟩ = some (.int .i64 m.2.2.2.2.1) ∧ WN.cell? ⟨wi.heap.size, 5, none⟩ = some (.int .i64 m.2.2.2.2.2) ∧ WN.cell? ⟨w.heap.size + 1 + 1, 2, none⟩ = some (va) ∧ WN.cell? ⟨pb, 4, none⟩ = some (.slice (some ⟨gt, 0, none⟩) L.length ct) ∧ WN.cell? ⟨gt, i * 3, none⟩ = some (.int .i64 t.1) ∧ WN.cell? ⟨gt, i * 3 + 1, none⟩ = some (.int .i64 t.2.1) ∧ WN.cell? ⟨gt, i * 3 + 2, none⟩ = some (.int .i64 t.2.2) ∧ Below w6.heap.size w6 WN | 1 => WN.cell? ⟨wi.heap.size, 0, none⟩ = some (.int .i64 m.1) ∧ WN.cell? ⟨wi.heap.size, 1, none⟩ = some (.int .i64 m.2.1) ∧ WN.cell? ⟨wi.heap.size, 2, none⟩ = some (.int .i64 m.2.2.1) ∧ WN.cell? ⟨wi.heap.size, 3, none⟩ = some (.int .i64 m.2.2.2.1) ∧ WN.cell? ⟨wi.heap.size, 4, none⟩ = some (.int .i64 m.2.2.2.2.1) ∧ WN.cell? ⟨wi.heap.size, 5, none⟩ = some (.int .i64 m.2.2.2.2.2) ∧ WN.cell? ⟨w.heap.size + 1 + 1, 2, none⟩ = some (va) ∧ WN.cell? ⟨pb, 4, none⟩ = some (.slice (some ⟨gt, 0, none⟩) L.length ct) ∧ WN.cell? ⟨gt, i * 3, none⟩ = some (.int .i64 t.1) ∧ WN.cell? ⟨gt, i * 3 + 1, none⟩ = some (.int .i64 t.2.1) ∧ WN.cell? ⟨gt, i * 3 + 2, none⟩ = some (.int .i64 t.2.2) ∧ Below w6.heap.size w6 WN ∧ ∃ g, Hid (x 0 = .slice (some ⟨g, 0, none⟩) 1 1) ∧ WN.heap[g]? = some (.cells #[.int .i64 U.1, .int .i64 U.2.1, .int .i64 U.2.2] 59 (0, 0)) | 2 => PilB WN (w.heap.size + 1 + 1) pb (.slice (some ⟨bX, oX, none⟩) L.length cx) va (.slice (some ⟨w.heap.size, 0, none⟩) L.length L.length) (w.heap.size + 1) ∧ WN.ownsRow w.heap.size 59 3 (x 1) (i + 1) (tcT ((atsL L ms).take (i + 1))) ∧ WN.heap[w.heap.size]? = some (.cells (Array.replicate L.length (.int .i64 0)) 3 (0, 0)) ∧ MapV kPV WN (w.heap.size + 1) 0 (fun _ => none) ∧ Below w.heap.size w WN | _ => PlcS w pb (.slice (some ⟨bX, oX, none⟩) L.length cx) L ms w.heap.size (w.heap.size + 1) (w.heap.size + 1 + 1) (i + 1) (x 1) WN) ?hf (by kernel_rfl) (by kernel_rfl) (fun _ => rfl) (by kernel_rfl) ?hv ⟨z0, z1, z2, z3, z4, z5, p2, c4, t0, t1, t2, (Below.refl _ _).drew⟩ ?hA ?hT (fun x WN hst => ?he)
   case hf => intro x; simp only [putOps, Act.put, List.setIfInBounds_toArray, List.set_cons_succ, List.set_cons_zero]; exact rfl
   case hv =>
    intro x j t v h
    cases j with
    | zero => cases h; rfl
    | succ j =>
     cases j with
     | zero => cases h; rfl
     | succ j =>
      cases j with
      | zero => cases h; rfl
      | succ j =>
       simp at h
   case hA =>
    intro j x WN hj hst
    have hj : j ≤ 3 := hj
    rcases (show j = 0 ∨ j = 1 ∨ j = 2 ∨ j = 3 by omega) with rfl | rfl | rfl | rfl
    ·have HST := Lib.hid hst
     obtain ⟨q0, q1, q2, q3, q4, q5, q6, q7, q8, q9, q10, hbl⟩ := hst
     iterate 16 refine ⟨?_, fun K hK => ?_⟩
     ·trivial
     all_goals try (go_simp; exact hK _ HST.out; done)
     ·go_simp
      refine (CM.out WN (hbM.trans (hbl.mono hbM.size))).mono ?_
      rintro e' wc ⟨he, hbc⟩
      subst he
      exact hK _ ⟨sd q0 hbc, sd q1 hbc, sd q2 hbc, sd q3 hbc, sd q4 hbc, sd q5 hbc, sd q6 hbc, sd q7 hbc, sd q8 hbc, sd q9 hbc, sd q10 hbc, stay_b hbl hbc⟩
    ·have HST := Lib.hid hst
     obtain ⟨q0, q1, q2, q3, q4, q5, q6, q7, q8, q9, q10, hbl, g, hx0, hkg⟩ := hst
     iterate 7 refine ⟨?_, fun K hK => ?_⟩
     ·trivial
     all_goals try (go_simp; exact hK _ HST.out; done)
    ·have HST := Lib.hid hst
     obtain ⟨s0, s1, s2, s3, s4⟩ := hst
     iterate 3 refine ⟨?_, fun K hK => ?_⟩
     ·trivial
     all_goals try (go_simp; exact hK _ HST.out; done)
    ·trivial
   case hT =>
    intro j t x WN ht hst o ho K hK
    cases j with
    | zero =>
     cases ht; cases ho
     obtain ⟨q0, q1, q2, q3, q4, q5, q6, q7, q8, q9, q10, hbl⟩ := hst
     go_simp
     exact hK (.slice (some ⟨WN.heap.size, 0, none⟩) 1 1) _ ⟨al_c q0 (.cells #[.int .i64 U.1, .int .i64 U.2.1, .int .i64 U.2.2] 59), al_c q1 (.cells #[.int .i64 U.1, .int .i64 U.2.1, .int .i64 U.2.2] 59), al_c q2 (.cells #[.int .i64 U.1, .int .i64 U.2.1, .int .i64 U.2.2] 59), al_c q3 (.cells #[.int .i64 U.1, .int .i64 U.2.1, .int .i64 U.2.2] 59), al_c q4 (.cells #[.int .i64 U.1, .int .i64 U.2.1, .int .i64 U.2.2] 59), al_c q5 (.cells #[.int .i64 U.1, .int .i64 U.2.1, .int .i64 U.2.2] 59), al_c q6 (.cells #[.int .i64 U.1, .int .i64 U.2.1, .int .i64 U.2.2] 59), al_c q7 (.cells #[.int .i64 U.1, .int .i64 U.2.1, .int .i64 U.2.2] 59), al_c q8 (.cells #[.int .i64 U.1, .int .i64 U.2.1, .int .i64 U.2.2] 59), al_c q9 (.cells #[.int .i64 U.1, .int .i64 U.2.1, .int .i64 U.2.2] 59), al_c q10 (.cells #[.int .i64 U.1, .int .i64 U.2.1, .int .i64 U.2.2] 59), hbl.alloc hbl.size (.cells #[.int .i64 U.1, .int .i64 U.2.1, .int .i64 U.2.2] 59), WN.heap.size, Lib.hid rfl, heap_alloc_new WN (.cells #[.int .i64 U.1, .int .i64 U.2.1, .int .i64 U.2.2] 59)⟩
    | succ j =>
     cases j with
     | zero =>
      cases ht; cases ho
      obtain ⟨q0, q1, q2, q3, q4, q5, q6, q7, q8, q9, q10, hbl, g, hx0, hkg⟩ := hst
      have hS7 := HS6.out.below hbl
      have hne := hS7.ne
      refine step_app Tryz.underlying60 tri_info rfl (by decide) (by decide) rfl _ _ rfl w.heap.size va i (tcT ((atsL L ms).take i)) [.int .i64 U.1, .int .i64 U.2.1, .int .i64 U.2.2] rfl hS7.own hS7.bel.size 1 g hx0.out hkg rfl (tri_one _ _ _) (by omega) (fun vv ww h1 h2 h3 => hK vv ww ?_)
      rw [← tcT_one, ← tcT_app, show (U.1, U.2.1, U.2.2) = U from rfl, ← HTK.out] at h1
      exact ⟨(h3.grown.block _ (blk_lt hS7.pil) (fun e => hne.1 e.symm)).trans hS7.pil, h1, (h3.grown.block _ (blk_lt hS7.lev) (fun e => hne.2.1 e.symm)).trans hS7.lev, hS7.map.grown h3.grown (fun e => hne.2.2 e.symm), hS7.bel.trans (h2.mono (Nat.le_refl _))⟩
     | succ j =>
      cases j with
      | zero =>
       cases ht; cases ho
       obtain ⟨s0, s1, s2, s3, s4⟩ := hst
       have fz := s0.fz
       have hlt := blk_lt s0
       have hc2 := s0.c2
       obtain ⟨A1, c1, hv1, _⟩ := own_slice s1
       rw [hv1] at hK
       go_simp
       refine hK undef _ ?_
       show PlcS w pb (.slice (some ⟨bX, oX, none⟩) L.length cx) L ms w.heap.size (w.heap.size + 1) (w.heap.size + 1 + 1) (i + 1) (x 1) _
       rw [hv1] at s1 ⊢
       refine ⟨s0.setA _, own_set s1 (fun k hk e => own_not s1 s0 (by decide) (by rw [hk, e])) 2 _, blk_far s2 (by simp; omega) _, ?_, s4.setCell (by simp only []; omega) _, HS6.out.ge⟩
       exact s3.heap (Below.heap_setCell _ _ _ _ (by simp))
      | succ j =>
       simp at ht
   case he =>
    have hfin := hst
    have HF := Lib.hid hfin
    clear hfin
    go_wp2
    go_roundw
    case rel => exact ⟨i + 1, _, by omega, by go_num, HF⟩
    case measure => simp [intOf]; omega
  ·obtain rfl : i = L.length := by omega
   go_wp2
   go_ret
   exact ⟨_, _, _, _, rfl, hS.out⟩
end
end Go.Proofs.YtbnkabmnenginaaGreatDoor
