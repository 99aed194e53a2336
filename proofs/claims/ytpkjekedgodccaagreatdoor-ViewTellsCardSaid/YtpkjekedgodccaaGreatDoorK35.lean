/- view.Draw. -/
import Derived.Test.YtpkjekedgodccaaGreatDoorK32
import Derived.Test.YtpkjekedgodccaaGreatDoorK34
namespace Go.Proofs.YtpkjekedgodccaaGreatDoor
set_option linter.unusedSimpArgs false
set_option linter.unusedVariables false
section
open Go.RowKit Go.Maps
set_option maxRecDepth 100000 in
set_option maxHeartbeats 12800000 in
theorem draw_any (A : Option Addr) (n c : Nat) (l : List Sn) (w : World) (hr : Rd w 7 A n (sns l)) (hn : n = l.length) (h0 : 0 < l.length) (hl : l.length ≤ 1000) (hP : PlcD l) (hb : ∀ s ∈ l, (-1000000 ≤ s.1.1 ∧ s.1.1 ≤ 1000000) ∧ (-1000000 ≤ s.1.2.1 ∧ s.1.2.1 ≤ 1000000)) :
  Calls Tryz.prog 15 #[.slice A n c] w fun e w' => e = .returned (.string ⟨(picT l (loX l l.length) (hiY l l.length) (hiX l l.length - loX l l.length + 1).toNat (hiY l l.length - loY l l.length + 1).toNat).toArray⟩) ∧ Below w.heap.size w w' := by
 obtain ⟨RES, hRES⟩ : ∃ r, r = picT l (loX l l.length) (hiY l l.length) (hiX l l.length - loX l l.length + 1).toNat (hiY l l.length - loY l l.length + 1).toNat := ⟨_, rfl⟩
 rw [← hRES]
 have HRES := Lib.hid hRES
 clear hRES
 obtain ⟨bR, oR, hA, hbR, r0, r1, r2, r3, r4, r5, r6⟩ := Rd.sn hr (i := 0) (s := l[0]) (List.getElem?_eq_getElem h0) hn
 subst hA hn
 obtain ⟨q, hq⟩ : ∃ q, q = l[0] := ⟨_, rfl⟩
 rw [← hq] at r0 r1 r2 r3 r4 r5 r6
 have hb1 := below_new w (.map #[] 0)
 have hmm := MapV.made kSH w
 rw [Nat.zero_mul, Nat.add_zero] at r0 r1 r2 r3 r4 r5 r6
 replace r0 := sd r0 hb1
 replace r1 := sd r1 hb1
 have HB1 := Lib.hid hb1
 have HMM := Lib.hid hmm
 have HR := Lib.hid hr
 have HP := Lib.hid hP
 have HB := Lib.hid hb
 have HQ := Lib.hid hq
 have hln : (0 : Int) < (l.length : Int) := by omega
 have hmk := @run_makeMap Tryz.prog
 clear r2 r3 r4 r5 r6 hb1 hmm hr hP hb hq
 go_enter Tryz.func15, Tryz.ntmps15
 go_wp2_with fail
 clear hmk
 generalize w.alloc (.map #[] 0) = w1 at r0 r1 HB1 HMM ⊢
 have hmb := HMM.out.lt
 refine wp_region_inv (fun Lq aq w2 => ∃ (s : Nat → Value) (b : Nat → Nat), aq = { tmps := #[.slice (some ⟨bR, oR, none⟩) l.length c, undef, .string ⟨#[]⟩, .map (some w.heap.size), (s 22), (s 23), undef, undef, undef, undef, undef, undef, undef, undef, .map (some w.heap.size), (s 0), (s 1), (s 2), (s 3), (s 4), (s 5), (s 6), (s 7), (s 8), (s 9), (s 10), (s 11), (s 12), (s 13), (s 14), (s 15), (s 16), (s 17), (s 18), (s 19), (s 20), (s 21), undef, undef, undef, undef, undef, undef, undef, undef, undef, undef, undef, undef, undef, undef, undef, undef, undef, undef, undef, undef, undef, undef, undef, undef, undef, undef, undef, undef, undef, undef, undef, undef, undef, undef, undef, undef, undef, undef, undef, undef, undef, undef, undef, undef, undef, undef, undef, undef, undef, undef, undef, undef, undef, undef, undef, undef, undef, undef, undef, undef, undef, undef, undef, undef, undef, undef, undef, undef, undef, undef, undef, undef, undef, undef, undef, undef, undef, undef, undef, undef, undef, undef, undef, undef, undef, undef, undef, undef, undef, undef], defers := [] } ∧ RI 26 w1.heap.size w1 [some (.slice (some ⟨bR, oR, none⟩) l.length c), some (.pointer (some ⟨bR, oR, none⟩)), some (.pointer (some ⟨bR, oR, none⟩)), some (.pointer (some ⟨bR, oR, none⟩)), some (.int .i64 q.1.1), some (.slice (some ⟨bR, oR, none⟩) l.length c), some (.pointer (some ⟨bR, oR, none⟩)), some (.pointer (some ⟨bR, oR, none⟩)), some (.pointer (some ⟨bR, oR + 1, none⟩)), some (.int .i64 q.1.2.1), some (.agg #[.int .i64 q.1.1, .int .i64 q.1.2.1]), some (.slice (some ⟨bR, oR, none⟩) l.length c), some (.pointer (some ⟨bR, oR, none⟩)), some (.pointer (some ⟨bR, oR, none⟩)), some (.pointer (some ⟨bR, oR, none⟩)), some (.int .i64 q.1.1), some (.slice (some ⟨bR, oR, none⟩) l.length c), some (.pointer (some ⟨bR, oR, none⟩)), some (.pointer (some ⟨bR, oR, none⟩)), some (.pointer (some ⟨bR, oR + 1, none⟩)), some (.int .i64 q.1.2.1), some (.agg #[.int .i64 q.1.1, .int .i64 q.1.2.1]), none, none, none, none] [none, none, none, none, none, none, none, none, none, none, none, none, none, none, none, none, none, none, none, none, none, none, none, none, none, none] [{ al := 22, st := 24, d := 10, z := (.cells #[.int .i64 0, .int .i64 0] 83 (0, 0)), f := fun _ => (.cells #[.int .i64 (q.1.1), .int .i64 (q.1.2.1)] 83 (0, 0)) }, { al := 23, st := 25, d := 21, z := (.cells #[.int .i64 0, .int .i64 0] 83 (0, 0)), f := fun _ => (.cells #[.int .i64 (q.1.1), .int .i64 (q.1.2.1)] 83 (0, 0)) }] Lq s b w2) (by kernel_rfl) ?_ ?_ ?_
 ·exact ⟨listF [undef, undef, undef, undef, undef, undef, undef, undef, undef, undef, undef, undef, undef, undef, undef, undef, undef, undef, undef, undef, undef, undef, undef, undef, undef, undef], listN [], rfl, ri_start (Nat.le_refl _) (Nat.le_refl 26) (Nat.le_refl 26) rfl⟩
 ·intro Lq aq w2 i hI hr
  obtain ⟨s, b, rfl, hv⟩ := hI
  have hi : i < 26 := ready_lt hr
  have HV := Lib.hid hv
  clear hv
  have hc : i = 0 ∨ i = 1 ∨ i = 2 ∨ i = 3 ∨ i = 4 ∨ i = 5 ∨ i = 6 ∨ i = 7 ∨ i = 8 ∨ i = 9 ∨ i = 10 ∨ i = 11 ∨ i = 12 ∨ i = 13 ∨ i = 14 ∨ i = 15 ∨ i = 16 ∨ i = 17 ∨ i = 18 ∨ i = 19 ∨ i = 20 ∨ i = 21 ∨ i = 22 ∨ i = 23 ∨ i = 24 ∨ i = 25 := by omega
  clear hi
  rcases hc with rfl | rfl | rfl | rfl | rfl | rfl | rfl | rfl | rfl | rfl | rfl | rfl | rfl | rfl | rfl | rfl | rfl | rfl | rfl | rfl | rfl | rfl | rfl | rfl | rfl | rfl
  ·have hno := isOn_no (n := 26) (by decide) (mem_ready.1 hr).1
   clear hr
   refine wpOp_step rfl (fun K hK => ?_)
   go_simp
   refine hK _ _ ?_
   exact ⟨upd s 0 (.slice (some ⟨bR, oR, none⟩) l.length c), b, rfl, RI.putV HV.out hno rfl rfl rfl⟩
  ·have hno := isOn_no (n := 26) (by decide) (mem_ready.1 hr).1
   have d0 := ready_dep hr (k := 0) (by kernel_rfl)
   clear hr
   have e0 : s 0 = (.slice (some ⟨bR, oR, none⟩) l.length c) := HV.out.v d0 rfl
   refine wpOp_step rfl (fun K hK => ?_)
   go_simp
   refine hK _ _ ?_
   exact ⟨upd (upd s 0 (.slice (some ⟨bR, oR, none⟩) l.length c)) 1 (.pointer (some ⟨bR, oR, none⟩)), b, rfl, RI.putV (RI.re (j := 0) (v := (.slice (some ⟨bR, oR, none⟩) l.length c)) HV.out e0) hno rfl rfl rfl⟩
  ·have hno := isOn_no (n := 26) (by decide) (mem_ready.1 hr).1
   have d1 := ready_dep hr (k := 1) (by kernel_rfl)
   clear hr
   have e1 : s 1 = (.pointer (some ⟨bR, oR, none⟩)) := HV.out.v d1 rfl
   refine wpOp_step rfl (fun K hK => ?_)
   go_simp
   refine hK _ _ ?_
   exact ⟨upd (upd s 1 (.pointer (some ⟨bR, oR, none⟩))) 2 (.pointer (some ⟨bR, oR, none⟩)), b, rfl, RI.putV (RI.re (j := 1) (v := (.pointer (some ⟨bR, oR, none⟩))) HV.out e1) hno rfl rfl rfl⟩
  ·have hno := isOn_no (n := 26) (by decide) (mem_ready.1 hr).1
   have d2 := ready_dep hr (k := 2) (by kernel_rfl)
   clear hr
   have e2 : s 2 = (.pointer (some ⟨bR, oR, none⟩)) := HV.out.v d2 rfl
   refine wpOp_step rfl (fun K hK => ?_)
   go_simp
   refine hK _ _ ?_
   exact ⟨upd (upd s 2 (.pointer (some ⟨bR, oR, none⟩))) 3 (.pointer (some ⟨bR, oR, none⟩)), b, rfl, RI.putV (RI.re (j := 2) (v := (.pointer (some ⟨bR, oR, none⟩))) HV.out e2) hno rfl rfl rfl⟩
  ·have hno := isOn_no (n := 26) (by decide) (mem_ready.1 hr).1
   have d3 := ready_dep hr (k := 3) (by kernel_rfl)
   clear hr
   have e3 : s 3 = (.pointer (some ⟨bR, oR, none⟩)) := HV.out.v d3 rfl
   have y0 := sd r0 HV.out.bel
   refine wpOp_step rfl (fun K hK => ?_)
   go_simp
   refine hK _ _ ?_
   exact ⟨upd (upd s 3 (.pointer (some ⟨bR, oR, none⟩))) 4 (.int .i64 q.1.1), b, rfl, RI.putV (RI.re (j := 3) (v := (.pointer (some ⟨bR, oR, none⟩))) HV.out e3) hno rfl rfl rfl⟩
  ·have hno := isOn_no (n := 26) (by decide) (mem_ready.1 hr).1
   clear hr
   refine wpOp_step rfl (fun K hK => ?_)
   go_simp
   refine hK _ _ ?_
   exact ⟨upd s 5 (.slice (some ⟨bR, oR, none⟩) l.length c), b, rfl, RI.putV HV.out hno rfl rfl rfl⟩
  ·have hno := isOn_no (n := 26) (by decide) (mem_ready.1 hr).1
   have d5 := ready_dep hr (k := 5) (by kernel_rfl)
   clear hr
   have e5 : s 5 = (.slice (some ⟨bR, oR, none⟩) l.length c) := HV.out.v d5 rfl
   refine wpOp_step rfl (fun K hK => ?_)
   go_simp
   refine hK _ _ ?_
   exact ⟨upd (upd s 5 (.slice (some ⟨bR, oR, none⟩) l.length c)) 6 (.pointer (some ⟨bR, oR, none⟩)), b, rfl, RI.putV (RI.re (j := 5) (v := (.slice (some ⟨bR, oR, none⟩) l.length c)) HV.out e5) hno rfl rfl rfl⟩
  ·have hno := isOn_no (n := 26) (by decide) (mem_ready.1 hr).1
   have d6 := ready_dep hr (k := 6) (by kernel_rfl)
   clear hr
   have e6 : s 6 = (.pointer (some ⟨bR, oR, none⟩)) := HV.out.v d6 rfl
   refine wpOp_step rfl (fun K hK => ?_)
   go_simp
   refine hK _ _ ?_
   exact ⟨upd (upd s 6 (.pointer (some ⟨bR, oR, none⟩))) 7 (.pointer (some ⟨bR, oR, none⟩)), b, rfl, RI.putV (RI.re (j := 6) (v := (.pointer (some ⟨bR, oR, none⟩))) HV.out e6) hno rfl rfl rfl⟩
  ·have hno := isOn_no (n := 26) (by decide) (mem_ready.1 hr).1
   have d7 := ready_dep hr (k := 7) (by kernel_rfl)
   clear hr
   have e7 : s 7 = (.pointer (some ⟨bR, oR, none⟩)) := HV.out.v d7 rfl
   refine wpOp_step rfl (fun K hK => ?_)
   go_simp
   refine hK _ _ ?_
   exact ⟨upd (upd s 7 (.pointer (some ⟨bR, oR, none⟩))) 8 (.pointer (some ⟨bR, oR + 1, none⟩)), b, rfl, RI.putV (RI.re (j := 7) (v := (.pointer (some ⟨bR, oR, none⟩))) HV.out e7) hno rfl rfl rfl⟩
  ·have hno := isOn_no (n := 26) (by decide) (mem_ready.1 hr).1
   have d8 := ready_dep hr (k := 8) (by kernel_rfl)
   clear hr
   have e8 : s 8 = (.pointer (some ⟨bR, oR + 1, none⟩)) := HV.out.v d8 rfl
   have y0 := sd r1 HV.out.bel
   refine wpOp_step rfl (fun K hK => ?_)
   go_simp
   refine hK _ _ ?_
   exact ⟨upd (upd s 8 (.pointer (some ⟨bR, oR + 1, none⟩))) 9 (.int .i64 q.1.2.1), b, rfl, RI.putV (RI.re (j := 8) (v := (.pointer (some ⟨bR, oR + 1, none⟩))) HV.out e8) hno rfl rfl rfl⟩
  ·have hno := isOn_no (n := 26) (by decide) (mem_ready.1 hr).1
   have d4 := ready_dep hr (k := 4) (by kernel_rfl)
   have d9 := ready_dep hr (k := 9) (by kernel_rfl)
   clear hr
   have e4 : s 4 = (.int .i64 q.1.1) := HV.out.v d4 rfl
   have e9 : s 9 = (.int .i64 q.1.2.1) := HV.out.v d9 rfl
   refine wpOp_step rfl (fun K hK => ?_)
   go_simp
   refine hK _ _ ?_
   exact ⟨upd (upd (upd s 4 (.int .i64 q.1.1)) 9 (.int .i64 q.1.2.1)) 10 (.agg #[.int .i64 q.1.1, .int .i64 q.1.2.1]), b, rfl, RI.putV (RI.re (j := 9) (v := (.int .i64 q.1.2.1)) (RI.re (j := 4) (v := (.int .i64 q.1.1)) HV.out e4) e9) hno rfl rfl rfl⟩
  ·have hno := isOn_no (n := 26) (by decide) (mem_ready.1 hr).1
   clear hr
   refine wpOp_step rfl (fun K hK => ?_)
   go_simp
   refine hK _ _ ?_
   exact ⟨upd s 11 (.slice (some ⟨bR, oR, none⟩) l.length c), b, rfl, RI.putV HV.out hno rfl rfl rfl⟩
  ·have hno := isOn_no (n := 26) (by decide) (mem_ready.1 hr).1
   have d11 := ready_dep hr (k := 11) (by kernel_rfl)
   clear hr
   have e11 : s 11 = (.slice (some ⟨bR, oR, none⟩) l.length c) := HV.out.v d11 rfl
   refine wpOp_step rfl (fun K hK => ?_)
   go_simp
   refine hK _ _ ?_
   exact ⟨upd (upd s 11 (.slice (some ⟨bR, oR, none⟩) l.length c)) 12 (.pointer (some ⟨bR, oR, none⟩)), b, rfl, RI.putV (RI.re (j := 11) (v := (.slice (some ⟨bR, oR, none⟩) l.length c)) HV.out e11) hno rfl rfl rfl⟩
  ·have hno := isOn_no (n := 26) (by decide) (mem_ready.1 hr).1
   have d12 := ready_dep hr (k := 12) (by kernel_rfl)
   clear hr
   have e12 : s 12 = (.pointer (some ⟨bR, oR, none⟩)) := HV.out.v d12 rfl
   refine wpOp_step rfl (fun K hK => ?_)
   go_simp
   refine hK _ _ ?_
   exact ⟨upd (upd s 12 (.pointer (some ⟨bR, oR, none⟩))) 13 (.pointer (some ⟨bR, oR, none⟩)), b, rfl, RI.putV (RI.re (j := 12) (v := (.pointer (some ⟨bR, oR, none⟩))) HV.out e12) hno rfl rfl rfl⟩
  ·have hno := isOn_no (n := 26) (by decide) (mem_ready.1 hr).1
   have d13 := ready_dep hr (k := 13) (by kernel_rfl)
   clear hr
   have e13 : s 13 = (.pointer (some ⟨bR, oR, none⟩)) := HV.out.v d13 rfl
   refine wpOp_step rfl (fun K hK => ?_)
   go_simp
   refine hK _ _ ?_
   exact ⟨upd (upd s 13 (.pointer (some ⟨bR, oR, none⟩))) 14 (.pointer (some ⟨bR, oR, none⟩)), b, rfl, RI.putV (RI.re (j := 13) (v := (.pointer (some ⟨bR, oR, none⟩))) HV.out e13) hno rfl rfl rfl⟩
  ·have hno := isOn_no (n := 26) (by decide) (mem_ready.1 hr).1
   have d14 := ready_dep hr (k := 14) (by kernel_rfl)
   clear hr
   have e14 : s 14 = (.pointer (some ⟨bR, oR, none⟩)) := HV.out.v d14 rfl
   have y0 := sd r0 HV.out.bel
   refine wpOp_step rfl (fun K hK => ?_)
   go_simp
   refine hK _ _ ?_
   exact ⟨upd (upd s 14 (.pointer (some ⟨bR, oR, none⟩))) 15 (.int .i64 q.1.1), b, rfl, RI.putV (RI.re (j := 14) (v := (.pointer (some ⟨bR, oR, none⟩))) HV.out e14) hno rfl rfl rfl⟩
  ·have hno := isOn_no (n := 26) (by decide) (mem_ready.1 hr).1
   clear hr
   refine wpOp_step rfl (fun K hK => ?_)
   go_simp
   refine hK _ _ ?_
   exact ⟨upd s 16 (.slice (some ⟨bR, oR, none⟩) l.length c), b, rfl, RI.putV HV.out hno rfl rfl rfl⟩
  ·have hno := isOn_no (n := 26) (by decide) (mem_ready.1 hr).1
   have d16 := ready_dep hr (k := 16) (by kernel_rfl)
   clear hr
   have e16 : s 16 = (.slice (some ⟨bR, oR, none⟩) l.length c) := HV.out.v d16 rfl
   refine wpOp_step rfl (fun K hK => ?_)
   go_simp
   refine hK _ _ ?_
   exact ⟨upd (upd s 16 (.slice (some ⟨bR, oR, none⟩) l.length c)) 17 (.pointer (some ⟨bR, oR, none⟩)), b, rfl, RI.putV (RI.re (j := 16) (v := (.slice (some ⟨bR, oR, none⟩) l.length c)) HV.out e16) hno rfl rfl rfl⟩
  ·have hno := isOn_no (n := 26) (by decide) (mem_ready.1 hr).1
   have d17 := ready_dep hr (k := 17) (by kernel_rfl)
   clear hr
   have e17 : s 17 = (.pointer (some ⟨bR, oR, none⟩)) := HV.out.v d17 rfl
   refine wpOp_step rfl (fun K hK => ?_)
   go_simp
   refine hK _ _ ?_
   exact ⟨upd (upd s 17 (.pointer (some ⟨bR, oR, none⟩))) 18 (.pointer (some ⟨bR, oR, none⟩)), b, rfl, RI.putV (RI.re (j := 17) (v := (.pointer (some ⟨bR, oR, none⟩))) HV.out e17) hno rfl rfl rfl⟩
  ·have hno := isOn_no (n := 26) (by decide) (mem_ready.1 hr).1
   have d18 := ready_dep hr (k := 18) (by kernel_rfl)
   clear hr
   have e18 : s 18 = (.pointer (some ⟨bR, oR, none⟩)) := HV.out.v d18 rfl
   refine wpOp_step rfl (fun K hK => ?_)
   go_simp
   refine hK _ _ ?_
   exact ⟨upd (upd s 18 (.pointer (some ⟨bR, oR, none⟩))) 19 (.pointer (some ⟨bR, oR + 1, none⟩)), b, rfl, RI.putV (RI.re (j := 18) (v := (.pointer (some ⟨bR, oR, none⟩))) HV.out e18) hno rfl rfl rfl⟩
  ·have hno := isOn_no (n := 26) (by decide) (mem_ready.1 hr).1
   have d19 := ready_dep hr (k := 19) (by kernel_rfl)
   clear hr
   have e19 : s 19 = (.pointer (some ⟨bR, oR + 1, none⟩)) := HV.out.v d19 rfl
   have y0 := sd r1 HV.out.bel
   refine wpOp_step rfl (fun K hK => ?_)
   go_simp
   refine hK _ _ ?_
   exact ⟨upd (upd s 19 (.pointer (some ⟨bR, oR + 1, none⟩))) 20 (.int .i64 q.1.2.1), b, rfl, RI.putV (RI.re (j := 19) (v := (.pointer (some ⟨bR, oR + 1, none⟩))) HV.out e19) hno rfl rfl rfl⟩
  ·have hno := isOn_no (n := 26) (by decide) (mem_ready.1 hr).1
   have d15 := ready_dep hr (k := 15) (by kernel_rfl)
   have d20 := ready_dep hr (k := 20) (by kernel_rfl)
   clear hr
   have e15 : s 15 = (.int .i64 q.1.1) := HV.out.v d15 rfl
   have e20 : s 20 = (.int .i64 q.1.2.1) := HV.out.v d20 rfl
   refine wpOp_step rfl (fun K hK => ?_)
   go_simp
   refine hK _ _ ?_
   exact ⟨upd (upd (upd s 15 (.int .i64 q.1.1)) 20 (.int .i64 q.1.2.1)) 21 (.agg #[.int .i64 q.1.1, .int .i64 q.1.2.1]), b, rfl, RI.putV (RI.re (j := 20) (v := (.int .i64 q.1.2.1)) (RI.re (j := 15) (v := (.int .i64 q.1.1)) HV.out e15) e20) hno rfl rfl rfl⟩
  ·have hno := isOn_no (n := 26) (by decide) (mem_ready.1 hr).1
   clear hr
   refine wpOp_step rfl (fun K hK => ?_)
   go_simp
   refine hK _ _ ?_
   exact ⟨upd s 22 _, updN b 22 _, rfl, RI.new HV.out hno rfl (by simp only [List.mem_cons, List.not_mem_nil, or_false]; rintro q (rfl | rfl) h <;> first | rfl | (simp at h)) rfl rfl⟩
  ·have hno := isOn_no (n := 26) (by decide) (mem_ready.1 hr).1
   clear hr
   refine wpOp_step rfl (fun K hK => ?_)
   go_simp
   refine hK _ _ ?_
   exact ⟨upd s 23 _, updN b 23 _, rfl, RI.new HV.out hno rfl (by simp only [List.mem_cons, List.not_mem_nil, or_false]; rintro q (rfl | rfl) h <;> first | rfl | (simp at h)) rfl rfl⟩
  ·have hno := isOn_no (n := 26) (by decide) (mem_ready.1 hr).1
   have d22 := ready_dep hr (k := 22) (by kernel_rfl)
   have d10 := ready_dep hr (k := 10) (by kernel_rfl)
   clear hr
   have e22 : s 22 = .pointer (some ⟨b 22, 0, none⟩) := (HV.out.bx (.head _) (isOn_of d22)).1
   have e10 : s 10 = (.agg #[.int .i64 q.1.1, .int .i64 q.1.2.1]) := HV.out.v d10 rfl
   have kz : w2.heap[b 22]? = some (.cells #[.int .i64 0, .int .i64 0] 83 (0, 0)) := HV.out.fresh (.head _) (isOn_of d22) hno
   have z0 := cell_of_blk kz 0
   have z1 := cell_of_blk kz 1
   simp only [List.getElem?_toArray, List.getElem?_cons_zero, List.getElem?_cons_succ] at z0 z1
   have zf := frozen_of_blk kz
   have zl := blk_lt kz
   have zB := (HV.out.bx (.head _) (isOn_of d22)).2
   refine wpOp_step rfl (fun K hK => ?_)
   go_simp
   refine hK _ _ ?_
   have hset := RI.set (w' := setsW w2 (b 22) 0 [.int .i64 (q.1.1), .int .i64 (q.1.2.1)]) (i := 24) (v := undef) (RI.re (j := 10) (v := (.agg #[.int .i64 q.1.1, .int .i64 q.1.2.1])) (RI.re (j := 22) (v := (.pointer (some ⟨b 22, 0, none⟩))) HV.out e22) e10) (.head _) hno rfl (isOn_of d22) (isOn_of d10) rfl (by simp only [List.mem_cons, List.not_mem_nil, or_false]; rintro q (rfl | rfl) h <;> first | rfl | (simp at h)) rfl rfl (HV.out.bel.trans (setsW_below zB _ _)) (setsW_size _ _ _ _) (fun k hk => setsW_far hk _ _) (setsW_blk kz rfl)
   exact ⟨_, b, rfl, hset⟩
  ·have hno := isOn_no (n := 26) (by decide) (mem_ready.1 hr).1
   have d23 := ready_dep hr (k := 23) (by kernel_rfl)
   have d21 := ready_dep hr (k := 21) (by kernel_rfl)
   clear hr
   have e23 : s 23 = .pointer (some ⟨b 23, 0, none⟩) := (HV.out.bx (.tail _ (.head _)) (isOn_of d23)).1
   have e21 : s 21 = (.agg #[.int .i64 q.1.1, .int .i64 q.1.2.1]) := HV.out.v d21 rfl
   have kz : w2.heap[b 23]? = some (.cells #[.int .i64 0, .int .i64 0] 83 (0, 0)) := HV.out.fresh (.tail _ (.head _)) (isOn_of d23) hno
   have z0 := cell_of_blk kz 0
   have z1 := cell_of_blk kz 1
   simp only [List.getElem?_toArray, List.getElem?_cons_zero, List.getElem?_cons_succ] at z0 z1
   have zf := frozen_of_blk kz
   have zl := blk_lt kz
   have zB := (HV.out.bx (.tail _ (.head _)) (isOn_of d23)).2
   refine wpOp_step rfl (fun K hK => ?_)
   go_simp
   refine hK _ _ ?_
   have hset := RI.set (w' := setsW w2 (b 23) 0 [.int .i64 (q.1.1), .int .i64 (q.1.2.1)]) (i := 25) (v := undef) (RI.re (j := 21) (v := (.agg #[.int .i64 q.1.1, .int .i64 q.1.2.1])) (RI.re (j := 23) (v := (.pointer (some ⟨b 23, 0, none⟩))) HV.out e23) e21) (.tail _ (.head _)) hno rfl (isOn_of d23) (isOn_of d21) rfl (by simp only [List.mem_cons, List.not_mem_nil, or_false]; rintro q (rfl | rfl) h <;> first | rfl | (simp at h)) rfl rfl (HV.out.bel.trans (setsW_below zB _ _)) (setsW_size _ _ _ _) (fun k hk => setsW_far hk _ _) (setsW_blk kz rfl)
   exact ⟨_, b, rfl, hset⟩
 ·intro Lq aq w2 hI hrd
  obtain ⟨s, b, ha, hv⟩ := hI
  have hall := all_listedM hrd hv.sz (by kernel_rfl)
  clear hrd
  have e0 : s 0 = (.slice (some ⟨bR, oR, none⟩) l.length c) := hv.v (hall 0 (by decide)) rfl
  have e1 : s 1 = (.pointer (some ⟨bR, oR, none⟩)) := hv.v (hall 1 (by decide)) rfl
  have e2 : s 2 = (.pointer (some ⟨bR, oR, none⟩)) := hv.v (hall 2 (by decide)) rfl
  have e3 : s 3 = (.pointer (some ⟨bR, oR, none⟩)) := hv.v (hall 3 (by decide)) rfl
  have e4 : s 4 = (.int .i64 q.1.1) := hv.v (hall 4 (by decide)) rfl
  have e5 : s 5 = (.slice (some ⟨bR, oR, none⟩) l.length c) := hv.v (hall 5 (by decide)) rfl
  have e6 : s 6 = (.pointer (some ⟨bR, oR, none⟩)) := hv.v (hall 6 (by decide)) rfl
  have e7 : s 7 = (.pointer (some ⟨bR, oR, none⟩)) := hv.v (hall 7 (by decide)) rfl
  have e8 : s 8 = (.pointer (some ⟨bR, oR + 1, none⟩)) := hv.v (hall 8 (by decide)) rfl
  have e9 : s 9 = (.int .i64 q.1.2.1) := hv.v (hall 9 (by decide)) rfl
  have e10 : s 10 = (.agg #[.int .i64 q.1.1, .int .i64 q.1.2.1]) := hv.v (hall 10 (by decide)) rfl
  have e11 : s 11 = (.slice (some ⟨bR, oR, none⟩) l.length c) := hv.v (hall 11 (by decide)) rfl
  have e12 : s 12 = (.pointer (some ⟨bR, oR, none⟩)) := hv.v (hall 12 (by decide)) rfl
  have e13 : s 13 = (.pointer (some ⟨bR, oR, none⟩)) := hv.v (hall 13 (by decide)) rfl
  have e14 : s 14 = (.pointer (some ⟨bR, oR, none⟩)) := hv.v (hall 14 (by decide)) rfl
  have e15 : s 15 = (.int .i64 q.1.1) := hv.v (hall 15 (by decide)) rfl
  have e16 : s 16 = (.slice (some ⟨bR, oR, none⟩) l.length c) := hv.v (hall 16 (by decide)) rfl
  have e17 : s 17 = (.pointer (some ⟨bR, oR, none⟩)) := hv.v (hall 17 (by decide)) rfl
  have e18 : s 18 = (.pointer (some ⟨bR, oR, none⟩)) := hv.v (hall 18 (by decide)) rfl
  have e19 : s 19 = (.pointer (some ⟨bR, oR + 1, none⟩)) := hv.v (hall 19 (by decide)) rfl
  have e20 : s 20 = (.int .i64 q.1.2.1) := hv.v (hall 20 (by decide)) rfl
  have e21 : s 21 = (.agg #[.int .i64 q.1.1, .int .i64 q.1.2.1]) := hv.v (hall 21 (by decide)) rfl
  have e22 : s 22 = .pointer (some ⟨b 22, 0, none⟩) := (hv.bx (.head _) (isOn_of (hall 22 (by decide)))).1
  have e23 : s 23 = .pointer (some ⟨b 23, 0, none⟩) := (hv.bx (.tail _ (.head _)) (isOn_of (hall 23 (by decide)))).1
  simp only [e0, e1, e2, e3, e4, e5, e6, e7, e8, e9, e10, e11, e12, e13, e14, e15, e16, e17, e18, e19, e20, e21, e22, e23] at ha
  subst ha
  have kb0 : w2.heap[b 22]? = some (.cells #[.int .i64 (q.1.1), .int .i64 (q.1.2.1)] 83 (0, 0)) := hv.full (.head _) (isOn_of (hall 22 (by decide))) (isOn_of (hall 24 (by decide)))
  have kb1 : w2.heap[b 23]? = some (.cells #[.int .i64 (q.1.1), .int .i64 (q.1.2.1)] 83 (0, 0)) := hv.full (.tail _ (.head _)) (isOn_of (hall 23 (by decide))) (isOn_of (hall 25 (by decide)))
  have hbl := hv.bel
  have zb0 : w1.heap.size ≤ b 22 := (hv.bx (.head _) (isOn_of (hall 22 (by decide)))).2
  have zb1 : w1.heap.size ≤ b 23 := (hv.bx (.tail _ (.head _)) (isOn_of (hall 23 (by decide)))).2
  have dd01 : b 22 ≠ b 23 := hv.dist _ (.head _) _ (.tail _ (.head _)) (isOn_of (hall 22 (by decide))) (isOn_of (hall 23 (by decide))) (show (22 : Nat) ≠ 23 from by decide)
  clear hall hv e0 e1 e2 e3 e4 e5 e6 e7 e8 e9 e10 e11 e12 e13 e14 e15 e16 e17 e18 e19 e20 e21 e22 e23
  generalize b 22 = g4 at kb0 zb0 dd01 ⊢
  generalize b 23 = g5 at kb1 zb1 dd01 ⊢
  have h00 := lo0 h0
  rw [← HQ.out] at h00
  have hI0 : DrI w w.heap.size g4 g5 l 0 w2 := ⟨by rw [List.take_zero, cellF_nil]; exact HMM.out.stay hbl, by unfold ClB; rw [h00.1, h00.2.1]; exact kb0, by unfold ClB; rw [h00.2.2.1, h00.2.2.2]; exact kb1, HB1.out.trans (hbl.mono HB1.out.size), Nat.le_refl _, by omega, by omega, dd01⟩
  have HI0 := Lib.hid hI0
  have hg4 : w.heap.size < g4 := by omega
  have hg5 : w.heap.size < g5 := by omega
  clear hI0 h00 kb0 kb1 zb0 zb1 r0 r1 HMM HB1 HQ hbl
  go_wp2_with fail
  go_loopw [39] (fun v wr => ∃ i : Nat, i ≤ l.length ∧ v = .int .i64 i ∧ Hid (DrI w w.heap.size g4 g5 l i wr)) (fun v _ => l.length - (intOf v).toNat)
  case atStart => exact ⟨0, by omega, rfl, HI0⟩
  case round =>
   clear HI0
   obtain ⟨i, hi, rfl, hI⟩ := hrel
   obtain ⟨wo, hwo⟩ : ∃ x, x = wr := ⟨_, rfl⟩
   subst hwo
   by_cases hin : i < l.length
   ·skip
    obtain ⟨s, hs⟩ : ∃ s, l[i]? = some s := ⟨_, List.getElem?_eq_getElem hin⟩
    obtain ⟨bR', oR', hA, _, r0, r1, r2, r3, r4, r5, r6⟩ := Rd.sn HR.out hs rfl
    cases hA
    replace r0 := sd r0 hI.out.bel
    replace r1 := sd r1 hI.out.bel
    replace r2 := sd r2 hI.out.bel
    replace r3 := sd r3 hI.out.bel
    replace r4 := sd r4 hI.out.bel
    replace r5 := sd r5 hI.out.bel
    replace r6 := sd r6 hI.out.bel
    have hsl := HB.out s (List.mem_of_getElem? hs)
    have hk := HP.out.2 s (List.mem_of_getElem? hs)
    have HS := Lib.hid hs
    have HSL := Lib.hid hsl
    have HK := Lib.hid hk
    have kS1 := heap_alloc_new wo (.cells #[.int .i64 s.1.1, .int .i64 s.1.2.1, .int .i64 s.1.2.2, .int .i64 s.2.1.1, .int .i64 s.2.1.2.1, .int .i64 s.2.1.2.2, .bool s.2.2] 46)
    have y0 := cell_of_blk kS1 0
    have y1 := cell_of_blk kS1 1
    simp only [List.getElem?_toArray, List.getElem?_cons_zero, List.getElem?_cons_succ] at y0 y1
    have hii : (i : Int) < (l.length : Int) := by omega
    have hi0 : (0 : Int) ≤ (i : Int) := by omega
    have hg4w := blk_lt (show wo.heap[g4]? = _ from hI.out.lo)
    have hg5w := blk_lt (show wo.heap[g5]? = _ from hI.out.hi)
    clear hs hsl hk kS1
    go_upto_region 7 with fail
    have kb1 := blk_alloc (heap_alloc_new wo (.cells #[.int .i64 s.1.1, .int .i64 s.1.2.1, .int .i64 s.1.2.2, .int .i64 s.2.1.1, .int .i64 s.2.1.2.1, .int .i64 s.2.1.2.2, .bool s.2.2] 46)) (.cells #[.int .i64 s.1.1, .int .i64 s.1.2.1] 83)
    have kb2 := heap_alloc_new (wo.alloc (.cells #[.int .i64 s.1.1, .int .i64 s.1.2.1, .int .i64 s.1.2.2, .int .i64 s.2.1.1, .int .i64 s.2.1.2.1, .int .i64 s.2.1.2.2, .bool s.2.2] 46)) (.cells #[.int .i64 s.1.1, .int .i64 s.1.2.1] 83)
    rw [World.size_alloc] at kb2
    have hI1 := hI.out.below (ba (below_new wo (.cells #[.int .i64 s.1.1, .int .i64 s.1.2.1, .int .i64 s.1.2.2, .int .i64 s.2.1.1, .int .i64 s.2.1.2.1, .int .i64 s.2.1.2.2, .bool s.2.2] 46)) (.cells #[.int .i64 s.1.1, .int .i64 s.1.2.1] 83))
    have KB1 := Lib.hid kb1
    have KB2 := Lib.hid kb2
    have HI1 := Lib.hid hI1
    clear kb1 kb2 hI1 hI r0 r1 r2 r3 r4 r5 r6 y0 y1
    generalize (wo.alloc (.cells #[.int .i64 s.1.1, .int .i64 s.1.2.1, .int .i64 s.1.2.2, .int .i64 s.2.1.1, .int .i64 s.2.1.2.1, .int .i64 s.2.1.2.2, .bool s.2.2] 46)).alloc (.cells #[.int .i64 s.1.1, .int .i64 s.1.2.1] 83) = wa at KB1 KB2 HI1 ⊢
    have p0 := HI1.out.lo.c0
    have p1 := HI1.out.lo.c1
    have z0 := cell_of_blk KB2.out 0
    have z1 := cell_of_blk KB2.out 1
    simp only [List.getElem?_toArray, List.getElem?_cons_zero, List.getElem?_cons_succ] at z0 z1
    have zf := HI1.out.lo.fz
    have zl := blk_lt (show wa.heap[g4]? = _ from HI1.out.lo)
    go_upto_region 8 with fail
    have hls := lo_step HS.out
    have hge := HI1.out.ge
    have HL2 : Hid (ClB ((wa.setCell ⟨g4, 0, none⟩ (.int .i64 (min (loX l i) s.1.1))).setCell ⟨g4, 1, none⟩ (.int .i64 (min (loY l i) s.1.2.1))) g4 (loX l (i + 1)) (loY l (i + 1))) := Lib.hid (by rw [hls.1, hls.2.1]; exact HI1.out.lo.set _ _)
    have HH2 : Hid (ClB ((wa.setCell ⟨g4, 0, none⟩ (.int .i64 (min (loX l i) s.1.1))).setCell ⟨g4, 1, none⟩ (.int .i64 (min (loY l i) s.1.2.1))) g5 (hiX l i) (hiY l i)) := Lib.hid (HI1.out.hi.far (by omega) _ _)
    have HM2 : Hid (MapV kSH ((wa.setCell ⟨g4, 0, none⟩ (.int .i64 (min (loX l i) s.1.1))).setCell ⟨g4, 1, none⟩ (.int .i64 (min (loY l i) s.1.2.1))) w.heap.size i (cellF (l.take i))) := Lib.hid ((HI1.out.map.far (p := ⟨g4, 0, none⟩) (show w.heap.size ≠ g4 by omega) _).far (p := ⟨g4, 1, none⟩) (show w.heap.size ≠ g4 by omega) _)
    have HB2 : Hid (Below w.heap.size w ((wa.setCell ⟨g4, 0, none⟩ (.int .i64 (min (loX l i) s.1.1))).setCell ⟨g4, 1, none⟩ (.int .i64 (min (loY l i) s.1.2.1)))) := Lib.hid ((HI1.out.bel.setCell (p := ⟨g4, 0, none⟩) (Nat.le_of_lt hg4) _).setCell (p := ⟨g4, 1, none⟩) (Nat.le_of_lt hg4) _)
    have KB3 : Hid (((wa.setCell ⟨g4, 0, none⟩ (.int .i64 (min (loX l i) s.1.1))).setCell ⟨g4, 1, none⟩ (.int .i64 (min (loY l i) s.1.2.1))).heap[wo.heap.size]? = some (.cells #[.int .i64 s.1.1, .int .i64 s.1.2.1, .int .i64 s.1.2.2, .int .i64 s.2.1.1, .int .i64 s.2.1.2.1, .int .i64 s.2.1.2.2, .bool s.2.2] 46 (0, 0))) := Lib.hid (blk_far (blk_far KB1.out (show wo.heap.size ≠ g4 by omega) _) (show wo.heap.size ≠ g4 by omega) _)
    have KB4 : Hid (((wa.setCell ⟨g4, 0, none⟩ (.int .i64 (min (loX l i) s.1.1))).setCell ⟨g4, 1, none⟩ (.int .i64 (min (loY l i) s.1.2.1))).heap[wo.heap.size + 1]? = some (.cells #[.int .i64 s.1.1, .int .i64 s.1.2.1] 83 (0, 0))) := Lib.hid (blk_far (blk_far KB2.out (show wo.heap.size + 1 ≠ g4 by omega) _) (show wo.heap.size + 1 ≠ g4 by omega) _)
    have HLS := Lib.hid hls
    clear hls hge KB1 KB2 HI1 p0 p1 z0 z1 zf zl
    generalize (wa.setCell ⟨g4, 0, none⟩ (.int .i64 (min (loX l i) s.1.1))).setCell ⟨g4, 1, none⟩ (.int .i64 (min (loY l i) s.1.2.1)) = wb at HL2 HH2 HM2 HB2 KB3 KB4 ⊢
    have p0 := HH2.out.c0
    have p1 := HH2.out.c1
    have z0 := cell_of_blk KB4.out 0
    have z1 := cell_of_blk KB4.out 1
    simp only [List.getElem?_toArray, List.getElem?_cons_zero, List.getElem?_cons_succ] at z0 z1
    have zf := HH2.out.fz
    have zl := blk_lt (show wb.heap[g5]? = _ from HH2.out)
    go_upto_region 9 with fail
    have HL5 : Hid (ClB ((wb.setCell ⟨g5, 0, none⟩ (.int .i64 (max (hiX l i) s.1.1))).setCell ⟨g5, 1, none⟩ (.int .i64 (max (hiY l i) s.1.2.1))) g4 (loX l (i + 1)) (loY l (i + 1))) := Lib.hid (HL2.out.far dd01 _ _)
    have HH5 : Hid (ClB ((wb.setCell ⟨g5, 0, none⟩ (.int .i64 (max (hiX l i) s.1.1))).setCell ⟨g5, 1, none⟩ (.int .i64 (max (hiY l i) s.1.2.1))) g5 (hiX l (i + 1)) (hiY l (i + 1))) := Lib.hid (by rw [HLS.out.2.2.1, HLS.out.2.2.2]; exact HH2.out.set _ _)
    have HM5 : Hid (MapV kSH ((wb.setCell ⟨g5, 0, none⟩ (.int .i64 (max (hiX l i) s.1.1))).setCell ⟨g5, 1, none⟩ (.int .i64 (max (hiY l i) s.1.2.1))) w.heap.size i (cellF (l.take i))) := Lib.hid ((HM2.out.far (p := ⟨g5, 0, none⟩) (show w.heap.size ≠ g5 by omega) _).far (p := ⟨g5, 1, none⟩) (show w.heap.size ≠ g5 by omega) _)
    have HB5 : Hid (Below w.heap.size w ((wb.setCell ⟨g5, 0, none⟩ (.int .i64 (max (hiX l i) s.1.1))).setCell ⟨g5, 1, none⟩ (.int .i64 (max (hiY l i) s.1.2.1)))) := Lib.hid ((HB2.out.setCell (p := ⟨g5, 0, none⟩) (Nat.le_of_lt hg5) _).setCell (p := ⟨g5, 1, none⟩) (Nat.le_of_lt hg5) _)
    have KB5 : Hid (((wb.setCell ⟨g5, 0, none⟩ (.int .i64 (max (hiX l i) s.1.1))).setCell ⟨g5, 1, none⟩ (.int .i64 (max (hiY l i) s.1.2.1))).heap[wo.heap.size]? = some (.cells #[.int .i64 s.1.1, .int .i64 s.1.2.1, .int .i64 s.1.2.2, .int .i64 s.2.1.1, .int .i64 s.2.1.2.1, .int .i64 s.2.1.2.2, .bool s.2.2] 46 (0, 0))) := Lib.hid (blk_far (blk_far KB3.out (show wo.heap.size ≠ g5 by omega) _) (show wo.heap.size ≠ g5 by omega) _)
    have KB6 : Hid (((wb.setCell ⟨g5, 0, none⟩ (.int .i64 (max (hiX l i) s.1.1))).setCell ⟨g5, 1, none⟩ (.int .i64 (max (hiY l i) s.1.2.1))).heap[wo.heap.size + 1]? = some (.cells #[.int .i64 s.1.1, .int .i64 s.1.2.1] 83 (0, 0))) := Lib.hid (blk_far (blk_far KB4.out (show wo.heap.size + 1 ≠ g5 by omega) _) (show wo.heap.size + 1 ≠ g5 by omega) _)
    clear HL2 HH2 HM2 HB2 KB3 KB4 p0 p1 z0 z1 zf zl
    generalize (wb.setCell ⟨g5, 0, none⟩ (.int .i64 (max (hiX l i) s.1.1))).setCell ⟨g5, 1, none⟩ (.int .i64 (max (hiY l i) s.1.2.1)) = wc at HL5 HH5 HM5 HB5 KB5 KB6 ⊢
    have z0 := cell_of_blk KB6.out 0
    have z1 := cell_of_blk KB6.out 1
    simp only [List.getElem?_toArray, List.getElem?_cons_zero, List.getElem?_cons_succ] at z0 z1
    have hxr : kSH.ok (s.1.1, s.1.2.1) := by have := HSL.out; constructor <;> (unfold inR; omega)
    obtain ⟨cv, hcv⟩ : ∃ c, c = cov (l.take i) s.1.1 s.1.2.1 := ⟨_, rfl⟩
    obtain ⟨bv, hbv⟩ : ∃ c, c = bak (l.take i) s.1.1 s.1.2.1 := ⟨_, rfl⟩
    have hlk : (Instr.lookup 81 (.map (some w.heap.size)) (.agg #[.int .i64 s.1.1, .int .i64 s.1.2.1]) false).run Tryz.prog wc = .ok (.agg #[.int .i64 cv, .int .i64 bv]) wc := by
     have h1 := HM5.out.look1 hxr
     have h2 : (cellF (l.take i) (s.1.1, s.1.2.1)).getD kSH.z = (cv, bv) := by rw [hcv, hbv]; exact cellF_get _ _ _
     rw [h2] at h1
     exact h1
    have HXR := Lib.hid hxr
    have HCV := Lib.hid (And.intro hcv hbv)
    clear hxr hcv hbv
    go_upto_region 10 with fail
    have h5c : w.heap.size ≤ wc.heap.size := HB5.out.size
    have hwoc : wo.heap.size < wc.heap.size := blk_lt KB5.out
    have hwod : wo.heap.size + 1 < wc.heap.size := blk_lt KB6.out
    have hbd := below_new wc (.cells #[.int .i64 cv, .int .i64 bv] 85)
    have HL6 := Lib.hid (HL5.out.below hbd)
    have HH6 := Lib.hid (HH5.out.below hbd)
    have HM6 := Lib.hid (HM5.out.stay hbd)
    have HB6 := Lib.hid (HB5.out.trans (hbd.mono h5c))
    have KB7 := Lib.hid (blk_below KB5.out hbd (blk_lt KB5.out))
    have KB8 := Lib.hid (blk_below KB6.out hbd (blk_lt KB6.out))
    have K9 := Lib.hid (heap_alloc_new wc (.cells #[.int .i64 cv, .int .i64 bv] 85))
    clear hbd HL5 HH5 HM5 HB5 KB5 KB6 z0 z1 hlk
    generalize wc.alloc (.cells #[.int .i64 cv, .int .i64 bv] 85) = wd at HL6 HH6 HM6 HB6 KB7 KB8 K9 ⊢
    generalize wc.heap.size = g9 at h5c hwoc hwod K9 ⊢
    have e0 := cell_of_blk K9.out 0
    have k2 := cell_of_blk KB7.out 2
    simp only [List.getElem?_toArray, List.getElem?_cons_zero, List.getElem?_cons_succ] at e0 k2
    have SHL := Lib.hid (fun W' : World => shl_run HK.out W')
    have ORC := Lib.hid (or_bits (f := hasK (l.take i) s.1.1 s.1.2.1) HK.out HCV.out.1 (fresh_at HP.out HS.out))
    have k9 := K9.out
    refine rg_chain (fin := ?z1) [8] [7, 6, 1, 5, 0, 4, 3, 2] [true, true, true, true, true, true, true, true, false] [false, false, false, false, false, false, false, false, false] (fun x => [.pointer (some ⟨g9, 0, none⟩), .int .i64 cv, .pointer (some ⟨wo.heap.size, 0, none⟩), .pointer (some ⟨wo.heap.size, 2, none⟩), .int .i64 s.1.2.2, .int .i64 (pw s.1.2.2), .int .i64 (cv + pw s.1.2.2), .pointer (some ⟨g9, 0, none⟩), (x 0)]) (fun j _ WN => match j with | 0 => WN.cell? ⟨g9, 0, none⟩ = some (.int .i64 cv) ∧ WN.cell? ⟨wo.heap.size, 2, none⟩ = some (.int .i64 s.1.2.2) ∧ WN.heap[g9]? = some (.cells #[.int .i64 cv, .int .i64 bv] 85 (0, 0)) ∧ Below wd.heap.size wd WN | _ => ∃ W0 : World, (W0.cell? ⟨g9, 0, none⟩ = some (.int .i64 cv) ∧ W0.cell? ⟨wo.heap.size, 2, none⟩ = some (.int .i64 s.1.2.2) ∧ W0.heap[g9]? = some (.cells #[.int .i64 cv, .int .i64 bv] 85 (0, 0)) ∧ Below wd.heap.size wd W0) ∧ WN = W0.setCell ⟨g9, 0, none⟩ (.int .i64 (cv + pw s.1.2.2))) ?hf (by kernel_rfl) (by kernel_rfl) (fun _ => rfl) (by kernel_rfl) ?hv ⟨e0, k2, k9, (Below.refl _ _).drew⟩ (fun x WN hst => ?hs) ?hB ?hT (fun x WN hst => ?he)
    case hf => intro x; simp only [putOps, Act.put, List.setIfInBounds_toArray, List.set_cons_succ, List.set_cons_zero]; exact rfl
    case hv =>
     intro x j t v h; cases j with
     | zero => cases h; rfl
     | succ j => simp at h
    case hs =>
     have HST := Lib.hid hst
     obtain ⟨e0, k2, k9, hbl⟩ := hst
     iterate 8 refine ⟨?_, fun K hK => ?_⟩
     ·trivial
     all_goals try (go_simp; exact hK _ HST.out; done)
     ·have hq := ORC.out
      go_simp
      exact hK _ HST.out
     ·have hq := SHL.out WN
      go_simp
      exact hK _ HST.out
    case hB => intro j x WN _ _ _; trivial
    case hT =>
     intro j t x WN ht hst o ho K hK
     obtain rfl : j = 0 := by cases j with | zero => rfl | succ j => simp at ht
     cases ht; cases ho
     have HST := Lib.hid hst
     obtain ⟨e0, k2, k9, hbl⟩ := hst
     have zf := frozen_of_blk k9
     have zl := blk_lt k9
     go_simp
     exact hK undef _ ⟨_, HST.out, rfl⟩
    case he =>
     obtain ⟨W0, hst, hWN⟩ := hst
     obtain ⟨e0, k2, k9, hbl⟩ := hst
     have KA6 := KB7
     have KB6 := KB8
     clear KB7 KB8
     have HL7 : Hid (ClB WN g4 (loX l (i + 1)) (loY l (i + 1))) := Lib.hid (by rw [hWN]; exact blk_far ((HL6.out.below hbl)) (show g4 ≠ g9 by omega) _)
     have HH7 : Hid (ClB WN g5 (hiX l (i + 1)) (hiY l (i + 1))) := Lib.hid (by rw [hWN]; exact blk_far ((HH6.out.below hbl)) (show g5 ≠ g9 by omega) _)
     have HM7 : Hid (MapV kSH WN w.heap.size i (cellF (l.take i))) := Lib.hid (by rw [hWN]; exact (HM6.out.stay hbl).far (p := ⟨g9, 0, none⟩) (show w.heap.size ≠ g9 by omega) _)
     have HB7 : Hid (Below w.heap.size w WN) := Lib.hid (by rw [hWN]; exact (stay_b HB6.out hbl).setCell (p := ⟨g9, 0, none⟩) h5c _)
     have KA7 : Hid (WN.heap[wo.heap.size]? = some (.cells #[.int .i64 s.1.1, .int .i64 s.1.2.1, .int .i64 s.1.2.2, .int .i64 s.2.1.1, .int .i64 s.2.1.2.1, .int .i64 s.2.1.2.2, .bool s.2.2] 46 (0, 0))) := Lib.hid (by rw [hWN]; exact blk_far (blk_below KA6.out hbl (blk_lt KA6.out)) (show wo.heap.size ≠ g9 by omega) _)
     have KB7 : Hid (WN.heap[wo.heap.size + 1]? = some (.cells #[.int .i64 s.1.1, .int .i64 s.1.2.1] 83 (0, 0))) := Lib.hid (by rw [hWN]; exact blk_far (blk_below KB6.out hbl (blk_lt KB6.out)) (show wo.heap.size + 1 ≠ g9 by omega) _)
     have K97 : Hid (WN.heap[g9]? = some (.cells #[.int .i64 (cv + pw s.1.2.2), .int .i64 bv] 85 (0, 0))) := Lib.hid (by rw [hWN]; simpa using blk_set k9 0 (.int .i64 (cv + pw s.1.2.2)))
     clear HL6 HH6 HM6 HB6 KA6 KB6 K9 e0 k2 k9 hbl
     obtain ⟨we, hwe⟩ : ∃ y, y = WN := ⟨_, rfl⟩
     subst hwe
     clear hWN
     have k6 := cell_of_blk KA7.out 6
     simp only [List.getElem?_toArray, List.getElem?_cons_zero, List.getElem?_cons_succ] at k6
     obtain ⟨bb, hbb⟩ : ∃ b, b = s.2.2 := ⟨_, rfl⟩
     rw [← hbb] at k6
     have HBBV := Lib.hid hbb
     clear hbb
     go_upto_if 84 with fail
     cases bb with
     | false =>
      go_upto_region 13 with fail
      have z0 := cell_of_blk KB7.out 0
      have z1 := cell_of_blk KB7.out 1
      have e0 := cell_of_blk K97.out 0
      have e1 := cell_of_blk K97.out 1
      simp only [List.getElem?_toArray, List.getElem?_cons_zero, List.getElem?_cons_succ] at z0 z1 e0 e1
      have hcf := cellF_step (l := l.take i) (s := s) HK.out (fresh_at HP.out HS.out)
      rw [← HCV.out.1, ← HCV.out.2, ← HBBV.out] at hcf
      have HCF := Lib.hid hcf
      clear hcf
      go_wp2_with (at_mapUpdate; go_loud (refine wpList_putV (k := kSH) rfl _ _ _ rfl HM7.out rfl (by unfold maxLen; omega) (s.1.1, s.1.2.1) HXR.out (cv + pw s.1.2.2, bv) rfl rfl ?_); intro w8 hm8 hg8; have HM8 := Lib.hid hm8; have HG8 := Lib.hid hg8; clear hm8 hg8)
      have hfin : DrI w w.heap.size g4 g5 l (i + 1) w8 := by
       refine ⟨?_, ?_, ?_, ?_, Nat.le_refl _, by omega, by omega, dd01⟩
       ·have h1 := HM8.out
        have h2 : setV (cellF (l.take i)) (s.1.1, s.1.2.1) (cv + pw s.1.2.2, bv) = cellF (l.take (i + 1)) := by
         rw [List.take_add_one, HS.out, Option.toList_some, HCF.out]
         funext c
         simp [setV]
        rw [h2] at h1
        exact h1
       ·exact (HG8.out.block g4 (blk_lt (show _ = _ from HL7.out)) (by simp; omega)).trans HL7.out
       ·exact (HG8.out.block g5 (blk_lt (show _ = _ from HH7.out)) (by simp; omega)).trans HH7.out
       ·exact HB7.out.grown HG8.out HB7.out.size (fun k hk => by cases hk; exact Nat.le_refl _)
      have HFIN := Lib.hid hfin
      have hwi : IntKind.i64.wrap ((i : Int) + 1) = ((i + 1 : Nat) : Int) := by rw [IntWalk.i64_in _ (by omega)]; omega
      clear hfin HM8 HG8 z0 z1 e0 e1
      try go_wp2
      go_roundw
      case rel => exact ⟨i + 1, by omega, by first | rfl | go_num, HFIN⟩
      case measure => simp [intOf]; omega
     | true =>
      have e1 := cell_of_blk K97.out 1
      have k2 := cell_of_blk KA7.out 2
      simp only [List.getElem?_toArray, List.getElem?_cons_zero, List.getElem?_cons_succ] at e1 k2
      have k9 := K97.out
      have OR2 := Lib.hid (or_bits (f := bakK (l.take i) s.1.1 s.1.2.1) HK.out HCV.out.2 (bak_has (fresh_at HP.out HS.out)))
      go_upto_region 12 with fail
      refine rg_chain (fin := ?z2) [8] [7, 6, 1, 5, 0, 4, 3, 2] [true, true, true, true, true, true, true, true, false] [false, false, false, false, false, false, false, false, false] (fun x => [.pointer (some ⟨g9, 1, none⟩), .int .i64 bv, .pointer (some ⟨wo.heap.size, 0, none⟩), .pointer (some ⟨wo.heap.size, 2, none⟩), .int .i64 s.1.2.2, .int .i64 (pw s.1.2.2), .int .i64 (bv + pw s.1.2.2), .pointer (some ⟨g9, 1, none⟩), (x 0)]) (fun j _ WN => match j with | 0 => WN.cell? ⟨g9, 1, none⟩ = some (.int .i64 bv) ∧ WN.cell? ⟨wo.heap.size, 2, none⟩ = some (.int .i64 s.1.2.2) ∧ WN.heap[g9]? = some (.cells #[.int .i64 (cv + pw s.1.2.2), .int .i64 bv] 85 (0, 0)) ∧ Below we.heap.size we WN | _ => ∃ W0 : World, (W0.cell? ⟨g9, 1, none⟩ = some (.int .i64 bv) ∧ W0.cell? ⟨wo.heap.size, 2, none⟩ = some (.int .i64 s.1.2.2) ∧ W0.heap[g9]? = some (.cells #[.int .i64 (cv + pw s.1.2.2), .int .i64 bv] 85 (0, 0)) ∧ Below we.heap.size we W0) ∧ WN = W0.setCell ⟨g9, 1, none⟩ (.int .i64 (bv + pw s.1.2.2))) ?hf (by kernel_rfl) (by kernel_rfl) (fun _ => rfl) (by kernel_rfl) ?hv ⟨e1, k2, k9, (Below.refl _ _).drew⟩ (fun x WN hst => ?hs) ?hB ?hT (fun x WN hst => ?he)
      case hf => intro x; simp only [putOps, Act.put, List.setIfInBounds_toArray, List.set_cons_succ, List.set_cons_zero]; exact rfl
      case hv =>
       intro x j t v h; cases j with
       | zero => cases h; rfl
       | succ j => simp at h
      case hs =>
       have HST := Lib.hid hst
       obtain ⟨e1, k2, k9, hbl⟩ := hst
       iterate 8 refine ⟨?_, fun K hK => ?_⟩
       ·trivial
       all_goals try (go_simp; exact hK _ HST.out; done)
       ·have hq := OR2.out
        go_simp
        exact hK _ HST.out
       ·have hq := SHL.out WN
        go_simp
        exact hK _ HST.out
      case hB => intro j x WN _ _ _; trivial
      case hT =>
       intro j t x WN ht hst o ho K hK
       obtain rfl : j = 0 := by cases j with | zero => rfl | succ j => simp at ht
       cases ht; cases ho
       have HST := Lib.hid hst
       obtain ⟨e1, k2, k9, hbl⟩ := hst
       have zf := frozen_of_blk k9
       have zl := blk_lt k9
       go_simp
       exact hK undef _ ⟨_, HST.out, rfl⟩
      case he =>
       obtain ⟨W0, hst, hWN⟩ := hst
       obtain ⟨e1, k2, k9, hbl⟩ := hst
       have HL8 : Hid (ClB WN g4 (loX l (i + 1)) (loY l (i + 1))) := Lib.hid (by rw [hWN]; exact blk_far ((HL7.out.below hbl)) (show g4 ≠ g9 by omega) _)
       have HH8 : Hid (ClB WN g5 (hiX l (i + 1)) (hiY l (i + 1))) := Lib.hid (by rw [hWN]; exact blk_far ((HH7.out.below hbl)) (show g5 ≠ g9 by omega) _)
       have HM8 : Hid (MapV kSH WN w.heap.size i (cellF (l.take i))) := Lib.hid (by rw [hWN]; exact (HM7.out.stay hbl).far (p := ⟨g9, 1, none⟩) (show w.heap.size ≠ g9 by omega) _)
       have HB8 : Hid (Below w.heap.size w WN) := Lib.hid (by rw [hWN]; exact (stay_b HB7.out hbl).setCell (p := ⟨g9, 1, none⟩) h5c _)
       have KA8 : Hid (WN.heap[wo.heap.size]? = some (.cells #[.int .i64 s.1.1, .int .i64 s.1.2.1, .int .i64 s.1.2.2, .int .i64 s.2.1.1, .int .i64 s.2.1.2.1, .int .i64 s.2.1.2.2, .bool s.2.2] 46 (0, 0))) := Lib.hid (by rw [hWN]; exact blk_far (blk_below KA7.out hbl (blk_lt KA7.out)) (show wo.heap.size ≠ g9 by omega) _)
       have KB8 : Hid (WN.heap[wo.heap.size + 1]? = some (.cells #[.int .i64 s.1.1, .int .i64 s.1.2.1] 83 (0, 0))) := Lib.hid (by rw [hWN]; exact blk_far (blk_below KB7.out hbl (blk_lt KB7.out)) (show wo.heap.size + 1 ≠ g9 by omega) _)
       have K98 : Hid (WN.heap[g9]? = some (.cells #[.int .i64 (cv + pw s.1.2.2), .int .i64 (bv + pw s.1.2.2)] 85 (0, 0))) := Lib.hid (by rw [hWN]; simpa using blk_set k9 1 (.int .i64 (bv + pw s.1.2.2)))
       clear e1 k2 k9 hbl hWN
       obtain ⟨wf, hwf⟩ : ∃ y, y = WN := ⟨_, rfl⟩
       subst hwf
       go_upto_region 13 with fail
       have z0 := cell_of_blk KB8.out 0
       have z1 := cell_of_blk KB8.out 1
       have e0 := cell_of_blk K98.out 0
       have e1 := cell_of_blk K98.out 1
       simp only [List.getElem?_toArray, List.getElem?_cons_zero, List.getElem?_cons_succ] at z0 z1 e0 e1
       have hcf := cellF_step (l := l.take i) (s := s) HK.out (fresh_at HP.out HS.out)
       rw [← HCV.out.1, ← HCV.out.2, ← HBBV.out] at hcf
       have HCF := Lib.hid hcf
       clear hcf
       go_wp2_with (at_mapUpdate; go_loud (refine wpList_putV (k := kSH) rfl _ _ _ rfl HM8.out rfl (by unfold maxLen; omega) (s.1.1, s.1.2.1) HXR.out (cv + pw s.1.2.2, bv + pw s.1.2.2) rfl rfl ?_); intro w8 hm8 hg8; have HM8 := Lib.hid hm8; have HG8 := Lib.hid hg8; clear hm8 hg8)
       have hfin : DrI w w.heap.size g4 g5 l (i + 1) w8 := by
        refine ⟨?_, ?_, ?_, ?_, Nat.le_refl _, by omega, by omega, dd01⟩
        ·have h1 := HM8.out
         have h2 : setV (cellF (l.take i)) (s.1.1, s.1.2.1) (cv + pw s.1.2.2, bv + pw s.1.2.2) = cellF (l.take (i + 1)) := by
          rw [List.take_add_one, HS.out, Option.toList_some, HCF.out]
          funext c
          simp [setV]
         rw [h2] at h1
         exact h1
        ·exact (HG8.out.block g4 (blk_lt (show _ = _ from HL8.out)) (by simp; omega)).trans HL8.out
        ·exact (HG8.out.block g5 (blk_lt (show _ = _ from HH8.out)) (by simp; omega)).trans HH8.out
        ·exact HB8.out.grown HG8.out HB8.out.size (fun k hk => by cases hk; exact Nat.le_refl _)
       have HFIN := Lib.hid hfin
       have hwi : IntKind.i64.wrap ((i : Int) + 1) = ((i + 1 : Nat) : Int) := by rw [IntWalk.i64_in _ (by omega)]; omega
       clear hfin HM8 HG8 z0 z1 e0 e1
       try go_wp2
       go_roundw
       case rel => exact ⟨i + 1, by omega, by first | rfl | go_num, HFIN⟩
       case measure => simp [intOf]; omega
   ·obtain rfl : i = l.length := by omega
    have hex := ext_bd h0 HB.out
    obtain ⟨X0, hX0⟩ : ∃ x, x = loX l l.length := ⟨_, rfl⟩
    obtain ⟨X1, hX1⟩ : ∃ x, x = hiX l l.length := ⟨_, rfl⟩
    obtain ⟨Y0, hY0⟩ : ∃ x, x = loY l l.length := ⟨_, rfl⟩
    obtain ⟨Y1, hY1⟩ : ∃ x, x = hiY l l.length := ⟨_, rfl⟩
    rw [← hX0, ← hX1, ← hY0, ← hY1] at hex
    have h4 := hI.out.lo
    have h5 := hI.out.hi
    rw [← hX0, ← hY0] at h4
    rw [← hX1, ← hY1] at h5
    have hm := hI.out.map
    rw [List.take_length] at hm
    obtain ⟨NX, hNX⟩ : ∃ x, x = (X1 - X0 + 1).toNat := ⟨_, rfl⟩
    obtain ⟨NY, hNY⟩ : ∃ x, x = (Y1 - Y0 + 1).toNat := ⟨_, rfl⟩
    have hNX1 : X0 + (NX : Int) = X1 + 1 := by omega
    have hNY1 : Y1 - (NY : Int) = Y0 - 1 := by omega
    have hNX2 : NX ≤ 2000001 := by omega
    have hNY2 : NY ≤ 2000001 := by omega
    have hNX3 : 0 < NX := by omega
    have hRES := HRES.out
    rw [← hX0, ← hX1, ← hY0, ← hY1, ← hNX, ← hNY] at hRES
    replace HRES := Lib.hid hRES
    clear hRES hX0 hX1 hY0 hY1 hNX hNY
    have hb1 := below_new wo (.cells #[.pointer none, .slice none 0 0] 89)
    have HH4 := Lib.hid h4
    have HH5 := Lib.hid h5
    have HMP := Lib.hid hm
    have HWB := Lib.hid hI.out.bel
    have HIS : Hid (IsW wo.heap.size [] (wo.alloc (.cells #[.pointer none, .slice none 0 0] 89))) := Lib.hid (Lib.IsBuilderF.of (Lib.fresh_isBuilder _ _ wo))
    have HB1 := Lib.hid hb1
    have hgw4 := blk_lt (show wo.heap[g4]? = _ from h4)
    have hgw5 := blk_lt (show wo.heap[g5]? = _ from h5)
    have hgwm := hm.lt
    have hwo0 := HWB.out.size
    have p4 := (HH4.out.below hb1).c0
    have p5 := (HH4.out.below hb1).c1
    have q4 := (HH5.out.below hb1).c0
    have q5 := (HH5.out.below hb1).c1
    clear hb1 h4 h5 hm hI HR
    go_wp2_with fail
    clear p4 p5 q4 q5
    go_loopw [11] (fun v wr => ∃ (k : Nat) (y : Int), k ≤ NY ∧ Hid (y = Y1 - (k : Int)) ∧ v = .int .i64 y ∧ Hid (IsW wo.heap.size (picT l X0 Y1 NX k) wr) ∧ Hid (Below wo.heap.size wo wr)) (fun v _ => (intOf v - Y0 + 1).toNat)
    case atStart => exact ⟨0, Y1, by omega, Lib.hid (by omega), rfl, HIS, HB1⟩
    case round =>
     clear HIS HB1
     obtain ⟨k, y, hk, hy, rfl, hW, hB⟩ := hrel
     obtain ⟨wq, hwq⟩ : ∃ x, x = wr := ⟨_, rfl⟩
     subst hwq
     have HKN := Lib.hid hk
     have p5 := (HH4.out.below hB.out).c1
     by_cases hkN : k < NY
     ·have hyy : Y0 ≤ y := by have := hy.out; omega
      have hyr : inR y := by have := hy.out; unfold inR; omega
      have hyb : -1000001 ≤ y ∧ y ≤ 1000000 := by have := hy.out; omega
      have p4 := (HH4.out.below hB.out).c0
      have HYR := Lib.hid hyr
      clear hyr
      go_wp2_with fail
      clear p4 p5
      go_loopw [12, 13] (fun t v wz => ∃ (j : Nat) (x : Int), j ≤ NX ∧ Hid (x = X0 + (j : Int)) ∧ v = .int .i64 x ∧ Hid (wz.ownsRow wq.heap.size 9 1 t j (txV (cellsT l X0 y j))) ∧ Hid (Below wq.heap.size wq wz)) (fun _ v _ => (X1 + 1 - intOf v).toNat)
      case atStart => exact ⟨0, X0, by omega, Lib.hid (by omega), rfl, Lib.hid (World.ownsRow_nil _ _ _ _), Lib.hid (Below.refl _ _)⟩
      case round =>
       obtain ⟨j, x, hj, hx, rfl, hO, hZ⟩ := hrel
       have hBZ := stay_b hB.out hZ.out
       have q4 := (HH5.out.below hBZ).c0
       obtain ⟨At, ct, hvt, _, _⟩ := own_slice hO.out
       subst hvt
       by_cases hjN : j < NX
       ·have hxx : x ≤ X1 := by have := hx.out; omega
        have hxr : kSH.ok (x, y) := ⟨by have := hx.out; show inR x; unfold inR; omega, HYR.out⟩
        have hxb : -1000000 ≤ x ∧ x ≤ 1000000 := by have := hx.out; omega
        have w5 : IntKind.i64.wrap (x + 1) = x + 1 := IntWalk.i64_in _ (by omega)
        obtain ⟨cv, hcv⟩ : ∃ c, c = cov l x y := ⟨_, rfl⟩
        obtain ⟨bv, hbv⟩ : ∃ c, c = bak l x y := ⟨_, rfl⟩
        have hlk : (Instr.lookup 81 (.map (some w.heap.size)) (.agg #[.int .i64 x, .int .i64 y]) false).run Tryz.prog wr = .ok (.agg #[.int .i64 cv, .int .i64 bv]) wr := by
         have h1 := (HMP.out.stay hBZ).look1 hxr
         have h2 : (cellF l (x, y)).getD kSH.z = (cv, bv) := by rw [hcv, hbv]; exact cellF_get _ _ _
         rw [h2] at h1
         exact h1
        have hsh := shown_any cv bv (by rw [hcv]; exact sumK_bd _) (by rw [hbv]; exact sumK_bd _) (fun h => by rw [hbv]; exact bak_zero (hcv.symm.trans h))
        obtain ⟨D, hD⟩ : ∃ D, D = (⟨(cellT cv bv).toArray⟩ : ByteArray) := ⟨_, rfl⟩
        rw [← hD] at hsh
        have hcs : txV (cellsT l X0 y (j + 1)) = txV (cellsT l X0 y j) ++ [.string D] := by rw [cellsT_succ, txV_snoc, hD, hcv, hbv, hx.out]
        have HSH := Lib.hid hsh
        have HCS := Lib.hid hcs
        have HBZ := Lib.hid hBZ
        have HLK := Lib.hid hlk
        have hszq := hZ.out.size
        have HON : Hid (∀ u ∈ [Value.string D], u.oneCell' = true) := Lib.hid (fun u hu => by simp only [List.mem_cons, List.not_mem_nil, or_false] at hu; subst hu; rfl)
        clear hxr hcv hbv hsh hD hcs hBZ
        go_wp2_with (first
         | (go_at_call 33; refine (HSH.out _).mono ?_; rintro e w4 ⟨rfl, hb4⟩; have HO4 := Lib.hid (od hO.out hb4); have HZ4 := Lib.hid (stay_b hZ.out hb4); have hsz4 := HZ4.out.size; clear hb4)
         | (at_builtin; go_loud (refine app_gen Tryz.underlying90 str_info rfl (by decide) (by decide) rfl (.tmp 113) (.tmp 120) rfl wq.heap.size _ j (txV (cellsT l X0 y j)) [.string D] rfl HO4.out hsz4 1 _ rfl rfl rfl HON.out (by omega) ?_); intro v' w' hown' hb' hgr'))
        rw [← HCS.out] at hown'
        have HO5 := Lib.hid hown'
        have HZ5 := Lib.hid (HZ4.out.trans hb')
        clear hown' hb' hgr' HO4 HZ4 HSH HCS HLK hlk
        try go_wp2
        go_roundw
        case rel => exact ⟨j + 1, x + 1, by omega, Lib.hid (by have := hx.out; omega), by first | rfl | go_num, HO5, HZ5⟩
        case measure => simp [intOf]; omega
       ·have hjj : j = NX := by omega
        subst hjj
        have hxx : ¬ x ≤ X1 := by have := hx.out; omega
        obtain ⟨gt, ct', cur, hvt, hct, _, _⟩ := own_addr hO.out hNX3
        cases hvt
        have hrl := rowP_len l X0 y j
        have hjr := fun (W' : World) (h : W'.ownsRow wq.heap.size 9 1 (.slice (some ⟨gt, 0, none⟩) j ct) j (txV (cellsT l X0 y j))) => join_row h (cellsT_len _ _ _ _).symm hNX3 hct (by omega) (show (rowP l X0 y j).length ≤ _ by omega)
        obtain ⟨R, hR⟩ : ∃ R, R = (⟨(Lib.join (cellsT l X0 y j) [32]).toArray⟩ : ByteArray) := ⟨_, rfl⟩
        have hRs : R.size ≤ 6000003 := by rw [hR, txt_sz]; exact Nat.le_trans hrl (by omega)
        rw [← hR] at hjr
        have hR1 : R ++ ⟨#[10]⟩ = ⟨(rowP l X0 y j ++ [10]).toArray⟩ := by rw [hR]; exact txt_app _ [10]
        have hps := pic_small (l := l) (x0 := X0) (y1 := Y1) (n := j) (k := k) (by omega) (by omega)
        have hW2 := hW.out.below hZ.out (Nat.le_refl _)
        have hg5 : ¬ 9223372036854775807 < R.size + 1 := by omega
        have HJR := Lib.hid hjr
        have HR1 := Lib.hid hR1
        have HW2 := Lib.hid hW2
        have HBZ := Lib.hid hBZ
        have hws := HBZ.out.size
        have hpc : picT l X0 Y1 j (k + 1) = picT l X0 Y1 j k ++ (rowP l X0 y j ++ [10]) := by rw [picT_succ, hy.out]
        have HPC := Lib.hid hpc
        have w6 : IntKind.i64.wrap (y - 1) = y - 1 := IntWalk.i64_in _ (by omega)
        have hwrt : ∀ (W' : World), IsW wo.heap.size (picT l X0 Y1 j k) W' → wo.heap.size ≤ W'.heap.size → Calls Tryz.prog 34 #[.pointer (some ⟨wo.heap.size, 0, none⟩), .string (R ++ ⟨#[10]⟩)] W' fun e w' => e = .returned (.tuple #[.int .i64 ((R ++ ⟨#[10]⟩ : ByteArray).size : Nat), .nilIface]) ∧ IsW wo.heap.size (picT l X0 Y1 j (k + 1)) w' ∧ Below wo.heap.size W' w' := fun W' h hs => (sbWrite wo.heap.size wo.heap.size _ _ W' h (by rw [Lib.byteCells_length, hR1, txt_sz, List.length_append, List.length_singleton]; omega) hs).mono fun e w' hh => ⟨hh.1, by have h2 := hh.2.1; rw [hR1] at h2; rw [hpc]; exact IsW.write h2, hh.2.2.1⟩
        have HWR := Lib.hid hwrt
        clear hjr hR hR1 hW2 hBZ hpc hrl hwrt
        go_wp2_with (first
         | (go_at_call 35; refine (HJR.out _ hO.out).mono ?_; rintro e w4 ⟨rfl, hb4⟩; have HW4 := Lib.hid (HW2.out.below hb4 (Nat.le_refl _)); have HB4 := Lib.hid (stay_b HBZ.out hb4); have hws4 := HB4.out.size; clear hb4)
         | (go_at_call 34; refine (HWR.out _ HW4.out hws4).mono ?_; rintro e w5 ⟨rfl, hw5, hb5⟩; have HW5 := Lib.hid hw5; have HB5 := Lib.hid (HB4.out.trans hb5); clear hw5 hb5))
        go_roundw
        case rel => exact ⟨k + 1, y - 1, by omega, Lib.hid (by have := hy.out; omega), by first | rfl | go_num, HW5, HB5⟩
        case measure => simp [intOf]; omega
     ·have hkk : k = NY := by omega
      subst hkk
      have hyy : ¬ Y0 ≤ y := by have := hy.out; omega
      have hws := hB.out.size
      have hst := sbString wo.heap.size wo.heap.size _ wq hW.out hws
      rw [← HRES.out] at hst
      have HST := Lib.hid hst
      have HBB := Lib.hid (HWB.out.trans (hB.out.mono hwo0))
      clear hst
      go_wp2_with (go_at_call 36; refine HST.out.mono ?_; rintro e w4 ⟨rfl, _, hb4, _⟩; have HB4 := Lib.hid (HBB.out.trans (hb4.mono hwo0)); clear hb4)
      go_ret
      exact ⟨rfl, HB4.out⟩
end
end Go.Proofs.YtpkjekedgodccaaGreatDoor
