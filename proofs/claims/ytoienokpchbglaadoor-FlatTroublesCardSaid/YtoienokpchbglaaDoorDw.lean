/- faces.direction. faces.direction: which eighth a step goes. Printed by gen_dw.py. -/
import Derived.Test.YtoienokpchbglaaDoorGr1
import Derived.Test.YtoienokpchbglaaDoorLay0
namespace Go.Proofs.YtoienokpchbglaaDoor
set_option linter.unusedSimpArgs false
set_option linter.unusedVariables false
section
open Go.RowKit

def sgI (n : Int) : Int := if n < 0 then -1 else if 0 < n then 1 else 0
def dirT (i j : Int) : Int := if i = -1 then (if j = -1 then 5 else if j = 0 then 4 else 3) else if i = 0 then (if j = -1 then 6 else if j = 0 then -1 else 2) else (if j = -1 then 7 else if j = 0 then 0 else 1)
set_option maxRecDepth 100000 in
set_option maxHeartbeats 1600000 in
theorem dir1_any (n : Int) (w : World) :
    Calls Tryd.prog 93 #[.int .i64 n] w fun e w' => e = .returned (.int .i64 (sgI n)) ∧ w' = w := by
  go_enter Tryd.func93, Tryd.ntmps93
  go_wp2
  all_goals go_ret
  all_goals refine ⟨ret_int ?_, rfl⟩
  all_goals unfold sgI
  all_goals (first | (rename_i h1 h2; rw [if_pos h2] at h1) | (rename_i h1 h2; rw [if_neg (Int.not_lt.2 h2)] at h1) | skip)
  all_goals ((repeat' split) <;> omega)
/-- the corner's point, a box, and a table of nine -/
theorem dirT_at {w : World} {g : Nat} (h : w.heap[g]? = some (.cells (vis [5, 4, 3, 6, -1, 2, 7, 0, 1]).toArray 157 (0, 0))) {i j : Int} (hi : -1 ≤ i ∧ i ≤ 1) (hj : -1 ≤ j ∧ j ≤ 1) : w.cell? ⟨g, (i + 1).toNat * 3 + (j + 1).toNat, none⟩ = some (.int .i64 (dirT i j)) := by
  have hi' : i = -1 ∨ i = 0 ∨ i = 1 := by omega
  have hj' : j = -1 ∨ j = 0 ∨ j = 1 := by omega
  rcases hi' with rfl | rfl | rfl <;> rcases hj' with rfl | rfl | rfl <;> exact (cell_of_blk h _).trans rfl
end
section
open Go.RowKit

theorem sgI_rng (n : Int) : -1 ≤ sgI n ∧ sgI n ≤ 1 := by unfold sgI; (repeat' split) <;> omega
set_option maxRecDepth 100000 in
set_option maxHeartbeats 3200000 in
theorem direction_any (a b c d : Int) (w : World) (ha : -100000 ≤ a ∧ a ≤ 100000) (hb : -100000 ≤ b ∧ b ≤ 100000) (hc : -100000 ≤ c ∧ c ≤ 100000) (hd : -100000 ≤ d ∧ d ≤ 100000) :
    Calls Tryd.prog 73 #[.agg #[.int .i64 a, .int .i64 b], .agg #[.int .i64 c, .int .i64 d]] w fun e w' => e = .returned (.int .i64 (dirT (sgI (c - a)) (sgI (d - b)))) ∧ Below w.heap.size w w' := by
  have ka := blk_alloc (blk_alloc (heap_alloc_new w (.cells #[.int .i64 a, .int .i64 b] 49)) (.cells #[.int .i64 c, .int .i64 d] 49)) (.cells (vis [5, 4, 3, 6, -1, 2, 7, 0, 1]).toArray 157)
  have kc := blk_alloc (heap_alloc_new (w.alloc (.cells #[.int .i64 a, .int .i64 b] 49)) (.cells #[.int .i64 c, .int .i64 d] 49)) (.cells (vis [5, 4, 3, 6, -1, 2, 7, 0, 1]).toArray 157)
  have kt := heap_alloc_new ((w.alloc (.cells #[.int .i64 a, .int .i64 b] 49)).alloc (.cells #[.int .i64 c, .int .i64 d] 49)) (.cells (vis [5, 4, 3, 6, -1, 2, 7, 0, 1]).toArray 157)
  rw [World.size_alloc] at kc
  rw [World.size_alloc, World.size_alloc] at kt
  have hbw : Below w.heap.size w (((w.alloc (.cells #[.int .i64 a, .int .i64 b] 49)).alloc (.cells #[.int .i64 c, .int .i64 d] 49)).alloc (.cells (vis [5, 4, 3, 6, -1, 2, 7, 0, 1]).toArray 157)) := ba (ba (below_new _ _) _) _
  have hw1 : IntKind.i64.wrap (c - a) = c - a := IntWalk.i64_in _ (by omega)
  have hw2 : IntKind.i64.wrap (d - b) = d - b := IntWalk.i64_in _ (by omega)
  have c1 := fun (W : World) => dir1_any (c - a) W
  have c2 := fun (W : World) => dir1_any (d - b) W
  have r1 := sgI_rng (c - a)
  have r2 := sgI_rng (d - b)
  obtain ⟨I, hI⟩ : ∃ I, I = sgI (c - a) := ⟨_, rfl⟩
  obtain ⟨J, hJ⟩ : ∃ J, J = sgI (d - b) := ⟨_, rfl⟩
  rw [← hI] at c1 r1 ⊢
  rw [← hJ] at c2 r2 ⊢
  have kd := dirT_at kt r1 r2
  obtain ⟨i, hi⟩ : ∃ i, i = (I + 1).toNat := ⟨_, rfl⟩
  obtain ⟨j, hj⟩ : ∃ j, j = (J + 1).toNat := ⟨_, rfl⟩
  rw [← hi, ← hj] at kd
  have hw3 : IntKind.i64.wrap (I + 1) = ((i : Nat) : Int) := by rw [IntWalk.i64_in _ (by omega)]; omega
  have hw4 : IntKind.i64.wrap (J + 1) = ((j : Nat) : Int) := by rw [IntWalk.i64_in _ (by omega)]; omega
  have hi3 : i < 3 := by omega
  have hj3 : j < 3 := by omega
  obtain ⟨D, hD⟩ : ∃ D, D = dirT I J := ⟨_, rfl⟩
  rw [← hD] at kd ⊢
  have a0 := cell_of_blk ka 0
  have a1 := cell_of_blk ka 1
  have b0 := cell_of_blk kc 0
  have b1 := cell_of_blk kc 1
  simp only [List.getElem?_toArray, List.getElem?_cons_zero, List.getElem?_cons_succ] at a0 a1 b0 b1
  have C1 := Lib.hid c1
  have C2 := Lib.hid c2
  have HBW := Lib.hid hbw
  clear c1 c2 hbw ka kc kt hI hJ  hi hj hD r1 r2
  have hii : ((i : Nat) : Int) < 3 := by omega
  have hjj : ((j : Nat) : Int) < 3 := by omega
  go_enter Tryd.func73, Tryd.ntmps73
  go_wp2_with fail
  change Code.wp _ _ _ _ (((w.alloc (.cells #[.int .i64 a, .int .i64 b] 49)).alloc (.cells #[.int .i64 c, .int .i64 d] 49)).alloc (.cells (vis [5, 4, 3, 6, -1, 2, 7, 0, 1]).toArray 157))
  generalize ((w.alloc (.cells #[.int .i64 a, .int .i64 b] 49)).alloc (.cells #[.int .i64 c, .int .i64 d] 49)).alloc (.cells (vis [5, 4, 3, 6, -1, 2, 7, 0, 1]).toArray 157) = w0 at a0 a1 b0 b1 kd HBW ⊢
  refine wp_region_inv (fun Lq aq WN => ∃ s : Nat → Value, aq = { tmps := #[.agg #[.int .i64 a, .int .i64 b], .agg #[.int .i64 c, .int .i64 d], .pointer (some ⟨w.heap.size, 0, none⟩), .pointer (some ⟨w.heap.size + 1, 0, none⟩), (s 19), .pointer (some ⟨w.heap.size + 1 + 1, 0, none⟩), .func (.func 93) #[] #[], .agg #[.int .i64 5, .int .i64 4, .int .i64 3], .agg #[.int .i64 6, .int .i64 (-1), .int .i64 2], .agg #[.int .i64 7, .int .i64 0, .int .i64 1], .agg #[.int .i64 5, .int .i64 4, .int .i64 3, .int .i64 6, .int .i64 (-1), .int .i64 2, .int .i64 7, .int .i64 0, .int .i64 1], (s 0), (s 1), (s 2), (s 3), (s 4), (s 5), (s 6), (s 7), (s 8), (s 9), (s 10), (s 11), (s 12), (s 13), (s 14), (s 15), (s 16), (s 17), (s 18)], defers := [] } ∧ Sv 20 [some (.func (.func 93) #[] #[]), some (.pointer (some ⟨w.heap.size + 1, 0, none⟩)), some (.int .i64 (c)), some (.pointer (some ⟨w.heap.size, 0, none⟩)), some (.int .i64 (a)), some (.int .i64 (c - a)), some (.int .i64 (I)), some (.int .i64 ((i : Nat))), some (.func (.func 93) #[] #[]), some (.pointer (some ⟨w.heap.size + 1, 1, none⟩)), some (.int .i64 (d)), some (.pointer (some ⟨w.heap.size, 1, none⟩)), some (.int .i64 (b)), some (.int .i64 (d - b)), some (.int .i64 (J)), some (.int .i64 ((j : Nat))), some (.pointer (some ⟨w.heap.size + 1 + 1, i * 3, none⟩)), some (.pointer (some ⟨w.heap.size + 1 + 1, i * 3 + j, none⟩)), some (.int .i64 (D)), some (.int .i64 (D))] Lq s ∧ (WN.cell? ⟨w.heap.size, 0, none⟩ = some (.int .i64 a) ∧ WN.cell? ⟨w.heap.size, 1, none⟩ = some (.int .i64 b) ∧ WN.cell? ⟨w.heap.size + 1, 0, none⟩ = some (.int .i64 c) ∧ WN.cell? ⟨w.heap.size + 1, 1, none⟩ = some (.int .i64 d) ∧ WN.cell? ⟨w.heap.size + 1 + 1, i * 3 + j, none⟩ = some (.int .i64 D) ∧ Below w0.heap.size w0 WN)) (by kernel_rfl) ?_ ?_ ?_
  · exact ⟨listF [undef, undef, undef, undef, undef, undef, undef, undef, undef, undef, undef, undef, undef, undef, undef, undef, undef, undef, undef, .int .i64 0], rfl, Sv.start 20 _ _, ⟨a0, a1, b0, b1, kd, (Below.refl _ _).drew⟩⟩
  · intro Lq aq WN i0 hI hr
    obtain ⟨s, rfl, hv, hst⟩ := hI
    have hi0 : i0 < 20 := ready_lt hr
    have HV := Lib.hid hv
    have HST := Lib.hid hst
    clear hv hst
    have hii : i0 = 0 ∨ i0 = 1 ∨ i0 = 2 ∨ i0 = 3 ∨ i0 = 4 ∨ i0 = 5 ∨ i0 = 6 ∨ i0 = 7 ∨ i0 = 8 ∨ i0 = 9 ∨ i0 = 10 ∨ i0 = 11 ∨ i0 = 12 ∨ i0 = 13 ∨ i0 = 14 ∨ i0 = 15 ∨ i0 = 16 ∨ i0 = 17 ∨ i0 = 18 ∨ i0 = 19 := by omega
    clear hi0
    rcases hii with rfl | rfl | rfl | rfl | rfl | rfl | rfl | rfl | rfl | rfl | rfl | rfl | rfl | rfl | rfl | rfl | rfl | rfl | rfl | rfl
    · clear hr
      refine wpOp_step rfl (fun K hK => ?_)
      go_simp
      refine hK _ _ ?_
      exact ⟨upd s 0 (.func (.func 93) #[] #[]), rfl, Sv.put HV.out (fun u hu => by cases hu; rfl), HST.out⟩
    · clear hr
      refine wpOp_step rfl (fun K hK => ?_)
      go_simp
      refine hK _ _ ?_
      exact ⟨upd s 1 (.pointer (some ⟨w.heap.size + 1, 0, none⟩)), rfl, Sv.put HV.out (fun u hu => by cases hu; rfl), HST.out⟩
    · have d1 := ready_dep hr (k := 1) (by kernel_rfl)
      clear hr
      have e1 : s 1 = .pointer (some ⟨w.heap.size + 1, 0, none⟩) := HV.out.v d1 rfl
      obtain ⟨q0, q1, q2, q3, q4, hbl⟩ := HST.out
      refine wpOp_step rfl (fun K hK => ?_)
      go_simp
      refine hK _ _ ?_
      exact ⟨upd (upd s 1 (.pointer (some ⟨w.heap.size + 1, 0, none⟩))) 2 (.int .i64 (c)), rfl, Sv.put (Sv.re (j := 1) (v := .pointer (some ⟨w.heap.size + 1, 0, none⟩)) HV.out e1) (fun u hu => by cases hu; rfl), HST.out⟩
    · clear hr
      refine wpOp_step rfl (fun K hK => ?_)
      go_simp
      refine hK _ _ ?_
      exact ⟨upd s 3 (.pointer (some ⟨w.heap.size, 0, none⟩)), rfl, Sv.put HV.out (fun u hu => by cases hu; rfl), HST.out⟩
    · have d3 := ready_dep hr (k := 3) (by kernel_rfl)
      clear hr
      have e3 : s 3 = .pointer (some ⟨w.heap.size, 0, none⟩) := HV.out.v d3 rfl
      obtain ⟨q0, q1, q2, q3, q4, hbl⟩ := HST.out
      refine wpOp_step rfl (fun K hK => ?_)
      go_simp
      refine hK _ _ ?_
      exact ⟨upd (upd s 3 (.pointer (some ⟨w.heap.size, 0, none⟩))) 4 (.int .i64 (a)), rfl, Sv.put (Sv.re (j := 3) (v := .pointer (some ⟨w.heap.size, 0, none⟩)) HV.out e3) (fun u hu => by cases hu; rfl), HST.out⟩
    · have d2 := ready_dep hr (k := 2) (by kernel_rfl)
      have d4 := ready_dep hr (k := 4) (by kernel_rfl)
      clear hr
      have e2 : s 2 = .int .i64 (c) := HV.out.v d2 rfl
      have e4 : s 4 = .int .i64 (a) := HV.out.v d4 rfl
      refine wpOp_step rfl (fun K hK => ?_)
      go_simp
      refine hK _ _ ?_
      exact ⟨upd (upd (upd s 2 (.int .i64 (c))) 4 (.int .i64 (a))) 5 (.int .i64 (c - a)), rfl, Sv.put (Sv.re (j := 4) (v := .int .i64 (a)) (Sv.re (j := 2) (v := .int .i64 (c)) HV.out e2) e4) (fun u hu => by cases hu; rfl), HST.out⟩
    · have d0 := ready_dep hr (k := 0) (by kernel_rfl)
      have d5 := ready_dep hr (k := 5) (by kernel_rfl)
      clear hr
      have e0 : s 0 = .func (.func 93) #[] #[] := HV.out.v d0 rfl
      have e5 : s 5 = .int .i64 (c - a) := HV.out.v d5 rfl
      obtain ⟨q0, q1, q2, q3, q4, hbl⟩ := HST.out
      refine wpOp_step rfl (fun K hK => ?_)
      go_simp
      refine (C1.out _).mono ?_
      rintro e' wc ⟨he, hbc⟩
      subst he
      refine hK _ _ ?_
      exact ⟨upd (upd (upd s 0 (.func (.func 93) #[] #[])) 5 (.int .i64 (c - a))) 6 (.int .i64 (I)), rfl, Sv.put (Sv.re (j := 5) (v := .int .i64 (c - a)) (Sv.re (j := 0) (v := .func (.func 93) #[] #[]) HV.out e0) e5) (fun u hu => by cases hu; rfl), (by rw [hbc]; exact ⟨q0, q1, q2, q3, q4, hbl⟩)⟩
    · have d6 := ready_dep hr (k := 6) (by kernel_rfl)
      clear hr
      have e6 : s 6 = .int .i64 (I) := HV.out.v d6 rfl
      refine wpOp_step rfl (fun K hK => ?_)
      go_simp
      refine hK _ _ ?_
      exact ⟨upd (upd s 6 (.int .i64 (I))) 7 (.int .i64 ((i : Nat))), rfl, Sv.put (Sv.re (j := 6) (v := .int .i64 (I)) HV.out e6) (fun u hu => by cases hu; rfl), HST.out⟩
    · clear hr
      refine wpOp_step rfl (fun K hK => ?_)
      go_simp
      refine hK _ _ ?_
      exact ⟨upd s 8 (.func (.func 93) #[] #[]), rfl, Sv.put HV.out (fun u hu => by cases hu; rfl), HST.out⟩
    · clear hr
      refine wpOp_step rfl (fun K hK => ?_)
      go_simp
      refine hK _ _ ?_
      exact ⟨upd s 9 (.pointer (some ⟨w.heap.size + 1, 1, none⟩)), rfl, Sv.put HV.out (fun u hu => by cases hu; rfl), HST.out⟩
    · have d9 := ready_dep hr (k := 9) (by kernel_rfl)
      clear hr
      have e9 : s 9 = .pointer (some ⟨w.heap.size + 1, 1, none⟩) := HV.out.v d9 rfl
      obtain ⟨q0, q1, q2, q3, q4, hbl⟩ := HST.out
      refine wpOp_step rfl (fun K hK => ?_)
      go_simp
      refine hK _ _ ?_
      exact ⟨upd (upd s 9 (.pointer (some ⟨w.heap.size + 1, 1, none⟩))) 10 (.int .i64 (d)), rfl, Sv.put (Sv.re (j := 9) (v := .pointer (some ⟨w.heap.size + 1, 1, none⟩)) HV.out e9) (fun u hu => by cases hu; rfl), HST.out⟩
    · clear hr
      refine wpOp_step rfl (fun K hK => ?_)
      go_simp
      refine hK _ _ ?_
      exact ⟨upd s 11 (.pointer (some ⟨w.heap.size, 1, none⟩)), rfl, Sv.put HV.out (fun u hu => by cases hu; rfl), HST.out⟩
    · have d11 := ready_dep hr (k := 11) (by kernel_rfl)
      clear hr
      have e11 : s 11 = .pointer (some ⟨w.heap.size, 1, none⟩) := HV.out.v d11 rfl
      obtain ⟨q0, q1, q2, q3, q4, hbl⟩ := HST.out
      refine wpOp_step rfl (fun K hK => ?_)
      go_simp
      refine hK _ _ ?_
      exact ⟨upd (upd s 11 (.pointer (some ⟨w.heap.size, 1, none⟩))) 12 (.int .i64 (b)), rfl, Sv.put (Sv.re (j := 11) (v := .pointer (some ⟨w.heap.size, 1, none⟩)) HV.out e11) (fun u hu => by cases hu; rfl), HST.out⟩
    · have d10 := ready_dep hr (k := 10) (by kernel_rfl)
      have d12 := ready_dep hr (k := 12) (by kernel_rfl)
      clear hr
      have e10 : s 10 = .int .i64 (d) := HV.out.v d10 rfl
      have e12 : s 12 = .int .i64 (b) := HV.out.v d12 rfl
      refine wpOp_step rfl (fun K hK => ?_)
      go_simp
      refine hK _ _ ?_
      exact ⟨upd (upd (upd s 10 (.int .i64 (d))) 12 (.int .i64 (b))) 13 (.int .i64 (d - b)), rfl, Sv.put (Sv.re (j := 12) (v := .int .i64 (b)) (Sv.re (j := 10) (v := .int .i64 (d)) HV.out e10) e12) (fun u hu => by cases hu; rfl), HST.out⟩
    · have d8 := ready_dep hr (k := 8) (by kernel_rfl)
      have d13 := ready_dep hr (k := 13) (by kernel_rfl)
      clear hr
      have e8 : s 8 = .func (.func 93) #[] #[] := HV.out.v d8 rfl
      have e13 : s 13 = .int .i64 (d - b) := HV.out.v d13 rfl
      obtain ⟨q0, q1, q2, q3, q4, hbl⟩ := HST.out
      refine wpOp_step rfl (fun K hK => ?_)
      go_simp
      refine (C2.out _).mono ?_
      rintro e' wc ⟨he, hbc⟩
      subst he
      refine hK _ _ ?_
      exact ⟨upd (upd (upd s 8 (.func (.func 93) #[] #[])) 13 (.int .i64 (d - b))) 14 (.int .i64 (J)), rfl, Sv.put (Sv.re (j := 13) (v := .int .i64 (d - b)) (Sv.re (j := 8) (v := .func (.func 93) #[] #[]) HV.out e8) e13) (fun u hu => by cases hu; rfl), (by rw [hbc]; exact ⟨q0, q1, q2, q3, q4, hbl⟩)⟩
    · have d14 := ready_dep hr (k := 14) (by kernel_rfl)
      clear hr
      have e14 : s 14 = .int .i64 (J) := HV.out.v d14 rfl
      refine wpOp_step rfl (fun K hK => ?_)
      go_simp
      refine hK _ _ ?_
      exact ⟨upd (upd s 14 (.int .i64 (J))) 15 (.int .i64 ((j : Nat))), rfl, Sv.put (Sv.re (j := 14) (v := .int .i64 (J)) HV.out e14) (fun u hu => by cases hu; rfl), HST.out⟩
    · have d7 := ready_dep hr (k := 7) (by kernel_rfl)
      clear hr
      have e7 : s 7 = .int .i64 ((i : Nat)) := HV.out.v d7 rfl
      refine wpOp_step rfl (fun K hK => ?_)
      go_simp
      refine hK _ _ ?_
      exact ⟨upd (upd s 7 (.int .i64 ((i : Nat)))) 16 (.pointer (some ⟨w.heap.size + 1 + 1, i * 3, none⟩)), rfl, Sv.put (Sv.re (j := 7) (v := .int .i64 ((i : Nat))) HV.out e7) (fun u hu => by cases hu; rfl), HST.out⟩
    · have d16 := ready_dep hr (k := 16) (by kernel_rfl)
      have d15 := ready_dep hr (k := 15) (by kernel_rfl)
      clear hr
      have e16 : s 16 = .pointer (some ⟨w.heap.size + 1 + 1, i * 3, none⟩) := HV.out.v d16 rfl
      have e15 : s 15 = .int .i64 ((j : Nat)) := HV.out.v d15 rfl
      refine wpOp_step rfl (fun K hK => ?_)
      go_simp
      refine hK _ _ ?_
      exact ⟨upd (upd (upd s 16 (.pointer (some ⟨w.heap.size + 1 + 1, i * 3, none⟩))) 15 (.int .i64 ((j : Nat)))) 17 (.pointer (some ⟨w.heap.size + 1 + 1, i * 3 + j, none⟩)), rfl, Sv.put (Sv.re (j := 15) (v := .int .i64 ((j : Nat))) (Sv.re (j := 16) (v := .pointer (some ⟨w.heap.size + 1 + 1, i * 3, none⟩)) HV.out e16) e15) (fun u hu => by cases hu; rfl), HST.out⟩
    · have d17 := ready_dep hr (k := 17) (by kernel_rfl)
      clear hr
      have e17 : s 17 = .pointer (some ⟨w.heap.size + 1 + 1, i * 3 + j, none⟩) := HV.out.v d17 rfl
      obtain ⟨q0, q1, q2, q3, q4, hbl⟩ := HST.out
      refine wpOp_step rfl (fun K hK => ?_)
      go_simp
      refine hK _ _ ?_
      exact ⟨upd (upd s 17 (.pointer (some ⟨w.heap.size + 1 + 1, i * 3 + j, none⟩))) 18 (.int .i64 (D)), rfl, Sv.put (Sv.re (j := 17) (v := .pointer (some ⟨w.heap.size + 1 + 1, i * 3 + j, none⟩)) HV.out e17) (fun u hu => by cases hu; rfl), HST.out⟩
    · have d18 := ready_dep hr (k := 18) (by kernel_rfl)
      clear hr
      have e18 : s 18 = .int .i64 (D) := HV.out.v d18 rfl
      refine wpOp_step rfl (fun K hK => ?_)
      go_simp
      refine hK _ _ ?_
      exact ⟨upd (upd s 18 (.int .i64 (D))) 19 (.int .i64 (D)), rfl, Sv.put (Sv.re (j := 18) (v := .int .i64 (D)) HV.out e18) (fun u hu => by cases hu; rfl), HST.out⟩
  · intro Lq aq WN hI hrd
    obtain ⟨s, ha, hv, hst⟩ := hI
    have hall := all_listedM hrd hv.sz (by kernel_rfl)
    clear hrd
    have e0 : s 0 = (.func (.func 93) #[] #[]) := hv.v (hall 0 (by decide)) rfl
    have e1 : s 1 = (.pointer (some ⟨w.heap.size + 1, 0, none⟩)) := hv.v (hall 1 (by decide)) rfl
    have e2 : s 2 = (.int .i64 (c)) := hv.v (hall 2 (by decide)) rfl
    have e3 : s 3 = (.pointer (some ⟨w.heap.size, 0, none⟩)) := hv.v (hall 3 (by decide)) rfl
    have e4 : s 4 = (.int .i64 (a)) := hv.v (hall 4 (by decide)) rfl
    have e5 : s 5 = (.int .i64 (c - a)) := hv.v (hall 5 (by decide)) rfl
    have e6 : s 6 = (.int .i64 (I)) := hv.v (hall 6 (by decide)) rfl
    have e7 : s 7 = (.int .i64 ((i : Nat))) := hv.v (hall 7 (by decide)) rfl
    have e8 : s 8 = (.func (.func 93) #[] #[]) := hv.v (hall 8 (by decide)) rfl
    have e9 : s 9 = (.pointer (some ⟨w.heap.size + 1, 1, none⟩)) := hv.v (hall 9 (by decide)) rfl
    have e10 : s 10 = (.int .i64 (d)) := hv.v (hall 10 (by decide)) rfl
    have e11 : s 11 = (.pointer (some ⟨w.heap.size, 1, none⟩)) := hv.v (hall 11 (by decide)) rfl
    have e12 : s 12 = (.int .i64 (b)) := hv.v (hall 12 (by decide)) rfl
    have e13 : s 13 = (.int .i64 (d - b)) := hv.v (hall 13 (by decide)) rfl
    have e14 : s 14 = (.int .i64 (J)) := hv.v (hall 14 (by decide)) rfl
    have e15 : s 15 = (.int .i64 ((j : Nat))) := hv.v (hall 15 (by decide)) rfl
    have e16 : s 16 = (.pointer (some ⟨w.heap.size + 1 + 1, i * 3, none⟩)) := hv.v (hall 16 (by decide)) rfl
    have e17 : s 17 = (.pointer (some ⟨w.heap.size + 1 + 1, i * 3 + j, none⟩)) := hv.v (hall 17 (by decide)) rfl
    have e18 : s 18 = (.int .i64 (D)) := hv.v (hall 18 (by decide)) rfl
    have e19 : s 19 = (.int .i64 (D)) := hv.v (hall 19 (by decide)) rfl
    simp only [e0, e1, e2, e3, e4, e5, e6, e7, e8, e9, e10, e11, e12, e13, e14, e15, e16, e17, e18, e19] at ha
    subst ha
    clear hall hv e0 e1 e2 e3 e4 e5 e6 e7 e8 e9 e10 e11 e12 e13 e14 e15 e16 e17 e18 e19
    obtain ⟨q0, q1, q2, q3, q4, hbl⟩ := hst
    go_wp2
    go_ret
    exact ⟨rfl, stay_b HBW.out hbl⟩
end
end Go.Proofs.YtoienokpchbglaaDoor
