/- The walk of GridGroup. Printed by gen_gr50.py. -/
import Derived.Test.YthfhkmgegkhljaaDoorGr49
import Derived.Test.YthfhkmgegkhljaaDoorGr46
import Derived.Test.YthfhkmgegkhljaaDoorGr11
namespace Go.Proofs.YthfhkmgegkhljaaDoor
set_option linter.unusedSimpArgs false
set_option linter.unusedVariables false
open Go.RowKit

set_option maxRecDepth 100000 in
set_option maxHeartbeats 6400000 in
theorem group_walk (A0 A1 : Option Addr) (n0 c0 n1 c1 : Nat) (xs ys : List Int) (x y k : Int) (w : World) (hs : Steps w) (hx : Rd w 1 A0 n0 (vis xs)) (hy : Rd w 1 A1 n1 (vis ys)) (l0 : n0 ≤ 9223372036854775807) (l1 : n1 ≤ 9223372036854775807)
    (hbx : ∀ z ∈ xs, -9223372036854775808 ≤ z ∧ z ≤ 9223372036854775807) (hby : ∀ z ∈ ys, -9223372036854775808 ≤ z ∧ z ≤ 9223372036854775807)
    (x1 : -9223372036854775808 ≤ x) (x2 : x ≤ 9223372036854775807) (y1 : -9223372036854775808 ≤ y) (y2 : y ≤ 9223372036854775807) (k1 : -9223372036854775808 ≤ k) (k2 : k ≤ 9223372036854775807) :
    Calls Tryd.prog 6 #[.slice A0 n0 c0, .slice A1 n1 c1, .int .i64 x, .int .i64 y, .int .i64 k] w fun e w' => e = .returned (.bool true) ∧ Below w.heap.size w w' := by
  have HBX := Lib.hid hbx
  have HBY := Lib.hid hby
  clear hbx hby
  have hnT := fun w => nearTri_any x y k w x1 x2 y1 y2 k1 k2
  obtain ⟨tx, htx⟩ : ∃ a, a = pickB x 2001 - 1000 := ⟨_, rfl⟩
  obtain ⟨ty, hty⟩ : ∃ a, a = pickB y 2001 - 1000 := ⟨_, rfl⟩
  obtain ⟨tk, htk⟩ : ∃ a, a = pickB k 4 := ⟨_, rfl⟩
  have p1 := pick_rng (n := x) (m := 2001) (by decide)
  have p2 := pick_rng (n := y) (m := 2001) (by decide)
  have p3 := pick_rng (n := k) (m := 4) (by decide)
  have b1 : -1000 ≤ tx ∧ tx ≤ 1000 := by omega
  have b2 : -1000 ≤ ty ∧ ty ≤ 1000 := by omega
  have b3 : 0 ≤ tk ∧ tk ≤ 3 := by omega
  simp only [← htx, ← hty, ← htk] at hnT
  have CT := Lib.hid hnT
  clear hnT htx hty htk p1 p2 p3 x1 x2 y1 y2 k1 k2
  go_enter Tryd.func6, Tryd.ntmps6
  go_wp2_with fail
  refine (CT.out _).mono ?_
  rintro e w1 ⟨rfl, hb1⟩
  have hw_1 : Below w.heap.size w w1 := stay_b (Below.refl _ _) hb1
  have hs_1 := hs.below hb1
  clear hb1
  go_upto_region 3 with fail
  have k_t_2 : (((w1.alloc (.cells #[.int .i64 tx, .int .i64 ty, .int .i64 tk] 23)).alloc (.cells #[.int .i64 1, .int .i64 0, .int .i64 0, .int .i64 1, .int .i64 0, .int .i64 0] 51))).heap[w1.heap.size]? = some (.cells #[.int .i64 tx, .int .i64 ty, .int .i64 tk] 23 (0, 0)) := (blk_alloc (new_blk (.cells #[.int .i64 tx, .int .i64 ty, .int .i64 tk] 23) (by first | rfl | (simp; done) | (simp; omega))) _)
  have k_s_2 : (((w1.alloc (.cells #[.int .i64 tx, .int .i64 ty, .int .i64 tk] 23)).alloc (.cells #[.int .i64 1, .int .i64 0, .int .i64 0, .int .i64 1, .int .i64 0, .int .i64 0] 51))).heap[w1.heap.size + 1]? = some (.cells #[.int .i64 1, .int .i64 0, .int .i64 0, .int .i64 1, .int .i64 0, .int .i64 0] 51 (0, 0)) := (new_blk (.cells #[.int .i64 1, .int .i64 0, .int .i64 0, .int .i64 1, .int .i64 0, .int .i64 0] 51) (by first | rfl | (simp; done) | (simp; omega)))
  have hw_2 : Below w.heap.size w (((w1.alloc (.cells #[.int .i64 tx, .int .i64 ty, .int .i64 tk] 23)).alloc (.cells #[.int .i64 1, .int .i64 0, .int .i64 0, .int .i64 1, .int .i64 0, .int .i64 0] 51))) := (ba (ba hw_1 _) _)
  have hs_2 : Steps (((w1.alloc (.cells #[.int .i64 tx, .int .i64 ty, .int .i64 tk] 23)).alloc (.cells #[.int .i64 1, .int .i64 0, .int .i64 0, .int .i64 1, .int .i64 0, .int .i64 0] 51))) := ((hs_1.alloc _).alloc _)
  clear hw_1
  generalize (((w1.alloc (.cells #[.int .i64 tx, .int .i64 ty, .int .i64 tk] 23)).alloc (.cells #[.int .i64 1, .int .i64 0, .int .i64 0, .int .i64 1, .int .i64 0, .int .i64 0] 51))) = wB at k_t_2 k_s_2 hs_2 hw_2 ⊢
  skip
  refine wp_region_inv (fun Lq aq u0 => ∃ (s : Nat → Value) (b : Nat → Nat), aq = { tmps := #[Value.slice A0 n0 c0, Value.slice A1 n1 c1, Value.int IntKind.i64 x, Value.int IntKind.i64 y, Value.int IntKind.i64 k, undef, undef, undef, undef, undef, Value.bool false, Value.pointer (some { block := w1.heap.size, off := 0 }), Value.pointer (some { block := w1.heap.size + 1, off := 0 }), (s 2), (s 3), undef, undef, undef, undef, undef, undef, undef, undef, undef, undef, undef, undef, undef, undef, undef, undef, undef, Value.int IntKind.i64 x, Value.int IntKind.i64 y, Value.int IntKind.i64 k, Value.agg #[Value.int IntKind.i64 tx, Value.int IntKind.i64 ty, Value.int IntKind.i64 tk], Value.agg #[Value.int IntKind.i64 1, Value.int IntKind.i64 0, Value.int IntKind.i64 0, Value.int IntKind.i64 1, Value.int IntKind.i64 0, Value.int IntKind.i64 0], (s 0), (s 1), undef, undef, undef, undef, undef, undef, undef, undef, undef, undef, undef, undef, undef, undef, undef, undef, undef, undef, undef, undef, undef, undef, undef, undef, undef, undef, undef, undef, undef, undef, undef, undef, undef, undef, undef, undef, undef, undef, undef, undef, undef, undef, undef, undef, undef, undef, undef, undef, undef, undef, undef, undef, undef, undef, undef, undef, undef, undef, undef, undef, undef, undef, undef, undef, undef, undef, undef, undef, undef, undef, undef, undef, undef, undef, undef, undef, undef, undef, undef, undef, undef, undef, undef, undef, undef, undef, undef, undef, undef, undef, undef, undef, undef, undef, undef, undef, undef, undef, undef, undef, undef, undef, undef, undef, undef, undef, undef, undef, undef, undef, undef, undef, undef, undef, undef, undef, undef, undef, undef, undef], defers := [] } ∧ RI 6 wB.heap.size wB [some (.agg #[.int .i64 1, .int .i64 0, .int .i64 0, .int .i64 1, .int .i64 0, .int .i64 0]), some (aggT tx ty tk), none, none, none, none] [none, none, none, none, none, none] [{ al := 2, st := 4, d := 0, z := (.cells #[.int .i64 0, .int .i64 0, .int .i64 0, .int .i64 0, .int .i64 0, .int .i64 0] 51 (0, 0)), f := fun _ => (.cells #[.int .i64 1, .int .i64 0, .int .i64 0, .int .i64 1, .int .i64 0, .int .i64 0] 51 (0, 0)) }, { al := 3, st := 5, d := 1, z := (.cells #[.int .i64 0, .int .i64 0, .int .i64 0] 23 (0, 0)), f := fun _ => (.cells #[.int .i64 tx, .int .i64 ty, .int .i64 tk] 23 (0, 0)) }] Lq s b u0) (by kernel_rfl) ?_ ?_ ?_
  · exact ⟨listF [undef, undef, undef, undef, undef, undef], listN [], rfl, ri_start (Nat.le_refl _) (Nat.le_refl 6) (Nat.le_refl 6) rfl⟩
  · intro Lq aq u0 i hI hr
    obtain ⟨s, b, rfl, hv⟩ := hI
    have hi : i < 6 := ready_lt hr
    have HV := Lib.hid hv
    clear hv
    have hc : i = 0 ∨ i = 1 ∨ i = 2 ∨ i = 3 ∨ i = 4 ∨ i = 5 := by omega
    clear hi
    rcases hc with rfl | rfl | rfl | rfl | rfl | rfl
    · have hno := isOn_no (n := 6) (by decide) (mem_ready.1 hr).1
      clear hr
      have kk := blk_below k_s_2 HV.out.bel (blk_lt k_s_2)
      have c0 := cell_of_blk kk 0
      have c1 := cell_of_blk kk 1
      have c2 := cell_of_blk kk 2
      have c3 := cell_of_blk kk 3
      have c4 := cell_of_blk kk 4
      have c5 := cell_of_blk kk 5
      simp only [List.getElem?_toArray, List.getElem?_cons_zero, List.getElem?_cons_succ] at c0 c1 c2 c3 c4 c5
      clear kk
      refine wpOp_step rfl (fun K hK => ?_)
      go_simp
      refine hK _ _ ?_
      exact ⟨upd s 0 (.agg #[.int .i64 1, .int .i64 0, .int .i64 0, .int .i64 1, .int .i64 0, .int .i64 0]), b, rfl, RI.putV HV.out hno rfl rfl rfl⟩
    · have hno := isOn_no (n := 6) (by decide) (mem_ready.1 hr).1
      clear hr
      have kk := blk_below k_t_2 HV.out.bel (blk_lt k_t_2)
      have c0 := cell_of_blk kk 0
      have c1 := cell_of_blk kk 1
      have c2 := cell_of_blk kk 2
      simp only [List.getElem?_toArray, List.getElem?_cons_zero, List.getElem?_cons_succ] at c0 c1 c2
      clear kk
      refine wpOp_step rfl (fun K hK => ?_)
      go_simp
      refine hK _ _ ?_
      exact ⟨upd s 1 (aggT tx ty tk), b, rfl, RI.putV HV.out hno rfl rfl rfl⟩
    · have hno := isOn_no (n := 6) (by decide) (mem_ready.1 hr).1
      clear hr
      refine wpOp_step rfl (fun K hK => ?_)
      go_simp
      refine hK _ _ ?_
      exact ⟨upd s 2 _, updN b 2 _, rfl, RI.new HV.out hno rfl (by simp only [List.mem_cons, List.not_mem_nil, or_false]; rintro q (rfl | rfl) h <;> first | rfl | (simp at h)) rfl rfl⟩
    · have hno := isOn_no (n := 6) (by decide) (mem_ready.1 hr).1
      clear hr
      refine wpOp_step rfl (fun K hK => ?_)
      go_simp
      refine hK _ _ ?_
      exact ⟨upd s 3 _, updN b 3 _, rfl, RI.new HV.out hno rfl (by simp only [List.mem_cons, List.not_mem_nil, or_false]; rintro q (rfl | rfl) h <;> first | rfl | (simp at h)) rfl rfl⟩
    · have hno := isOn_no (n := 6) (by decide) (mem_ready.1 hr).1
      have d2 := ready_dep hr (k := 2) (by kernel_rfl)
      have d0 := ready_dep hr (k := 0) (by kernel_rfl)
      clear hr
      have e2 : s 2 = .pointer (some ⟨b 2, 0, none⟩) := (HV.out.bx (.head _) (isOn_of d2)).1
      have e0 : s 0 = (.agg #[.int .i64 1, .int .i64 0, .int .i64 0, .int .i64 1, .int .i64 0, .int .i64 0]) := HV.out.v d0 rfl
      have kz : u0.heap[b 2]? = some (.cells #[.int .i64 0, .int .i64 0, .int .i64 0, .int .i64 0, .int .i64 0, .int .i64 0] 51 (0, 0)) := HV.out.fresh (.head _) (isOn_of d2) hno
      have z0 := cell_of_blk kz 0
      have z1 := cell_of_blk kz 1
      have z2 := cell_of_blk kz 2
      have z3 := cell_of_blk kz 3
      have z4 := cell_of_blk kz 4
      have z5 := cell_of_blk kz 5
      simp only [List.getElem?_toArray, List.getElem?_cons_zero, List.getElem?_cons_succ] at z0 z1 z2 z3 z4 z5
      have zf := frozen_of_blk kz
      have zl := blk_lt kz
      have zB := (HV.out.bx (.head _) (isOn_of d2)).2
      refine wpOp_step rfl (fun K hK => ?_)
      go_simp
      refine hK _ _ ?_
      have hset := RI.set (w' := setsW u0 (b 2) 0 [.int .i64 (1), .int .i64 (0), .int .i64 (0), .int .i64 (1), .int .i64 (0), .int .i64 (0)]) (i := 4) (v := undef) (RI.re (j := 0) (v := (.agg #[.int .i64 1, .int .i64 0, .int .i64 0, .int .i64 1, .int .i64 0, .int .i64 0])) (RI.re (j := 2) (v := (.pointer (some ⟨b 2, 0, none⟩))) HV.out e2) e0) (.head _) hno rfl (isOn_of d2) (isOn_of d0) rfl (by simp only [List.mem_cons, List.not_mem_nil, or_false]; rintro q (rfl | rfl) h <;> first | rfl | (simp at h)) rfl rfl (HV.out.bel.trans (setsW_below zB _ _)) (setsW_size _ _ _ _) (fun k hk => setsW_far hk _ _) (setsW_blk kz rfl)
      exact ⟨_, b, rfl, hset⟩
    · have hno := isOn_no (n := 6) (by decide) (mem_ready.1 hr).1
      have d3 := ready_dep hr (k := 3) (by kernel_rfl)
      have d1 := ready_dep hr (k := 1) (by kernel_rfl)
      clear hr
      have e3 : s 3 = .pointer (some ⟨b 3, 0, none⟩) := (HV.out.bx (.tail _ (.head _)) (isOn_of d3)).1
      have e1 : s 1 = (aggT tx ty tk) := HV.out.v d1 rfl
      have kz : u0.heap[b 3]? = some (.cells #[.int .i64 0, .int .i64 0, .int .i64 0] 23 (0, 0)) := HV.out.fresh (.tail _ (.head _)) (isOn_of d3) hno
      have z0 := cell_of_blk kz 0
      have z1 := cell_of_blk kz 1
      have z2 := cell_of_blk kz 2
      simp only [List.getElem?_toArray, List.getElem?_cons_zero, List.getElem?_cons_succ] at z0 z1 z2
      have zf := frozen_of_blk kz
      have zl := blk_lt kz
      have zB := (HV.out.bx (.tail _ (.head _)) (isOn_of d3)).2
      refine wpOp_step rfl (fun K hK => ?_)
      go_simp
      refine hK _ _ ?_
      have hset := RI.set (w' := setsW u0 (b 3) 0 [.int .i64 (tx), .int .i64 (ty), .int .i64 (tk)]) (i := 5) (v := undef) (RI.re (j := 1) (v := (aggT tx ty tk)) (RI.re (j := 3) (v := (.pointer (some ⟨b 3, 0, none⟩))) HV.out e3) e1) (.tail _ (.head _)) hno rfl (isOn_of d3) (isOn_of d1) rfl (by simp only [List.mem_cons, List.not_mem_nil, or_false]; rintro q (rfl | rfl) h <;> first | rfl | (simp at h)) rfl rfl (HV.out.bel.trans (setsW_below zB _ _)) (setsW_size _ _ _ _) (fun k hk => setsW_far hk _ _) (setsW_blk kz rfl)
      exact ⟨_, b, rfl, hset⟩
  · intro Lq aq u0 hI hrd
    obtain ⟨s, b, ha, hv⟩ := hI
    have hall := all_listedM hrd hv.sz (by kernel_rfl)
    clear hrd
    have e0 : s 0 = (.agg #[.int .i64 1, .int .i64 0, .int .i64 0, .int .i64 1, .int .i64 0, .int .i64 0]) := hv.v (hall 0 (by decide)) rfl
    have e1 : s 1 = (aggT tx ty tk) := hv.v (hall 1 (by decide)) rfl
    have e2 : s 2 = .pointer (some ⟨b 2, 0, none⟩) := (hv.bx (.head _) (isOn_of (hall 2 (by decide)))).1
    have e3 : s 3 = .pointer (some ⟨b 3, 0, none⟩) := (hv.bx (.tail _ (.head _)) (isOn_of (hall 3 (by decide)))).1
    simp only [e0, e1, e2, e3] at ha
    subst ha
    have kb0 : u0.heap[b 2]? = some (.cells #[.int .i64 1, .int .i64 0, .int .i64 0, .int .i64 1, .int .i64 0, .int .i64 0] 51 (0, 0)) := hv.full (.head _) (isOn_of (hall 2 (by decide))) (isOn_of (hall 4 (by decide)))
    have kb1 : u0.heap[b 3]? = some (.cells #[.int .i64 tx, .int .i64 ty, .int .i64 tk] 23 (0, 0)) := hv.full (.tail _ (.head _)) (isOn_of (hall 3 (by decide))) (isOn_of (hall 5 (by decide)))
    have hbl := hv.bel
    have zb0 : wB.heap.size ≤ b 2 := (hv.bx (.head _) (isOn_of (hall 2 (by decide)))).2
    have zb1 : wB.heap.size ≤ b 3 := (hv.bx (.tail _ (.head _)) (isOn_of (hall 3 (by decide)))).2
    have dd01 : b 2 ≠ b 3 := hv.dist _ (.head _) _ (.tail _ (.head _)) (isOn_of (hall 2 (by decide))) (isOn_of (hall 3 (by decide))) (show (2 : Nat) ≠ 3 from by decide)
    clear hall hv e0 e1 e2 e3
    generalize b 2 = gA at kb0 zb0 dd01 ⊢
    generalize b 3 = gP at kb1 zb1 dd01 ⊢
    have nAP : gA ≠ gP := dd01
    have HD := Lib.hid (And.intro zb0 (And.intro zb1 nAP))
    clear zb0 zb1 dd01 nAP
    go_wp2
    go_loopw [15] (fun i wr => ∃ (n : Nat) (M : V6) (T : T3), n ≤ 8 ∧ n ≤ n0 ∧ n ≤ n1 ∧ i = .int .i64 n ∧ GI tx ty tk n M T ∧ Below wB.heap.size wB wr ∧ wr.heap[gA]? = some (.cells #[.int .i64 (M.1), .int .i64 (M.2.1), .int .i64 (M.2.2.1), .int .i64 (M.2.2.2.1), .int .i64 (M.2.2.2.2.1), .int .i64 (M.2.2.2.2.2)] 51 (0, 0)) ∧ wr.heap[gP]? = some (.cells #[.int .i64 (T.1), .int .i64 (T.2.1), .int .i64 (T.2.2)] 23 (0, 0))) (fun i _ => 8 - (intOf i).toNat)
    case atStart => exact ⟨0, stillV, (tx, ty, tk), by omega, by omega, by omega, rfl, gi_zero b3.1 b3.2, hbl, kb0, kb1⟩
    case round =>
      clear kb0 kb1 hbl
      obtain ⟨n, M, T, h8, h0, h1, rfl, hgi, hbel, kA, kP⟩ := hrel
      have k_t_50 := blk_below k_t_2 hbel (blk_lt k_t_2)
      have k_s_50 := blk_below k_s_2 hbel (blk_lt k_s_2)
      have hs_50 := hs_2.below hbel
      have hw_r : Below w.heap.size w wr := hw_2.trans (hbel.mono hw_2.size)
      have HG := Lib.hid hgi
      clear hgi
      have k_a_50 := kA
      have k_p_50 := kP
      clear kA kP
      by_cases q0 : n < n0
      · by_cases q1 : n < n1
        · by_cases q2 : n < 8
          · obtain ⟨a0, o0, z0, hA0, hb0, hz0, hc0⟩ := (hx.below hw_r).int q0
            obtain ⟨a1, o1, z1, hA1, hb1, hz1, hc1⟩ := (hy.below hw_r).int q1
            have i0 := HBX.out z0 (List.mem_of_getElem? hz0)
            have i1 := HBY.out z1 (List.mem_of_getElem? hz1)
            clear hz0 hz1
            subst hA0
            subst hA1
            have cL := fun w => nearLine_any z0 z1 w i0.1 i0.2 i1.1 i1.2
            have p1 := pick_rng (n := z0) (m := 4) (by decide)
            have p2 := pick_rng (n := z1) (m := 2001) (by decide)
            have G := gi_step (v := pickB z0 4) (c := 2 * (pickB z1 2001 - 1000)) HG.out q2 b3.1 b3.2 b1.1 b1.2 b2.1 b2.2 p1.1 (by omega) (by omega) (by omega) (by omega)
            clear p1 p2 i0 i1
            obtain ⟨v, hv⟩ : ∃ a, a = pickB z0 4 := ⟨_, rfl⟩
            obtain ⟨cc, hcc⟩ : ∃ a, a = 2 * (pickB z1 2001 - 1000) := ⟨_, rfl⟩
            simp only [← hv, ← hcc] at cL G
            clear hv hcc
            have cM := fun w => gmir_ok v cc w G.l G.m
            have cV := fun w hs => gmove_ok (mirB v cc) T.1 T.2.1 T.2.2 w hs G.m G.t G.u
            have cA := fun w => gafter_ok M (mirB v cc) w G.a G.m G.aft
            have gx := G.nx
            clear G
            obtain ⟨R, hR⟩ : ∃ a, a = mirB v cc := ⟨_, rfl⟩
            simp only [← hR] at cM cV cA gx
            obtain ⟨U, hU⟩ : ∃ a, a = moveV R T.1 T.2.1 T.2.2 := ⟨_, rfl⟩
            obtain ⟨N, hN⟩ : ∃ a, a = afterV M R := ⟨_, rfl⟩
            simp only [← hU] at cV gx
            simp only [← hN] at cA gx
            have GX := Lib.hid gx
            have CL := Lib.hid cL
            have CM := Lib.hid cM
            have CV := Lib.hid cV
            have CA := Lib.hid cA
            clear cL cM cV cA gx hR hU hN
            go_upto_region 7 with fail
            have hd8 : decide ((n : Int) < 8) = true := by simp; omega
            simp only [hd8]
            clear hd8
            refine wp_region_inv (fun Lq aq u1 => ∃ (s : Nat → Value) (b : Nat → Nat), aq = { tmps := #[Value.slice (some { block := a0, off := o0 }) n0 c0, Value.slice (some { block := a1, off := o1 }) n1 c1, Value.int IntKind.i64 x, Value.int IntKind.i64 y, Value.int IntKind.i64 k, undef, undef, undef, undef, undef, u10, Value.pointer (some { block := w1.heap.size, off := 0 }), Value.pointer (some { block := w1.heap.size + 1, off := 0 }), Value.pointer (some { block := gA, off := 0 }), Value.pointer (some { block := gP, off := 0 }), Value.int IntKind.i64 ↑n, (s 13), (s 15), u18, u19, u20, u21, undef, undef, undef, undef, undef, undef, undef, undef, undef, undef, Value.int IntKind.i64 x, Value.int IntKind.i64 y, Value.int IntKind.i64 k, Value.agg #[Value.int IntKind.i64 tx, Value.int IntKind.i64 ty, Value.int IntKind.i64 tk], Value.agg #[Value.int IntKind.i64 1, Value.int IntKind.i64 0, Value.int IntKind.i64 0, Value.int IntKind.i64 1, Value.int IntKind.i64 0, Value.int IntKind.i64 0], Value.agg #[Value.int IntKind.i64 1, Value.int IntKind.i64 0, Value.int IntKind.i64 0, Value.int IntKind.i64 1, Value.int IntKind.i64 0, Value.int IntKind.i64 0], aggT tx ty tk, Value.int IntKind.i64 ↑n, Value.slice (some { block := a0, off := o0 }) n0 c0, Value.int IntKind.i64 ↑n0, Value.bool true, Value.bool true, Value.int IntKind.i64 ↑n, Value.slice (some { block := a1, off := o1 }) n1 c1, Value.int IntKind.i64 ↑n1, Value.bool true, Value.bool true, Value.bool true, Value.int IntKind.i64 ↑n, Value.bool true, Value.bool true, u53, u54, (s 10), (s 0), (s 1), (s 2), (s 3), (s 4), (s 5), (s 6), (s 7), (s 8), (s 9), (s 11), (s 12), u68, u69, u70, u71, u72, u73, u74, u75, u76, u77, u78, u79, u80, u81, u82, u83, u84, u85, u86, u87, u88, u89, u90, u91, undef, undef, undef, undef, undef, undef, undef, undef, undef, undef, undef, undef, undef, undef, undef, undef, undef, undef, undef, undef, undef, undef, undef, undef, undef, undef, undef, undef, undef, undef, undef, undef, undef, undef, undef, undef, undef, undef, undef, undef, undef, undef, undef, undef, undef, undef, undef, undef, undef, undef, undef, undef, undef, undef, undef, undef, undef, undef, undef, undef, undef, undef, undef, undef, undef, undef, undef], defers := [] } ∧ RI 16 wr.heap.size wr [some (.slice (some ⟨a0, o0, none⟩) n0 c0), some (.int .i64 n), some (.pointer (some ⟨a0, o0 + n, none⟩)), some (.int .i64 z0), some (.slice (some ⟨a1, o1, none⟩) n1 c1), some (.int .i64 n), some (.pointer (some ⟨a1, o1 + n, none⟩)), some (.int .i64 z1), some (.agg #[.int .i64 v, .int .i64 cc]), some (.tuple #[.agg #[.int .i64 (R.1), .int .i64 (R.2.1), .int .i64 (R.2.2.1), .int .i64 (R.2.2.2.1), .int .i64 (R.2.2.2.2.1), .int .i64 (R.2.2.2.2.2)], .int .i64 0]), some (.tuple #[.agg #[.int .i64 (R.1), .int .i64 (R.2.1), .int .i64 (R.2.2.1), .int .i64 (R.2.2.2.1), .int .i64 (R.2.2.2.2.1), .int .i64 (R.2.2.2.2.2)], .int .i64 0]), some (.agg #[.int .i64 (R.1), .int .i64 (R.2.1), .int .i64 (R.2.2.1), .int .i64 (R.2.2.2.1), .int .i64 (R.2.2.2.2.1), .int .i64 (R.2.2.2.2.2)]), some (.int .i64 0), none, none, some (.int .i64 0)] [none, none, none, none, none, none, none, none, none, none, none, none, none, none, none, none] [{ al := 13, st := 14, d := 11, z := (.cells #[.int .i64 0, .int .i64 0, .int .i64 0, .int .i64 0, .int .i64 0, .int .i64 0] 51 (0, 0)), f := fun _ => (.cells #[.int .i64 (R.1), .int .i64 (R.2.1), .int .i64 (R.2.2.1), .int .i64 (R.2.2.2.1), .int .i64 (R.2.2.2.2.1), .int .i64 (R.2.2.2.2.2)] 51 (0, 0)) }] Lq s b u1) (by kernel_rfl) ?_ ?_ ?_
            · exact ⟨listF [u56, u57, u58, u59, u60, u61, u62, u63, u64, u65, u55, u66, u67, u16, undef, u17], listN [], rfl, ri_start (Nat.le_refl _) (Nat.le_refl 16) (Nat.le_refl 16) rfl⟩
            · intro Lq aq u1 i hI hr
              obtain ⟨s, b, rfl, hv⟩ := hI
              have hi : i < 16 := ready_lt hr
              have HV := Lib.hid hv
              clear hv
              have hc : i = 0 ∨ i = 1 ∨ i = 2 ∨ i = 3 ∨ i = 4 ∨ i = 5 ∨ i = 6 ∨ i = 7 ∨ i = 8 ∨ i = 9 ∨ i = 10 ∨ i = 11 ∨ i = 12 ∨ i = 13 ∨ i = 14 ∨ i = 15 := by omega
              clear hi
              rcases hc with rfl | rfl | rfl | rfl | rfl | rfl | rfl | rfl | rfl | rfl | rfl | rfl | rfl | rfl | rfl | rfl
              · have hno := isOn_no (n := 16) (by decide) (mem_ready.1 hr).1
                clear hr
                refine wpOp_step rfl (fun K hK => ?_)
                go_simp
                refine hK _ _ ?_
                exact ⟨upd s 0 (.slice (some ⟨a0, o0, none⟩) n0 c0), b, rfl, RI.putV HV.out hno rfl rfl rfl⟩
              · have hno := isOn_no (n := 16) (by decide) (mem_ready.1 hr).1
                clear hr
                refine wpOp_step rfl (fun K hK => ?_)
                go_simp
                refine hK _ _ ?_
                exact ⟨upd s 1 (.int .i64 n), b, rfl, RI.putV HV.out hno rfl rfl rfl⟩
              · have hno := isOn_no (n := 16) (by decide) (mem_ready.1 hr).1
                have d0 := ready_dep hr (k := 0) (by kernel_rfl)
                have d1 := ready_dep hr (k := 1) (by kernel_rfl)
                clear hr
                have e0 : s 0 = (.slice (some ⟨a0, o0, none⟩) n0 c0) := HV.out.v d0 rfl
                have e1 : s 1 = (.int .i64 n) := HV.out.v d1 rfl
                refine wpOp_step rfl (fun K hK => ?_)
                go_simp
                refine hK _ _ ?_
                exact ⟨upd (upd (upd s 0 (.slice (some ⟨a0, o0, none⟩) n0 c0)) 1 (.int .i64 n)) 2 (.pointer (some ⟨a0, o0 + n, none⟩)), b, rfl, RI.putV (RI.re (j := 1) (v := (.int .i64 n)) (RI.re (j := 0) (v := (.slice (some ⟨a0, o0, none⟩) n0 c0)) HV.out e0) e1) hno rfl rfl rfl⟩
              · have hno := isOn_no (n := 16) (by decide) (mem_ready.1 hr).1
                have d2 := ready_dep hr (k := 2) (by kernel_rfl)
                clear hr
                have e2 : s 2 = (.pointer (some ⟨a0, o0 + n, none⟩)) := HV.out.v d2 rfl
                have c0 := stay_c hc0 HV.out.bel (Nat.le_refl _)
                refine wpOp_step rfl (fun K hK => ?_)
                go_simp
                refine hK _ _ ?_
                exact ⟨upd (upd s 2 (.pointer (some ⟨a0, o0 + n, none⟩))) 3 (.int .i64 z0), b, rfl, RI.putV (RI.re (j := 2) (v := (.pointer (some ⟨a0, o0 + n, none⟩))) HV.out e2) hno rfl rfl rfl⟩
              · have hno := isOn_no (n := 16) (by decide) (mem_ready.1 hr).1
                clear hr
                refine wpOp_step rfl (fun K hK => ?_)
                go_simp
                refine hK _ _ ?_
                exact ⟨upd s 4 (.slice (some ⟨a1, o1, none⟩) n1 c1), b, rfl, RI.putV HV.out hno rfl rfl rfl⟩
              · have hno := isOn_no (n := 16) (by decide) (mem_ready.1 hr).1
                clear hr
                refine wpOp_step rfl (fun K hK => ?_)
                go_simp
                refine hK _ _ ?_
                exact ⟨upd s 5 (.int .i64 n), b, rfl, RI.putV HV.out hno rfl rfl rfl⟩
              · have hno := isOn_no (n := 16) (by decide) (mem_ready.1 hr).1
                have d4 := ready_dep hr (k := 4) (by kernel_rfl)
                have d5 := ready_dep hr (k := 5) (by kernel_rfl)
                clear hr
                have e4 : s 4 = (.slice (some ⟨a1, o1, none⟩) n1 c1) := HV.out.v d4 rfl
                have e5 : s 5 = (.int .i64 n) := HV.out.v d5 rfl
                refine wpOp_step rfl (fun K hK => ?_)
                go_simp
                refine hK _ _ ?_
                exact ⟨upd (upd (upd s 4 (.slice (some ⟨a1, o1, none⟩) n1 c1)) 5 (.int .i64 n)) 6 (.pointer (some ⟨a1, o1 + n, none⟩)), b, rfl, RI.putV (RI.re (j := 5) (v := (.int .i64 n)) (RI.re (j := 4) (v := (.slice (some ⟨a1, o1, none⟩) n1 c1)) HV.out e4) e5) hno rfl rfl rfl⟩
              · have hno := isOn_no (n := 16) (by decide) (mem_ready.1 hr).1
                have d6 := ready_dep hr (k := 6) (by kernel_rfl)
                clear hr
                have e6 : s 6 = (.pointer (some ⟨a1, o1 + n, none⟩)) := HV.out.v d6 rfl
                have c1 := stay_c hc1 HV.out.bel (Nat.le_refl _)
                refine wpOp_step rfl (fun K hK => ?_)
                go_simp
                refine hK _ _ ?_
                exact ⟨upd (upd s 6 (.pointer (some ⟨a1, o1 + n, none⟩))) 7 (.int .i64 z1), b, rfl, RI.putV (RI.re (j := 6) (v := (.pointer (some ⟨a1, o1 + n, none⟩))) HV.out e6) hno rfl rfl rfl⟩
              · have hno := isOn_no (n := 16) (by decide) (mem_ready.1 hr).1
                have d3 := ready_dep hr (k := 3) (by kernel_rfl)
                have d7 := ready_dep hr (k := 7) (by kernel_rfl)
                clear hr
                have e3 : s 3 = (.int .i64 z0) := HV.out.v d3 rfl
                have e7 : s 7 = (.int .i64 z1) := HV.out.v d7 rfl
                refine wpOp_step rfl (fun K hK => ?_)
                go_wp2_with fail
                refine (CL.out _).mono ?_
                rintro e' wc ⟨he, hbc⟩
                subst he
                refine hK _ _ ?_
                exact ⟨upd (upd (upd s 3 (.int .i64 z0)) 7 (.int .i64 z1)) 8 (.agg #[.int .i64 v, .int .i64 cc]), b, rfl, RI.callV (RI.re (j := 7) (v := (.int .i64 z1)) (RI.re (j := 3) (v := (.int .i64 z0)) HV.out e3) e7) hbc hno rfl rfl rfl⟩
              · have hno := isOn_no (n := 16) (by decide) (mem_ready.1 hr).1
                have d8 := ready_dep hr (k := 8) (by kernel_rfl)
                clear hr
                have e8 : s 8 = (.agg #[.int .i64 v, .int .i64 cc]) := HV.out.v d8 rfl
                refine wpOp_step rfl (fun K hK => ?_)
                go_wp2_with fail
                refine (CM.out _).mono ?_
                rintro e' wc ⟨he, hbc⟩
                subst he
                refine hK _ _ ?_
                exact ⟨upd (upd s 8 (.agg #[.int .i64 v, .int .i64 cc])) 9 (.tuple #[.agg #[.int .i64 (R.1), .int .i64 (R.2.1), .int .i64 (R.2.2.1), .int .i64 (R.2.2.2.1), .int .i64 (R.2.2.2.2.1), .int .i64 (R.2.2.2.2.2)], .int .i64 0]), b, rfl, RI.callV (RI.re (j := 8) (v := (.agg #[.int .i64 v, .int .i64 cc])) HV.out e8) hbc hno rfl rfl rfl⟩
              · have hno := isOn_no (n := 16) (by decide) (mem_ready.1 hr).1
                have d9 := ready_dep hr (k := 9) (by kernel_rfl)
                clear hr
                have e9 : s 9 = (.tuple #[.agg #[.int .i64 (R.1), .int .i64 (R.2.1), .int .i64 (R.2.2.1), .int .i64 (R.2.2.2.1), .int .i64 (R.2.2.2.2.1), .int .i64 (R.2.2.2.2.2)], .int .i64 0]) := HV.out.v d9 rfl
                refine wpOp_step rfl (fun K hK => ?_)
                go_simp
                refine hK _ _ ?_
                exact ⟨upd (upd s 9 (.tuple #[.agg #[.int .i64 (R.1), .int .i64 (R.2.1), .int .i64 (R.2.2.1), .int .i64 (R.2.2.2.1), .int .i64 (R.2.2.2.2.1), .int .i64 (R.2.2.2.2.2)], .int .i64 0])) 10 (.tuple #[.agg #[.int .i64 (R.1), .int .i64 (R.2.1), .int .i64 (R.2.2.1), .int .i64 (R.2.2.2.1), .int .i64 (R.2.2.2.2.1), .int .i64 (R.2.2.2.2.2)], .int .i64 0]), b, rfl, RI.putV (RI.re (j := 9) (v := (.tuple #[.agg #[.int .i64 (R.1), .int .i64 (R.2.1), .int .i64 (R.2.2.1), .int .i64 (R.2.2.2.1), .int .i64 (R.2.2.2.2.1), .int .i64 (R.2.2.2.2.2)], .int .i64 0])) HV.out e9) hno rfl rfl rfl⟩
              · have hno := isOn_no (n := 16) (by decide) (mem_ready.1 hr).1
                have d10 := ready_dep hr (k := 10) (by kernel_rfl)
                clear hr
                have e10 : s 10 = (.tuple #[.agg #[.int .i64 (R.1), .int .i64 (R.2.1), .int .i64 (R.2.2.1), .int .i64 (R.2.2.2.1), .int .i64 (R.2.2.2.2.1), .int .i64 (R.2.2.2.2.2)], .int .i64 0]) := HV.out.v d10 rfl
                refine wpOp_step rfl (fun K hK => ?_)
                go_simp
                refine hK _ _ ?_
                exact ⟨upd (upd s 10 (.tuple #[.agg #[.int .i64 (R.1), .int .i64 (R.2.1), .int .i64 (R.2.2.1), .int .i64 (R.2.2.2.1), .int .i64 (R.2.2.2.2.1), .int .i64 (R.2.2.2.2.2)], .int .i64 0])) 11 (.agg #[.int .i64 (R.1), .int .i64 (R.2.1), .int .i64 (R.2.2.1), .int .i64 (R.2.2.2.1), .int .i64 (R.2.2.2.2.1), .int .i64 (R.2.2.2.2.2)]), b, rfl, RI.putV (RI.re (j := 10) (v := (.tuple #[.agg #[.int .i64 (R.1), .int .i64 (R.2.1), .int .i64 (R.2.2.1), .int .i64 (R.2.2.2.1), .int .i64 (R.2.2.2.2.1), .int .i64 (R.2.2.2.2.2)], .int .i64 0])) HV.out e10) hno rfl rfl rfl⟩
              · have hno := isOn_no (n := 16) (by decide) (mem_ready.1 hr).1
                have d10 := ready_dep hr (k := 10) (by kernel_rfl)
                clear hr
                have e10 : s 10 = (.tuple #[.agg #[.int .i64 (R.1), .int .i64 (R.2.1), .int .i64 (R.2.2.1), .int .i64 (R.2.2.2.1), .int .i64 (R.2.2.2.2.1), .int .i64 (R.2.2.2.2.2)], .int .i64 0]) := HV.out.v d10 rfl
                refine wpOp_step rfl (fun K hK => ?_)
                go_simp
                refine hK _ _ ?_
                exact ⟨upd (upd s 10 (.tuple #[.agg #[.int .i64 (R.1), .int .i64 (R.2.1), .int .i64 (R.2.2.1), .int .i64 (R.2.2.2.1), .int .i64 (R.2.2.2.2.1), .int .i64 (R.2.2.2.2.2)], .int .i64 0])) 12 (.int .i64 0), b, rfl, RI.putV (RI.re (j := 10) (v := (.tuple #[.agg #[.int .i64 (R.1), .int .i64 (R.2.1), .int .i64 (R.2.2.1), .int .i64 (R.2.2.2.1), .int .i64 (R.2.2.2.2.1), .int .i64 (R.2.2.2.2.2)], .int .i64 0])) HV.out e10) hno rfl rfl rfl⟩
              · have hno := isOn_no (n := 16) (by decide) (mem_ready.1 hr).1
                clear hr
                refine wpOp_step rfl (fun K hK => ?_)
                go_simp
                refine hK _ _ ?_
                exact ⟨upd s 13 _, updN b 13 _, rfl, RI.new HV.out hno rfl (by simp only [List.mem_cons, List.not_mem_nil, or_false]; rintro q rfl h <;> first | rfl | (simp at h)) rfl rfl⟩
              · have hno := isOn_no (n := 16) (by decide) (mem_ready.1 hr).1
                have d13 := ready_dep hr (k := 13) (by kernel_rfl)
                have d11 := ready_dep hr (k := 11) (by kernel_rfl)
                clear hr
                have e13 : s 13 = .pointer (some ⟨b 13, 0, none⟩) := (HV.out.bx (.head _) (isOn_of d13)).1
                have e11 : s 11 = (.agg #[.int .i64 (R.1), .int .i64 (R.2.1), .int .i64 (R.2.2.1), .int .i64 (R.2.2.2.1), .int .i64 (R.2.2.2.2.1), .int .i64 (R.2.2.2.2.2)]) := HV.out.v d11 rfl
                have kz : u1.heap[b 13]? = some (.cells #[.int .i64 0, .int .i64 0, .int .i64 0, .int .i64 0, .int .i64 0, .int .i64 0] 51 (0, 0)) := HV.out.fresh (.head _) (isOn_of d13) hno
                have z0 := cell_of_blk kz 0
                have z1 := cell_of_blk kz 1
                have z2 := cell_of_blk kz 2
                have z3 := cell_of_blk kz 3
                have z4 := cell_of_blk kz 4
                have z5 := cell_of_blk kz 5
                simp only [List.getElem?_toArray, List.getElem?_cons_zero, List.getElem?_cons_succ] at z0 z1 z2 z3 z4 z5
                have zf := frozen_of_blk kz
                have zl := blk_lt kz
                have zB := (HV.out.bx (.head _) (isOn_of d13)).2
                refine wpOp_step rfl (fun K hK => ?_)
                go_simp
                refine hK _ _ ?_
                have hset := RI.set (w' := setsW u1 (b 13) 0 [.int .i64 (R.1), .int .i64 (R.2.1), .int .i64 (R.2.2.1), .int .i64 (R.2.2.2.1), .int .i64 (R.2.2.2.2.1), .int .i64 (R.2.2.2.2.2)]) (i := 14) (v := undef) (RI.re (j := 11) (v := (.agg #[.int .i64 (R.1), .int .i64 (R.2.1), .int .i64 (R.2.2.1), .int .i64 (R.2.2.2.1), .int .i64 (R.2.2.2.2.1), .int .i64 (R.2.2.2.2.2)])) (RI.re (j := 13) (v := (.pointer (some ⟨b 13, 0, none⟩))) HV.out e13) e11) (.head _) hno rfl (isOn_of d13) (isOn_of d11) rfl (by simp only [List.mem_cons, List.not_mem_nil, or_false]; rintro q rfl h <;> first | rfl | (simp at h)) rfl rfl (HV.out.bel.trans (setsW_below zB _ _)) (setsW_size _ _ _ _) (fun k hk => setsW_far hk _ _) (setsW_blk kz rfl)
                exact ⟨_, b, rfl, hset⟩
              · have hno := isOn_no (n := 16) (by decide) (mem_ready.1 hr).1
                have d12 := ready_dep hr (k := 12) (by kernel_rfl)
                clear hr
                have e12 : s 12 = (.int .i64 0) := HV.out.v d12 rfl
                refine wpOp_step rfl (fun K hK => ?_)
                go_simp
                refine hK _ _ ?_
                exact ⟨upd (upd s 12 (.int .i64 0)) 15 (.int .i64 0), b, rfl, RI.putV (RI.re (j := 12) (v := (.int .i64 0)) HV.out e12) hno rfl rfl rfl⟩
            · intro Lq aq u1 hI hrd
              obtain ⟨s, b, ha, hv⟩ := hI
              have hall := all_listedM hrd hv.sz (by kernel_rfl)
              clear hrd
              have e0 : s 0 = (.slice (some ⟨a0, o0, none⟩) n0 c0) := hv.v (hall 0 (by decide)) rfl
              have e1 : s 1 = (.int .i64 n) := hv.v (hall 1 (by decide)) rfl
              have e2 : s 2 = (.pointer (some ⟨a0, o0 + n, none⟩)) := hv.v (hall 2 (by decide)) rfl
              have e3 : s 3 = (.int .i64 z0) := hv.v (hall 3 (by decide)) rfl
              have e4 : s 4 = (.slice (some ⟨a1, o1, none⟩) n1 c1) := hv.v (hall 4 (by decide)) rfl
              have e5 : s 5 = (.int .i64 n) := hv.v (hall 5 (by decide)) rfl
              have e6 : s 6 = (.pointer (some ⟨a1, o1 + n, none⟩)) := hv.v (hall 6 (by decide)) rfl
              have e7 : s 7 = (.int .i64 z1) := hv.v (hall 7 (by decide)) rfl
              have e8 : s 8 = (.agg #[.int .i64 v, .int .i64 cc]) := hv.v (hall 8 (by decide)) rfl
              have e9 : s 9 = (.tuple #[.agg #[.int .i64 (R.1), .int .i64 (R.2.1), .int .i64 (R.2.2.1), .int .i64 (R.2.2.2.1), .int .i64 (R.2.2.2.2.1), .int .i64 (R.2.2.2.2.2)], .int .i64 0]) := hv.v (hall 9 (by decide)) rfl
              have e10 : s 10 = (.tuple #[.agg #[.int .i64 (R.1), .int .i64 (R.2.1), .int .i64 (R.2.2.1), .int .i64 (R.2.2.2.1), .int .i64 (R.2.2.2.2.1), .int .i64 (R.2.2.2.2.2)], .int .i64 0]) := hv.v (hall 10 (by decide)) rfl
              have e11 : s 11 = (.agg #[.int .i64 (R.1), .int .i64 (R.2.1), .int .i64 (R.2.2.1), .int .i64 (R.2.2.2.1), .int .i64 (R.2.2.2.2.1), .int .i64 (R.2.2.2.2.2)]) := hv.v (hall 11 (by decide)) rfl
              have e12 : s 12 = (.int .i64 0) := hv.v (hall 12 (by decide)) rfl
              have e13 : s 13 = .pointer (some ⟨b 13, 0, none⟩) := (hv.bx (.head _) (isOn_of (hall 13 (by decide)))).1
              have e15 : s 15 = (.int .i64 0) := hv.v (hall 15 (by decide)) rfl
              simp only [e0, e1, e2, e3, e4, e5, e6, e7, e8, e9, e10, e11, e12, e13, e15] at ha
              subst ha
              have kb0 : u1.heap[b 13]? = some (.cells #[.int .i64 (R.1), .int .i64 (R.2.1), .int .i64 (R.2.2.1), .int .i64 (R.2.2.2.1), .int .i64 (R.2.2.2.2.1), .int .i64 (R.2.2.2.2.2)] 51 (0, 0)) := hv.full (.head _) (isOn_of (hall 13 (by decide))) (isOn_of (hall 14 (by decide)))
              have hbl := hv.bel
              have zb0 : wr.heap.size ≤ b 13 := (hv.bx (.head _) (isOn_of (hall 13 (by decide)))).2
              clear hall hv e0 e1 e2 e3 e4 e5 e6 e7 e8 e9 e10 e11 e12 e13 e15
              generalize b 13 = gM at kb0 zb0  ⊢
              have k_t_60 := blk_below k_t_50 hbl (blk_lt k_t_50)
              have k_s_60 := blk_below k_s_50 hbl (blk_lt k_s_50)
              have k_a_60 := blk_below k_a_50 hbl (blk_lt k_a_50)
              have k_p_60 := blk_below k_p_50 hbl (blk_lt k_p_50)
              have k_m_60 := kb0
              have hs_60 := hs_50.below hbl
              have hw_60 : Below wr.heap.size wr u1 := hbl
              clear kb0 zb0 hbl k_t_50 k_s_50 k_a_50 k_p_50
              have c_t_0 := cell_of_blk k_t_60 0
              have c_t_1 := cell_of_blk k_t_60 1
              have c_t_2 := cell_of_blk k_t_60 2
              simp only [List.getElem?_toArray, List.getElem?_cons_zero, List.getElem?_cons_succ] at c_t_0 c_t_1 c_t_2
              have f_t := frozen_of_blk k_t_60
              have s_t := blk_lt k_t_60
              have c_s_0 := cell_of_blk k_s_60 0
              have c_s_1 := cell_of_blk k_s_60 1
              have c_s_2 := cell_of_blk k_s_60 2
              have c_s_3 := cell_of_blk k_s_60 3
              have c_s_4 := cell_of_blk k_s_60 4
              have c_s_5 := cell_of_blk k_s_60 5
              simp only [List.getElem?_toArray, List.getElem?_cons_zero, List.getElem?_cons_succ] at c_s_0 c_s_1 c_s_2 c_s_3 c_s_4 c_s_5
              have f_s := frozen_of_blk k_s_60
              have s_s := blk_lt k_s_60
              have c_a_0 := cell_of_blk k_a_60 0
              have c_a_1 := cell_of_blk k_a_60 1
              have c_a_2 := cell_of_blk k_a_60 2
              have c_a_3 := cell_of_blk k_a_60 3
              have c_a_4 := cell_of_blk k_a_60 4
              have c_a_5 := cell_of_blk k_a_60 5
              simp only [List.getElem?_toArray, List.getElem?_cons_zero, List.getElem?_cons_succ] at c_a_0 c_a_1 c_a_2 c_a_3 c_a_4 c_a_5
              have f_a := frozen_of_blk k_a_60
              have s_a := blk_lt k_a_60
              have c_p_0 := cell_of_blk k_p_60 0
              have c_p_1 := cell_of_blk k_p_60 1
              have c_p_2 := cell_of_blk k_p_60 2
              simp only [List.getElem?_toArray, List.getElem?_cons_zero, List.getElem?_cons_succ] at c_p_0 c_p_1 c_p_2
              have f_p := frozen_of_blk k_p_60
              have s_p := blk_lt k_p_60
              have c_m_0 := cell_of_blk k_m_60 0
              have c_m_1 := cell_of_blk k_m_60 1
              have c_m_2 := cell_of_blk k_m_60 2
              have c_m_3 := cell_of_blk k_m_60 3
              have c_m_4 := cell_of_blk k_m_60 4
              have c_m_5 := cell_of_blk k_m_60 5
              simp only [List.getElem?_toArray, List.getElem?_cons_zero, List.getElem?_cons_succ] at c_m_0 c_m_1 c_m_2 c_m_3 c_m_4 c_m_5
              have f_m := frozen_of_blk k_m_60
              have s_m := blk_lt k_m_60
              go_wp2_with fail
              refine (CV.out _ hs_60).mono ?_
              rintro e w61 ⟨rfl, hb61⟩
              have k_t_61 : w61.heap[w1.heap.size]? = some (.cells #[.int .i64 tx, .int .i64 ty, .int .i64 tk] 23 (0, 0)) := blk_below k_t_60 hb61 (blk_lt k_t_60)
              have k_s_61 : w61.heap[w1.heap.size + 1]? = some (.cells #[.int .i64 1, .int .i64 0, .int .i64 0, .int .i64 1, .int .i64 0, .int .i64 0] 51 (0, 0)) := blk_below k_s_60 hb61 (blk_lt k_s_60)
              have k_a_61 : w61.heap[gA]? = some (.cells #[.int .i64 (M.1), .int .i64 (M.2.1), .int .i64 (M.2.2.1), .int .i64 (M.2.2.2.1), .int .i64 (M.2.2.2.2.1), .int .i64 (M.2.2.2.2.2)] 51 (0, 0)) := blk_below k_a_60 hb61 (blk_lt k_a_60)
              have k_p_61 : w61.heap[gP]? = some (.cells #[.int .i64 (T.1), .int .i64 (T.2.1), .int .i64 (T.2.2)] 23 (0, 0)) := blk_below k_p_60 hb61 (blk_lt k_p_60)
              have k_m_61 : w61.heap[gM]? = some (.cells #[.int .i64 (R.1), .int .i64 (R.2.1), .int .i64 (R.2.2.1), .int .i64 (R.2.2.2.1), .int .i64 (R.2.2.2.2.1), .int .i64 (R.2.2.2.2.2)] 51 (0, 0)) := blk_below k_m_60 hb61 (blk_lt k_m_60)
              have hw_61 : Below wr.heap.size wr w61 := stay_b hw_60 hb61
              have hs_61 := hs_60.below hb61
              clear c_t_0 c_t_1 c_t_2 f_t s_t c_s_0 c_s_1 c_s_2 c_s_3 c_s_4 c_s_5 f_s s_s c_a_0 c_a_1 c_a_2 c_a_3 c_a_4 c_a_5 f_a s_a c_p_0 c_p_1 c_p_2 f_p s_p c_m_0 c_m_1 c_m_2 c_m_3 c_m_4 c_m_5 f_m s_m k_t_60 k_s_60 k_a_60 k_p_60 k_m_60 hb61 hw_60
              have c_t_0 := cell_of_blk k_t_61 0
              have c_t_1 := cell_of_blk k_t_61 1
              have c_t_2 := cell_of_blk k_t_61 2
              simp only [List.getElem?_toArray, List.getElem?_cons_zero, List.getElem?_cons_succ] at c_t_0 c_t_1 c_t_2
              have f_t := frozen_of_blk k_t_61
              have s_t := blk_lt k_t_61
              have c_s_0 := cell_of_blk k_s_61 0
              have c_s_1 := cell_of_blk k_s_61 1
              have c_s_2 := cell_of_blk k_s_61 2
              have c_s_3 := cell_of_blk k_s_61 3
              have c_s_4 := cell_of_blk k_s_61 4
              have c_s_5 := cell_of_blk k_s_61 5
              simp only [List.getElem?_toArray, List.getElem?_cons_zero, List.getElem?_cons_succ] at c_s_0 c_s_1 c_s_2 c_s_3 c_s_4 c_s_5
              have f_s := frozen_of_blk k_s_61
              have s_s := blk_lt k_s_61
              have c_a_0 := cell_of_blk k_a_61 0
              have c_a_1 := cell_of_blk k_a_61 1
              have c_a_2 := cell_of_blk k_a_61 2
              have c_a_3 := cell_of_blk k_a_61 3
              have c_a_4 := cell_of_blk k_a_61 4
              have c_a_5 := cell_of_blk k_a_61 5
              simp only [List.getElem?_toArray, List.getElem?_cons_zero, List.getElem?_cons_succ] at c_a_0 c_a_1 c_a_2 c_a_3 c_a_4 c_a_5
              have f_a := frozen_of_blk k_a_61
              have s_a := blk_lt k_a_61
              have c_p_0 := cell_of_blk k_p_61 0
              have c_p_1 := cell_of_blk k_p_61 1
              have c_p_2 := cell_of_blk k_p_61 2
              simp only [List.getElem?_toArray, List.getElem?_cons_zero, List.getElem?_cons_succ] at c_p_0 c_p_1 c_p_2
              have f_p := frozen_of_blk k_p_61
              have s_p := blk_lt k_p_61
              have c_m_0 := cell_of_blk k_m_61 0
              have c_m_1 := cell_of_blk k_m_61 1
              have c_m_2 := cell_of_blk k_m_61 2
              have c_m_3 := cell_of_blk k_m_61 3
              have c_m_4 := cell_of_blk k_m_61 4
              have c_m_5 := cell_of_blk k_m_61 5
              simp only [List.getElem?_toArray, List.getElem?_cons_zero, List.getElem?_cons_succ] at c_m_0 c_m_1 c_m_2 c_m_3 c_m_4 c_m_5
              have f_m := frozen_of_blk k_m_61
              have s_m := blk_lt k_m_61
              have nUA : w61.heap.size ≠ gA := by have := blk_lt k_a_61; omega
              have nUP : w61.heap.size ≠ gP := by have := blk_lt k_p_61; omega
              go_wp2_with fail
              refine (CA.out _).mono ?_
              rintro e w62 ⟨rfl, hb62⟩
              have k_t_62 : w62.heap[w1.heap.size]? = some (.cells #[.int .i64 tx, .int .i64 ty, .int .i64 tk] 23 (0, 0)) := blk_below (blk_alloc k_t_61 _) hb62 (blk_lt (blk_alloc k_t_61 _))
              have k_s_62 : w62.heap[w1.heap.size + 1]? = some (.cells #[.int .i64 1, .int .i64 0, .int .i64 0, .int .i64 1, .int .i64 0, .int .i64 0] 51 (0, 0)) := blk_below (blk_alloc k_s_61 _) hb62 (blk_lt (blk_alloc k_s_61 _))
              have k_a_62 : w62.heap[gA]? = some (.cells #[.int .i64 (M.1), .int .i64 (M.2.1), .int .i64 (M.2.2.1), .int .i64 (M.2.2.2.1), .int .i64 (M.2.2.2.2.1), .int .i64 (M.2.2.2.2.2)] 51 (0, 0)) := blk_below (blk_alloc k_a_61 _) hb62 (blk_lt (blk_alloc k_a_61 _))
              have k_p_62 : w62.heap[gP]? = some (.cells #[.int .i64 (T.1), .int .i64 (T.2.1), .int .i64 (T.2.2)] 23 (0, 0)) := blk_below (blk_alloc k_p_61 _) hb62 (blk_lt (blk_alloc k_p_61 _))
              have k_m_62 : w62.heap[gM]? = some (.cells #[.int .i64 (R.1), .int .i64 (R.2.1), .int .i64 (R.2.2.1), .int .i64 (R.2.2.2.1), .int .i64 (R.2.2.2.2.1), .int .i64 (R.2.2.2.2.2)] 51 (0, 0)) := blk_below (blk_alloc k_m_61 _) hb62 (blk_lt (blk_alloc k_m_61 _))
              have k_u_62 : w62.heap[w61.heap.size]? = some (.cells #[.int .i64 (U.1), .int .i64 (U.2.1), .int .i64 (U.2.2)] 23 (0, 0)) := blk_below (new_blk (.cells #[.int .i64 (U.1), .int .i64 (U.2.1), .int .i64 (U.2.2)] 23) (by first | rfl | (simp; done) | (simp; omega))) hb62 (by first | (simp; done) | (simp; omega))
              have hw_62 : Below wr.heap.size wr w62 := stay_b (ba hw_61 _) hb62
              have hs_62 := (hs_61.alloc _).below hb62
              clear c_t_0 c_t_1 c_t_2 f_t s_t c_s_0 c_s_1 c_s_2 c_s_3 c_s_4 c_s_5 f_s s_s c_a_0 c_a_1 c_a_2 c_a_3 c_a_4 c_a_5 f_a s_a c_p_0 c_p_1 c_p_2 f_p s_p c_m_0 c_m_1 c_m_2 c_m_3 c_m_4 c_m_5 f_m s_m k_t_61 k_s_61 k_a_61 k_p_61 k_m_61 hb62 hw_61
              have c_t_0 := cell_of_blk k_t_62 0
              have c_t_1 := cell_of_blk k_t_62 1
              have c_t_2 := cell_of_blk k_t_62 2
              simp only [List.getElem?_toArray, List.getElem?_cons_zero, List.getElem?_cons_succ] at c_t_0 c_t_1 c_t_2
              have f_t := frozen_of_blk k_t_62
              have s_t := blk_lt k_t_62
              have c_s_0 := cell_of_blk k_s_62 0
              have c_s_1 := cell_of_blk k_s_62 1
              have c_s_2 := cell_of_blk k_s_62 2
              have c_s_3 := cell_of_blk k_s_62 3
              have c_s_4 := cell_of_blk k_s_62 4
              have c_s_5 := cell_of_blk k_s_62 5
              simp only [List.getElem?_toArray, List.getElem?_cons_zero, List.getElem?_cons_succ] at c_s_0 c_s_1 c_s_2 c_s_3 c_s_4 c_s_5
              have f_s := frozen_of_blk k_s_62
              have s_s := blk_lt k_s_62
              have c_a_0 := cell_of_blk k_a_62 0
              have c_a_1 := cell_of_blk k_a_62 1
              have c_a_2 := cell_of_blk k_a_62 2
              have c_a_3 := cell_of_blk k_a_62 3
              have c_a_4 := cell_of_blk k_a_62 4
              have c_a_5 := cell_of_blk k_a_62 5
              simp only [List.getElem?_toArray, List.getElem?_cons_zero, List.getElem?_cons_succ] at c_a_0 c_a_1 c_a_2 c_a_3 c_a_4 c_a_5
              have f_a := frozen_of_blk k_a_62
              have s_a := blk_lt k_a_62
              have c_p_0 := cell_of_blk k_p_62 0
              have c_p_1 := cell_of_blk k_p_62 1
              have c_p_2 := cell_of_blk k_p_62 2
              simp only [List.getElem?_toArray, List.getElem?_cons_zero, List.getElem?_cons_succ] at c_p_0 c_p_1 c_p_2
              have f_p := frozen_of_blk k_p_62
              have s_p := blk_lt k_p_62
              have c_m_0 := cell_of_blk k_m_62 0
              have c_m_1 := cell_of_blk k_m_62 1
              have c_m_2 := cell_of_blk k_m_62 2
              have c_m_3 := cell_of_blk k_m_62 3
              have c_m_4 := cell_of_blk k_m_62 4
              have c_m_5 := cell_of_blk k_m_62 5
              simp only [List.getElem?_toArray, List.getElem?_cons_zero, List.getElem?_cons_succ] at c_m_0 c_m_1 c_m_2 c_m_3 c_m_4 c_m_5
              have f_m := frozen_of_blk k_m_62
              have s_m := blk_lt k_m_62
              have c_u_0 := cell_of_blk k_u_62 0
              have c_u_1 := cell_of_blk k_u_62 1
              have c_u_2 := cell_of_blk k_u_62 2
              simp only [List.getElem?_toArray, List.getElem?_cons_zero, List.getElem?_cons_succ] at c_u_0 c_u_1 c_u_2
              have f_u := frozen_of_blk k_u_62
              have s_u := blk_lt k_u_62
              have nNA : w62.heap.size ≠ gA := by have := blk_lt k_a_62; omega
              have nNP : w62.heap.size ≠ gP := by have := blk_lt k_p_62; omega
              go_upto_region 12 with fail
              have k_t_63 : ((w62.alloc (.cells #[.int .i64 (N.1), .int .i64 (N.2.1), .int .i64 (N.2.2.1), .int .i64 (N.2.2.2.1), .int .i64 (N.2.2.2.2.1), .int .i64 (N.2.2.2.2.2)] 51))).heap[w1.heap.size]? = some (.cells #[.int .i64 tx, .int .i64 ty, .int .i64 tk] 23 (0, 0)) := (blk_alloc k_t_62 _)
              have k_s_63 : ((w62.alloc (.cells #[.int .i64 (N.1), .int .i64 (N.2.1), .int .i64 (N.2.2.1), .int .i64 (N.2.2.2.1), .int .i64 (N.2.2.2.2.1), .int .i64 (N.2.2.2.2.2)] 51))).heap[w1.heap.size + 1]? = some (.cells #[.int .i64 1, .int .i64 0, .int .i64 0, .int .i64 1, .int .i64 0, .int .i64 0] 51 (0, 0)) := (blk_alloc k_s_62 _)
              have k_a_63 : ((w62.alloc (.cells #[.int .i64 (N.1), .int .i64 (N.2.1), .int .i64 (N.2.2.1), .int .i64 (N.2.2.2.1), .int .i64 (N.2.2.2.2.1), .int .i64 (N.2.2.2.2.2)] 51))).heap[gA]? = some (.cells #[.int .i64 (M.1), .int .i64 (M.2.1), .int .i64 (M.2.2.1), .int .i64 (M.2.2.2.1), .int .i64 (M.2.2.2.2.1), .int .i64 (M.2.2.2.2.2)] 51 (0, 0)) := (blk_alloc k_a_62 _)
              have k_p_63 : ((w62.alloc (.cells #[.int .i64 (N.1), .int .i64 (N.2.1), .int .i64 (N.2.2.1), .int .i64 (N.2.2.2.1), .int .i64 (N.2.2.2.2.1), .int .i64 (N.2.2.2.2.2)] 51))).heap[gP]? = some (.cells #[.int .i64 (T.1), .int .i64 (T.2.1), .int .i64 (T.2.2)] 23 (0, 0)) := (blk_alloc k_p_62 _)
              have k_m_63 : ((w62.alloc (.cells #[.int .i64 (N.1), .int .i64 (N.2.1), .int .i64 (N.2.2.1), .int .i64 (N.2.2.2.1), .int .i64 (N.2.2.2.2.1), .int .i64 (N.2.2.2.2.2)] 51))).heap[gM]? = some (.cells #[.int .i64 (R.1), .int .i64 (R.2.1), .int .i64 (R.2.2.1), .int .i64 (R.2.2.2.1), .int .i64 (R.2.2.2.2.1), .int .i64 (R.2.2.2.2.2)] 51 (0, 0)) := (blk_alloc k_m_62 _)
              have k_u_63 : ((w62.alloc (.cells #[.int .i64 (N.1), .int .i64 (N.2.1), .int .i64 (N.2.2.1), .int .i64 (N.2.2.2.1), .int .i64 (N.2.2.2.2.1), .int .i64 (N.2.2.2.2.2)] 51))).heap[w61.heap.size]? = some (.cells #[.int .i64 (U.1), .int .i64 (U.2.1), .int .i64 (U.2.2)] 23 (0, 0)) := (blk_alloc k_u_62 _)
              have k_n_63 : ((w62.alloc (.cells #[.int .i64 (N.1), .int .i64 (N.2.1), .int .i64 (N.2.2.1), .int .i64 (N.2.2.2.1), .int .i64 (N.2.2.2.2.1), .int .i64 (N.2.2.2.2.2)] 51))).heap[w62.heap.size]? = some (.cells #[.int .i64 (N.1), .int .i64 (N.2.1), .int .i64 (N.2.2.1), .int .i64 (N.2.2.2.1), .int .i64 (N.2.2.2.2.1), .int .i64 (N.2.2.2.2.2)] 51 (0, 0)) := (new_blk (.cells #[.int .i64 (N.1), .int .i64 (N.2.1), .int .i64 (N.2.2.1), .int .i64 (N.2.2.2.1), .int .i64 (N.2.2.2.2.1), .int .i64 (N.2.2.2.2.2)] 51) (by first | rfl | (simp; done) | (simp; omega)))
              have hw_63 : Below wr.heap.size wr ((w62.alloc (.cells #[.int .i64 (N.1), .int .i64 (N.2.1), .int .i64 (N.2.2.1), .int .i64 (N.2.2.2.1), .int .i64 (N.2.2.2.2.1), .int .i64 (N.2.2.2.2.2)] 51))) := (ba hw_62 _)
              have hs_63 : Steps ((w62.alloc (.cells #[.int .i64 (N.1), .int .i64 (N.2.1), .int .i64 (N.2.2.1), .int .i64 (N.2.2.2.1), .int .i64 (N.2.2.2.2.1), .int .i64 (N.2.2.2.2.2)] 51))) := (hs_62.alloc _)
              clear c_t_0 c_t_1 c_t_2 f_t s_t c_s_0 c_s_1 c_s_2 c_s_3 c_s_4 c_s_5 f_s s_s c_a_0 c_a_1 c_a_2 c_a_3 c_a_4 c_a_5 f_a s_a c_p_0 c_p_1 c_p_2 f_p s_p c_m_0 c_m_1 c_m_2 c_m_3 c_m_4 c_m_5 f_m s_m c_u_0 c_u_1 c_u_2 f_u s_u k_t_62 k_s_62 k_a_62 k_p_62 k_m_62 k_u_62 hw_62
              generalize ((w62.alloc (.cells #[.int .i64 (N.1), .int .i64 (N.2.1), .int .i64 (N.2.2.1), .int .i64 (N.2.2.2.1), .int .i64 (N.2.2.2.2.1), .int .i64 (N.2.2.2.2.2)] 51))) = u2 at k_t_63 k_s_63 k_a_63 k_p_63 k_m_63 k_u_63 k_n_63 hs_63 hw_63 ⊢
              generalize w61.heap.size = gU at k_u_63 nUA nUP ⊢
              generalize w62.heap.size = gN at k_n_63 nNA nNP ⊢
              obtain ⟨zA, zP, nAP⟩ := HD.out
              have hB2 : Below wB.heap.size wB u2 := hbel.trans (hw_63.mono hbel.size)
              refine wp_region_inv (fun Lq aq u3 => ∃ (s : Nat → Value) (b : Nat → Nat), aq = { tmps := #[Value.slice (some { block := a0, off := o0 }) n0 c0, Value.slice (some { block := a1, off := o1 }) n1 c1, Value.int IntKind.i64 x, Value.int IntKind.i64 y, Value.int IntKind.i64 k, undef, undef, undef, undef, undef, u10, Value.pointer (some { block := w1.heap.size, off := 0 }), Value.pointer (some { block := w1.heap.size + 1, off := 0 }), Value.pointer (some { block := gA, off := 0 }), Value.pointer (some { block := gP, off := 0 }), Value.int IntKind.i64 ↑n, Value.pointer (some { block := gM, off := 0 }), Value.int IntKind.i64 0, Value.pointer (some { block := gU, off := 0 }), Value.int IntKind.i64 0, Value.pointer (some { block := gN, off := 0 }), Value.int IntKind.i64 0, undef, undef, undef, undef, undef, undef, undef, undef, undef, undef, Value.int IntKind.i64 x, Value.int IntKind.i64 y, Value.int IntKind.i64 k, Value.agg #[Value.int IntKind.i64 tx, Value.int IntKind.i64 ty, Value.int IntKind.i64 tk], Value.agg #[Value.int IntKind.i64 1, Value.int IntKind.i64 0, Value.int IntKind.i64 0, Value.int IntKind.i64 1, Value.int IntKind.i64 0, Value.int IntKind.i64 0], Value.agg #[Value.int IntKind.i64 1, Value.int IntKind.i64 0, Value.int IntKind.i64 0, Value.int IntKind.i64 1, Value.int IntKind.i64 0, Value.int IntKind.i64 0], aggT tx ty tk, Value.int IntKind.i64 ↑n, Value.slice (some { block := a0, off := o0 }) n0 c0, Value.int IntKind.i64 ↑n0, Value.bool true, Value.bool true, Value.int IntKind.i64 ↑n, Value.slice (some { block := a1, off := o1 }) n1 c1, Value.int IntKind.i64 ↑n1, Value.bool true, Value.bool true, Value.bool true, Value.int IntKind.i64 ↑n, Value.bool true, Value.bool true, u53, u54, Value.tuple #[Value.agg #[Value.int IntKind.i64 R.fst, Value.int IntKind.i64 R.snd.fst, Value.int IntKind.i64 R.snd.snd.fst, Value.int IntKind.i64 R.snd.snd.snd.fst, Value.int IntKind.i64 R.snd.snd.snd.snd.fst, Value.int IntKind.i64 R.snd.snd.snd.snd.snd], Value.int IntKind.i64 0], Value.slice (some { block := a0, off := o0 }) n0 c0, Value.int IntKind.i64 ↑n, Value.pointer (some { block := a0, off := o0 + n }), Value.int IntKind.i64 z0, Value.slice (some { block := a1, off := o1 }) n1 c1, Value.int IntKind.i64 ↑n, Value.pointer (some { block := a1, off := o1 + n }), Value.int IntKind.i64 z1, Value.agg #[Value.int IntKind.i64 v, Value.int IntKind.i64 cc], Value.tuple #[Value.agg #[Value.int IntKind.i64 R.fst, Value.int IntKind.i64 R.snd.fst, Value.int IntKind.i64 R.snd.snd.fst, Value.int IntKind.i64 R.snd.snd.snd.fst, Value.int IntKind.i64 R.snd.snd.snd.snd.fst, Value.int IntKind.i64 R.snd.snd.snd.snd.snd], Value.int IntKind.i64 0], Value.agg #[Value.int IntKind.i64 R.fst, Value.int IntKind.i64 R.snd.fst, Value.int IntKind.i64 R.snd.snd.fst, Value.int IntKind.i64 R.snd.snd.snd.fst, Value.int IntKind.i64 R.snd.snd.snd.snd.fst, Value.int IntKind.i64 R.snd.snd.snd.snd.snd], Value.int IntKind.i64 0, Value.tuple #[aggT3 U, Value.int IntKind.i64 0], Value.agg #[Value.int IntKind.i64 R.fst, Value.int IntKind.i64 R.snd.fst, Value.int IntKind.i64 R.snd.snd.fst, Value.int IntKind.i64 R.snd.snd.snd.fst, Value.int IntKind.i64 R.snd.snd.snd.snd.fst, Value.int IntKind.i64 R.snd.snd.snd.snd.snd], Value.agg #[Value.int IntKind.i64 T.fst, Value.int IntKind.i64 T.snd.fst, Value.int IntKind.i64 T.snd.snd], Value.tuple #[aggT3 U, Value.int IntKind.i64 0], aggT3 U, Value.int IntKind.i64 0, Value.tuple #[aggM N, Value.int IntKind.i64 0], Value.agg #[Value.int IntKind.i64 M.fst, Value.int IntKind.i64 M.snd.fst, Value.int IntKind.i64 M.snd.snd.fst, Value.int IntKind.i64 M.snd.snd.snd.fst, Value.int IntKind.i64 M.snd.snd.snd.snd.fst, Value.int IntKind.i64 M.snd.snd.snd.snd.snd], Value.agg #[Value.int IntKind.i64 R.fst, Value.int IntKind.i64 R.snd.fst, Value.int IntKind.i64 R.snd.snd.fst, Value.int IntKind.i64 R.snd.snd.snd.fst, Value.int IntKind.i64 R.snd.snd.snd.snd.fst, Value.int IntKind.i64 R.snd.snd.snd.snd.snd], Value.tuple #[aggM N, Value.int IntKind.i64 0], aggM N, Value.int IntKind.i64 0, Value.int IntKind.i64 0, Value.bool false, Value.bool false, Value.int IntKind.i64 0, Value.bool false, Value.bool false, Value.bool false, Value.int IntKind.i64 0, Value.bool false, Value.bool false, (s 0), (s 1), undef, undef, undef, undef, undef, undef, undef, undef, undef, undef, undef, undef, undef, undef, undef, undef, undef, undef, undef, undef, undef, undef, undef, undef, undef, undef, undef, undef, undef, undef, undef, undef, undef, undef, undef, undef, undef, undef, undef, undef, undef, undef, undef, undef, undef, undef, undef, undef, undef, undef, undef, undef, undef, undef, undef, undef, undef, undef, undef, undef, undef, undef, undef, undef, undef, undef, undef], defers := [] } ∧ RI 4 wB.heap.size u2 [some (.agg #[.int .i64 (N.1), .int .i64 (N.2.1), .int .i64 (N.2.2.1), .int .i64 (N.2.2.2.1), .int .i64 (N.2.2.2.2.1), .int .i64 (N.2.2.2.2.2)]), some (aggT3 U), none, none, some (.pointer (some ⟨gA, 0, none⟩)), some (.pointer (some ⟨gP, 0, none⟩))] [none, none, none, none, none, none, some (fun _ w => w.heap[gN]? = some (.cells #[.int .i64 (N.1), .int .i64 (N.2.1), .int .i64 (N.2.2.1), .int .i64 (N.2.2.2.1), .int .i64 (N.2.2.2.2.1), .int .i64 (N.2.2.2.2.2)] 51 (0, 0))), some (fun _ w => w.heap[gU]? = some (.cells #[.int .i64 (U.1), .int .i64 (U.2.1), .int .i64 (U.2.2)] 23 (0, 0)))] [{ al := 4, st := 2, d := 0, z := (.cells #[.int .i64 (M.1), .int .i64 (M.2.1), .int .i64 (M.2.2.1), .int .i64 (M.2.2.2.1), .int .i64 (M.2.2.2.2.1), .int .i64 (M.2.2.2.2.2)] 51 (0, 0)), f := fun _ => (.cells #[.int .i64 (N.1), .int .i64 (N.2.1), .int .i64 (N.2.2.1), .int .i64 (N.2.2.2.1), .int .i64 (N.2.2.2.2.1), .int .i64 (N.2.2.2.2.2)] 51 (0, 0)) }, { al := 5, st := 3, d := 1, z := (.cells #[.int .i64 (T.1), .int .i64 (T.2.1), .int .i64 (T.2.2)] 23 (0, 0)), f := fun _ => (.cells #[.int .i64 (U.1), .int .i64 (U.2.1), .int .i64 (U.2.2)] 23 (0, 0)) }] Lq s b u3) (by kernel_rfl) ?_ ?_ ?_
              · refine ⟨listF [u90, u91, undef, undef, .pointer (some ⟨gA, 0, none⟩), .pointer (some ⟨gP, 0, none⟩)], listN [0, 0, 0, 0, gA, gP], rfl, ri_start2 hB2.size ?_ rfl ?_ ?_ ?_⟩
                · intro i v hi hn
                  have hl := (List.getElem?_eq_some_iff.1 hi).1
                  have : i = 4 ∨ i = 5 := by simp at hl; omega
                  rcases this with rfl | rfl <;> exact Option.some.inj (Option.some.inj hi)
                · intro i F hi hn
                  have hl := (List.getElem?_eq_some_iff.1 hi).1
                  have : i = 4 ∨ i = 5 ∨ i = 6 ∨ i = 7 := by simp at hl; omega
                  rcases this with rfl | rfl | rfl | rfl
                  · exact absurd (Option.some.inj hi) (by simp)
                  · exact absurd (Option.some.inj hi) (by simp)
                  · obtain rfl := Option.some.inj (Option.some.inj hi)
                    exact ⟨fun k => k = gN, fun k hk => by subst hk; exact blk_lt k_n_63, fun w' _ hk => (hk _ rfl).trans k_n_63, by simp only [List.mem_cons, List.not_mem_nil, or_false]; rintro q (rfl | rfl) _ <;> first | exact nNA.symm | exact nNP.symm⟩
                  · obtain rfl := Option.some.inj (Option.some.inj hi)
                    exact ⟨fun k => k = gU, fun k hk => by subst hk; exact blk_lt k_u_63, fun w' _ hk => (hk _ rfl).trans k_u_63, by simp only [List.mem_cons, List.not_mem_nil, or_false]; rintro q (rfl | rfl) _ <;> first | exact nUA.symm | exact nUP.symm⟩
                · simp only [List.mem_cons, List.not_mem_nil, or_false]
                  rintro q (rfl | rfl) _
                  · exact ⟨rfl, zA, k_a_63⟩
                  · exact ⟨rfl, zP, k_p_63⟩
                · simp only [List.mem_cons, List.not_mem_nil, or_false]
                  rintro q (rfl | rfl) q' (rfl | rfl) _ _ hne
                  · exact absurd rfl hne
                  · exact nAP
                  · exact nAP.symm
                  · exact absurd rfl hne
              · intro Lq aq u3 i hI hr
                obtain ⟨s, b, rfl, hv⟩ := hI
                have hi : i < 4 := ready_lt hr
                have HV := Lib.hid hv
                clear hv
                have hc : i = 0 ∨ i = 1 ∨ i = 2 ∨ i = 3 := by omega
                clear hi
                rcases hc with rfl | rfl | rfl | rfl
                · have hno := isOn_no (n := 4) (by decide) (mem_ready.1 hr).1
                  clear hr
                  have kk := HV.out.mo (i := 6) (by decide) rfl
                  have c0 := cell_of_blk kk 0
                  have c1 := cell_of_blk kk 1
                  have c2 := cell_of_blk kk 2
                  have c3 := cell_of_blk kk 3
                  have c4 := cell_of_blk kk 4
                  have c5 := cell_of_blk kk 5
                  simp only [List.getElem?_toArray, List.getElem?_cons_zero, List.getElem?_cons_succ] at c0 c1 c2 c3 c4 c5
                  clear kk
                  refine wpOp_step rfl (fun K hK => ?_)
                  go_simp
                  refine hK _ _ ?_
                  exact ⟨upd s 0 (.agg #[.int .i64 (N.1), .int .i64 (N.2.1), .int .i64 (N.2.2.1), .int .i64 (N.2.2.2.1), .int .i64 (N.2.2.2.2.1), .int .i64 (N.2.2.2.2.2)]), b, rfl, RI.putV HV.out hno rfl rfl rfl⟩
                · have hno := isOn_no (n := 4) (by decide) (mem_ready.1 hr).1
                  clear hr
                  have kk := HV.out.mo (i := 7) (by decide) rfl
                  have c0 := cell_of_blk kk 0
                  have c1 := cell_of_blk kk 1
                  have c2 := cell_of_blk kk 2
                  simp only [List.getElem?_toArray, List.getElem?_cons_zero, List.getElem?_cons_succ] at c0 c1 c2
                  clear kk
                  refine wpOp_step rfl (fun K hK => ?_)
                  go_simp
                  refine hK _ _ ?_
                  exact ⟨upd s 1 (aggT3 U), b, rfl, RI.putV HV.out hno rfl rfl rfl⟩
                · have hno := isOn_no (n := 4) (by decide) (mem_ready.1 hr).1
                  have d0 := ready_dep hr (k := 0) (by kernel_rfl)
                  clear hr
                  have e0 : s 0 = (.agg #[.int .i64 (N.1), .int .i64 (N.2.1), .int .i64 (N.2.2.1), .int .i64 (N.2.2.2.1), .int .i64 (N.2.2.2.2.1), .int .i64 (N.2.2.2.2.2)]) := HV.out.v d0 rfl
                  have eb : gA = b 4 := by
                    have e1 := HV.out.vo (i := 4) (by decide) rfl
                    have e2 := (HV.out.bx (.head _) (isOn_ge (show (4 : Nat) ≤ 4 from by decide))).1
                    have e3 := e1.symm.trans e2
                    simpa using e3
                  have kz : u3.heap[b 4]? = some (.cells #[.int .i64 (M.1), .int .i64 (M.2.1), .int .i64 (M.2.2.1), .int .i64 (M.2.2.2.1), .int .i64 (M.2.2.2.2.1), .int .i64 (M.2.2.2.2.2)] 51 (0, 0)) := HV.out.fresh (.head _) (isOn_ge (show (4 : Nat) ≤ 4 from by decide)) hno
                  have ky := kz
                  rw [← eb] at ky
                  have EB := Lib.hid eb
                  clear eb
                  have z0 := cell_of_blk ky 0
                  have z1 := cell_of_blk ky 1
                  have z2 := cell_of_blk ky 2
                  have z3 := cell_of_blk ky 3
                  have z4 := cell_of_blk ky 4
                  have z5 := cell_of_blk ky 5
                  simp only [List.getElem?_toArray, List.getElem?_cons_zero, List.getElem?_cons_succ] at z0 z1 z2 z3 z4 z5
                  have zf := frozen_of_blk ky
                  have zl := blk_lt ky
                  have zB := (HV.out.bx (.head _) (isOn_ge (show (4 : Nat) ≤ 4 from by decide))).2
                  refine wpOp_step rfl (fun K hK => ?_)
                  go_simp
                  refine hK _ _ ?_
                  have hset := RI.set (w' := setsW u3 (b 4) 0 [.int .i64 (N.1), .int .i64 (N.2.1), .int .i64 (N.2.2.1), .int .i64 (N.2.2.2.1), .int .i64 (N.2.2.2.2.1), .int .i64 (N.2.2.2.2.2)]) (i := 2) (v := undef) (RI.re (j := 0) (v := (.agg #[.int .i64 (N.1), .int .i64 (N.2.1), .int .i64 (N.2.2.1), .int .i64 (N.2.2.2.1), .int .i64 (N.2.2.2.2.1), .int .i64 (N.2.2.2.2.2)])) HV.out e0) (.head _) hno rfl (isOn_ge (show (4 : Nat) ≤ 4 from by decide)) (isOn_of d0) rfl (by simp only [List.mem_cons, List.not_mem_nil, or_false]; rintro q (rfl | rfl) h <;> first | rfl | (simp at h)) rfl rfl (HV.out.bel.trans (setsW_below zB _ _)) (setsW_size _ _ _ _) (fun k hk => setsW_far hk _ _) (setsW_blk kz rfl)
                  rw [← EB.out] at hset
                  exact ⟨_, b, rfl, hset⟩
                · have hno := isOn_no (n := 4) (by decide) (mem_ready.1 hr).1
                  have d1 := ready_dep hr (k := 1) (by kernel_rfl)
                  clear hr
                  have e1 : s 1 = (aggT3 U) := HV.out.v d1 rfl
                  have eb : gP = b 5 := by
                    have e1 := HV.out.vo (i := 5) (by decide) rfl
                    have e2 := (HV.out.bx (.tail _ (.head _)) (isOn_ge (show (4 : Nat) ≤ 5 from by decide))).1
                    have e3 := e1.symm.trans e2
                    simpa using e3
                  have kz : u3.heap[b 5]? = some (.cells #[.int .i64 (T.1), .int .i64 (T.2.1), .int .i64 (T.2.2)] 23 (0, 0)) := HV.out.fresh (.tail _ (.head _)) (isOn_ge (show (4 : Nat) ≤ 5 from by decide)) hno
                  have ky := kz
                  rw [← eb] at ky
                  have EB := Lib.hid eb
                  clear eb
                  have z0 := cell_of_blk ky 0
                  have z1 := cell_of_blk ky 1
                  have z2 := cell_of_blk ky 2
                  simp only [List.getElem?_toArray, List.getElem?_cons_zero, List.getElem?_cons_succ] at z0 z1 z2
                  have zf := frozen_of_blk ky
                  have zl := blk_lt ky
                  have zB := (HV.out.bx (.tail _ (.head _)) (isOn_ge (show (4 : Nat) ≤ 5 from by decide))).2
                  refine wpOp_step rfl (fun K hK => ?_)
                  go_simp
                  refine hK _ _ ?_
                  have hset := RI.set (w' := setsW u3 (b 5) 0 [.int .i64 (U.1), .int .i64 (U.2.1), .int .i64 (U.2.2)]) (i := 3) (v := undef) (RI.re (j := 1) (v := (aggT3 U)) HV.out e1) (.tail _ (.head _)) hno rfl (isOn_ge (show (4 : Nat) ≤ 5 from by decide)) (isOn_of d1) rfl (by simp only [List.mem_cons, List.not_mem_nil, or_false]; rintro q (rfl | rfl) h <;> first | rfl | (simp at h)) rfl rfl (HV.out.bel.trans (setsW_below zB _ _)) (setsW_size _ _ _ _) (fun k hk => setsW_far hk _ _) (setsW_blk kz rfl)
                  rw [← EB.out] at hset
                  exact ⟨_, b, rfl, hset⟩
              · intro Lq aq u3 hI hrd
                obtain ⟨s, b, ha, hv⟩ := hI
                have hall := all_listedM hrd hv.sz (by kernel_rfl)
                clear hrd
                have e0 : s 0 = (.agg #[.int .i64 (N.1), .int .i64 (N.2.1), .int .i64 (N.2.2.1), .int .i64 (N.2.2.2.1), .int .i64 (N.2.2.2.2.1), .int .i64 (N.2.2.2.2.2)]) := hv.v (hall 0 (by decide)) rfl
                have e1 : s 1 = (aggT3 U) := hv.v (hall 1 (by decide)) rfl
                simp only [e0, e1] at ha
                subst ha
                have kb0 : u3.heap[b 4]? = some (.cells #[.int .i64 (N.1), .int .i64 (N.2.1), .int .i64 (N.2.2.1), .int .i64 (N.2.2.2.1), .int .i64 (N.2.2.2.2.1), .int .i64 (N.2.2.2.2.2)] 51 (0, 0)) := hv.full (.head _) (isOn_ge (show (4 : Nat) ≤ 4 from by decide)) (isOn_of (hall 2 (by decide)))
                have kb1 : u3.heap[b 5]? = some (.cells #[.int .i64 (U.1), .int .i64 (U.2.1), .int .i64 (U.2.2)] 23 (0, 0)) := hv.full (.tail _ (.head _)) (isOn_ge (show (4 : Nat) ≤ 5 from by decide)) (isOn_of (hall 3 (by decide)))
                have hbl := hv.bel
                have eb0 : gA = b 4 := by
                  have e1 := hv.vo (i := 4) (by decide) rfl
                  have e2 := (hv.bx (.head _) (isOn_ge (show (4 : Nat) ≤ 4 from by decide))).1
                  have e3 := e1.symm.trans e2
                  simpa using e3
                rw [← eb0] at kb0
                clear eb0
                have eb1 : gP = b 5 := by
                  have e1 := hv.vo (i := 5) (by decide) rfl
                  have e2 := (hv.bx (.tail _ (.head _)) (isOn_ge (show (4 : Nat) ≤ 5 from by decide))).1
                  have e3 := e1.symm.trans e2
                  simpa using e3
                rw [← eb1] at kb1
                clear eb1
                clear hall hv e0 e1
                go_wp2
                go_roundw
                case rel => exact ⟨n + 1, N, U, by omega, by omega, by omega, by go_num, GX.out, hB2.trans hbl, kb0, kb1⟩
                case measure => simp [intOf]; omega
          · have hw_50 : Below wr.heap.size wr wr := Below.refl _ _
            have G := gi_end HG.out h8 b3.1 b3.2 b1.1 b1.2 b2.1 b2.2
            obtain ⟨N, hN⟩ : ∃ N, N = backV M := ⟨_, rfl⟩
            have e1 := fun w hs => gmove_ok M tx ty tk w hs G.a G.t (by rw [G.mv]; exact G.u)
            have e2 := fun w => gback_ok M w G.a G.b
            have e3 := fun w hs => gmove_ok (backV M) T.1 T.2.1 T.2.2 w hs G.b G.u (by rw [G.bk]; exact G.t)
            have e4 := fun w => gafter_ok M (backV M) w G.a G.b (by rw [G.o1]; exact G.s)
            have e5 := fun w => gafter_ok (backV M) M w G.b G.a (by rw [G.o2]; exact G.s)
            simp only [G.mv] at e1
            simp only [← hN] at e2
            simp only [G.bk] at e3
            simp only [← hN] at e3
            simp only [G.o1] at e4
            simp only [← hN] at e4
            simp only [G.o2] at e5
            simp only [← hN] at e5
            have r1 : ∀ w : World, (binOp .eql 23 (aggT3 T) (aggT3 T)).run Tryd.prog w = .ok (.bool true) w := fun w => by rw [eqT]; simp [eqL]
            have r2 : ∀ w : World, (binOp .eql 23 (aggT tx ty tk) (aggT tx ty tk)).run Tryd.prog w = .ok (.bool true) w := fun w => by rw [eqT]; simp [eqL]
            have r3 : ∀ w : World, (binOp .eql 51 (.agg #[.int .i64 1, .int .i64 0, .int .i64 0, .int .i64 1, .int .i64 0, .int .i64 0]) (.agg #[.int .i64 1, .int .i64 0, .int .i64 0, .int .i64 1, .int .i64 0, .int .i64 0])).run Tryd.prog w = .ok (.bool true) w := fun w => by rw [eqM6]; rfl
            have E1 := Lib.hid e1
            have E2 := Lib.hid e2
            have E3 := Lib.hid e3
            have E4 := Lib.hid e4
            have E5 := Lib.hid e5
            clear e1 e2 e3 e4 e5 hN G
            have c_t_0 := cell_of_blk k_t_50 0
            have c_t_1 := cell_of_blk k_t_50 1
            have c_t_2 := cell_of_blk k_t_50 2
            simp only [List.getElem?_toArray, List.getElem?_cons_zero, List.getElem?_cons_succ] at c_t_0 c_t_1 c_t_2
            have f_t := frozen_of_blk k_t_50
            have s_t := blk_lt k_t_50
            have c_s_0 := cell_of_blk k_s_50 0
            have c_s_1 := cell_of_blk k_s_50 1
            have c_s_2 := cell_of_blk k_s_50 2
            have c_s_3 := cell_of_blk k_s_50 3
            have c_s_4 := cell_of_blk k_s_50 4
            have c_s_5 := cell_of_blk k_s_50 5
            simp only [List.getElem?_toArray, List.getElem?_cons_zero, List.getElem?_cons_succ] at c_s_0 c_s_1 c_s_2 c_s_3 c_s_4 c_s_5
            have f_s := frozen_of_blk k_s_50
            have s_s := blk_lt k_s_50
            have c_a_0 := cell_of_blk k_a_50 0
            have c_a_1 := cell_of_blk k_a_50 1
            have c_a_2 := cell_of_blk k_a_50 2
            have c_a_3 := cell_of_blk k_a_50 3
            have c_a_4 := cell_of_blk k_a_50 4
            have c_a_5 := cell_of_blk k_a_50 5
            simp only [List.getElem?_toArray, List.getElem?_cons_zero, List.getElem?_cons_succ] at c_a_0 c_a_1 c_a_2 c_a_3 c_a_4 c_a_5
            have f_a := frozen_of_blk k_a_50
            have s_a := blk_lt k_a_50
            have c_p_0 := cell_of_blk k_p_50 0
            have c_p_1 := cell_of_blk k_p_50 1
            have c_p_2 := cell_of_blk k_p_50 2
            simp only [List.getElem?_toArray, List.getElem?_cons_zero, List.getElem?_cons_succ] at c_p_0 c_p_1 c_p_2
            have f_p := frozen_of_blk k_p_50
            have s_p := blk_lt k_p_50
            go_wp2_with fail
            refine (E1.out _ hs_50).mono ?_
            rintro e w51 ⟨rfl, hb51⟩
            have k_t_51 : w51.heap[w1.heap.size]? = some (.cells #[.int .i64 tx, .int .i64 ty, .int .i64 tk] 23 (0, 0)) := blk_below k_t_50 hb51 (blk_lt k_t_50)
            have k_s_51 : w51.heap[w1.heap.size + 1]? = some (.cells #[.int .i64 1, .int .i64 0, .int .i64 0, .int .i64 1, .int .i64 0, .int .i64 0] 51 (0, 0)) := blk_below k_s_50 hb51 (blk_lt k_s_50)
            have k_a_51 : w51.heap[gA]? = some (.cells #[.int .i64 (M.1), .int .i64 (M.2.1), .int .i64 (M.2.2.1), .int .i64 (M.2.2.2.1), .int .i64 (M.2.2.2.2.1), .int .i64 (M.2.2.2.2.2)] 51 (0, 0)) := blk_below k_a_50 hb51 (blk_lt k_a_50)
            have k_p_51 : w51.heap[gP]? = some (.cells #[.int .i64 (T.1), .int .i64 (T.2.1), .int .i64 (T.2.2)] 23 (0, 0)) := blk_below k_p_50 hb51 (blk_lt k_p_50)
            have hw_51 : Below wr.heap.size wr w51 := stay_b hw_50 hb51
            have hs_51 := hs_50.below hb51
            clear c_t_0 c_t_1 c_t_2 f_t s_t c_s_0 c_s_1 c_s_2 c_s_3 c_s_4 c_s_5 f_s s_s c_a_0 c_a_1 c_a_2 c_a_3 c_a_4 c_a_5 f_a s_a c_p_0 c_p_1 c_p_2 f_p s_p k_t_50 k_s_50 k_a_50 k_p_50 hb51 hw_50
            have c_t_0 := cell_of_blk k_t_51 0
            have c_t_1 := cell_of_blk k_t_51 1
            have c_t_2 := cell_of_blk k_t_51 2
            simp only [List.getElem?_toArray, List.getElem?_cons_zero, List.getElem?_cons_succ] at c_t_0 c_t_1 c_t_2
            have f_t := frozen_of_blk k_t_51
            have s_t := blk_lt k_t_51
            have c_s_0 := cell_of_blk k_s_51 0
            have c_s_1 := cell_of_blk k_s_51 1
            have c_s_2 := cell_of_blk k_s_51 2
            have c_s_3 := cell_of_blk k_s_51 3
            have c_s_4 := cell_of_blk k_s_51 4
            have c_s_5 := cell_of_blk k_s_51 5
            simp only [List.getElem?_toArray, List.getElem?_cons_zero, List.getElem?_cons_succ] at c_s_0 c_s_1 c_s_2 c_s_3 c_s_4 c_s_5
            have f_s := frozen_of_blk k_s_51
            have s_s := blk_lt k_s_51
            have c_a_0 := cell_of_blk k_a_51 0
            have c_a_1 := cell_of_blk k_a_51 1
            have c_a_2 := cell_of_blk k_a_51 2
            have c_a_3 := cell_of_blk k_a_51 3
            have c_a_4 := cell_of_blk k_a_51 4
            have c_a_5 := cell_of_blk k_a_51 5
            simp only [List.getElem?_toArray, List.getElem?_cons_zero, List.getElem?_cons_succ] at c_a_0 c_a_1 c_a_2 c_a_3 c_a_4 c_a_5
            have f_a := frozen_of_blk k_a_51
            have s_a := blk_lt k_a_51
            have c_p_0 := cell_of_blk k_p_51 0
            have c_p_1 := cell_of_blk k_p_51 1
            have c_p_2 := cell_of_blk k_p_51 2
            simp only [List.getElem?_toArray, List.getElem?_cons_zero, List.getElem?_cons_succ] at c_p_0 c_p_1 c_p_2
            have f_p := frozen_of_blk k_p_51
            have s_p := blk_lt k_p_51
            go_wp2_with fail
            refine (E2.out _).mono ?_
            rintro e w52 ⟨rfl, hb52⟩
            have k_t_52 : w52.heap[w1.heap.size]? = some (.cells #[.int .i64 tx, .int .i64 ty, .int .i64 tk] 23 (0, 0)) := blk_below (blk_alloc k_t_51 _) hb52 (blk_lt (blk_alloc k_t_51 _))
            have k_s_52 : w52.heap[w1.heap.size + 1]? = some (.cells #[.int .i64 1, .int .i64 0, .int .i64 0, .int .i64 1, .int .i64 0, .int .i64 0] 51 (0, 0)) := blk_below (blk_alloc k_s_51 _) hb52 (blk_lt (blk_alloc k_s_51 _))
            have k_a_52 : w52.heap[gA]? = some (.cells #[.int .i64 (M.1), .int .i64 (M.2.1), .int .i64 (M.2.2.1), .int .i64 (M.2.2.2.1), .int .i64 (M.2.2.2.2.1), .int .i64 (M.2.2.2.2.2)] 51 (0, 0)) := blk_below (blk_alloc k_a_51 _) hb52 (blk_lt (blk_alloc k_a_51 _))
            have k_p_52 : w52.heap[gP]? = some (.cells #[.int .i64 (T.1), .int .i64 (T.2.1), .int .i64 (T.2.2)] 23 (0, 0)) := blk_below (blk_alloc k_p_51 _) hb52 (blk_lt (blk_alloc k_p_51 _))
            have k_u_52 : w52.heap[w51.heap.size]? = some (.cells #[.int .i64 (T.1), .int .i64 (T.2.1), .int .i64 (T.2.2)] 23 (0, 0)) := blk_below (new_blk (.cells #[.int .i64 (T.1), .int .i64 (T.2.1), .int .i64 (T.2.2)] 23) (by first | rfl | (simp; done) | (simp; omega))) hb52 (by first | (simp; done) | (simp; omega))
            have hw_52 : Below wr.heap.size wr w52 := stay_b (ba hw_51 _) hb52
            have hs_52 := (hs_51.alloc _).below hb52
            clear c_t_0 c_t_1 c_t_2 f_t s_t c_s_0 c_s_1 c_s_2 c_s_3 c_s_4 c_s_5 f_s s_s c_a_0 c_a_1 c_a_2 c_a_3 c_a_4 c_a_5 f_a s_a c_p_0 c_p_1 c_p_2 f_p s_p k_t_51 k_s_51 k_a_51 k_p_51 hb52 hw_51
            have c_t_0 := cell_of_blk k_t_52 0
            have c_t_1 := cell_of_blk k_t_52 1
            have c_t_2 := cell_of_blk k_t_52 2
            simp only [List.getElem?_toArray, List.getElem?_cons_zero, List.getElem?_cons_succ] at c_t_0 c_t_1 c_t_2
            have f_t := frozen_of_blk k_t_52
            have s_t := blk_lt k_t_52
            have c_s_0 := cell_of_blk k_s_52 0
            have c_s_1 := cell_of_blk k_s_52 1
            have c_s_2 := cell_of_blk k_s_52 2
            have c_s_3 := cell_of_blk k_s_52 3
            have c_s_4 := cell_of_blk k_s_52 4
            have c_s_5 := cell_of_blk k_s_52 5
            simp only [List.getElem?_toArray, List.getElem?_cons_zero, List.getElem?_cons_succ] at c_s_0 c_s_1 c_s_2 c_s_3 c_s_4 c_s_5
            have f_s := frozen_of_blk k_s_52
            have s_s := blk_lt k_s_52
            have c_a_0 := cell_of_blk k_a_52 0
            have c_a_1 := cell_of_blk k_a_52 1
            have c_a_2 := cell_of_blk k_a_52 2
            have c_a_3 := cell_of_blk k_a_52 3
            have c_a_4 := cell_of_blk k_a_52 4
            have c_a_5 := cell_of_blk k_a_52 5
            simp only [List.getElem?_toArray, List.getElem?_cons_zero, List.getElem?_cons_succ] at c_a_0 c_a_1 c_a_2 c_a_3 c_a_4 c_a_5
            have f_a := frozen_of_blk k_a_52
            have s_a := blk_lt k_a_52
            have c_p_0 := cell_of_blk k_p_52 0
            have c_p_1 := cell_of_blk k_p_52 1
            have c_p_2 := cell_of_blk k_p_52 2
            simp only [List.getElem?_toArray, List.getElem?_cons_zero, List.getElem?_cons_succ] at c_p_0 c_p_1 c_p_2
            have f_p := frozen_of_blk k_p_52
            have s_p := blk_lt k_p_52
            have c_u_0 := cell_of_blk k_u_52 0
            have c_u_1 := cell_of_blk k_u_52 1
            have c_u_2 := cell_of_blk k_u_52 2
            simp only [List.getElem?_toArray, List.getElem?_cons_zero, List.getElem?_cons_succ] at c_u_0 c_u_1 c_u_2
            have f_u := frozen_of_blk k_u_52
            have s_u := blk_lt k_u_52
            go_wp2_with fail
            refine (E3.out _ (hs_52.alloc _)).mono ?_
            rintro e w53 ⟨rfl, hb53⟩
            have k_t_53 : w53.heap[w1.heap.size]? = some (.cells #[.int .i64 tx, .int .i64 ty, .int .i64 tk] 23 (0, 0)) := blk_below (blk_alloc k_t_52 _) hb53 (blk_lt (blk_alloc k_t_52 _))
            have k_s_53 : w53.heap[w1.heap.size + 1]? = some (.cells #[.int .i64 1, .int .i64 0, .int .i64 0, .int .i64 1, .int .i64 0, .int .i64 0] 51 (0, 0)) := blk_below (blk_alloc k_s_52 _) hb53 (blk_lt (blk_alloc k_s_52 _))
            have k_a_53 : w53.heap[gA]? = some (.cells #[.int .i64 (M.1), .int .i64 (M.2.1), .int .i64 (M.2.2.1), .int .i64 (M.2.2.2.1), .int .i64 (M.2.2.2.2.1), .int .i64 (M.2.2.2.2.2)] 51 (0, 0)) := blk_below (blk_alloc k_a_52 _) hb53 (blk_lt (blk_alloc k_a_52 _))
            have k_p_53 : w53.heap[gP]? = some (.cells #[.int .i64 (T.1), .int .i64 (T.2.1), .int .i64 (T.2.2)] 23 (0, 0)) := blk_below (blk_alloc k_p_52 _) hb53 (blk_lt (blk_alloc k_p_52 _))
            have k_u_53 : w53.heap[w51.heap.size]? = some (.cells #[.int .i64 (T.1), .int .i64 (T.2.1), .int .i64 (T.2.2)] 23 (0, 0)) := blk_below (blk_alloc k_u_52 _) hb53 (blk_lt (blk_alloc k_u_52 _))
            have k_b_53 : w53.heap[w52.heap.size]? = some (.cells #[.int .i64 (N.1), .int .i64 (N.2.1), .int .i64 (N.2.2.1), .int .i64 (N.2.2.2.1), .int .i64 (N.2.2.2.2.1), .int .i64 (N.2.2.2.2.2)] 51 (0, 0)) := blk_below (new_blk (.cells #[.int .i64 (N.1), .int .i64 (N.2.1), .int .i64 (N.2.2.1), .int .i64 (N.2.2.2.1), .int .i64 (N.2.2.2.2.1), .int .i64 (N.2.2.2.2.2)] 51) (by first | rfl | (simp; done) | (simp; omega))) hb53 (by first | (simp; done) | (simp; omega))
            have hw_53 : Below wr.heap.size wr w53 := stay_b (ba hw_52 _) hb53
            have hs_53 := (hs_52.alloc _).below hb53
            clear c_t_0 c_t_1 c_t_2 f_t s_t c_s_0 c_s_1 c_s_2 c_s_3 c_s_4 c_s_5 f_s s_s c_a_0 c_a_1 c_a_2 c_a_3 c_a_4 c_a_5 f_a s_a c_p_0 c_p_1 c_p_2 f_p s_p c_u_0 c_u_1 c_u_2 f_u s_u k_t_52 k_s_52 k_a_52 k_p_52 k_u_52 hb53 hw_52
            have c_t_0 := cell_of_blk k_t_53 0
            have c_t_1 := cell_of_blk k_t_53 1
            have c_t_2 := cell_of_blk k_t_53 2
            simp only [List.getElem?_toArray, List.getElem?_cons_zero, List.getElem?_cons_succ] at c_t_0 c_t_1 c_t_2
            have f_t := frozen_of_blk k_t_53
            have s_t := blk_lt k_t_53
            have c_s_0 := cell_of_blk k_s_53 0
            have c_s_1 := cell_of_blk k_s_53 1
            have c_s_2 := cell_of_blk k_s_53 2
            have c_s_3 := cell_of_blk k_s_53 3
            have c_s_4 := cell_of_blk k_s_53 4
            have c_s_5 := cell_of_blk k_s_53 5
            simp only [List.getElem?_toArray, List.getElem?_cons_zero, List.getElem?_cons_succ] at c_s_0 c_s_1 c_s_2 c_s_3 c_s_4 c_s_5
            have f_s := frozen_of_blk k_s_53
            have s_s := blk_lt k_s_53
            have c_a_0 := cell_of_blk k_a_53 0
            have c_a_1 := cell_of_blk k_a_53 1
            have c_a_2 := cell_of_blk k_a_53 2
            have c_a_3 := cell_of_blk k_a_53 3
            have c_a_4 := cell_of_blk k_a_53 4
            have c_a_5 := cell_of_blk k_a_53 5
            simp only [List.getElem?_toArray, List.getElem?_cons_zero, List.getElem?_cons_succ] at c_a_0 c_a_1 c_a_2 c_a_3 c_a_4 c_a_5
            have f_a := frozen_of_blk k_a_53
            have s_a := blk_lt k_a_53
            have c_p_0 := cell_of_blk k_p_53 0
            have c_p_1 := cell_of_blk k_p_53 1
            have c_p_2 := cell_of_blk k_p_53 2
            simp only [List.getElem?_toArray, List.getElem?_cons_zero, List.getElem?_cons_succ] at c_p_0 c_p_1 c_p_2
            have f_p := frozen_of_blk k_p_53
            have s_p := blk_lt k_p_53
            have c_u_0 := cell_of_blk k_u_53 0
            have c_u_1 := cell_of_blk k_u_53 1
            have c_u_2 := cell_of_blk k_u_53 2
            simp only [List.getElem?_toArray, List.getElem?_cons_zero, List.getElem?_cons_succ] at c_u_0 c_u_1 c_u_2
            have f_u := frozen_of_blk k_u_53
            have s_u := blk_lt k_u_53
            have c_b_0 := cell_of_blk k_b_53 0
            have c_b_1 := cell_of_blk k_b_53 1
            have c_b_2 := cell_of_blk k_b_53 2
            have c_b_3 := cell_of_blk k_b_53 3
            have c_b_4 := cell_of_blk k_b_53 4
            have c_b_5 := cell_of_blk k_b_53 5
            simp only [List.getElem?_toArray, List.getElem?_cons_zero, List.getElem?_cons_succ] at c_b_0 c_b_1 c_b_2 c_b_3 c_b_4 c_b_5
            have f_b := frozen_of_blk k_b_53
            have s_b := blk_lt k_b_53
            go_wp2_with fail
            refine (E4.out _).mono ?_
            rintro e w54 ⟨rfl, hb54⟩
            have k_t_54 : w54.heap[w1.heap.size]? = some (.cells #[.int .i64 tx, .int .i64 ty, .int .i64 tk] 23 (0, 0)) := blk_below (blk_alloc k_t_53 _) hb54 (blk_lt (blk_alloc k_t_53 _))
            have k_s_54 : w54.heap[w1.heap.size + 1]? = some (.cells #[.int .i64 1, .int .i64 0, .int .i64 0, .int .i64 1, .int .i64 0, .int .i64 0] 51 (0, 0)) := blk_below (blk_alloc k_s_53 _) hb54 (blk_lt (blk_alloc k_s_53 _))
            have k_a_54 : w54.heap[gA]? = some (.cells #[.int .i64 (M.1), .int .i64 (M.2.1), .int .i64 (M.2.2.1), .int .i64 (M.2.2.2.1), .int .i64 (M.2.2.2.2.1), .int .i64 (M.2.2.2.2.2)] 51 (0, 0)) := blk_below (blk_alloc k_a_53 _) hb54 (blk_lt (blk_alloc k_a_53 _))
            have k_p_54 : w54.heap[gP]? = some (.cells #[.int .i64 (T.1), .int .i64 (T.2.1), .int .i64 (T.2.2)] 23 (0, 0)) := blk_below (blk_alloc k_p_53 _) hb54 (blk_lt (blk_alloc k_p_53 _))
            have k_u_54 : w54.heap[w51.heap.size]? = some (.cells #[.int .i64 (T.1), .int .i64 (T.2.1), .int .i64 (T.2.2)] 23 (0, 0)) := blk_below (blk_alloc k_u_53 _) hb54 (blk_lt (blk_alloc k_u_53 _))
            have k_b_54 : w54.heap[w52.heap.size]? = some (.cells #[.int .i64 (N.1), .int .i64 (N.2.1), .int .i64 (N.2.2.1), .int .i64 (N.2.2.2.1), .int .i64 (N.2.2.2.2.1), .int .i64 (N.2.2.2.2.2)] 51 (0, 0)) := blk_below (blk_alloc k_b_53 _) hb54 (blk_lt (blk_alloc k_b_53 _))
            have k_v_54 : w54.heap[w53.heap.size]? = some (.cells #[.int .i64 tx, .int .i64 ty, .int .i64 tk] 23 (0, 0)) := blk_below (new_blk (.cells #[.int .i64 tx, .int .i64 ty, .int .i64 tk] 23) (by first | rfl | (simp; done) | (simp; omega))) hb54 (by first | (simp; done) | (simp; omega))
            have hw_54 : Below wr.heap.size wr w54 := stay_b (ba hw_53 _) hb54
            have hs_54 := (hs_53.alloc _).below hb54
            clear c_t_0 c_t_1 c_t_2 f_t s_t c_s_0 c_s_1 c_s_2 c_s_3 c_s_4 c_s_5 f_s s_s c_a_0 c_a_1 c_a_2 c_a_3 c_a_4 c_a_5 f_a s_a c_p_0 c_p_1 c_p_2 f_p s_p c_u_0 c_u_1 c_u_2 f_u s_u c_b_0 c_b_1 c_b_2 c_b_3 c_b_4 c_b_5 f_b s_b k_t_53 k_s_53 k_a_53 k_p_53 k_u_53 k_b_53 hb54 hw_53
            have c_t_0 := cell_of_blk k_t_54 0
            have c_t_1 := cell_of_blk k_t_54 1
            have c_t_2 := cell_of_blk k_t_54 2
            simp only [List.getElem?_toArray, List.getElem?_cons_zero, List.getElem?_cons_succ] at c_t_0 c_t_1 c_t_2
            have f_t := frozen_of_blk k_t_54
            have s_t := blk_lt k_t_54
            have c_s_0 := cell_of_blk k_s_54 0
            have c_s_1 := cell_of_blk k_s_54 1
            have c_s_2 := cell_of_blk k_s_54 2
            have c_s_3 := cell_of_blk k_s_54 3
            have c_s_4 := cell_of_blk k_s_54 4
            have c_s_5 := cell_of_blk k_s_54 5
            simp only [List.getElem?_toArray, List.getElem?_cons_zero, List.getElem?_cons_succ] at c_s_0 c_s_1 c_s_2 c_s_3 c_s_4 c_s_5
            have f_s := frozen_of_blk k_s_54
            have s_s := blk_lt k_s_54
            have c_a_0 := cell_of_blk k_a_54 0
            have c_a_1 := cell_of_blk k_a_54 1
            have c_a_2 := cell_of_blk k_a_54 2
            have c_a_3 := cell_of_blk k_a_54 3
            have c_a_4 := cell_of_blk k_a_54 4
            have c_a_5 := cell_of_blk k_a_54 5
            simp only [List.getElem?_toArray, List.getElem?_cons_zero, List.getElem?_cons_succ] at c_a_0 c_a_1 c_a_2 c_a_3 c_a_4 c_a_5
            have f_a := frozen_of_blk k_a_54
            have s_a := blk_lt k_a_54
            have c_p_0 := cell_of_blk k_p_54 0
            have c_p_1 := cell_of_blk k_p_54 1
            have c_p_2 := cell_of_blk k_p_54 2
            simp only [List.getElem?_toArray, List.getElem?_cons_zero, List.getElem?_cons_succ] at c_p_0 c_p_1 c_p_2
            have f_p := frozen_of_blk k_p_54
            have s_p := blk_lt k_p_54
            have c_u_0 := cell_of_blk k_u_54 0
            have c_u_1 := cell_of_blk k_u_54 1
            have c_u_2 := cell_of_blk k_u_54 2
            simp only [List.getElem?_toArray, List.getElem?_cons_zero, List.getElem?_cons_succ] at c_u_0 c_u_1 c_u_2
            have f_u := frozen_of_blk k_u_54
            have s_u := blk_lt k_u_54
            have c_b_0 := cell_of_blk k_b_54 0
            have c_b_1 := cell_of_blk k_b_54 1
            have c_b_2 := cell_of_blk k_b_54 2
            have c_b_3 := cell_of_blk k_b_54 3
            have c_b_4 := cell_of_blk k_b_54 4
            have c_b_5 := cell_of_blk k_b_54 5
            simp only [List.getElem?_toArray, List.getElem?_cons_zero, List.getElem?_cons_succ] at c_b_0 c_b_1 c_b_2 c_b_3 c_b_4 c_b_5
            have f_b := frozen_of_blk k_b_54
            have s_b := blk_lt k_b_54
            have c_v_0 := cell_of_blk k_v_54 0
            have c_v_1 := cell_of_blk k_v_54 1
            have c_v_2 := cell_of_blk k_v_54 2
            simp only [List.getElem?_toArray, List.getElem?_cons_zero, List.getElem?_cons_succ] at c_v_0 c_v_1 c_v_2
            have f_v := frozen_of_blk k_v_54
            have s_v := blk_lt k_v_54
            go_wp2_with fail
            refine (E5.out _).mono ?_
            rintro e w55 ⟨rfl, hb55⟩
            have k_t_55 : w55.heap[w1.heap.size]? = some (.cells #[.int .i64 tx, .int .i64 ty, .int .i64 tk] 23 (0, 0)) := blk_below (blk_alloc k_t_54 _) hb55 (blk_lt (blk_alloc k_t_54 _))
            have k_s_55 : w55.heap[w1.heap.size + 1]? = some (.cells #[.int .i64 1, .int .i64 0, .int .i64 0, .int .i64 1, .int .i64 0, .int .i64 0] 51 (0, 0)) := blk_below (blk_alloc k_s_54 _) hb55 (blk_lt (blk_alloc k_s_54 _))
            have k_a_55 : w55.heap[gA]? = some (.cells #[.int .i64 (M.1), .int .i64 (M.2.1), .int .i64 (M.2.2.1), .int .i64 (M.2.2.2.1), .int .i64 (M.2.2.2.2.1), .int .i64 (M.2.2.2.2.2)] 51 (0, 0)) := blk_below (blk_alloc k_a_54 _) hb55 (blk_lt (blk_alloc k_a_54 _))
            have k_p_55 : w55.heap[gP]? = some (.cells #[.int .i64 (T.1), .int .i64 (T.2.1), .int .i64 (T.2.2)] 23 (0, 0)) := blk_below (blk_alloc k_p_54 _) hb55 (blk_lt (blk_alloc k_p_54 _))
            have k_u_55 : w55.heap[w51.heap.size]? = some (.cells #[.int .i64 (T.1), .int .i64 (T.2.1), .int .i64 (T.2.2)] 23 (0, 0)) := blk_below (blk_alloc k_u_54 _) hb55 (blk_lt (blk_alloc k_u_54 _))
            have k_b_55 : w55.heap[w52.heap.size]? = some (.cells #[.int .i64 (N.1), .int .i64 (N.2.1), .int .i64 (N.2.2.1), .int .i64 (N.2.2.2.1), .int .i64 (N.2.2.2.2.1), .int .i64 (N.2.2.2.2.2)] 51 (0, 0)) := blk_below (blk_alloc k_b_54 _) hb55 (blk_lt (blk_alloc k_b_54 _))
            have k_v_55 : w55.heap[w53.heap.size]? = some (.cells #[.int .i64 tx, .int .i64 ty, .int .i64 tk] 23 (0, 0)) := blk_below (blk_alloc k_v_54 _) hb55 (blk_lt (blk_alloc k_v_54 _))
            have k_o_55 : w55.heap[w54.heap.size]? = some (.cells #[.int .i64 1, .int .i64 0, .int .i64 0, .int .i64 1, .int .i64 0, .int .i64 0] 51 (0, 0)) := blk_below (new_blk (.cells #[.int .i64 1, .int .i64 0, .int .i64 0, .int .i64 1, .int .i64 0, .int .i64 0] 51) (by first | rfl | (simp; done) | (simp; omega))) hb55 (by first | (simp; done) | (simp; omega))
            have hw_55 : Below wr.heap.size wr w55 := stay_b (ba hw_54 _) hb55
            have hs_55 := (hs_54.alloc _).below hb55
            clear c_t_0 c_t_1 c_t_2 f_t s_t c_s_0 c_s_1 c_s_2 c_s_3 c_s_4 c_s_5 f_s s_s c_a_0 c_a_1 c_a_2 c_a_3 c_a_4 c_a_5 f_a s_a c_p_0 c_p_1 c_p_2 f_p s_p c_u_0 c_u_1 c_u_2 f_u s_u c_b_0 c_b_1 c_b_2 c_b_3 c_b_4 c_b_5 f_b s_b c_v_0 c_v_1 c_v_2 f_v s_v k_t_54 k_s_54 k_a_54 k_p_54 k_u_54 k_b_54 k_v_54 hb55 hw_54
            have c_t_0 := cell_of_blk k_t_55 0
            have c_t_1 := cell_of_blk k_t_55 1
            have c_t_2 := cell_of_blk k_t_55 2
            simp only [List.getElem?_toArray, List.getElem?_cons_zero, List.getElem?_cons_succ] at c_t_0 c_t_1 c_t_2
            have f_t := frozen_of_blk k_t_55
            have s_t := blk_lt k_t_55
            have c_s_0 := cell_of_blk k_s_55 0
            have c_s_1 := cell_of_blk k_s_55 1
            have c_s_2 := cell_of_blk k_s_55 2
            have c_s_3 := cell_of_blk k_s_55 3
            have c_s_4 := cell_of_blk k_s_55 4
            have c_s_5 := cell_of_blk k_s_55 5
            simp only [List.getElem?_toArray, List.getElem?_cons_zero, List.getElem?_cons_succ] at c_s_0 c_s_1 c_s_2 c_s_3 c_s_4 c_s_5
            have f_s := frozen_of_blk k_s_55
            have s_s := blk_lt k_s_55
            have c_a_0 := cell_of_blk k_a_55 0
            have c_a_1 := cell_of_blk k_a_55 1
            have c_a_2 := cell_of_blk k_a_55 2
            have c_a_3 := cell_of_blk k_a_55 3
            have c_a_4 := cell_of_blk k_a_55 4
            have c_a_5 := cell_of_blk k_a_55 5
            simp only [List.getElem?_toArray, List.getElem?_cons_zero, List.getElem?_cons_succ] at c_a_0 c_a_1 c_a_2 c_a_3 c_a_4 c_a_5
            have f_a := frozen_of_blk k_a_55
            have s_a := blk_lt k_a_55
            have c_p_0 := cell_of_blk k_p_55 0
            have c_p_1 := cell_of_blk k_p_55 1
            have c_p_2 := cell_of_blk k_p_55 2
            simp only [List.getElem?_toArray, List.getElem?_cons_zero, List.getElem?_cons_succ] at c_p_0 c_p_1 c_p_2
            have f_p := frozen_of_blk k_p_55
            have s_p := blk_lt k_p_55
            have c_u_0 := cell_of_blk k_u_55 0
            have c_u_1 := cell_of_blk k_u_55 1
            have c_u_2 := cell_of_blk k_u_55 2
            simp only [List.getElem?_toArray, List.getElem?_cons_zero, List.getElem?_cons_succ] at c_u_0 c_u_1 c_u_2
            have f_u := frozen_of_blk k_u_55
            have s_u := blk_lt k_u_55
            have c_b_0 := cell_of_blk k_b_55 0
            have c_b_1 := cell_of_blk k_b_55 1
            have c_b_2 := cell_of_blk k_b_55 2
            have c_b_3 := cell_of_blk k_b_55 3
            have c_b_4 := cell_of_blk k_b_55 4
            have c_b_5 := cell_of_blk k_b_55 5
            simp only [List.getElem?_toArray, List.getElem?_cons_zero, List.getElem?_cons_succ] at c_b_0 c_b_1 c_b_2 c_b_3 c_b_4 c_b_5
            have f_b := frozen_of_blk k_b_55
            have s_b := blk_lt k_b_55
            have c_v_0 := cell_of_blk k_v_55 0
            have c_v_1 := cell_of_blk k_v_55 1
            have c_v_2 := cell_of_blk k_v_55 2
            simp only [List.getElem?_toArray, List.getElem?_cons_zero, List.getElem?_cons_succ] at c_v_0 c_v_1 c_v_2
            have f_v := frozen_of_blk k_v_55
            have s_v := blk_lt k_v_55
            have c_o_0 := cell_of_blk k_o_55 0
            have c_o_1 := cell_of_blk k_o_55 1
            have c_o_2 := cell_of_blk k_o_55 2
            have c_o_3 := cell_of_blk k_o_55 3
            have c_o_4 := cell_of_blk k_o_55 4
            have c_o_5 := cell_of_blk k_o_55 5
            simp only [List.getElem?_toArray, List.getElem?_cons_zero, List.getElem?_cons_succ] at c_o_0 c_o_1 c_o_2 c_o_3 c_o_4 c_o_5
            have f_o := frozen_of_blk k_o_55
            have s_o := blk_lt k_o_55
            go_wp2
            go_ret
            exact ⟨rfl, hw_r.trans ((ba hw_55 _).mono hw_r.size)⟩
        · have hw_50 : Below wr.heap.size wr wr := Below.refl _ _
          have G := gi_end HG.out h8 b3.1 b3.2 b1.1 b1.2 b2.1 b2.2
          obtain ⟨N, hN⟩ : ∃ N, N = backV M := ⟨_, rfl⟩
          have e1 := fun w hs => gmove_ok M tx ty tk w hs G.a G.t (by rw [G.mv]; exact G.u)
          have e2 := fun w => gback_ok M w G.a G.b
          have e3 := fun w hs => gmove_ok (backV M) T.1 T.2.1 T.2.2 w hs G.b G.u (by rw [G.bk]; exact G.t)
          have e4 := fun w => gafter_ok M (backV M) w G.a G.b (by rw [G.o1]; exact G.s)
          have e5 := fun w => gafter_ok (backV M) M w G.b G.a (by rw [G.o2]; exact G.s)
          simp only [G.mv] at e1
          simp only [← hN] at e2
          simp only [G.bk] at e3
          simp only [← hN] at e3
          simp only [G.o1] at e4
          simp only [← hN] at e4
          simp only [G.o2] at e5
          simp only [← hN] at e5
          have r1 : ∀ w : World, (binOp .eql 23 (aggT3 T) (aggT3 T)).run Tryd.prog w = .ok (.bool true) w := fun w => by rw [eqT]; simp [eqL]
          have r2 : ∀ w : World, (binOp .eql 23 (aggT tx ty tk) (aggT tx ty tk)).run Tryd.prog w = .ok (.bool true) w := fun w => by rw [eqT]; simp [eqL]
          have r3 : ∀ w : World, (binOp .eql 51 (.agg #[.int .i64 1, .int .i64 0, .int .i64 0, .int .i64 1, .int .i64 0, .int .i64 0]) (.agg #[.int .i64 1, .int .i64 0, .int .i64 0, .int .i64 1, .int .i64 0, .int .i64 0])).run Tryd.prog w = .ok (.bool true) w := fun w => by rw [eqM6]; rfl
          have E1 := Lib.hid e1
          have E2 := Lib.hid e2
          have E3 := Lib.hid e3
          have E4 := Lib.hid e4
          have E5 := Lib.hid e5
          clear e1 e2 e3 e4 e5 hN G
          have c_t_0 := cell_of_blk k_t_50 0
          have c_t_1 := cell_of_blk k_t_50 1
          have c_t_2 := cell_of_blk k_t_50 2
          simp only [List.getElem?_toArray, List.getElem?_cons_zero, List.getElem?_cons_succ] at c_t_0 c_t_1 c_t_2
          have f_t := frozen_of_blk k_t_50
          have s_t := blk_lt k_t_50
          have c_s_0 := cell_of_blk k_s_50 0
          have c_s_1 := cell_of_blk k_s_50 1
          have c_s_2 := cell_of_blk k_s_50 2
          have c_s_3 := cell_of_blk k_s_50 3
          have c_s_4 := cell_of_blk k_s_50 4
          have c_s_5 := cell_of_blk k_s_50 5
          simp only [List.getElem?_toArray, List.getElem?_cons_zero, List.getElem?_cons_succ] at c_s_0 c_s_1 c_s_2 c_s_3 c_s_4 c_s_5
          have f_s := frozen_of_blk k_s_50
          have s_s := blk_lt k_s_50
          have c_a_0 := cell_of_blk k_a_50 0
          have c_a_1 := cell_of_blk k_a_50 1
          have c_a_2 := cell_of_blk k_a_50 2
          have c_a_3 := cell_of_blk k_a_50 3
          have c_a_4 := cell_of_blk k_a_50 4
          have c_a_5 := cell_of_blk k_a_50 5
          simp only [List.getElem?_toArray, List.getElem?_cons_zero, List.getElem?_cons_succ] at c_a_0 c_a_1 c_a_2 c_a_3 c_a_4 c_a_5
          have f_a := frozen_of_blk k_a_50
          have s_a := blk_lt k_a_50
          have c_p_0 := cell_of_blk k_p_50 0
          have c_p_1 := cell_of_blk k_p_50 1
          have c_p_2 := cell_of_blk k_p_50 2
          simp only [List.getElem?_toArray, List.getElem?_cons_zero, List.getElem?_cons_succ] at c_p_0 c_p_1 c_p_2
          have f_p := frozen_of_blk k_p_50
          have s_p := blk_lt k_p_50
          go_wp2_with fail
          refine (E1.out _ hs_50).mono ?_
          rintro e w51 ⟨rfl, hb51⟩
          have k_t_51 : w51.heap[w1.heap.size]? = some (.cells #[.int .i64 tx, .int .i64 ty, .int .i64 tk] 23 (0, 0)) := blk_below k_t_50 hb51 (blk_lt k_t_50)
          have k_s_51 : w51.heap[w1.heap.size + 1]? = some (.cells #[.int .i64 1, .int .i64 0, .int .i64 0, .int .i64 1, .int .i64 0, .int .i64 0] 51 (0, 0)) := blk_below k_s_50 hb51 (blk_lt k_s_50)
          have k_a_51 : w51.heap[gA]? = some (.cells #[.int .i64 (M.1), .int .i64 (M.2.1), .int .i64 (M.2.2.1), .int .i64 (M.2.2.2.1), .int .i64 (M.2.2.2.2.1), .int .i64 (M.2.2.2.2.2)] 51 (0, 0)) := blk_below k_a_50 hb51 (blk_lt k_a_50)
          have k_p_51 : w51.heap[gP]? = some (.cells #[.int .i64 (T.1), .int .i64 (T.2.1), .int .i64 (T.2.2)] 23 (0, 0)) := blk_below k_p_50 hb51 (blk_lt k_p_50)
          have hw_51 : Below wr.heap.size wr w51 := stay_b hw_50 hb51
          have hs_51 := hs_50.below hb51
          clear c_t_0 c_t_1 c_t_2 f_t s_t c_s_0 c_s_1 c_s_2 c_s_3 c_s_4 c_s_5 f_s s_s c_a_0 c_a_1 c_a_2 c_a_3 c_a_4 c_a_5 f_a s_a c_p_0 c_p_1 c_p_2 f_p s_p k_t_50 k_s_50 k_a_50 k_p_50 hb51 hw_50
          have c_t_0 := cell_of_blk k_t_51 0
          have c_t_1 := cell_of_blk k_t_51 1
          have c_t_2 := cell_of_blk k_t_51 2
          simp only [List.getElem?_toArray, List.getElem?_cons_zero, List.getElem?_cons_succ] at c_t_0 c_t_1 c_t_2
          have f_t := frozen_of_blk k_t_51
          have s_t := blk_lt k_t_51
          have c_s_0 := cell_of_blk k_s_51 0
          have c_s_1 := cell_of_blk k_s_51 1
          have c_s_2 := cell_of_blk k_s_51 2
          have c_s_3 := cell_of_blk k_s_51 3
          have c_s_4 := cell_of_blk k_s_51 4
          have c_s_5 := cell_of_blk k_s_51 5
          simp only [List.getElem?_toArray, List.getElem?_cons_zero, List.getElem?_cons_succ] at c_s_0 c_s_1 c_s_2 c_s_3 c_s_4 c_s_5
          have f_s := frozen_of_blk k_s_51
          have s_s := blk_lt k_s_51
          have c_a_0 := cell_of_blk k_a_51 0
          have c_a_1 := cell_of_blk k_a_51 1
          have c_a_2 := cell_of_blk k_a_51 2
          have c_a_3 := cell_of_blk k_a_51 3
          have c_a_4 := cell_of_blk k_a_51 4
          have c_a_5 := cell_of_blk k_a_51 5
          simp only [List.getElem?_toArray, List.getElem?_cons_zero, List.getElem?_cons_succ] at c_a_0 c_a_1 c_a_2 c_a_3 c_a_4 c_a_5
          have f_a := frozen_of_blk k_a_51
          have s_a := blk_lt k_a_51
          have c_p_0 := cell_of_blk k_p_51 0
          have c_p_1 := cell_of_blk k_p_51 1
          have c_p_2 := cell_of_blk k_p_51 2
          simp only [List.getElem?_toArray, List.getElem?_cons_zero, List.getElem?_cons_succ] at c_p_0 c_p_1 c_p_2
          have f_p := frozen_of_blk k_p_51
          have s_p := blk_lt k_p_51
          go_wp2_with fail
          refine (E2.out _).mono ?_
          rintro e w52 ⟨rfl, hb52⟩
          have k_t_52 : w52.heap[w1.heap.size]? = some (.cells #[.int .i64 tx, .int .i64 ty, .int .i64 tk] 23 (0, 0)) := blk_below (blk_alloc k_t_51 _) hb52 (blk_lt (blk_alloc k_t_51 _))
          have k_s_52 : w52.heap[w1.heap.size + 1]? = some (.cells #[.int .i64 1, .int .i64 0, .int .i64 0, .int .i64 1, .int .i64 0, .int .i64 0] 51 (0, 0)) := blk_below (blk_alloc k_s_51 _) hb52 (blk_lt (blk_alloc k_s_51 _))
          have k_a_52 : w52.heap[gA]? = some (.cells #[.int .i64 (M.1), .int .i64 (M.2.1), .int .i64 (M.2.2.1), .int .i64 (M.2.2.2.1), .int .i64 (M.2.2.2.2.1), .int .i64 (M.2.2.2.2.2)] 51 (0, 0)) := blk_below (blk_alloc k_a_51 _) hb52 (blk_lt (blk_alloc k_a_51 _))
          have k_p_52 : w52.heap[gP]? = some (.cells #[.int .i64 (T.1), .int .i64 (T.2.1), .int .i64 (T.2.2)] 23 (0, 0)) := blk_below (blk_alloc k_p_51 _) hb52 (blk_lt (blk_alloc k_p_51 _))
          have k_u_52 : w52.heap[w51.heap.size]? = some (.cells #[.int .i64 (T.1), .int .i64 (T.2.1), .int .i64 (T.2.2)] 23 (0, 0)) := blk_below (new_blk (.cells #[.int .i64 (T.1), .int .i64 (T.2.1), .int .i64 (T.2.2)] 23) (by first | rfl | (simp; done) | (simp; omega))) hb52 (by first | (simp; done) | (simp; omega))
          have hw_52 : Below wr.heap.size wr w52 := stay_b (ba hw_51 _) hb52
          have hs_52 := (hs_51.alloc _).below hb52
          clear c_t_0 c_t_1 c_t_2 f_t s_t c_s_0 c_s_1 c_s_2 c_s_3 c_s_4 c_s_5 f_s s_s c_a_0 c_a_1 c_a_2 c_a_3 c_a_4 c_a_5 f_a s_a c_p_0 c_p_1 c_p_2 f_p s_p k_t_51 k_s_51 k_a_51 k_p_51 hb52 hw_51
          have c_t_0 := cell_of_blk k_t_52 0
          have c_t_1 := cell_of_blk k_t_52 1
          have c_t_2 := cell_of_blk k_t_52 2
          simp only [List.getElem?_toArray, List.getElem?_cons_zero, List.getElem?_cons_succ] at c_t_0 c_t_1 c_t_2
          have f_t := frozen_of_blk k_t_52
          have s_t := blk_lt k_t_52
          have c_s_0 := cell_of_blk k_s_52 0
          have c_s_1 := cell_of_blk k_s_52 1
          have c_s_2 := cell_of_blk k_s_52 2
          have c_s_3 := cell_of_blk k_s_52 3
          have c_s_4 := cell_of_blk k_s_52 4
          have c_s_5 := cell_of_blk k_s_52 5
          simp only [List.getElem?_toArray, List.getElem?_cons_zero, List.getElem?_cons_succ] at c_s_0 c_s_1 c_s_2 c_s_3 c_s_4 c_s_5
          have f_s := frozen_of_blk k_s_52
          have s_s := blk_lt k_s_52
          have c_a_0 := cell_of_blk k_a_52 0
          have c_a_1 := cell_of_blk k_a_52 1
          have c_a_2 := cell_of_blk k_a_52 2
          have c_a_3 := cell_of_blk k_a_52 3
          have c_a_4 := cell_of_blk k_a_52 4
          have c_a_5 := cell_of_blk k_a_52 5
          simp only [List.getElem?_toArray, List.getElem?_cons_zero, List.getElem?_cons_succ] at c_a_0 c_a_1 c_a_2 c_a_3 c_a_4 c_a_5
          have f_a := frozen_of_blk k_a_52
          have s_a := blk_lt k_a_52
          have c_p_0 := cell_of_blk k_p_52 0
          have c_p_1 := cell_of_blk k_p_52 1
          have c_p_2 := cell_of_blk k_p_52 2
          simp only [List.getElem?_toArray, List.getElem?_cons_zero, List.getElem?_cons_succ] at c_p_0 c_p_1 c_p_2
          have f_p := frozen_of_blk k_p_52
          have s_p := blk_lt k_p_52
          have c_u_0 := cell_of_blk k_u_52 0
          have c_u_1 := cell_of_blk k_u_52 1
          have c_u_2 := cell_of_blk k_u_52 2
          simp only [List.getElem?_toArray, List.getElem?_cons_zero, List.getElem?_cons_succ] at c_u_0 c_u_1 c_u_2
          have f_u := frozen_of_blk k_u_52
          have s_u := blk_lt k_u_52
          go_wp2_with fail
          refine (E3.out _ (hs_52.alloc _)).mono ?_
          rintro e w53 ⟨rfl, hb53⟩
          have k_t_53 : w53.heap[w1.heap.size]? = some (.cells #[.int .i64 tx, .int .i64 ty, .int .i64 tk] 23 (0, 0)) := blk_below (blk_alloc k_t_52 _) hb53 (blk_lt (blk_alloc k_t_52 _))
          have k_s_53 : w53.heap[w1.heap.size + 1]? = some (.cells #[.int .i64 1, .int .i64 0, .int .i64 0, .int .i64 1, .int .i64 0, .int .i64 0] 51 (0, 0)) := blk_below (blk_alloc k_s_52 _) hb53 (blk_lt (blk_alloc k_s_52 _))
          have k_a_53 : w53.heap[gA]? = some (.cells #[.int .i64 (M.1), .int .i64 (M.2.1), .int .i64 (M.2.2.1), .int .i64 (M.2.2.2.1), .int .i64 (M.2.2.2.2.1), .int .i64 (M.2.2.2.2.2)] 51 (0, 0)) := blk_below (blk_alloc k_a_52 _) hb53 (blk_lt (blk_alloc k_a_52 _))
          have k_p_53 : w53.heap[gP]? = some (.cells #[.int .i64 (T.1), .int .i64 (T.2.1), .int .i64 (T.2.2)] 23 (0, 0)) := blk_below (blk_alloc k_p_52 _) hb53 (blk_lt (blk_alloc k_p_52 _))
          have k_u_53 : w53.heap[w51.heap.size]? = some (.cells #[.int .i64 (T.1), .int .i64 (T.2.1), .int .i64 (T.2.2)] 23 (0, 0)) := blk_below (blk_alloc k_u_52 _) hb53 (blk_lt (blk_alloc k_u_52 _))
          have k_b_53 : w53.heap[w52.heap.size]? = some (.cells #[.int .i64 (N.1), .int .i64 (N.2.1), .int .i64 (N.2.2.1), .int .i64 (N.2.2.2.1), .int .i64 (N.2.2.2.2.1), .int .i64 (N.2.2.2.2.2)] 51 (0, 0)) := blk_below (new_blk (.cells #[.int .i64 (N.1), .int .i64 (N.2.1), .int .i64 (N.2.2.1), .int .i64 (N.2.2.2.1), .int .i64 (N.2.2.2.2.1), .int .i64 (N.2.2.2.2.2)] 51) (by first | rfl | (simp; done) | (simp; omega))) hb53 (by first | (simp; done) | (simp; omega))
          have hw_53 : Below wr.heap.size wr w53 := stay_b (ba hw_52 _) hb53
          have hs_53 := (hs_52.alloc _).below hb53
          clear c_t_0 c_t_1 c_t_2 f_t s_t c_s_0 c_s_1 c_s_2 c_s_3 c_s_4 c_s_5 f_s s_s c_a_0 c_a_1 c_a_2 c_a_3 c_a_4 c_a_5 f_a s_a c_p_0 c_p_1 c_p_2 f_p s_p c_u_0 c_u_1 c_u_2 f_u s_u k_t_52 k_s_52 k_a_52 k_p_52 k_u_52 hb53 hw_52
          have c_t_0 := cell_of_blk k_t_53 0
          have c_t_1 := cell_of_blk k_t_53 1
          have c_t_2 := cell_of_blk k_t_53 2
          simp only [List.getElem?_toArray, List.getElem?_cons_zero, List.getElem?_cons_succ] at c_t_0 c_t_1 c_t_2
          have f_t := frozen_of_blk k_t_53
          have s_t := blk_lt k_t_53
          have c_s_0 := cell_of_blk k_s_53 0
          have c_s_1 := cell_of_blk k_s_53 1
          have c_s_2 := cell_of_blk k_s_53 2
          have c_s_3 := cell_of_blk k_s_53 3
          have c_s_4 := cell_of_blk k_s_53 4
          have c_s_5 := cell_of_blk k_s_53 5
          simp only [List.getElem?_toArray, List.getElem?_cons_zero, List.getElem?_cons_succ] at c_s_0 c_s_1 c_s_2 c_s_3 c_s_4 c_s_5
          have f_s := frozen_of_blk k_s_53
          have s_s := blk_lt k_s_53
          have c_a_0 := cell_of_blk k_a_53 0
          have c_a_1 := cell_of_blk k_a_53 1
          have c_a_2 := cell_of_blk k_a_53 2
          have c_a_3 := cell_of_blk k_a_53 3
          have c_a_4 := cell_of_blk k_a_53 4
          have c_a_5 := cell_of_blk k_a_53 5
          simp only [List.getElem?_toArray, List.getElem?_cons_zero, List.getElem?_cons_succ] at c_a_0 c_a_1 c_a_2 c_a_3 c_a_4 c_a_5
          have f_a := frozen_of_blk k_a_53
          have s_a := blk_lt k_a_53
          have c_p_0 := cell_of_blk k_p_53 0
          have c_p_1 := cell_of_blk k_p_53 1
          have c_p_2 := cell_of_blk k_p_53 2
          simp only [List.getElem?_toArray, List.getElem?_cons_zero, List.getElem?_cons_succ] at c_p_0 c_p_1 c_p_2
          have f_p := frozen_of_blk k_p_53
          have s_p := blk_lt k_p_53
          have c_u_0 := cell_of_blk k_u_53 0
          have c_u_1 := cell_of_blk k_u_53 1
          have c_u_2 := cell_of_blk k_u_53 2
          simp only [List.getElem?_toArray, List.getElem?_cons_zero, List.getElem?_cons_succ] at c_u_0 c_u_1 c_u_2
          have f_u := frozen_of_blk k_u_53
          have s_u := blk_lt k_u_53
          have c_b_0 := cell_of_blk k_b_53 0
          have c_b_1 := cell_of_blk k_b_53 1
          have c_b_2 := cell_of_blk k_b_53 2
          have c_b_3 := cell_of_blk k_b_53 3
          have c_b_4 := cell_of_blk k_b_53 4
          have c_b_5 := cell_of_blk k_b_53 5
          simp only [List.getElem?_toArray, List.getElem?_cons_zero, List.getElem?_cons_succ] at c_b_0 c_b_1 c_b_2 c_b_3 c_b_4 c_b_5
          have f_b := frozen_of_blk k_b_53
          have s_b := blk_lt k_b_53
          go_wp2_with fail
          refine (E4.out _).mono ?_
          rintro e w54 ⟨rfl, hb54⟩
          have k_t_54 : w54.heap[w1.heap.size]? = some (.cells #[.int .i64 tx, .int .i64 ty, .int .i64 tk] 23 (0, 0)) := blk_below (blk_alloc k_t_53 _) hb54 (blk_lt (blk_alloc k_t_53 _))
          have k_s_54 : w54.heap[w1.heap.size + 1]? = some (.cells #[.int .i64 1, .int .i64 0, .int .i64 0, .int .i64 1, .int .i64 0, .int .i64 0] 51 (0, 0)) := blk_below (blk_alloc k_s_53 _) hb54 (blk_lt (blk_alloc k_s_53 _))
          have k_a_54 : w54.heap[gA]? = some (.cells #[.int .i64 (M.1), .int .i64 (M.2.1), .int .i64 (M.2.2.1), .int .i64 (M.2.2.2.1), .int .i64 (M.2.2.2.2.1), .int .i64 (M.2.2.2.2.2)] 51 (0, 0)) := blk_below (blk_alloc k_a_53 _) hb54 (blk_lt (blk_alloc k_a_53 _))
          have k_p_54 : w54.heap[gP]? = some (.cells #[.int .i64 (T.1), .int .i64 (T.2.1), .int .i64 (T.2.2)] 23 (0, 0)) := blk_below (blk_alloc k_p_53 _) hb54 (blk_lt (blk_alloc k_p_53 _))
          have k_u_54 : w54.heap[w51.heap.size]? = some (.cells #[.int .i64 (T.1), .int .i64 (T.2.1), .int .i64 (T.2.2)] 23 (0, 0)) := blk_below (blk_alloc k_u_53 _) hb54 (blk_lt (blk_alloc k_u_53 _))
          have k_b_54 : w54.heap[w52.heap.size]? = some (.cells #[.int .i64 (N.1), .int .i64 (N.2.1), .int .i64 (N.2.2.1), .int .i64 (N.2.2.2.1), .int .i64 (N.2.2.2.2.1), .int .i64 (N.2.2.2.2.2)] 51 (0, 0)) := blk_below (blk_alloc k_b_53 _) hb54 (blk_lt (blk_alloc k_b_53 _))
          have k_v_54 : w54.heap[w53.heap.size]? = some (.cells #[.int .i64 tx, .int .i64 ty, .int .i64 tk] 23 (0, 0)) := blk_below (new_blk (.cells #[.int .i64 tx, .int .i64 ty, .int .i64 tk] 23) (by first | rfl | (simp; done) | (simp; omega))) hb54 (by first | (simp; done) | (simp; omega))
          have hw_54 : Below wr.heap.size wr w54 := stay_b (ba hw_53 _) hb54
          have hs_54 := (hs_53.alloc _).below hb54
          clear c_t_0 c_t_1 c_t_2 f_t s_t c_s_0 c_s_1 c_s_2 c_s_3 c_s_4 c_s_5 f_s s_s c_a_0 c_a_1 c_a_2 c_a_3 c_a_4 c_a_5 f_a s_a c_p_0 c_p_1 c_p_2 f_p s_p c_u_0 c_u_1 c_u_2 f_u s_u c_b_0 c_b_1 c_b_2 c_b_3 c_b_4 c_b_5 f_b s_b k_t_53 k_s_53 k_a_53 k_p_53 k_u_53 k_b_53 hb54 hw_53
          have c_t_0 := cell_of_blk k_t_54 0
          have c_t_1 := cell_of_blk k_t_54 1
          have c_t_2 := cell_of_blk k_t_54 2
          simp only [List.getElem?_toArray, List.getElem?_cons_zero, List.getElem?_cons_succ] at c_t_0 c_t_1 c_t_2
          have f_t := frozen_of_blk k_t_54
          have s_t := blk_lt k_t_54
          have c_s_0 := cell_of_blk k_s_54 0
          have c_s_1 := cell_of_blk k_s_54 1
          have c_s_2 := cell_of_blk k_s_54 2
          have c_s_3 := cell_of_blk k_s_54 3
          have c_s_4 := cell_of_blk k_s_54 4
          have c_s_5 := cell_of_blk k_s_54 5
          simp only [List.getElem?_toArray, List.getElem?_cons_zero, List.getElem?_cons_succ] at c_s_0 c_s_1 c_s_2 c_s_3 c_s_4 c_s_5
          have f_s := frozen_of_blk k_s_54
          have s_s := blk_lt k_s_54
          have c_a_0 := cell_of_blk k_a_54 0
          have c_a_1 := cell_of_blk k_a_54 1
          have c_a_2 := cell_of_blk k_a_54 2
          have c_a_3 := cell_of_blk k_a_54 3
          have c_a_4 := cell_of_blk k_a_54 4
          have c_a_5 := cell_of_blk k_a_54 5
          simp only [List.getElem?_toArray, List.getElem?_cons_zero, List.getElem?_cons_succ] at c_a_0 c_a_1 c_a_2 c_a_3 c_a_4 c_a_5
          have f_a := frozen_of_blk k_a_54
          have s_a := blk_lt k_a_54
          have c_p_0 := cell_of_blk k_p_54 0
          have c_p_1 := cell_of_blk k_p_54 1
          have c_p_2 := cell_of_blk k_p_54 2
          simp only [List.getElem?_toArray, List.getElem?_cons_zero, List.getElem?_cons_succ] at c_p_0 c_p_1 c_p_2
          have f_p := frozen_of_blk k_p_54
          have s_p := blk_lt k_p_54
          have c_u_0 := cell_of_blk k_u_54 0
          have c_u_1 := cell_of_blk k_u_54 1
          have c_u_2 := cell_of_blk k_u_54 2
          simp only [List.getElem?_toArray, List.getElem?_cons_zero, List.getElem?_cons_succ] at c_u_0 c_u_1 c_u_2
          have f_u := frozen_of_blk k_u_54
          have s_u := blk_lt k_u_54
          have c_b_0 := cell_of_blk k_b_54 0
          have c_b_1 := cell_of_blk k_b_54 1
          have c_b_2 := cell_of_blk k_b_54 2
          have c_b_3 := cell_of_blk k_b_54 3
          have c_b_4 := cell_of_blk k_b_54 4
          have c_b_5 := cell_of_blk k_b_54 5
          simp only [List.getElem?_toArray, List.getElem?_cons_zero, List.getElem?_cons_succ] at c_b_0 c_b_1 c_b_2 c_b_3 c_b_4 c_b_5
          have f_b := frozen_of_blk k_b_54
          have s_b := blk_lt k_b_54
          have c_v_0 := cell_of_blk k_v_54 0
          have c_v_1 := cell_of_blk k_v_54 1
          have c_v_2 := cell_of_blk k_v_54 2
          simp only [List.getElem?_toArray, List.getElem?_cons_zero, List.getElem?_cons_succ] at c_v_0 c_v_1 c_v_2
          have f_v := frozen_of_blk k_v_54
          have s_v := blk_lt k_v_54
          go_wp2_with fail
          refine (E5.out _).mono ?_
          rintro e w55 ⟨rfl, hb55⟩
          have k_t_55 : w55.heap[w1.heap.size]? = some (.cells #[.int .i64 tx, .int .i64 ty, .int .i64 tk] 23 (0, 0)) := blk_below (blk_alloc k_t_54 _) hb55 (blk_lt (blk_alloc k_t_54 _))
          have k_s_55 : w55.heap[w1.heap.size + 1]? = some (.cells #[.int .i64 1, .int .i64 0, .int .i64 0, .int .i64 1, .int .i64 0, .int .i64 0] 51 (0, 0)) := blk_below (blk_alloc k_s_54 _) hb55 (blk_lt (blk_alloc k_s_54 _))
          have k_a_55 : w55.heap[gA]? = some (.cells #[.int .i64 (M.1), .int .i64 (M.2.1), .int .i64 (M.2.2.1), .int .i64 (M.2.2.2.1), .int .i64 (M.2.2.2.2.1), .int .i64 (M.2.2.2.2.2)] 51 (0, 0)) := blk_below (blk_alloc k_a_54 _) hb55 (blk_lt (blk_alloc k_a_54 _))
          have k_p_55 : w55.heap[gP]? = some (.cells #[.int .i64 (T.1), .int .i64 (T.2.1), .int .i64 (T.2.2)] 23 (0, 0)) := blk_below (blk_alloc k_p_54 _) hb55 (blk_lt (blk_alloc k_p_54 _))
          have k_u_55 : w55.heap[w51.heap.size]? = some (.cells #[.int .i64 (T.1), .int .i64 (T.2.1), .int .i64 (T.2.2)] 23 (0, 0)) := blk_below (blk_alloc k_u_54 _) hb55 (blk_lt (blk_alloc k_u_54 _))
          have k_b_55 : w55.heap[w52.heap.size]? = some (.cells #[.int .i64 (N.1), .int .i64 (N.2.1), .int .i64 (N.2.2.1), .int .i64 (N.2.2.2.1), .int .i64 (N.2.2.2.2.1), .int .i64 (N.2.2.2.2.2)] 51 (0, 0)) := blk_below (blk_alloc k_b_54 _) hb55 (blk_lt (blk_alloc k_b_54 _))
          have k_v_55 : w55.heap[w53.heap.size]? = some (.cells #[.int .i64 tx, .int .i64 ty, .int .i64 tk] 23 (0, 0)) := blk_below (blk_alloc k_v_54 _) hb55 (blk_lt (blk_alloc k_v_54 _))
          have k_o_55 : w55.heap[w54.heap.size]? = some (.cells #[.int .i64 1, .int .i64 0, .int .i64 0, .int .i64 1, .int .i64 0, .int .i64 0] 51 (0, 0)) := blk_below (new_blk (.cells #[.int .i64 1, .int .i64 0, .int .i64 0, .int .i64 1, .int .i64 0, .int .i64 0] 51) (by first | rfl | (simp; done) | (simp; omega))) hb55 (by first | (simp; done) | (simp; omega))
          have hw_55 : Below wr.heap.size wr w55 := stay_b (ba hw_54 _) hb55
          have hs_55 := (hs_54.alloc _).below hb55
          clear c_t_0 c_t_1 c_t_2 f_t s_t c_s_0 c_s_1 c_s_2 c_s_3 c_s_4 c_s_5 f_s s_s c_a_0 c_a_1 c_a_2 c_a_3 c_a_4 c_a_5 f_a s_a c_p_0 c_p_1 c_p_2 f_p s_p c_u_0 c_u_1 c_u_2 f_u s_u c_b_0 c_b_1 c_b_2 c_b_3 c_b_4 c_b_5 f_b s_b c_v_0 c_v_1 c_v_2 f_v s_v k_t_54 k_s_54 k_a_54 k_p_54 k_u_54 k_b_54 k_v_54 hb55 hw_54
          have c_t_0 := cell_of_blk k_t_55 0
          have c_t_1 := cell_of_blk k_t_55 1
          have c_t_2 := cell_of_blk k_t_55 2
          simp only [List.getElem?_toArray, List.getElem?_cons_zero, List.getElem?_cons_succ] at c_t_0 c_t_1 c_t_2
          have f_t := frozen_of_blk k_t_55
          have s_t := blk_lt k_t_55
          have c_s_0 := cell_of_blk k_s_55 0
          have c_s_1 := cell_of_blk k_s_55 1
          have c_s_2 := cell_of_blk k_s_55 2
          have c_s_3 := cell_of_blk k_s_55 3
          have c_s_4 := cell_of_blk k_s_55 4
          have c_s_5 := cell_of_blk k_s_55 5
          simp only [List.getElem?_toArray, List.getElem?_cons_zero, List.getElem?_cons_succ] at c_s_0 c_s_1 c_s_2 c_s_3 c_s_4 c_s_5
          have f_s := frozen_of_blk k_s_55
          have s_s := blk_lt k_s_55
          have c_a_0 := cell_of_blk k_a_55 0
          have c_a_1 := cell_of_blk k_a_55 1
          have c_a_2 := cell_of_blk k_a_55 2
          have c_a_3 := cell_of_blk k_a_55 3
          have c_a_4 := cell_of_blk k_a_55 4
          have c_a_5 := cell_of_blk k_a_55 5
          simp only [List.getElem?_toArray, List.getElem?_cons_zero, List.getElem?_cons_succ] at c_a_0 c_a_1 c_a_2 c_a_3 c_a_4 c_a_5
          have f_a := frozen_of_blk k_a_55
          have s_a := blk_lt k_a_55
          have c_p_0 := cell_of_blk k_p_55 0
          have c_p_1 := cell_of_blk k_p_55 1
          have c_p_2 := cell_of_blk k_p_55 2
          simp only [List.getElem?_toArray, List.getElem?_cons_zero, List.getElem?_cons_succ] at c_p_0 c_p_1 c_p_2
          have f_p := frozen_of_blk k_p_55
          have s_p := blk_lt k_p_55
          have c_u_0 := cell_of_blk k_u_55 0
          have c_u_1 := cell_of_blk k_u_55 1
          have c_u_2 := cell_of_blk k_u_55 2
          simp only [List.getElem?_toArray, List.getElem?_cons_zero, List.getElem?_cons_succ] at c_u_0 c_u_1 c_u_2
          have f_u := frozen_of_blk k_u_55
          have s_u := blk_lt k_u_55
          have c_b_0 := cell_of_blk k_b_55 0
          have c_b_1 := cell_of_blk k_b_55 1
          have c_b_2 := cell_of_blk k_b_55 2
          have c_b_3 := cell_of_blk k_b_55 3
          have c_b_4 := cell_of_blk k_b_55 4
          have c_b_5 := cell_of_blk k_b_55 5
          simp only [List.getElem?_toArray, List.getElem?_cons_zero, List.getElem?_cons_succ] at c_b_0 c_b_1 c_b_2 c_b_3 c_b_4 c_b_5
          have f_b := frozen_of_blk k_b_55
          have s_b := blk_lt k_b_55
          have c_v_0 := cell_of_blk k_v_55 0
          have c_v_1 := cell_of_blk k_v_55 1
          have c_v_2 := cell_of_blk k_v_55 2
          simp only [List.getElem?_toArray, List.getElem?_cons_zero, List.getElem?_cons_succ] at c_v_0 c_v_1 c_v_2
          have f_v := frozen_of_blk k_v_55
          have s_v := blk_lt k_v_55
          have c_o_0 := cell_of_blk k_o_55 0
          have c_o_1 := cell_of_blk k_o_55 1
          have c_o_2 := cell_of_blk k_o_55 2
          have c_o_3 := cell_of_blk k_o_55 3
          have c_o_4 := cell_of_blk k_o_55 4
          have c_o_5 := cell_of_blk k_o_55 5
          simp only [List.getElem?_toArray, List.getElem?_cons_zero, List.getElem?_cons_succ] at c_o_0 c_o_1 c_o_2 c_o_3 c_o_4 c_o_5
          have f_o := frozen_of_blk k_o_55
          have s_o := blk_lt k_o_55
          go_wp2
          go_ret
          exact ⟨rfl, hw_r.trans ((ba hw_55 _).mono hw_r.size)⟩
      · have hw_50 : Below wr.heap.size wr wr := Below.refl _ _
        have G := gi_end HG.out h8 b3.1 b3.2 b1.1 b1.2 b2.1 b2.2
        obtain ⟨N, hN⟩ : ∃ N, N = backV M := ⟨_, rfl⟩
        have e1 := fun w hs => gmove_ok M tx ty tk w hs G.a G.t (by rw [G.mv]; exact G.u)
        have e2 := fun w => gback_ok M w G.a G.b
        have e3 := fun w hs => gmove_ok (backV M) T.1 T.2.1 T.2.2 w hs G.b G.u (by rw [G.bk]; exact G.t)
        have e4 := fun w => gafter_ok M (backV M) w G.a G.b (by rw [G.o1]; exact G.s)
        have e5 := fun w => gafter_ok (backV M) M w G.b G.a (by rw [G.o2]; exact G.s)
        simp only [G.mv] at e1
        simp only [← hN] at e2
        simp only [G.bk] at e3
        simp only [← hN] at e3
        simp only [G.o1] at e4
        simp only [← hN] at e4
        simp only [G.o2] at e5
        simp only [← hN] at e5
        have r1 : ∀ w : World, (binOp .eql 23 (aggT3 T) (aggT3 T)).run Tryd.prog w = .ok (.bool true) w := fun w => by rw [eqT]; simp [eqL]
        have r2 : ∀ w : World, (binOp .eql 23 (aggT tx ty tk) (aggT tx ty tk)).run Tryd.prog w = .ok (.bool true) w := fun w => by rw [eqT]; simp [eqL]
        have r3 : ∀ w : World, (binOp .eql 51 (.agg #[.int .i64 1, .int .i64 0, .int .i64 0, .int .i64 1, .int .i64 0, .int .i64 0]) (.agg #[.int .i64 1, .int .i64 0, .int .i64 0, .int .i64 1, .int .i64 0, .int .i64 0])).run Tryd.prog w = .ok (.bool true) w := fun w => by rw [eqM6]; rfl
        have E1 := Lib.hid e1
        have E2 := Lib.hid e2
        have E3 := Lib.hid e3
        have E4 := Lib.hid e4
        have E5 := Lib.hid e5
        clear e1 e2 e3 e4 e5 hN G
        have c_t_0 := cell_of_blk k_t_50 0
        have c_t_1 := cell_of_blk k_t_50 1
        have c_t_2 := cell_of_blk k_t_50 2
        simp only [List.getElem?_toArray, List.getElem?_cons_zero, List.getElem?_cons_succ] at c_t_0 c_t_1 c_t_2
        have f_t := frozen_of_blk k_t_50
        have s_t := blk_lt k_t_50
        have c_s_0 := cell_of_blk k_s_50 0
        have c_s_1 := cell_of_blk k_s_50 1
        have c_s_2 := cell_of_blk k_s_50 2
        have c_s_3 := cell_of_blk k_s_50 3
        have c_s_4 := cell_of_blk k_s_50 4
        have c_s_5 := cell_of_blk k_s_50 5
        simp only [List.getElem?_toArray, List.getElem?_cons_zero, List.getElem?_cons_succ] at c_s_0 c_s_1 c_s_2 c_s_3 c_s_4 c_s_5
        have f_s := frozen_of_blk k_s_50
        have s_s := blk_lt k_s_50
        have c_a_0 := cell_of_blk k_a_50 0
        have c_a_1 := cell_of_blk k_a_50 1
        have c_a_2 := cell_of_blk k_a_50 2
        have c_a_3 := cell_of_blk k_a_50 3
        have c_a_4 := cell_of_blk k_a_50 4
        have c_a_5 := cell_of_blk k_a_50 5
        simp only [List.getElem?_toArray, List.getElem?_cons_zero, List.getElem?_cons_succ] at c_a_0 c_a_1 c_a_2 c_a_3 c_a_4 c_a_5
        have f_a := frozen_of_blk k_a_50
        have s_a := blk_lt k_a_50
        have c_p_0 := cell_of_blk k_p_50 0
        have c_p_1 := cell_of_blk k_p_50 1
        have c_p_2 := cell_of_blk k_p_50 2
        simp only [List.getElem?_toArray, List.getElem?_cons_zero, List.getElem?_cons_succ] at c_p_0 c_p_1 c_p_2
        have f_p := frozen_of_blk k_p_50
        have s_p := blk_lt k_p_50
        go_wp2_with fail
        refine (E1.out _ hs_50).mono ?_
        rintro e w51 ⟨rfl, hb51⟩
        have k_t_51 : w51.heap[w1.heap.size]? = some (.cells #[.int .i64 tx, .int .i64 ty, .int .i64 tk] 23 (0, 0)) := blk_below k_t_50 hb51 (blk_lt k_t_50)
        have k_s_51 : w51.heap[w1.heap.size + 1]? = some (.cells #[.int .i64 1, .int .i64 0, .int .i64 0, .int .i64 1, .int .i64 0, .int .i64 0] 51 (0, 0)) := blk_below k_s_50 hb51 (blk_lt k_s_50)
        have k_a_51 : w51.heap[gA]? = some (.cells #[.int .i64 (M.1), .int .i64 (M.2.1), .int .i64 (M.2.2.1), .int .i64 (M.2.2.2.1), .int .i64 (M.2.2.2.2.1), .int .i64 (M.2.2.2.2.2)] 51 (0, 0)) := blk_below k_a_50 hb51 (blk_lt k_a_50)
        have k_p_51 : w51.heap[gP]? = some (.cells #[.int .i64 (T.1), .int .i64 (T.2.1), .int .i64 (T.2.2)] 23 (0, 0)) := blk_below k_p_50 hb51 (blk_lt k_p_50)
        have hw_51 : Below wr.heap.size wr w51 := stay_b hw_50 hb51
        have hs_51 := hs_50.below hb51
        clear c_t_0 c_t_1 c_t_2 f_t s_t c_s_0 c_s_1 c_s_2 c_s_3 c_s_4 c_s_5 f_s s_s c_a_0 c_a_1 c_a_2 c_a_3 c_a_4 c_a_5 f_a s_a c_p_0 c_p_1 c_p_2 f_p s_p k_t_50 k_s_50 k_a_50 k_p_50 hb51 hw_50
        have c_t_0 := cell_of_blk k_t_51 0
        have c_t_1 := cell_of_blk k_t_51 1
        have c_t_2 := cell_of_blk k_t_51 2
        simp only [List.getElem?_toArray, List.getElem?_cons_zero, List.getElem?_cons_succ] at c_t_0 c_t_1 c_t_2
        have f_t := frozen_of_blk k_t_51
        have s_t := blk_lt k_t_51
        have c_s_0 := cell_of_blk k_s_51 0
        have c_s_1 := cell_of_blk k_s_51 1
        have c_s_2 := cell_of_blk k_s_51 2
        have c_s_3 := cell_of_blk k_s_51 3
        have c_s_4 := cell_of_blk k_s_51 4
        have c_s_5 := cell_of_blk k_s_51 5
        simp only [List.getElem?_toArray, List.getElem?_cons_zero, List.getElem?_cons_succ] at c_s_0 c_s_1 c_s_2 c_s_3 c_s_4 c_s_5
        have f_s := frozen_of_blk k_s_51
        have s_s := blk_lt k_s_51
        have c_a_0 := cell_of_blk k_a_51 0
        have c_a_1 := cell_of_blk k_a_51 1
        have c_a_2 := cell_of_blk k_a_51 2
        have c_a_3 := cell_of_blk k_a_51 3
        have c_a_4 := cell_of_blk k_a_51 4
        have c_a_5 := cell_of_blk k_a_51 5
        simp only [List.getElem?_toArray, List.getElem?_cons_zero, List.getElem?_cons_succ] at c_a_0 c_a_1 c_a_2 c_a_3 c_a_4 c_a_5
        have f_a := frozen_of_blk k_a_51
        have s_a := blk_lt k_a_51
        have c_p_0 := cell_of_blk k_p_51 0
        have c_p_1 := cell_of_blk k_p_51 1
        have c_p_2 := cell_of_blk k_p_51 2
        simp only [List.getElem?_toArray, List.getElem?_cons_zero, List.getElem?_cons_succ] at c_p_0 c_p_1 c_p_2
        have f_p := frozen_of_blk k_p_51
        have s_p := blk_lt k_p_51
        go_wp2_with fail
        refine (E2.out _).mono ?_
        rintro e w52 ⟨rfl, hb52⟩
        have k_t_52 : w52.heap[w1.heap.size]? = some (.cells #[.int .i64 tx, .int .i64 ty, .int .i64 tk] 23 (0, 0)) := blk_below (blk_alloc k_t_51 _) hb52 (blk_lt (blk_alloc k_t_51 _))
        have k_s_52 : w52.heap[w1.heap.size + 1]? = some (.cells #[.int .i64 1, .int .i64 0, .int .i64 0, .int .i64 1, .int .i64 0, .int .i64 0] 51 (0, 0)) := blk_below (blk_alloc k_s_51 _) hb52 (blk_lt (blk_alloc k_s_51 _))
        have k_a_52 : w52.heap[gA]? = some (.cells #[.int .i64 (M.1), .int .i64 (M.2.1), .int .i64 (M.2.2.1), .int .i64 (M.2.2.2.1), .int .i64 (M.2.2.2.2.1), .int .i64 (M.2.2.2.2.2)] 51 (0, 0)) := blk_below (blk_alloc k_a_51 _) hb52 (blk_lt (blk_alloc k_a_51 _))
        have k_p_52 : w52.heap[gP]? = some (.cells #[.int .i64 (T.1), .int .i64 (T.2.1), .int .i64 (T.2.2)] 23 (0, 0)) := blk_below (blk_alloc k_p_51 _) hb52 (blk_lt (blk_alloc k_p_51 _))
        have k_u_52 : w52.heap[w51.heap.size]? = some (.cells #[.int .i64 (T.1), .int .i64 (T.2.1), .int .i64 (T.2.2)] 23 (0, 0)) := blk_below (new_blk (.cells #[.int .i64 (T.1), .int .i64 (T.2.1), .int .i64 (T.2.2)] 23) (by first | rfl | (simp; done) | (simp; omega))) hb52 (by first | (simp; done) | (simp; omega))
        have hw_52 : Below wr.heap.size wr w52 := stay_b (ba hw_51 _) hb52
        have hs_52 := (hs_51.alloc _).below hb52
        clear c_t_0 c_t_1 c_t_2 f_t s_t c_s_0 c_s_1 c_s_2 c_s_3 c_s_4 c_s_5 f_s s_s c_a_0 c_a_1 c_a_2 c_a_3 c_a_4 c_a_5 f_a s_a c_p_0 c_p_1 c_p_2 f_p s_p k_t_51 k_s_51 k_a_51 k_p_51 hb52 hw_51
        have c_t_0 := cell_of_blk k_t_52 0
        have c_t_1 := cell_of_blk k_t_52 1
        have c_t_2 := cell_of_blk k_t_52 2
        simp only [List.getElem?_toArray, List.getElem?_cons_zero, List.getElem?_cons_succ] at c_t_0 c_t_1 c_t_2
        have f_t := frozen_of_blk k_t_52
        have s_t := blk_lt k_t_52
        have c_s_0 := cell_of_blk k_s_52 0
        have c_s_1 := cell_of_blk k_s_52 1
        have c_s_2 := cell_of_blk k_s_52 2
        have c_s_3 := cell_of_blk k_s_52 3
        have c_s_4 := cell_of_blk k_s_52 4
        have c_s_5 := cell_of_blk k_s_52 5
        simp only [List.getElem?_toArray, List.getElem?_cons_zero, List.getElem?_cons_succ] at c_s_0 c_s_1 c_s_2 c_s_3 c_s_4 c_s_5
        have f_s := frozen_of_blk k_s_52
        have s_s := blk_lt k_s_52
        have c_a_0 := cell_of_blk k_a_52 0
        have c_a_1 := cell_of_blk k_a_52 1
        have c_a_2 := cell_of_blk k_a_52 2
        have c_a_3 := cell_of_blk k_a_52 3
        have c_a_4 := cell_of_blk k_a_52 4
        have c_a_5 := cell_of_blk k_a_52 5
        simp only [List.getElem?_toArray, List.getElem?_cons_zero, List.getElem?_cons_succ] at c_a_0 c_a_1 c_a_2 c_a_3 c_a_4 c_a_5
        have f_a := frozen_of_blk k_a_52
        have s_a := blk_lt k_a_52
        have c_p_0 := cell_of_blk k_p_52 0
        have c_p_1 := cell_of_blk k_p_52 1
        have c_p_2 := cell_of_blk k_p_52 2
        simp only [List.getElem?_toArray, List.getElem?_cons_zero, List.getElem?_cons_succ] at c_p_0 c_p_1 c_p_2
        have f_p := frozen_of_blk k_p_52
        have s_p := blk_lt k_p_52
        have c_u_0 := cell_of_blk k_u_52 0
        have c_u_1 := cell_of_blk k_u_52 1
        have c_u_2 := cell_of_blk k_u_52 2
        simp only [List.getElem?_toArray, List.getElem?_cons_zero, List.getElem?_cons_succ] at c_u_0 c_u_1 c_u_2
        have f_u := frozen_of_blk k_u_52
        have s_u := blk_lt k_u_52
        go_wp2_with fail
        refine (E3.out _ (hs_52.alloc _)).mono ?_
        rintro e w53 ⟨rfl, hb53⟩
        have k_t_53 : w53.heap[w1.heap.size]? = some (.cells #[.int .i64 tx, .int .i64 ty, .int .i64 tk] 23 (0, 0)) := blk_below (blk_alloc k_t_52 _) hb53 (blk_lt (blk_alloc k_t_52 _))
        have k_s_53 : w53.heap[w1.heap.size + 1]? = some (.cells #[.int .i64 1, .int .i64 0, .int .i64 0, .int .i64 1, .int .i64 0, .int .i64 0] 51 (0, 0)) := blk_below (blk_alloc k_s_52 _) hb53 (blk_lt (blk_alloc k_s_52 _))
        have k_a_53 : w53.heap[gA]? = some (.cells #[.int .i64 (M.1), .int .i64 (M.2.1), .int .i64 (M.2.2.1), .int .i64 (M.2.2.2.1), .int .i64 (M.2.2.2.2.1), .int .i64 (M.2.2.2.2.2)] 51 (0, 0)) := blk_below (blk_alloc k_a_52 _) hb53 (blk_lt (blk_alloc k_a_52 _))
        have k_p_53 : w53.heap[gP]? = some (.cells #[.int .i64 (T.1), .int .i64 (T.2.1), .int .i64 (T.2.2)] 23 (0, 0)) := blk_below (blk_alloc k_p_52 _) hb53 (blk_lt (blk_alloc k_p_52 _))
        have k_u_53 : w53.heap[w51.heap.size]? = some (.cells #[.int .i64 (T.1), .int .i64 (T.2.1), .int .i64 (T.2.2)] 23 (0, 0)) := blk_below (blk_alloc k_u_52 _) hb53 (blk_lt (blk_alloc k_u_52 _))
        have k_b_53 : w53.heap[w52.heap.size]? = some (.cells #[.int .i64 (N.1), .int .i64 (N.2.1), .int .i64 (N.2.2.1), .int .i64 (N.2.2.2.1), .int .i64 (N.2.2.2.2.1), .int .i64 (N.2.2.2.2.2)] 51 (0, 0)) := blk_below (new_blk (.cells #[.int .i64 (N.1), .int .i64 (N.2.1), .int .i64 (N.2.2.1), .int .i64 (N.2.2.2.1), .int .i64 (N.2.2.2.2.1), .int .i64 (N.2.2.2.2.2)] 51) (by first | rfl | (simp; done) | (simp; omega))) hb53 (by first | (simp; done) | (simp; omega))
        have hw_53 : Below wr.heap.size wr w53 := stay_b (ba hw_52 _) hb53
        have hs_53 := (hs_52.alloc _).below hb53
        clear c_t_0 c_t_1 c_t_2 f_t s_t c_s_0 c_s_1 c_s_2 c_s_3 c_s_4 c_s_5 f_s s_s c_a_0 c_a_1 c_a_2 c_a_3 c_a_4 c_a_5 f_a s_a c_p_0 c_p_1 c_p_2 f_p s_p c_u_0 c_u_1 c_u_2 f_u s_u k_t_52 k_s_52 k_a_52 k_p_52 k_u_52 hb53 hw_52
        have c_t_0 := cell_of_blk k_t_53 0
        have c_t_1 := cell_of_blk k_t_53 1
        have c_t_2 := cell_of_blk k_t_53 2
        simp only [List.getElem?_toArray, List.getElem?_cons_zero, List.getElem?_cons_succ] at c_t_0 c_t_1 c_t_2
        have f_t := frozen_of_blk k_t_53
        have s_t := blk_lt k_t_53
        have c_s_0 := cell_of_blk k_s_53 0
        have c_s_1 := cell_of_blk k_s_53 1
        have c_s_2 := cell_of_blk k_s_53 2
        have c_s_3 := cell_of_blk k_s_53 3
        have c_s_4 := cell_of_blk k_s_53 4
        have c_s_5 := cell_of_blk k_s_53 5
        simp only [List.getElem?_toArray, List.getElem?_cons_zero, List.getElem?_cons_succ] at c_s_0 c_s_1 c_s_2 c_s_3 c_s_4 c_s_5
        have f_s := frozen_of_blk k_s_53
        have s_s := blk_lt k_s_53
        have c_a_0 := cell_of_blk k_a_53 0
        have c_a_1 := cell_of_blk k_a_53 1
        have c_a_2 := cell_of_blk k_a_53 2
        have c_a_3 := cell_of_blk k_a_53 3
        have c_a_4 := cell_of_blk k_a_53 4
        have c_a_5 := cell_of_blk k_a_53 5
        simp only [List.getElem?_toArray, List.getElem?_cons_zero, List.getElem?_cons_succ] at c_a_0 c_a_1 c_a_2 c_a_3 c_a_4 c_a_5
        have f_a := frozen_of_blk k_a_53
        have s_a := blk_lt k_a_53
        have c_p_0 := cell_of_blk k_p_53 0
        have c_p_1 := cell_of_blk k_p_53 1
        have c_p_2 := cell_of_blk k_p_53 2
        simp only [List.getElem?_toArray, List.getElem?_cons_zero, List.getElem?_cons_succ] at c_p_0 c_p_1 c_p_2
        have f_p := frozen_of_blk k_p_53
        have s_p := blk_lt k_p_53
        have c_u_0 := cell_of_blk k_u_53 0
        have c_u_1 := cell_of_blk k_u_53 1
        have c_u_2 := cell_of_blk k_u_53 2
        simp only [List.getElem?_toArray, List.getElem?_cons_zero, List.getElem?_cons_succ] at c_u_0 c_u_1 c_u_2
        have f_u := frozen_of_blk k_u_53
        have s_u := blk_lt k_u_53
        have c_b_0 := cell_of_blk k_b_53 0
        have c_b_1 := cell_of_blk k_b_53 1
        have c_b_2 := cell_of_blk k_b_53 2
        have c_b_3 := cell_of_blk k_b_53 3
        have c_b_4 := cell_of_blk k_b_53 4
        have c_b_5 := cell_of_blk k_b_53 5
        simp only [List.getElem?_toArray, List.getElem?_cons_zero, List.getElem?_cons_succ] at c_b_0 c_b_1 c_b_2 c_b_3 c_b_4 c_b_5
        have f_b := frozen_of_blk k_b_53
        have s_b := blk_lt k_b_53
        go_wp2_with fail
        refine (E4.out _).mono ?_
        rintro e w54 ⟨rfl, hb54⟩
        have k_t_54 : w54.heap[w1.heap.size]? = some (.cells #[.int .i64 tx, .int .i64 ty, .int .i64 tk] 23 (0, 0)) := blk_below (blk_alloc k_t_53 _) hb54 (blk_lt (blk_alloc k_t_53 _))
        have k_s_54 : w54.heap[w1.heap.size + 1]? = some (.cells #[.int .i64 1, .int .i64 0, .int .i64 0, .int .i64 1, .int .i64 0, .int .i64 0] 51 (0, 0)) := blk_below (blk_alloc k_s_53 _) hb54 (blk_lt (blk_alloc k_s_53 _))
        have k_a_54 : w54.heap[gA]? = some (.cells #[.int .i64 (M.1), .int .i64 (M.2.1), .int .i64 (M.2.2.1), .int .i64 (M.2.2.2.1), .int .i64 (M.2.2.2.2.1), .int .i64 (M.2.2.2.2.2)] 51 (0, 0)) := blk_below (blk_alloc k_a_53 _) hb54 (blk_lt (blk_alloc k_a_53 _))
        have k_p_54 : w54.heap[gP]? = some (.cells #[.int .i64 (T.1), .int .i64 (T.2.1), .int .i64 (T.2.2)] 23 (0, 0)) := blk_below (blk_alloc k_p_53 _) hb54 (blk_lt (blk_alloc k_p_53 _))
        have k_u_54 : w54.heap[w51.heap.size]? = some (.cells #[.int .i64 (T.1), .int .i64 (T.2.1), .int .i64 (T.2.2)] 23 (0, 0)) := blk_below (blk_alloc k_u_53 _) hb54 (blk_lt (blk_alloc k_u_53 _))
        have k_b_54 : w54.heap[w52.heap.size]? = some (.cells #[.int .i64 (N.1), .int .i64 (N.2.1), .int .i64 (N.2.2.1), .int .i64 (N.2.2.2.1), .int .i64 (N.2.2.2.2.1), .int .i64 (N.2.2.2.2.2)] 51 (0, 0)) := blk_below (blk_alloc k_b_53 _) hb54 (blk_lt (blk_alloc k_b_53 _))
        have k_v_54 : w54.heap[w53.heap.size]? = some (.cells #[.int .i64 tx, .int .i64 ty, .int .i64 tk] 23 (0, 0)) := blk_below (new_blk (.cells #[.int .i64 tx, .int .i64 ty, .int .i64 tk] 23) (by first | rfl | (simp; done) | (simp; omega))) hb54 (by first | (simp; done) | (simp; omega))
        have hw_54 : Below wr.heap.size wr w54 := stay_b (ba hw_53 _) hb54
        have hs_54 := (hs_53.alloc _).below hb54
        clear c_t_0 c_t_1 c_t_2 f_t s_t c_s_0 c_s_1 c_s_2 c_s_3 c_s_4 c_s_5 f_s s_s c_a_0 c_a_1 c_a_2 c_a_3 c_a_4 c_a_5 f_a s_a c_p_0 c_p_1 c_p_2 f_p s_p c_u_0 c_u_1 c_u_2 f_u s_u c_b_0 c_b_1 c_b_2 c_b_3 c_b_4 c_b_5 f_b s_b k_t_53 k_s_53 k_a_53 k_p_53 k_u_53 k_b_53 hb54 hw_53
        have c_t_0 := cell_of_blk k_t_54 0
        have c_t_1 := cell_of_blk k_t_54 1
        have c_t_2 := cell_of_blk k_t_54 2
        simp only [List.getElem?_toArray, List.getElem?_cons_zero, List.getElem?_cons_succ] at c_t_0 c_t_1 c_t_2
        have f_t := frozen_of_blk k_t_54
        have s_t := blk_lt k_t_54
        have c_s_0 := cell_of_blk k_s_54 0
        have c_s_1 := cell_of_blk k_s_54 1
        have c_s_2 := cell_of_blk k_s_54 2
        have c_s_3 := cell_of_blk k_s_54 3
        have c_s_4 := cell_of_blk k_s_54 4
        have c_s_5 := cell_of_blk k_s_54 5
        simp only [List.getElem?_toArray, List.getElem?_cons_zero, List.getElem?_cons_succ] at c_s_0 c_s_1 c_s_2 c_s_3 c_s_4 c_s_5
        have f_s := frozen_of_blk k_s_54
        have s_s := blk_lt k_s_54
        have c_a_0 := cell_of_blk k_a_54 0
        have c_a_1 := cell_of_blk k_a_54 1
        have c_a_2 := cell_of_blk k_a_54 2
        have c_a_3 := cell_of_blk k_a_54 3
        have c_a_4 := cell_of_blk k_a_54 4
        have c_a_5 := cell_of_blk k_a_54 5
        simp only [List.getElem?_toArray, List.getElem?_cons_zero, List.getElem?_cons_succ] at c_a_0 c_a_1 c_a_2 c_a_3 c_a_4 c_a_5
        have f_a := frozen_of_blk k_a_54
        have s_a := blk_lt k_a_54
        have c_p_0 := cell_of_blk k_p_54 0
        have c_p_1 := cell_of_blk k_p_54 1
        have c_p_2 := cell_of_blk k_p_54 2
        simp only [List.getElem?_toArray, List.getElem?_cons_zero, List.getElem?_cons_succ] at c_p_0 c_p_1 c_p_2
        have f_p := frozen_of_blk k_p_54
        have s_p := blk_lt k_p_54
        have c_u_0 := cell_of_blk k_u_54 0
        have c_u_1 := cell_of_blk k_u_54 1
        have c_u_2 := cell_of_blk k_u_54 2
        simp only [List.getElem?_toArray, List.getElem?_cons_zero, List.getElem?_cons_succ] at c_u_0 c_u_1 c_u_2
        have f_u := frozen_of_blk k_u_54
        have s_u := blk_lt k_u_54
        have c_b_0 := cell_of_blk k_b_54 0
        have c_b_1 := cell_of_blk k_b_54 1
        have c_b_2 := cell_of_blk k_b_54 2
        have c_b_3 := cell_of_blk k_b_54 3
        have c_b_4 := cell_of_blk k_b_54 4
        have c_b_5 := cell_of_blk k_b_54 5
        simp only [List.getElem?_toArray, List.getElem?_cons_zero, List.getElem?_cons_succ] at c_b_0 c_b_1 c_b_2 c_b_3 c_b_4 c_b_5
        have f_b := frozen_of_blk k_b_54
        have s_b := blk_lt k_b_54
        have c_v_0 := cell_of_blk k_v_54 0
        have c_v_1 := cell_of_blk k_v_54 1
        have c_v_2 := cell_of_blk k_v_54 2
        simp only [List.getElem?_toArray, List.getElem?_cons_zero, List.getElem?_cons_succ] at c_v_0 c_v_1 c_v_2
        have f_v := frozen_of_blk k_v_54
        have s_v := blk_lt k_v_54
        go_wp2_with fail
        refine (E5.out _).mono ?_
        rintro e w55 ⟨rfl, hb55⟩
        have k_t_55 : w55.heap[w1.heap.size]? = some (.cells #[.int .i64 tx, .int .i64 ty, .int .i64 tk] 23 (0, 0)) := blk_below (blk_alloc k_t_54 _) hb55 (blk_lt (blk_alloc k_t_54 _))
        have k_s_55 : w55.heap[w1.heap.size + 1]? = some (.cells #[.int .i64 1, .int .i64 0, .int .i64 0, .int .i64 1, .int .i64 0, .int .i64 0] 51 (0, 0)) := blk_below (blk_alloc k_s_54 _) hb55 (blk_lt (blk_alloc k_s_54 _))
        have k_a_55 : w55.heap[gA]? = some (.cells #[.int .i64 (M.1), .int .i64 (M.2.1), .int .i64 (M.2.2.1), .int .i64 (M.2.2.2.1), .int .i64 (M.2.2.2.2.1), .int .i64 (M.2.2.2.2.2)] 51 (0, 0)) := blk_below (blk_alloc k_a_54 _) hb55 (blk_lt (blk_alloc k_a_54 _))
        have k_p_55 : w55.heap[gP]? = some (.cells #[.int .i64 (T.1), .int .i64 (T.2.1), .int .i64 (T.2.2)] 23 (0, 0)) := blk_below (blk_alloc k_p_54 _) hb55 (blk_lt (blk_alloc k_p_54 _))
        have k_u_55 : w55.heap[w51.heap.size]? = some (.cells #[.int .i64 (T.1), .int .i64 (T.2.1), .int .i64 (T.2.2)] 23 (0, 0)) := blk_below (blk_alloc k_u_54 _) hb55 (blk_lt (blk_alloc k_u_54 _))
        have k_b_55 : w55.heap[w52.heap.size]? = some (.cells #[.int .i64 (N.1), .int .i64 (N.2.1), .int .i64 (N.2.2.1), .int .i64 (N.2.2.2.1), .int .i64 (N.2.2.2.2.1), .int .i64 (N.2.2.2.2.2)] 51 (0, 0)) := blk_below (blk_alloc k_b_54 _) hb55 (blk_lt (blk_alloc k_b_54 _))
        have k_v_55 : w55.heap[w53.heap.size]? = some (.cells #[.int .i64 tx, .int .i64 ty, .int .i64 tk] 23 (0, 0)) := blk_below (blk_alloc k_v_54 _) hb55 (blk_lt (blk_alloc k_v_54 _))
        have k_o_55 : w55.heap[w54.heap.size]? = some (.cells #[.int .i64 1, .int .i64 0, .int .i64 0, .int .i64 1, .int .i64 0, .int .i64 0] 51 (0, 0)) := blk_below (new_blk (.cells #[.int .i64 1, .int .i64 0, .int .i64 0, .int .i64 1, .int .i64 0, .int .i64 0] 51) (by first | rfl | (simp; done) | (simp; omega))) hb55 (by first | (simp; done) | (simp; omega))
        have hw_55 : Below wr.heap.size wr w55 := stay_b (ba hw_54 _) hb55
        have hs_55 := (hs_54.alloc _).below hb55
        clear c_t_0 c_t_1 c_t_2 f_t s_t c_s_0 c_s_1 c_s_2 c_s_3 c_s_4 c_s_5 f_s s_s c_a_0 c_a_1 c_a_2 c_a_3 c_a_4 c_a_5 f_a s_a c_p_0 c_p_1 c_p_2 f_p s_p c_u_0 c_u_1 c_u_2 f_u s_u c_b_0 c_b_1 c_b_2 c_b_3 c_b_4 c_b_5 f_b s_b c_v_0 c_v_1 c_v_2 f_v s_v k_t_54 k_s_54 k_a_54 k_p_54 k_u_54 k_b_54 k_v_54 hb55 hw_54
        have c_t_0 := cell_of_blk k_t_55 0
        have c_t_1 := cell_of_blk k_t_55 1
        have c_t_2 := cell_of_blk k_t_55 2
        simp only [List.getElem?_toArray, List.getElem?_cons_zero, List.getElem?_cons_succ] at c_t_0 c_t_1 c_t_2
        have f_t := frozen_of_blk k_t_55
        have s_t := blk_lt k_t_55
        have c_s_0 := cell_of_blk k_s_55 0
        have c_s_1 := cell_of_blk k_s_55 1
        have c_s_2 := cell_of_blk k_s_55 2
        have c_s_3 := cell_of_blk k_s_55 3
        have c_s_4 := cell_of_blk k_s_55 4
        have c_s_5 := cell_of_blk k_s_55 5
        simp only [List.getElem?_toArray, List.getElem?_cons_zero, List.getElem?_cons_succ] at c_s_0 c_s_1 c_s_2 c_s_3 c_s_4 c_s_5
        have f_s := frozen_of_blk k_s_55
        have s_s := blk_lt k_s_55
        have c_a_0 := cell_of_blk k_a_55 0
        have c_a_1 := cell_of_blk k_a_55 1
        have c_a_2 := cell_of_blk k_a_55 2
        have c_a_3 := cell_of_blk k_a_55 3
        have c_a_4 := cell_of_blk k_a_55 4
        have c_a_5 := cell_of_blk k_a_55 5
        simp only [List.getElem?_toArray, List.getElem?_cons_zero, List.getElem?_cons_succ] at c_a_0 c_a_1 c_a_2 c_a_3 c_a_4 c_a_5
        have f_a := frozen_of_blk k_a_55
        have s_a := blk_lt k_a_55
        have c_p_0 := cell_of_blk k_p_55 0
        have c_p_1 := cell_of_blk k_p_55 1
        have c_p_2 := cell_of_blk k_p_55 2
        simp only [List.getElem?_toArray, List.getElem?_cons_zero, List.getElem?_cons_succ] at c_p_0 c_p_1 c_p_2
        have f_p := frozen_of_blk k_p_55
        have s_p := blk_lt k_p_55
        have c_u_0 := cell_of_blk k_u_55 0
        have c_u_1 := cell_of_blk k_u_55 1
        have c_u_2 := cell_of_blk k_u_55 2
        simp only [List.getElem?_toArray, List.getElem?_cons_zero, List.getElem?_cons_succ] at c_u_0 c_u_1 c_u_2
        have f_u := frozen_of_blk k_u_55
        have s_u := blk_lt k_u_55
        have c_b_0 := cell_of_blk k_b_55 0
        have c_b_1 := cell_of_blk k_b_55 1
        have c_b_2 := cell_of_blk k_b_55 2
        have c_b_3 := cell_of_blk k_b_55 3
        have c_b_4 := cell_of_blk k_b_55 4
        have c_b_5 := cell_of_blk k_b_55 5
        simp only [List.getElem?_toArray, List.getElem?_cons_zero, List.getElem?_cons_succ] at c_b_0 c_b_1 c_b_2 c_b_3 c_b_4 c_b_5
        have f_b := frozen_of_blk k_b_55
        have s_b := blk_lt k_b_55
        have c_v_0 := cell_of_blk k_v_55 0
        have c_v_1 := cell_of_blk k_v_55 1
        have c_v_2 := cell_of_blk k_v_55 2
        simp only [List.getElem?_toArray, List.getElem?_cons_zero, List.getElem?_cons_succ] at c_v_0 c_v_1 c_v_2
        have f_v := frozen_of_blk k_v_55
        have s_v := blk_lt k_v_55
        have c_o_0 := cell_of_blk k_o_55 0
        have c_o_1 := cell_of_blk k_o_55 1
        have c_o_2 := cell_of_blk k_o_55 2
        have c_o_3 := cell_of_blk k_o_55 3
        have c_o_4 := cell_of_blk k_o_55 4
        have c_o_5 := cell_of_blk k_o_55 5
        simp only [List.getElem?_toArray, List.getElem?_cons_zero, List.getElem?_cons_succ] at c_o_0 c_o_1 c_o_2 c_o_3 c_o_4 c_o_5
        have f_o := frozen_of_blk k_o_55
        have s_o := blk_lt k_o_55
        go_wp2
        go_ret
        exact ⟨rfl, hw_r.trans ((ba hw_55 _).mono hw_r.size)⟩
end Go.Proofs.YthfhkmgegkhljaaDoor
