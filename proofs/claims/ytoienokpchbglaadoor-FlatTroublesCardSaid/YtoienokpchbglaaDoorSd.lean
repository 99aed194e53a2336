/- The document's toward. Printed by gen_tw.py. The document's StarsOf. Printed by gen_sd.py. -/
import Derived.Test.YtoienokpchbglaaDoorSt
import Derived.Test.YtoienokpchbglaaDoorSw
import Derived.Test.YtoienokpchbglaaDoorPtw
namespace Go.Proofs.YtoienokpchbglaaDoor
set_option linter.unusedSimpArgs false
set_option linter.unusedVariables false
section
open Go.RowKit

def uxD (d : Nat) : Int := match d with
 | 0 => 1 | 1 => 1 | 2 => 0 | 3 => -1 | 4 => -1 | 5 => -1 | 6 => 0 | _ => 1
def uyD (d : Nat) : Int := match d with
 | 0 => 0 | 1 => 1 | 2 => 1 | 3 => 1 | 4 => 0 | 5 => -1 | 6 => -1 | _ => -1
theorem d8_cases {d : Nat} (h : d < 8) : d = 0 ∨ d = 1 ∨ d = 2 ∨ d = 3 ∨ d = 4 ∨ d = 5 ∨ d = 6 ∨ d = 7 := by omega
theorem ux_at {w : World} {g : Nat} (h : w.heap[g]? = some (.cells (vis [1, 1, 0, -1, -1, -1, 0, 1]).toArray 3 (0, 0))) {d : Nat} (hd : d < 8) : w.cell? ⟨g, d, none⟩ = some (.int .i64 (uxD d)) := by
 rcases d8_cases hd with rfl | rfl | rfl | rfl | rfl | rfl | rfl | rfl <;> exact (cell_of_blk h _).trans rfl
theorem uy_at {w : World} {g : Nat} (h : w.heap[g]? = some (.cells (vis [0, 1, 1, 1, 0, -1, -1, -1]).toArray 3 (0, 0))) {d : Nat} (hd : d < 8) : w.cell? ⟨g, d, none⟩ = some (.int .i64 (uyD d)) := by
 rcases d8_cases hd with rfl | rfl | rfl | rfl | rfl | rfl | rfl | rfl <;> exact (cell_of_blk h _).trans rfl
theorem by_D {d : Nat} (hd : d < 8) : (d % 2 = 1 → uxD d = dxD d ∧ uyD d = dyD d) ∧ (¬ d % 2 = 1 → 2 * uxD d = dxD d ∧ 2 * uyD d = dyD d) ∧ (-2 ≤ dxD d ∧ dxD d ≤ 2) ∧ (-2 ≤ dyD d ∧ dyD d ≤ 2) := by
 rcases d8_cases hd with rfl | rfl | rfl | rfl | rfl | rfl | rfl | rfl <;> decide
set_option maxRecDepth 100000 in
set_option maxHeartbeats 6400000 in
theorem toward_any (x y : Int) (d : Nat) (w : World) (hd : d < 8) (hx : -100000 ≤ x ∧ x ≤ 100000) (hy : -100000 ≤ y ∧ y ≤ 100000) :
  Calls Tryd.prog 49 #[.agg #[.int .i64 x, .int .i64 y], .int .i64 d] w fun e w' => e = .returned (.agg #[.int .i64 (x + dxD d), .int .i64 (y + dyD d)]) ∧ Below w.heap.size w w' := by
 have k0 := blk_alloc (blk_alloc (blk_alloc (heap_alloc_new w (.cells #[.int .i64 x, .int .i64 y] 49)) (.cells #[.int .i64 0, .int .i64 0] 49)) (.cells (vis [1, 1, 0, -1, -1, -1, 0, 1]).toArray 3)) (.cells (vis [0, 1, 1, 1, 0, -1, -1, -1]).toArray 3)
 have k1 := blk_alloc (blk_alloc (heap_alloc_new (w.alloc  (.cells #[.int .i64 x, .int .i64 y] 49)) (.cells #[.int .i64 0, .int .i64 0] 49)) (.cells (vis [1, 1, 0, -1, -1, -1, 0, 1]).toArray 3)) (.cells (vis [0, 1, 1, 1, 0, -1, -1, -1]).toArray 3)
 have k2 := blk_alloc (heap_alloc_new ((w.alloc  (.cells #[.int .i64 x, .int .i64 y] 49)).alloc (.cells #[.int .i64 0, .int .i64 0] 49)) (.cells (vis [1, 1, 0, -1, -1, -1, 0, 1]).toArray 3)) (.cells (vis [0, 1, 1, 1, 0, -1, -1, -1]).toArray 3)
 have k3 := heap_alloc_new (((w.alloc  (.cells #[.int .i64 x, .int .i64 y] 49)).alloc (.cells #[.int .i64 0, .int .i64 0] 49)).alloc (.cells (vis [1, 1, 0, -1, -1, -1, 0, 1]).toArray 3)) (.cells (vis [0, 1, 1, 1, 0, -1, -1, -1]).toArray 3)
 rw [World.size_alloc] at k1
 rw [World.size_alloc, World.size_alloc] at k2
 rw [World.size_alloc, World.size_alloc, World.size_alloc] at k3
 have hbw : Below w.heap.size w ((((w.alloc (.cells #[.int .i64 x, .int .i64 y] 49)).alloc (.cells #[.int .i64 0, .int .i64 0] 49)).alloc (.cells (vis [1, 1, 0, -1, -1, -1, 0, 1]).toArray 3)).alloc (.cells (vis [0, 1, 1, 1, 0, -1, -1, -1]).toArray 3)) := ba (ba (ba (below_new _ _) _) _) _
 have x0 := cell_of_blk k0 0
 have x1 := cell_of_blk k0 1
 simp only [List.getElem?_toArray, List.getElem?_cons_zero, List.getElem?_cons_succ] at x0 x1
 have kx := ux_at k2 hd
 have ky := uy_at k3 hd
 obtain ⟨hb1, hb2, hb3, hb4⟩ := by_D hd
 obtain ⟨ux, hux⟩ : ∃ z, z = uxD d := ⟨_, rfl⟩
 obtain ⟨uy, huy⟩ : ∃ z, z = uyD d := ⟨_, rfl⟩
 obtain ⟨dx, hdx⟩ : ∃ z, z = dxD d := ⟨_, rfl⟩
 obtain ⟨dy, hdy⟩ : ∃ z, z = dyD d := ⟨_, rfl⟩
 rw [← hux, ← huy, ← hdx, ← hdy] at hb1 hb2
 rw [← hdx] at hb3 ⊢
 rw [← hdy] at hb4 ⊢
 rw [← hux] at kx
 rw [← huy] at ky
 have hdi : (d : Int) < 8 := by omega
 have HBW := Lib.hid hbw
 have K1 := Lib.hid k1
 have HB1 := Lib.hid hb1
 have HB2 := Lib.hid hb2
 clear hbw k0 k1 k2 k3 hux huy hdx hdy hb1 hb2
 obtain ⟨BY, hBY⟩ : ∃ b : Int, b = if d % 2 = 1 then 1 else 2 := ⟨_, rfl⟩
 have hm1 : IntKind.i64.wrap (BY * ux) = dx := by
  by_cases h : d % 2 = 1
  ·rw [hBY, if_pos h, IntWalk.i64_in _ (by have := HB1.out h; omega)]
   have := HB1.out h
   omega
  ·rw [hBY, if_neg h, IntWalk.i64_in _ (by have := HB2.out h; omega)]
   exact (HB2.out h).1
 have hm2 : IntKind.i64.wrap (BY * uy) = dy := by
  by_cases h : d % 2 = 1
  ·rw [hBY, if_pos h, IntWalk.i64_in _ (by have := HB1.out h; omega)]
   have := HB1.out h
   omega
  ·rw [hBY, if_neg h, IntWalk.i64_in _ (by have := HB2.out h; omega)]
   exact (HB2.out h).2
 have ha1 : IntKind.i64.wrap (x + dx) = x + dx := IntWalk.i64_in _ (by omega)
 have ha2 : IntKind.i64.wrap (y + dy) = y + dy := IntWalk.i64_in _ (by omega)
 have HBY := Lib.hid hBY
 clear hBY
 go_enter Tryd.func49, Tryd.ntmps49
 go_upto_if 12 with fail
 change Code.wp _ _ _ _ ((((w.alloc (.cells #[.int .i64 x, .int .i64 y] 49)).alloc (.cells #[.int .i64 0, .int .i64 0] 49)).alloc (.cells (vis [1, 1, 0, -1, -1, -1, 0, 1]).toArray 3)).alloc (.cells (vis [0, 1, 1, 1, 0, -1, -1, -1]).toArray 3))
 generalize (((w.alloc (.cells #[.int .i64 x, .int .i64 y] 49)).alloc (.cells #[.int .i64 0, .int .i64 0] 49)).alloc (.cells (vis [1, 1, 0, -1, -1, -1, 0, 1]).toArray 3)).alloc (.cells (vis [0, 1, 1, 1, 0, -1, -1, -1]).toArray 3) = w0 at x0 x1 kx ky K1 HBW ⊢
 go_cut [7] from 8 to 31 (fun s7 wx => s7 = .int .i64 BY ∧ wx = w0)
 case first =>
  by_cases h : d % 2 = 1
  ·have ho : ((d : Int) % 2 == 1) = true := by simp; omega
   go_wp2_with fail
   go_meet
   case rel => exact ⟨by rw [HBY.out, if_pos h], rfl⟩
  ·have ho : ((d : Int) % 2 == 1) = false := by simp; omega
   go_wp2_with fail
   go_meet
   case rel => exact ⟨by rw [HBY.out, if_neg h], rfl⟩
 case rest =>
  obtain ⟨rfl, hwc⟩ := hcut
  subst hwc
  go_wp2_with fail
  refine wp_region_inv (fun Lq aq WN => ∃ s : Nat → Value, aq = { tmps := #[.agg #[.int .i64 x, .int .i64 y], .int .i64 ((d : Nat) : Int), .pointer (some ⟨w.heap.size, 0, none⟩), undef, .pointer (some ⟨w.heap.size + 1, 0, none⟩), .slice (some ⟨w.heap.size + 1 + 1, 0, none⟩) 8 8, .slice (some ⟨w.heap.size + 1 + 1 + 1, 0, none⟩) 8 8, .int .i64 BY, u8, u9, u10, u11, u12, (s 0), (s 1), (s 2), (s 3), (s 4), (s 5), (s 6), (s 7), (s 8), (s 9), (s 10), (s 11), (s 12), (s 13), (s 14), (s 15), (s 16), (s 17), (s 18)], defers := [] } ∧ Sv 20 [some (.pointer (some ⟨w.heap.size, 0, none⟩)), some (.int .i64 (x)), some (.int .i64 BY), some (.slice (some ⟨w.heap.size + 1 + 1, 0, none⟩) 8 8), some (.int .i64 ((d : Nat) : Int)), some (.pointer (some ⟨w.heap.size + 1 + 1, d, none⟩)), some (.int .i64 (ux)), some (.int .i64 (dx)), some (.int .i64 (x + dx)), some (.pointer (some ⟨w.heap.size, 1, none⟩)), some (.int .i64 (y)), some (.int .i64 BY), some (.slice (some ⟨w.heap.size + 1 + 1 + 1, 0, none⟩) 8 8), some (.int .i64 ((d : Nat) : Int)), some (.pointer (some ⟨w.heap.size + 1 + 1 + 1, d, none⟩)), some (.int .i64 (uy)), some (.int .i64 (dy)), some (.int .i64 (y + dy)), some (.agg #[.int .i64 (x + dx), .int .i64 (y + dy)]), some (undef)] Lq s ∧ Cl [(19, 0), (19, 1), (19, 2), (19, 3), (19, 4), (19, 5), (19, 6), (19, 7), (19, 8), (19, 9), (19, 10), (19, 11), (19, 12), (19, 13), (19, 14), (19, 15), (19, 16), (19, 17), (19, 18)] Lq ∧ (Lq.getD 19 false = false → WN.cell? ⟨w.heap.size, 0, none⟩ = some (.int .i64 x) ∧ WN.cell? ⟨w.heap.size, 1, none⟩ = some (.int .i64 y) ∧ WN.cell? ⟨w.heap.size + 1 + 1, d, none⟩ = some (.int .i64 ux) ∧ WN.cell? ⟨w.heap.size + 1 + 1 + 1, d, none⟩ = some (.int .i64 uy) ∧ WN.heap[w.heap.size + 1]? = some (.cells #[.int .i64 0, .int .i64 0] 49 (0, 0)) ∧ Below wc.heap.size wc WN) ∧ (Lq.getD 19 false = true → ∃ W0 : World, (W0.cell? ⟨w.heap.size, 0, none⟩ = some (.int .i64 x) ∧ W0.cell? ⟨w.heap.size, 1, none⟩ = some (.int .i64 y) ∧ W0.cell? ⟨w.heap.size + 1 + 1, d, none⟩ = some (.int .i64 ux) ∧ W0.cell? ⟨w.heap.size + 1 + 1 + 1, d, none⟩ = some (.int .i64 uy) ∧ W0.heap[w.heap.size + 1]? = some (.cells #[.int .i64 0, .int .i64 0] 49 (0, 0)) ∧ Below wc.heap.size wc W0) ∧ WN = (W0.setCell ⟨w.heap.size + 1, 0, none⟩ (.int .i64 (x + dx))).setCell ⟨w.heap.size + 1, 1, none⟩ (.int .i64 (y + dy)))) (by kernel_rfl) ?_ ?_ ?_
  ·exact ⟨listF [u13, u14, u15, u16, u17, u18, u19, u20, u21, u22, u23, u24, u25, u26, u27, u28, u29, u30, u31, undef], rfl, Sv.start 20 _ _, Cl.start _ _, fun _ => ⟨x0, x1, kx, ky, K1.out, (Below.refl _ _).drew⟩, fun h => (by rw [getD_replicate_false] at h; cases h)⟩
  ·intro Lq aq WN i0 hI hr
   obtain ⟨s, rfl, hv, hcl, hst, _⟩ := hI
   have hi0 : i0 < 20 := ready_lt hr
   have hno := (mem_ready.1 hr).1
   have hsz := hv.sz
   have HV := Lib.hid hv
   have HST := Lib.hid hst
   have HCL := Lib.hid hcl
   clear hv hst hcl
   have hii : i0 = 0 ∨ i0 = 1 ∨ i0 = 2 ∨ i0 = 3 ∨ i0 = 4 ∨ i0 = 5 ∨ i0 = 6 ∨ i0 = 7 ∨ i0 = 8 ∨ i0 = 9 ∨ i0 = 10 ∨ i0 = 11 ∨ i0 = 12 ∨ i0 = 13 ∨ i0 = 14 ∨ i0 = 15 ∨ i0 = 16 ∨ i0 = 17 ∨ i0 = 18 ∨ i0 = 19 := by omega
   clear hi0
   rcases hii with rfl | rfl | rfl | rfl | rfl | rfl | rfl | rfl | rfl | rfl | rfl | rfl | rfl | rfl | rfl | rfl | rfl | rfl | rfl | rfl
   ·clear hr
    have hs0 : Lq.getD 19 false = false := HCL.out.no (i := 0) (by decide) hno
    refine wpOp_step rfl (fun K hK => ?_)
    go_simp
    refine hK _ _ ?_
    exact ⟨upd s 0 (.pointer (some ⟨w.heap.size, 0, none⟩)), rfl, Sv.put HV.out (fun u hu => by cases hu; rfl), Cl.set HCL.out (by simp only [List.mem_cons, List.not_mem_nil, or_false]; rintro p (rfl | rfl | rfl | rfl | rfl | rfl | rfl | rfl | rfl | rfl | rfl | rfl | rfl | rfl | rfl | rfl | rfl | rfl | rfl) hp <;> first | assumption | (simp at hp; done)), fun _ => HST.out hs0, (fun hh => by rw [set_other (show (0 : Nat) ≠ 19 by decide), hs0] at hh; cases hh)⟩
   ·have d0 := ready_dep hr (k := 0) (by kernel_rfl)
    clear hr
    have hs0 : Lq.getD 19 false = false := HCL.out.no (i := 1) (by decide) hno
    have e0 : s 0 = .pointer (some ⟨w.heap.size, 0, none⟩) := HV.out.v d0 rfl
    obtain ⟨q0, q1, q2, q3, hk1, hbl⟩ := HST.out hs0
    refine wpOp_step rfl (fun K hK => ?_)
    go_simp
    refine hK _ _ ?_
    exact ⟨upd (upd s 0 (.pointer (some ⟨w.heap.size, 0, none⟩))) 1 (.int .i64 (x)), rfl, Sv.put (Sv.re (j := 0) (v := .pointer (some ⟨w.heap.size, 0, none⟩)) HV.out e0) (fun u hu => by cases hu; rfl), Cl.set HCL.out (by simp only [List.mem_cons, List.not_mem_nil, or_false]; rintro p (rfl | rfl | rfl | rfl | rfl | rfl | rfl | rfl | rfl | rfl | rfl | rfl | rfl | rfl | rfl | rfl | rfl | rfl | rfl) hp <;> first | assumption | (simp at hp; done)), fun _ => HST.out hs0, (fun hh => by rw [set_other (show (1 : Nat) ≠ 19 by decide), hs0] at hh; cases hh)⟩
   ·clear hr
    have hs0 : Lq.getD 19 false = false := HCL.out.no (i := 2) (by decide) hno
    refine wpOp_step rfl (fun K hK => ?_)
    go_simp
    refine hK _ _ ?_
    exact ⟨upd s 2 (.int .i64 BY), rfl, Sv.put HV.out (fun u hu => by cases hu; rfl), Cl.set HCL.out (by simp only [List.mem_cons, List.not_mem_nil, or_false]; rintro p (rfl | rfl | rfl | rfl | rfl | rfl | rfl | rfl | rfl | rfl | rfl | rfl | rfl | rfl | rfl | rfl | rfl | rfl | rfl) hp <;> first | assumption | (simp at hp; done)), fun _ => HST.out hs0, (fun hh => by rw [set_other (show (2 : Nat) ≠ 19 by decide), hs0] at hh; cases hh)⟩
   ·clear hr
    have hs0 : Lq.getD 19 false = false := HCL.out.no (i := 3) (by decide) hno
    refine wpOp_step rfl (fun K hK => ?_)
    go_simp
    refine hK _ _ ?_
    exact ⟨upd s 3 (.slice (some ⟨w.heap.size + 1 + 1, 0, none⟩) 8 8), rfl, Sv.put HV.out (fun u hu => by cases hu; rfl), Cl.set HCL.out (by simp only [List.mem_cons, List.not_mem_nil, or_false]; rintro p (rfl | rfl | rfl | rfl | rfl | rfl | rfl | rfl | rfl | rfl | rfl | rfl | rfl | rfl | rfl | rfl | rfl | rfl | rfl) hp <;> first | assumption | (simp at hp; done)), fun _ => HST.out hs0, (fun hh => by rw [set_other (show (3 : Nat) ≠ 19 by decide), hs0] at hh; cases hh)⟩
   ·clear hr
    have hs0 : Lq.getD 19 false = false := HCL.out.no (i := 4) (by decide) hno
    refine wpOp_step rfl (fun K hK => ?_)
    go_simp
    refine hK _ _ ?_
    exact ⟨upd s 4 (.int .i64 ((d : Nat) : Int)), rfl, Sv.put HV.out (fun u hu => by cases hu; rfl), Cl.set HCL.out (by simp only [List.mem_cons, List.not_mem_nil, or_false]; rintro p (rfl | rfl | rfl | rfl | rfl | rfl | rfl | rfl | rfl | rfl | rfl | rfl | rfl | rfl | rfl | rfl | rfl | rfl | rfl) hp <;> first | assumption | (simp at hp; done)), fun _ => HST.out hs0, (fun hh => by rw [set_other (show (4 : Nat) ≠ 19 by decide), hs0] at hh; cases hh)⟩
   ·have d3 := ready_dep hr (k := 3) (by kernel_rfl)
    have d4 := ready_dep hr (k := 4) (by kernel_rfl)
    clear hr
    have hs0 : Lq.getD 19 false = false := HCL.out.no (i := 5) (by decide) hno
    have e3 : s 3 = .slice (some ⟨w.heap.size + 1 + 1, 0, none⟩) 8 8 := HV.out.v d3 rfl
    have e4 : s 4 = .int .i64 ((d : Nat) : Int) := HV.out.v d4 rfl
    refine wpOp_step rfl (fun K hK => ?_)
    go_simp
    refine hK _ _ ?_
    exact ⟨upd (upd (upd s 3 (.slice (some ⟨w.heap.size + 1 + 1, 0, none⟩) 8 8)) 4 (.int .i64 ((d : Nat) : Int))) 5 (.pointer (some ⟨w.heap.size + 1 + 1, d, none⟩)), rfl, Sv.put (Sv.re (j := 4) (v := .int .i64 ((d : Nat) : Int)) (Sv.re (j := 3) (v := .slice (some ⟨w.heap.size + 1 + 1, 0, none⟩) 8 8) HV.out e3) e4) (fun u hu => by cases hu; rfl), Cl.set HCL.out (by simp only [List.mem_cons, List.not_mem_nil, or_false]; rintro p (rfl | rfl | rfl | rfl | rfl | rfl | rfl | rfl | rfl | rfl | rfl | rfl | rfl | rfl | rfl | rfl | rfl | rfl | rfl) hp <;> first | assumption | (simp at hp; done)), fun _ => HST.out hs0, (fun hh => by rw [set_other (show (5 : Nat) ≠ 19 by decide), hs0] at hh; cases hh)⟩
   ·have d5 := ready_dep hr (k := 5) (by kernel_rfl)
    clear hr
    have hs0 : Lq.getD 19 false = false := HCL.out.no (i := 6) (by decide) hno
    have e5 : s 5 = .pointer (some ⟨w.heap.size + 1 + 1, d, none⟩) := HV.out.v d5 rfl
    obtain ⟨q0, q1, q2, q3, hk1, hbl⟩ := HST.out hs0
    refine wpOp_step rfl (fun K hK => ?_)
    go_simp
    refine hK _ _ ?_
    exact ⟨upd (upd s 5 (.pointer (some ⟨w.heap.size + 1 + 1, d, none⟩))) 6 (.int .i64 (ux)), rfl, Sv.put (Sv.re (j := 5) (v := .pointer (some ⟨w.heap.size + 1 + 1, d, none⟩)) HV.out e5) (fun u hu => by cases hu; rfl), Cl.set HCL.out (by simp only [List.mem_cons, List.not_mem_nil, or_false]; rintro p (rfl | rfl | rfl | rfl | rfl | rfl | rfl | rfl | rfl | rfl | rfl | rfl | rfl | rfl | rfl | rfl | rfl | rfl | rfl) hp <;> first | assumption | (simp at hp; done)), fun _ => HST.out hs0, (fun hh => by rw [set_other (show (6 : Nat) ≠ 19 by decide), hs0] at hh; cases hh)⟩
   ·have d2 := ready_dep hr (k := 2) (by kernel_rfl)
    have d6 := ready_dep hr (k := 6) (by kernel_rfl)
    clear hr
    have hs0 : Lq.getD 19 false = false := HCL.out.no (i := 7) (by decide) hno
    have e2 : s 2 = .int .i64 BY := HV.out.v d2 rfl
    have e6 : s 6 = .int .i64 (ux) := HV.out.v d6 rfl
    refine wpOp_step rfl (fun K hK => ?_)
    go_simp
    refine hK _ _ ?_
    exact ⟨upd (upd (upd s 2 (.int .i64 BY)) 6 (.int .i64 (ux))) 7 (.int .i64 (dx)), rfl, Sv.put (Sv.re (j := 6) (v := .int .i64 (ux)) (Sv.re (j := 2) (v := .int .i64 BY) HV.out e2) e6) (fun u hu => by cases hu; rfl), Cl.set HCL.out (by simp only [List.mem_cons, List.not_mem_nil, or_false]; rintro p (rfl | rfl | rfl | rfl | rfl | rfl | rfl | rfl | rfl | rfl | rfl | rfl | rfl | rfl | rfl | rfl | rfl | rfl | rfl) hp <;> first | assumption | (simp at hp; done)), fun _ => HST.out hs0, (fun hh => by rw [set_other (show (7 : Nat) ≠ 19 by decide), hs0] at hh; cases hh)⟩
   ·have d1 := ready_dep hr (k := 1) (by kernel_rfl)
    have d7 := ready_dep hr (k := 7) (by kernel_rfl)
    clear hr
    have hs0 : Lq.getD 19 false = false := HCL.out.no (i := 8) (by decide) hno
    have e1 : s 1 = .int .i64 (x) := HV.out.v d1 rfl
    have e7 : s 7 = .int .i64 (dx) := HV.out.v d7 rfl
    refine wpOp_step rfl (fun K hK => ?_)
    go_simp
    refine hK _ _ ?_
    exact ⟨upd (upd (upd s 1 (.int .i64 (x))) 7 (.int .i64 (dx))) 8 (.int .i64 (x + dx)), rfl, Sv.put (Sv.re (j := 7) (v := .int .i64 (dx)) (Sv.re (j := 1) (v := .int .i64 (x)) HV.out e1) e7) (fun u hu => by cases hu; rfl), Cl.set HCL.out (by simp only [List.mem_cons, List.not_mem_nil, or_false]; rintro p (rfl | rfl | rfl | rfl | rfl | rfl | rfl | rfl | rfl | rfl | rfl | rfl | rfl | rfl | rfl | rfl | rfl | rfl | rfl) hp <;> first | assumption | (simp at hp; done)), fun _ => HST.out hs0, (fun hh => by rw [set_other (show (8 : Nat) ≠ 19 by decide), hs0] at hh; cases hh)⟩
   ·clear hr
    have hs0 : Lq.getD 19 false = false := HCL.out.no (i := 9) (by decide) hno
    refine wpOp_step rfl (fun K hK => ?_)
    go_simp
    refine hK _ _ ?_
    exact ⟨upd s 9 (.pointer (some ⟨w.heap.size, 1, none⟩)), rfl, Sv.put HV.out (fun u hu => by cases hu; rfl), Cl.set HCL.out (by simp only [List.mem_cons, List.not_mem_nil, or_false]; rintro p (rfl | rfl | rfl | rfl | rfl | rfl | rfl | rfl | rfl | rfl | rfl | rfl | rfl | rfl | rfl | rfl | rfl | rfl | rfl) hp <;> first | assumption | (simp at hp; done)), fun _ => HST.out hs0, (fun hh => by rw [set_other (show (9 : Nat) ≠ 19 by decide), hs0] at hh; cases hh)⟩
   ·have d9 := ready_dep hr (k := 9) (by kernel_rfl)
    clear hr
    have hs0 : Lq.getD 19 false = false := HCL.out.no (i := 10) (by decide) hno
    have e9 : s 9 = .pointer (some ⟨w.heap.size, 1, none⟩) := HV.out.v d9 rfl
    obtain ⟨q0, q1, q2, q3, hk1, hbl⟩ := HST.out hs0
    refine wpOp_step rfl (fun K hK => ?_)
    go_simp
    refine hK _ _ ?_
    exact ⟨upd (upd s 9 (.pointer (some ⟨w.heap.size, 1, none⟩))) 10 (.int .i64 (y)), rfl, Sv.put (Sv.re (j := 9) (v := .pointer (some ⟨w.heap.size, 1, none⟩)) HV.out e9) (fun u hu => by cases hu; rfl), Cl.set HCL.out (by simp only [List.mem_cons, List.not_mem_nil, or_false]; rintro p (rfl | rfl | rfl | rfl | rfl | rfl | rfl | rfl | rfl | rfl | rfl | rfl | rfl | rfl | rfl | rfl | rfl | rfl | rfl) hp <;> first | assumption | (simp at hp; done)), fun _ => HST.out hs0, (fun hh => by rw [set_other (show (10 : Nat) ≠ 19 by decide), hs0] at hh; cases hh)⟩
   ·clear hr
    have hs0 : Lq.getD 19 false = false := HCL.out.no (i := 11) (by decide) hno
    refine wpOp_step rfl (fun K hK => ?_)
    go_simp
    refine hK _ _ ?_
    exact ⟨upd s 11 (.int .i64 BY), rfl, Sv.put HV.out (fun u hu => by cases hu; rfl), Cl.set HCL.out (by simp only [List.mem_cons, List.not_mem_nil, or_false]; rintro p (rfl | rfl | rfl | rfl | rfl | rfl | rfl | rfl | rfl | rfl | rfl | rfl | rfl | rfl | rfl | rfl | rfl | rfl | rfl) hp <;> first | assumption | (simp at hp; done)), fun _ => HST.out hs0, (fun hh => by rw [set_other (show (11 : Nat) ≠ 19 by decide), hs0] at hh; cases hh)⟩
   ·clear hr
    have hs0 : Lq.getD 19 false = false := HCL.out.no (i := 12) (by decide) hno
    refine wpOp_step rfl (fun K hK => ?_)
    go_simp
    refine hK _ _ ?_
    exact ⟨upd s 12 (.slice (some ⟨w.heap.size + 1 + 1 + 1, 0, none⟩) 8 8), rfl, Sv.put HV.out (fun u hu => by cases hu; rfl), Cl.set HCL.out (by simp only [List.mem_cons, List.not_mem_nil, or_false]; rintro p (rfl | rfl | rfl | rfl | rfl | rfl | rfl | rfl | rfl | rfl | rfl | rfl | rfl | rfl | rfl | rfl | rfl | rfl | rfl) hp <;> first | assumption | (simp at hp; done)), fun _ => HST.out hs0, (fun hh => by rw [set_other (show (12 : Nat) ≠ 19 by decide), hs0] at hh; cases hh)⟩
   ·clear hr
    have hs0 : Lq.getD 19 false = false := HCL.out.no (i := 13) (by decide) hno
    refine wpOp_step rfl (fun K hK => ?_)
    go_simp
    refine hK _ _ ?_
    exact ⟨upd s 13 (.int .i64 ((d : Nat) : Int)), rfl, Sv.put HV.out (fun u hu => by cases hu; rfl), Cl.set HCL.out (by simp only [List.mem_cons, List.not_mem_nil, or_false]; rintro p (rfl | rfl | rfl | rfl | rfl | rfl | rfl | rfl | rfl | rfl | rfl | rfl | rfl | rfl | rfl | rfl | rfl | rfl | rfl) hp <;> first | assumption | (simp at hp; done)), fun _ => HST.out hs0, (fun hh => by rw [set_other (show (13 : Nat) ≠ 19 by decide), hs0] at hh; cases hh)⟩
   ·have d12 := ready_dep hr (k := 12) (by kernel_rfl)
    have d13 := ready_dep hr (k := 13) (by kernel_rfl)
    clear hr
    have hs0 : Lq.getD 19 false = false := HCL.out.no (i := 14) (by decide) hno
    have e12 : s 12 = .slice (some ⟨w.heap.size + 1 + 1 + 1, 0, none⟩) 8 8 := HV.out.v d12 rfl
    have e13 : s 13 = .int .i64 ((d : Nat) : Int) := HV.out.v d13 rfl
    refine wpOp_step rfl (fun K hK => ?_)
    go_simp
    refine hK _ _ ?_
    exact ⟨upd (upd (upd s 12 (.slice (some ⟨w.heap.size + 1 + 1 + 1, 0, none⟩) 8 8)) 13 (.int .i64 ((d : Nat) : Int))) 14 (.pointer (some ⟨w.heap.size + 1 + 1 + 1, d, none⟩)), rfl, Sv.put (Sv.re (j := 13) (v := .int .i64 ((d : Nat) : Int)) (Sv.re (j := 12) (v := .slice (some ⟨w.heap.size + 1 + 1 + 1, 0, none⟩) 8 8) HV.out e12) e13) (fun u hu => by cases hu; rfl), Cl.set HCL.out (by simp only [List.mem_cons, List.not_mem_nil, or_false]; rintro p (rfl | rfl | rfl | rfl | rfl | rfl | rfl | rfl | rfl | rfl | rfl | rfl | rfl | rfl | rfl | rfl | rfl | rfl | rfl) hp <;> first | assumption | (simp at hp; done)), fun _ => HST.out hs0, (fun hh => by rw [set_other (show (14 : Nat) ≠ 19 by decide), hs0] at hh; cases hh)⟩
   ·have d14 := ready_dep hr (k := 14) (by kernel_rfl)
    clear hr
    have hs0 : Lq.getD 19 false = false := HCL.out.no (i := 15) (by decide) hno
    have e14 : s 14 = .pointer (some ⟨w.heap.size + 1 + 1 + 1, d, none⟩) := HV.out.v d14 rfl
    obtain ⟨q0, q1, q2, q3, hk1, hbl⟩ := HST.out hs0
    refine wpOp_step rfl (fun K hK => ?_)
    go_simp
    refine hK _ _ ?_
    exact ⟨upd (upd s 14 (.pointer (some ⟨w.heap.size + 1 + 1 + 1, d, none⟩))) 15 (.int .i64 (uy)), rfl, Sv.put (Sv.re (j := 14) (v := .pointer (some ⟨w.heap.size + 1 + 1 + 1, d, none⟩)) HV.out e14) (fun u hu => by cases hu; rfl), Cl.set HCL.out (by simp only [List.mem_cons, List.not_mem_nil, or_false]; rintro p (rfl | rfl | rfl | rfl | rfl | rfl | rfl | rfl | rfl | rfl | rfl | rfl | rfl | rfl | rfl | rfl | rfl | rfl | rfl) hp <;> first | assumption | (simp at hp; done)), fun _ => HST.out hs0, (fun hh => by rw [set_other (show (15 : Nat) ≠ 19 by decide), hs0] at hh; cases hh)⟩
   ·have d11 := ready_dep hr (k := 11) (by kernel_rfl)
    have d15 := ready_dep hr (k := 15) (by kernel_rfl)
    clear hr
    have hs0 : Lq.getD 19 false = false := HCL.out.no (i := 16) (by decide) hno
    have e11 : s 11 = .int .i64 BY := HV.out.v d11 rfl
    have e15 : s 15 = .int .i64 (uy) := HV.out.v d15 rfl
    refine wpOp_step rfl (fun K hK => ?_)
    go_simp
    refine hK _ _ ?_
    exact ⟨upd (upd (upd s 11 (.int .i64 BY)) 15 (.int .i64 (uy))) 16 (.int .i64 (dy)), rfl, Sv.put (Sv.re (j := 15) (v := .int .i64 (uy)) (Sv.re (j := 11) (v := .int .i64 BY) HV.out e11) e15) (fun u hu => by cases hu; rfl), Cl.set HCL.out (by simp only [List.mem_cons, List.not_mem_nil, or_false]; rintro p (rfl | rfl | rfl | rfl | rfl | rfl | rfl | rfl | rfl | rfl | rfl | rfl | rfl | rfl | rfl | rfl | rfl | rfl | rfl) hp <;> first | assumption | (simp at hp; done)), fun _ => HST.out hs0, (fun hh => by rw [set_other (show (16 : Nat) ≠ 19 by decide), hs0] at hh; cases hh)⟩
   ·have d10 := ready_dep hr (k := 10) (by kernel_rfl)
    have d16 := ready_dep hr (k := 16) (by kernel_rfl)
    clear hr
    have hs0 : Lq.getD 19 false = false := HCL.out.no (i := 17) (by decide) hno
    have e10 : s 10 = .int .i64 (y) := HV.out.v d10 rfl
    have e16 : s 16 = .int .i64 (dy) := HV.out.v d16 rfl
    refine wpOp_step rfl (fun K hK => ?_)
    go_simp
    refine hK _ _ ?_
    exact ⟨upd (upd (upd s 10 (.int .i64 (y))) 16 (.int .i64 (dy))) 17 (.int .i64 (y + dy)), rfl, Sv.put (Sv.re (j := 16) (v := .int .i64 (dy)) (Sv.re (j := 10) (v := .int .i64 (y)) HV.out e10) e16) (fun u hu => by cases hu; rfl), Cl.set HCL.out (by simp only [List.mem_cons, List.not_mem_nil, or_false]; rintro p (rfl | rfl | rfl | rfl | rfl | rfl | rfl | rfl | rfl | rfl | rfl | rfl | rfl | rfl | rfl | rfl | rfl | rfl | rfl) hp <;> first | assumption | (simp at hp; done)), fun _ => HST.out hs0, (fun hh => by rw [set_other (show (17 : Nat) ≠ 19 by decide), hs0] at hh; cases hh)⟩
   ·have d8 := ready_dep hr (k := 8) (by kernel_rfl)
    have d17 := ready_dep hr (k := 17) (by kernel_rfl)
    clear hr
    have hs0 : Lq.getD 19 false = false := HCL.out.no (i := 18) (by decide) hno
    have e8 : s 8 = .int .i64 (x + dx) := HV.out.v d8 rfl
    have e17 : s 17 = .int .i64 (y + dy) := HV.out.v d17 rfl
    refine wpOp_step rfl (fun K hK => ?_)
    go_simp
    refine hK _ _ ?_
    exact ⟨upd (upd (upd s 8 (.int .i64 (x + dx))) 17 (.int .i64 (y + dy))) 18 (.agg #[.int .i64 (x + dx), .int .i64 (y + dy)]), rfl, Sv.put (Sv.re (j := 17) (v := .int .i64 (y + dy)) (Sv.re (j := 8) (v := .int .i64 (x + dx)) HV.out e8) e17) (fun u hu => by cases hu; rfl), Cl.set HCL.out (by simp only [List.mem_cons, List.not_mem_nil, or_false]; rintro p (rfl | rfl | rfl | rfl | rfl | rfl | rfl | rfl | rfl | rfl | rfl | rfl | rfl | rfl | rfl | rfl | rfl | rfl | rfl) hp <;> first | assumption | (simp at hp; done)), fun _ => HST.out hs0, (fun hh => by rw [set_other (show (18 : Nat) ≠ 19 by decide), hs0] at hh; cases hh)⟩
   ·have d0 := ready_dep hr (k := 0) (by kernel_rfl)
    have d1 := ready_dep hr (k := 1) (by kernel_rfl)
    have d2 := ready_dep hr (k := 2) (by kernel_rfl)
    have d3 := ready_dep hr (k := 3) (by kernel_rfl)
    have d4 := ready_dep hr (k := 4) (by kernel_rfl)
    have d5 := ready_dep hr (k := 5) (by kernel_rfl)
    have d6 := ready_dep hr (k := 6) (by kernel_rfl)
    have d7 := ready_dep hr (k := 7) (by kernel_rfl)
    have d8 := ready_dep hr (k := 8) (by kernel_rfl)
    have d9 := ready_dep hr (k := 9) (by kernel_rfl)
    have d10 := ready_dep hr (k := 10) (by kernel_rfl)
    have d11 := ready_dep hr (k := 11) (by kernel_rfl)
    have d12 := ready_dep hr (k := 12) (by kernel_rfl)
    have d13 := ready_dep hr (k := 13) (by kernel_rfl)
    have d14 := ready_dep hr (k := 14) (by kernel_rfl)
    have d15 := ready_dep hr (k := 15) (by kernel_rfl)
    have d16 := ready_dep hr (k := 16) (by kernel_rfl)
    have d17 := ready_dep hr (k := 17) (by kernel_rfl)
    have d18 := ready_dep hr (k := 18) (by kernel_rfl)
    clear hr
    have hs0 : Lq.getD 19 false = false := getD_both hno
    have e18 : s 18 = .agg #[.int .i64 (x + dx), .int .i64 (y + dy)] := HV.out.v d18 rfl
    obtain ⟨q0, q1, q2, q3, hk1, hbl⟩ := HST.out hs0
    have fz := frozen_of_blk hk1
    have l0 := cell_of_blk hk1 0
    have l1 := cell_of_blk hk1 1
    simp only [List.getElem?_toArray, List.getElem?_cons_zero, List.getElem?_cons_succ] at l0 l1
    refine wpOp_step rfl (fun K hK => ?_)
    go_simp
    refine hK _ _ ?_
    exact ⟨upd (upd s 18 (.agg #[.int .i64 (x + dx), .int .i64 (y + dy)])) 19 undef, rfl, Sv.put (Sv.re (j := 18) (v := .agg #[.int .i64 (x + dx), .int .i64 (y + dy)]) HV.out e18) (fun u hu => by cases hu; rfl), Cl.set HCL.out (by simp only [List.mem_cons, List.not_mem_nil, or_false]; rintro p (rfl | rfl | rfl | rfl | rfl | rfl | rfl | rfl | rfl | rfl | rfl | rfl | rfl | rfl | rfl | rfl | rfl | rfl | rfl) hp <;> first | assumption | (simp at hp; done)), (fun hh => by rw [set_self hsz (by decide)] at hh; cases hh), fun _ => ⟨WN, HST.out hs0, rfl⟩⟩
  ·intro Lq aq WN hI hrd
   obtain ⟨s, ha, hv, _, _, hst⟩ := hI
   have hall := all_listedM hrd hv.sz (by kernel_rfl)
   clear hrd
   have e0 : s 0 = (.pointer (some ⟨w.heap.size, 0, none⟩)) := hv.v (hall 0 (by decide)) rfl
   have e1 : s 1 = (.int .i64 (x)) := hv.v (hall 1 (by decide)) rfl
   have e2 : s 2 = (.int .i64 BY) := hv.v (hall 2 (by decide)) rfl
   have e3 : s 3 = (.slice (some ⟨w.heap.size + 1 + 1, 0, none⟩) 8 8) := hv.v (hall 3 (by decide)) rfl
   have e4 : s 4 = (.int .i64 ((d : Nat) : Int)) := hv.v (hall 4 (by decide)) rfl
   have e5 : s 5 = (.pointer (some ⟨w.heap.size + 1 + 1, d, none⟩)) := hv.v (hall 5 (by decide)) rfl
   have e6 : s 6 = (.int .i64 (ux)) := hv.v (hall 6 (by decide)) rfl
   have e7 : s 7 = (.int .i64 (dx)) := hv.v (hall 7 (by decide)) rfl
   have e8 : s 8 = (.int .i64 (x + dx)) := hv.v (hall 8 (by decide)) rfl
   have e9 : s 9 = (.pointer (some ⟨w.heap.size, 1, none⟩)) := hv.v (hall 9 (by decide)) rfl
   have e10 : s 10 = (.int .i64 (y)) := hv.v (hall 10 (by decide)) rfl
   have e11 : s 11 = (.int .i64 BY) := hv.v (hall 11 (by decide)) rfl
   have e12 : s 12 = (.slice (some ⟨w.heap.size + 1 + 1 + 1, 0, none⟩) 8 8) := hv.v (hall 12 (by decide)) rfl
   have e13 : s 13 = (.int .i64 ((d : Nat) : Int)) := hv.v (hall 13 (by decide)) rfl
   have e14 : s 14 = (.pointer (some ⟨w.heap.size + 1 + 1 + 1, d, none⟩)) := hv.v (hall 14 (by decide)) rfl
   have e15 : s 15 = (.int .i64 (uy)) := hv.v (hall 15 (by decide)) rfl
   have e16 : s 16 = (.int .i64 (dy)) := hv.v (hall 16 (by decide)) rfl
   have e17 : s 17 = (.int .i64 (y + dy)) := hv.v (hall 17 (by decide)) rfl
   have e18 : s 18 = (.agg #[.int .i64 (x + dx), .int .i64 (y + dy)]) := hv.v (hall 18 (by decide)) rfl
   simp only [e0, e1, e2, e3, e4, e5, e6, e7, e8, e9, e10, e11, e12, e13, e14, e15, e16, e17, e18] at ha
   subst ha
   obtain ⟨W0, hst0, hWN⟩ := hst (hall 19 (by decide))
   clear hall hv hst e0 e1 e2 e3 e4 e5 e6 e7 e8 e9 e10 e11 e12 e13 e14 e15 e16 e17 e18
   obtain ⟨q0, q1, q2, q3, hk1, hbl⟩ := hst0
   have kr := blk_set (blk_set hk1 0 (.int .i64 (x + dx))) 1 (.int .i64 (y + dy))
   rw [← hWN] at kr
   have hbf : Below w.heap.size w WN := by
    rw [hWN]
    exact ((stay_b HBW.out hbl).setCell (by simp) _).setCell (by simp) _
   have r0 := cell_of_blk kr 0
   have r1 := cell_of_blk kr 1
   simp at r0 r1
   clear hWN hk1 kr q0 q1 q2 q3
   go_wp2
   refine bodyPost_ret (v := .agg #[.int .i64 (x + dx), .int .i64 (y + dy)]) (by simp [results, Tryd.results49, go_sem, r0, r1]) rfl ⟨rfl, hbf⟩
end
section
open Go.RowKit Go.Maps

theorem eqPd (p c : P2) (w : World) : (binOp .eql 49 (.agg #[.int .i64 p.1, .int .i64 p.2]) (.agg #[.int .i64 c.1, .int .i64 c.2])).run Tryd.prog w = .ok (.bool (decide (p = c))) w := by
 rw [eqP, eqL_pt]
theorem starsD_snoc (L : List T3) (cs : List C5) (ps : List P2) (p : P2) : starsD L cs (ps ++ [p]) = starsD L cs ps ++ if starB L cs p = true then [starP cs p] else [] := by
 unfold starsD
 rw [List.filter_append, List.map_append]
 congr 1
 by_cases h : starB L cs p = true <;> simp [h]
theorem starsD_len (L : List T3) (cs : List C5) (ps : List P2) : (starsD L cs ps).length ≤ ps.length := by
 unfold starsD
 rw [List.length_map]
 exact List.length_filter_le _ _
theorem cntP_snoc (L : List T3) (p : P2) {k : Nat} {t : T3} (ht : L[k]? = some t) : (L.take (k + 1)).countP (fun t => isC t p) = (L.take k).countP (fun t => isC t p) + if isC t p = true then 1 else 0 := by
 have e : L.take (k + 1) = L.take k ++ [t] := by rw [List.take_add_one, ht]; rfl
 rw [e, List.countP_append, List.countP_singleton]
set_option maxRecDepth 100000 in
set_option maxHeartbeats 12800000 in
theorem starsD_any (W H : Nat) (Am Ac : Option Addr) (nm cm nc cc : Nat) (mask : List Int) (cs : List C5) (w : World) (hS : ShM w W H Am nm mask Ac nc cs) (hci : CrI (trisL W mask) cs) :
  Calls Tryd.prog 21 #[shV W H Am nm cm Ac nc cc] w fun r w' => ∃ v zs ps, r = .returned v ∧ PtI (fun p => p ∈ cornersA (trisL W mask)) ps ∧ StarsW w' w.heap.size v (starsD (trisL W mask) cs ps) zs ∧ Below w.heap.size w w' := by
 have hin := fun t (ht : t ∈ trisL W mask) => hS.tris_in ht
 have hlen := hS.tris_len
 have hbw : Below w.heap.size w (w.alloc (.cells #[.int .i64 W, .int .i64 H, .slice Am nm cm, .slice Ac nc cc] 25)) := below_new _ _
 have kb0 := heap_alloc_new w (.cells #[.int .i64 W, .int .i64 H, .slice Am nm cm, .slice Ac nc cc] 25)
 have a0 := cell_of_blk kb0 0
 have a1 := cell_of_blk kb0 1
 have a2 := cell_of_blk kb0 2
 have a3 := cell_of_blk kb0 3
 simp only [List.getElem?_toArray, List.getElem?_cons_zero, List.getElem?_cons_succ] at a0 a1 a2 a3
 have hS1 := hS.below hbw
 have cT := trisOf_any W H Am Ac nm cm nc cc mask cs _ hS1
 have cP := fun (w3 : World) (hb : Below (w.alloc (.cells #[.int .i64 W, .int .i64 H, .slice Am nm cm, .slice Ac nc cc] 25)).heap.size (w.alloc (.cells #[.int .i64 W, .int .i64 H, .slice Am nm cm, .slice Ac nc cc] 25)) w3) => pointsOf_any W H Am Ac nm cm nc cc mask cs w3 (hS1.below hb)
 have cK := fun (w3 : World) (hb : Below (w.alloc (.cells #[.int .i64 W, .int .i64 H, .slice Am nm cm, .slice Ac nc cc] 25)).heap.size (w.alloc (.cells #[.int .i64 W, .int .i64 H, .slice Am nm cm, .slice Ac nc cc] 25)) w3) (E : E4) => kindOf_any W H Am Ac nm cm nc cc mask cs E w3 (hS1.below hb)
 obtain ⟨L, hL⟩ : ∃ L, L = trisL W mask := ⟨_, rfl⟩
 rw [← hL] at cT cP hin hlen hci ⊢
 have CT := Lib.hid cT
 have CP := Lib.hid cP
 have CK := Lib.hid cK
 have HIN := Lib.hid hin
 have HCI := Lib.hid hci
 have hW8 := hS.dW
 have hH8 := hS.dH
 clear cT cP cK hin hci hL hS kb0 hS1
 go_enter Tryd.func21, Tryd.ntmps21
 go_wp2_with (first
  | (go_at_call 14; refine CT.out.mono ?_; rintro r w1 ⟨v, rfl, ho1, hb1⟩; obtain ⟨Av, cv, hv, _, _⟩ := own_slice ho1; subst hv; have a0 := stay_c a0 hb1 (Nat.le_refl _); have a1 := stay_c a1 hb1 (Nat.le_refl _); have a2 := stay_c a2 hb1 (Nat.le_refl _); have a3 := stay_c a3 hb1 (Nat.le_refl _); have HB1 := Lib.hid hb1; have HO1 := Lib.hid ho1; clear hb1 ho1)
  | (go_at_call 44; refine (CP.out _ HB1.out).mono ?_; rintro r w2 ⟨vp, ps, rfl, hpt, hpl, hop, hb2⟩; obtain ⟨Ap, cp, hvp, _, _⟩ := own_slice hop; subst hvp))
 have hbx : Below (w.alloc (.cells #[.int .i64 W, .int .i64 H, .slice Am nm cm, .slice Ac nc cc] 25)).heap.size (w.alloc (.cells #[.int .i64 W, .int .i64 H, .slice Am nm cm, .slice Ac nc cc] 25)) w2 := stay_b HB1.out hb2
 have HPT := Lib.hid hpt
 have HOP := Lib.hid hop
 have HO2 := Lib.hid (own_below HO1.out hb2 (Nat.le_refl _))
 have a0 := stay_c a0 hb2 (Nat.le_refl _)
 have a1 := stay_c a1 hb2 (Nat.le_refl _)
 have a2 := stay_c a2 hb2 (Nat.le_refl _)
 have a3 := stay_c a3 hb2 (Nat.le_refl _)
 have HBX := Lib.hid hbx
 have HBW := Lib.hid (stay_b hbw hbx)
 have hgw : w.heap.size ≤ w2.heap.size := (stay_b hbw hbx).size
 clear hpt hop hb2 hbx hbw HB1 HO1 CT CP
 go_loopw [5, 6] (fun v x wr => ∃ (i : Nat) (zs : List Z3), i ≤ ps.length ∧ x = .int .i64 i ∧ Hid (StarsW wr w2.heap.size v (starsD L cs (ps.take i)) zs) ∧ Hid (Below w2.heap.size w2 wr)) (fun _ x _ => ps.length - (intOf x).toNat)
 case atStart => exact ⟨0, [], by omega, rfl, Lib.hid (by rw [List.take_zero]; exact StarsW.nil _ _), Lib.hid (Below.refl _ _)⟩
 case round =>
  obtain ⟨i, zs, hi, rfl, hW, hB⟩ := hrel
  obtain ⟨Av', cv', hvv, _, _⟩ := own_slice hW.out.own
  subst hvv
  by_cases hil : i < ps.length
  ·have hii : (i : Int) < (ps.length : Int) := by omega
   obtain ⟨p, hp⟩ : ∃ p, ps[i]? = some p := ⟨_, List.getElem?_eq_getElem hil⟩
   obtain ⟨gk, cpk, curk, hak, _, _, _, _⟩ := own_addr HOP.out (by omega)
   cases hak
   obtain ⟨p0, p1⟩ := own_pt (own_below HOP.out hB.out (Nat.le_refl _)) hp
   have hpc := (HPT.out.mem p).1 (List.mem_of_getElem? hp)
   have htk : ps.take (i + 1) = ps.take i ++ [p] := by rw [List.take_add_one, hp]; rfl
   have hsn := starsD_snoc L cs (ps.take i) p
   rw [← htk] at hsn
   have hsl := starsD_len L cs (ps.take i)
   have htl : (ps.take i).length ≤ i := by simp; omega
   have hpb : (-1 ≤ p.1 ∧ p.1 ≤ 100) ∧ (-1 ≤ p.2 ∧ p.2 ≤ 100) ∧ 0 ≤ p.1 := by
    obtain ⟨t, ht, m, hm, rfl⟩ := cornersA_mem.1 hpc
    have h1 := HIN.out t ht
    have h2 := crT_bd (t := t) h1.2.2.2.2 hm
    omega
   obtain ⟨Bp, hBp⟩ : ∃ B, B = p.1 % 2 := ⟨_, rfl⟩
   have hrem : p.1.tmod 2 = Bp := by rw [Int.tmod_eq_emod_of_nonneg hpb.2.2, hBp]
   have hrem2 : p.1 % 2 = Bp := hBp.symm
   have hfl : (fullP p : Int) = if Bp = 1 then 4 else 8 := by rw [hBp]; unfold fullP; split <;> simp_all
   have hB01 : Bp = 0 ∨ Bp = 1 := by omega
   obtain ⟨FP, hFP⟩ : ∃ F : Int, F = (fullP p : Int) := ⟨_, rfl⟩
   rw [← hFP] at hfl
   have kp := heap_alloc_new wr (.cells #[.int .i64 p.1, .int .i64 p.2] 49)
   have x0 := cell_of_blk kp 0
   have x1 := cell_of_blk kp 1
   simp only [List.getElem?_toArray, List.getElem?_cons_zero, List.getElem?_cons_succ] at x0 x1
   have hbA := ba hB.out (.cells #[.int .i64 p.1, .int .i64 p.2] 49)
   have HWA := Lib.hid (hW.out.below (below_new wr (.cells #[.int .i64 p.1, .int .i64 p.2] 49)) (Nat.le_refl _))
   have HSN := Lib.hid hsn
   have HBA := Lib.hid hbA
   have HFL := Lib.hid hfl
   have HFP := Lib.hid hFP
   clear hpc htk hsn kp hbA hW hB hp hBp hfl hFP
   obtain ⟨wo, hwo⟩ : ∃ x, x = wr := ⟨_, rfl⟩
   subst hwo
   go_upto_if 32 with fail
   clear p0 p1
   have hwoA : wo.heap.size < (wo.alloc (.cells #[.int .i64 p.1, .int .i64 p.2] 49)).heap.size := by simp
   generalize wo.alloc (.cells #[.int .i64 p.1, .int .i64 p.2] 49) = wA at x0 x1 HWA HBA hwoA ⊢
   go_cut [9] from 19 to 102 (fun s9 wx => s9 = .int .i64 FP ∧ wx = wA)
   case first =>
    rcases hB01 with rfl | rfl
    ·go_wp2_with fail
     go_meet
     case rel => exact ⟨by rw [HFL.out]; rfl, rfl⟩
    ·go_wp2_with fail
     go_meet
     case rel => exact ⟨by rw [HFL.out]; rfl, rfl⟩
   case rest =>
    obtain ⟨rfl, hwc⟩ := hcut
    subst hwc
    clear hrem hrem2 hB01 HFL
    go_wp2_with fail
    go_loopw [8, 10] (fun y x wr => ∃ k : Nat, k ≤ L.length ∧ x = .int .i64 k ∧ y = .int .i64 ((L.take k).countP (fun t => isC t p) : Nat) ∧ Hid (Below wc.heap.size wc wr)) (fun _ x _ => L.length - (intOf x).toNat)
    case atStart => exact ⟨0, by omega, rfl, by rw [List.take_zero]; rfl, Lib.hid (Below.refl _ _)⟩
    case round =>
     obtain ⟨k, hk, rfl, rfl, hB⟩ := hrel
     by_cases hkl : k < L.length
     ·have hki : (k : Int) < (L.length : Int) := by omega
      obtain ⟨t, ht⟩ : ∃ t, L[k]? = some t := ⟨_, List.getElem?_eq_getElem hkl⟩
      obtain ⟨gt, cpt, curt, hat, _, _, _, _⟩ := own_addr HO2.out (by omega)
      cases hat
      have hbk : Below w2.heap.size w2 wr := HBA.out.trans (hB.out.mono HBA.out.size)
      obtain ⟨t0, t1, t2⟩ := own_tri (own_below HO2.out hbk (Nat.le_refl _)) ht
      have hit := HIN.out t (List.mem_of_getElem? ht)
      have cE := cornersOf_new t.1 t.2.1 t.2.2 wr (by omega) (by omega) (by omega) (by omega) hit.2.2.2.2.1 hit.2.2.2.2.2
      have CE := Lib.hid cE
      have hcn := cntP_snoc L p ht
      have hcl : (L.take k).countP (fun t => isC t p) ≤ k := Nat.le_trans List.countP_le_length (by simp; omega)
      obtain ⟨M, hM⟩ : ∃ M, M = (L.take k).countP (fun t => isC t p) := ⟨_, rfl⟩
      rw [← hM] at hcn hcl ⊢
      have HCN := Lib.hid hcn
      have HBK := Lib.hid hB.out
      clear cE ht hit hcn hM hbk hB
      obtain ⟨wi, hwi⟩ : ∃ x, x = wr := ⟨_, rfl⟩
      subst hwi
      go_wp2_with (go_at_call 46; refine CE.out.mono ?_; rintro r w6 ⟨⟨gc, rfl, hgc, hkc⟩, hb6⟩)
      have hCo : CoB w6 gc t := hkc
      obtain ⟨y0, y1⟩ := hCo.at_ (k := 0) (by omega)
      obtain ⟨y2, y3⟩ := hCo.at_ (k := 1) (by omega)
      obtain ⟨y4, y5⟩ := hCo.at_ (k := 2) (by omega)
      have z0 := stay_c x0 (stay_b HBK.out hb6) (Nat.le_refl _)
      have z1 := stay_c x1 (stay_b HBK.out hb6) (Nat.le_refl _)
      have HB6 := Lib.hid (stay_b HBK.out hb6)
      have e0 := eqPd (crT t 0) p
      have e1 := eqPd (crT t 1) p
      have e2 := eqPd (crT t 2) p
      have hisc : isC t p = (decide (crT t 0 = p) || decide (crT t 1 = p) || decide (crT t 2 = p)) := rfl
      obtain ⟨d0, hd0⟩ : ∃ d, d = decide (crT t 0 = p) := ⟨_, rfl⟩
      obtain ⟨d1, hd1⟩ : ∃ d, d = decide (crT t 1 = p) := ⟨_, rfl⟩
      obtain ⟨d2, hd2⟩ : ∃ d, d = decide (crT t 2 = p) := ⟨_, rfl⟩
      obtain ⟨C0, hC0⟩ : ∃ d, d = crT t 0 := ⟨_, rfl⟩
      obtain ⟨C1, hC1⟩ : ∃ d, d = crT t 1 := ⟨_, rfl⟩
      obtain ⟨C2, hC2⟩ : ∃ d, d = crT t 2 := ⟨_, rfl⟩
      rw [← hd0, ← hd1, ← hd2] at hisc
      rw [← hd0, ← hC0] at e0
      rw [← hd1, ← hC1] at e1
      rw [← hd2, ← hC2] at e2
      rw [← hC0] at y0 y1
      rw [← hC1] at y2 y3
      rw [← hC2] at y4 y5
      have HISC := Lib.hid hisc
      clear hkc hCo hb6 HBK CE t0 t1 t2 hisc hd0 hd1 hd2 hC0 hC1 hC2 hgc
      have hw1 : IntKind.i64.wrap ((M : Int) + 1) = ((M + 1 : Nat) : Int) := by rw [IntWalk.i64_in _ (by omega)]; rfl
      go_upto_region 15 with fail
      refine wp_region_inv (fun Lq aq WN => ∃ s : Nat → Value, aq = { tmps := #[shV W H Am nm cm Ac nc cc, .pointer (some ⟨w.heap.size, 0, none⟩), .slice none 0 0, .slice (some ⟨gt, 0, none⟩) L.length cv, .slice (some ⟨gk, 0, none⟩) ps.length cp, .slice Av' (starsD L cs (List.take i ps)).length cv', .int .i64 ((i : Nat) : Int), .pointer (some ⟨wo.heap.size, 0, none⟩), .int .i64 ((M : Nat) : Int), .int .i64 FP, .int .i64 ((k : Nat) : Int), .slice (some ⟨gc, 0, none⟩) 3 3, u12, u13, u14, .agg #[.int .i64 ((W : Nat) : Int), .int .i64 ((H : Nat) : Int), .slice Am nm cm, .slice Ac nc cc], .slice (some ⟨gt, 0, none⟩) L.length cv, .agg #[.int .i64 ((W : Nat) : Int), .int .i64 ((H : Nat) : Int), .slice Am nm cm, .slice Ac nc cc], .slice (some ⟨gk, 0, none⟩) ps.length cp, u19, u20, u21, u22, u23, u24, u25, u26, u27, u28, u29, u30, u31, u32, .int .i64 ((k : Nat) : Int), .slice (some ⟨gt, 0, none⟩) L.length cv, .int .i64 ((L.length : Nat) : Int), .bool true, u37, u38, .slice (some ⟨gt, 0, none⟩) L.length cv, .int .i64 ((k : Nat) : Int), .pointer (some ⟨gt, k * 3, none⟩), .agg #[.int .i64 t.1, .int .i64 t.2.1, .int .i64 t.2.2], .slice (some ⟨gc, 0, none⟩) 3 3, (s 0), (s 1), (s 2), (s 3), (s 4), (s 5), (s 6), (s 7), (s 8), (s 9), (s 10), (s 11), (s 12), (s 13), (s 14), (s 15), (s 16), (s 17), (s 18), u63, u64, u65, u66, u67, u68, u69, u70, u71, u72, u73, u74, u75, u76, u77, u78, u79, u80, u81, u82, u83, u84, u85, u86, u87, u88, u89, u90, u91, u92, u93, u94, u95, u96, u97, u98, u99, u100, u101, u102, undef], defers := [] } ∧ Sv 19 [some (.slice (some ⟨gc, 0, none⟩) 3 3), some (.pointer (some ⟨gc, 0, none⟩)), some (.agg #[.int .i64 C0.1, .int .i64 C0.2]), some (.agg #[.int .i64 p.1, .int .i64 p.2]), some (.bool d0), some (.bool d0), some (bif d0 then undef else .slice (some ⟨gc, 0, none⟩) 3 3), some (bif d0 then undef else .pointer (some ⟨gc, 2, none⟩)), some (bif d0 then undef else .agg #[.int .i64 C1.1, .int .i64 C1.2]), some (bif d0 then undef else .agg #[.int .i64 p.1, .int .i64 p.2]), some (bif d0 then undef else .bool d1), some (.bool (d0 || d1)), some (.bool (d0 || d1)), some (bif (d0 || d1) then undef else .slice (some ⟨gc, 0, none⟩) 3 3), some (bif (d0 || d1) then undef else .pointer (some ⟨gc, 4, none⟩)), some (bif (d0 || d1) then undef else .agg #[.int .i64 C2.1, .int .i64 C2.2]), some (bif (d0 || d1) then undef else .agg #[.int .i64 p.1, .int .i64 p.2]), some (bif (d0 || d1) then undef else .bool d2), some (.bool (d0 || d1 || d2))] Lq s ∧ (WN.cell? ⟨gc, 0, none⟩ = some (.int .i64 C0.1) ∧ WN.cell? ⟨gc, 1, none⟩ = some (.int .i64 C0.2) ∧ WN.cell? ⟨gc, 2, none⟩ = some (.int .i64 C1.1) ∧ WN.cell? ⟨gc, 3, none⟩ = some (.int .i64 C1.2) ∧ WN.cell? ⟨gc, 4, none⟩ = some (.int .i64 C2.1) ∧ WN.cell? ⟨gc, 5, none⟩ = some (.int .i64 C2.2) ∧ WN.cell? ⟨wo.heap.size, 0, none⟩ = some (.int .i64 p.1) ∧ WN.cell? ⟨wo.heap.size, 1, none⟩ = some (.int .i64 p.2) ∧ Below w6.heap.size w6 WN)) (by kernel_rfl) ?_ ?_ ?_
      ·exact ⟨listF [u44, u45, u46, u47, u48, u49, u50, u51, u52, u53, u54, u55, u56, u57, u58, u59, u60, u61, u62], rfl, Sv.start 19 _ _, ⟨y0, y1, y2, y3, y4, y5, z0, z1, (Below.refl _ _).drew⟩⟩
      ·intro Lq aq WN i0 hI hr
       obtain ⟨s, rfl, hv, hst⟩ := hI
       have hi0 : i0 < 19 := ready_lt hr
       have HV := Lib.hid hv
       have HST := Lib.hid hst
       clear hv hst
       have hii : i0 = 0 ∨ i0 = 1 ∨ i0 = 2 ∨ i0 = 3 ∨ i0 = 4 ∨ i0 = 5 ∨ i0 = 6 ∨ i0 = 7 ∨ i0 = 8 ∨ i0 = 9 ∨ i0 = 10 ∨ i0 = 11 ∨ i0 = 12 ∨ i0 = 13 ∨ i0 = 14 ∨ i0 = 15 ∨ i0 = 16 ∨ i0 = 17 ∨ i0 = 18 := by omega
       clear hi0
       rcases hii with rfl | rfl | rfl | rfl | rfl | rfl | rfl | rfl | rfl | rfl | rfl | rfl | rfl | rfl | rfl | rfl | rfl | rfl | rfl
       ·clear hr
        refine wpOp_step rfl (fun K hK => ?_)
        go_simp
        refine hK _ _ ?_
        exact ⟨upd s 0 (.slice (some ⟨gc, 0, none⟩) 3 3), rfl, Sv.put HV.out (fun u hu => by cases hu; rfl), HST.out⟩
       ·have d0 := ready_dep hr (k := 0) (by kernel_rfl)
        clear hr
        have e0 : s 0 = .slice (some ⟨gc, 0, none⟩) 3 3 := HV.out.v d0 rfl
        refine wpOp_step rfl (fun K hK => ?_)
        go_simp
        refine hK _ _ ?_
        exact ⟨upd (upd s 0 (.slice (some ⟨gc, 0, none⟩) 3 3)) 1 (.pointer (some ⟨gc, 0, none⟩)), rfl, Sv.put (Sv.re (j := 0) (v := .slice (some ⟨gc, 0, none⟩) 3 3) HV.out e0) (fun u hu => by cases hu; rfl), HST.out⟩
       ·have d1 := ready_dep hr (k := 1) (by kernel_rfl)
        clear hr
        have e1 : s 1 = .pointer (some ⟨gc, 0, none⟩) := HV.out.v d1 rfl
        obtain ⟨q0, q1, q2, q3, q4, q5, q6, q7, hbl⟩ := HST.out
        refine wpOp_step rfl (fun K hK => ?_)
        go_simp
        refine hK _ _ ?_
        exact ⟨upd (upd s 1 (.pointer (some ⟨gc, 0, none⟩))) 2 (.agg #[.int .i64 C0.1, .int .i64 C0.2]), rfl, Sv.put (Sv.re (j := 1) (v := .pointer (some ⟨gc, 0, none⟩)) HV.out e1) (fun u hu => by cases hu; rfl), HST.out⟩
       ·clear hr
        obtain ⟨q0, q1, q2, q3, q4, q5, q6, q7, hbl⟩ := HST.out
        refine wpOp_step rfl (fun K hK => ?_)
        go_simp
        refine hK _ _ ?_
        exact ⟨upd s 3 (.agg #[.int .i64 p.1, .int .i64 p.2]), rfl, Sv.put HV.out (fun u hu => by cases hu; rfl), HST.out⟩
       ·have d2 := ready_dep hr (k := 2) (by kernel_rfl)
        have d3 := ready_dep hr (k := 3) (by kernel_rfl)
        clear hr
        have e2 : s 2 = .agg #[.int .i64 C0.1, .int .i64 C0.2] := HV.out.v d2 rfl
        have e3 : s 3 = .agg #[.int .i64 p.1, .int .i64 p.2] := HV.out.v d3 rfl
        refine wpOp_step rfl (fun K hK => ?_)
        go_simp
        refine hK _ _ ?_
        exact ⟨upd (upd (upd s 2 (.agg #[.int .i64 C0.1, .int .i64 C0.2])) 3 (.agg #[.int .i64 p.1, .int .i64 p.2])) 4 (.bool d0), rfl, Sv.put (Sv.re (j := 3) (v := .agg #[.int .i64 p.1, .int .i64 p.2]) (Sv.re (j := 2) (v := .agg #[.int .i64 C0.1, .int .i64 C0.2]) HV.out e2) e3) (fun u hu => by cases hu; rfl), HST.out⟩
       ·have d4 := ready_dep hr (k := 4) (by kernel_rfl)
        clear hr
        have e4 : s 4 = .bool d0 := HV.out.v d4 rfl
        refine wpOp_step rfl (fun K hK => ?_)
        go_simp
        refine hK _ _ ?_
        exact ⟨upd (upd s 4 (.bool d0)) 5 (.bool d0), rfl, Sv.put (Sv.re (j := 4) (v := .bool d0) HV.out e4) (fun u hu => by cases hu; rfl), HST.out⟩
       ·have d5 := ready_dep hr (k := 5) (by kernel_rfl)
        clear hr
        have e5 : s 5 = .bool d0 := HV.out.v d5 rfl
        have hput := Sv.put (i := 6) (v := bif d0 then undef else .slice (some ⟨gc, 0, none⟩) 3 3) (Sv.re (j := 5) (v := .bool d0) HV.out e5) (fun u hu => by cases hu; rfl)
        obtain ⟨s', hs'⟩ : ∃ s', s' = upd (upd s 5 (.bool d0)) 6 (bif d0 then undef else .slice (some ⟨gc, 0, none⟩) 3 3) := ⟨_, rfl⟩
        rw [← hs'] at hput
        cases d0 <;> (refine wpOp_step rfl (fun K hK => ?_); go_simp; refine hK _ _ ?_; exact ⟨s', by rw [hs']; rfl, hput, HST.out⟩)
       ·have d5 := ready_dep hr (k := 5) (by kernel_rfl)
        have d6 := ready_dep hr (k := 6) (by kernel_rfl)
        clear hr
        have e5 : s 5 = .bool d0 := HV.out.v d5 rfl
        have e6 : s 6 = bif d0 then undef else .slice (some ⟨gc, 0, none⟩) 3 3 := HV.out.v d6 rfl
        have hput := Sv.put (i := 7) (v := bif d0 then undef else .pointer (some ⟨gc, 2, none⟩)) (Sv.re (j := 6) (v := bif d0 then undef else .slice (some ⟨gc, 0, none⟩) 3 3) (Sv.re (j := 5) (v := .bool d0) HV.out e5) e6) (fun u hu => by cases hu; rfl)
        obtain ⟨s', hs'⟩ : ∃ s', s' = upd (upd (upd s 5 (.bool d0)) 6 (bif d0 then undef else .slice (some ⟨gc, 0, none⟩) 3 3)) 7 (bif d0 then undef else .pointer (some ⟨gc, 2, none⟩)) := ⟨_, rfl⟩
        rw [← hs'] at hput
        cases d0 <;> (refine wpOp_step rfl (fun K hK => ?_); go_simp; refine hK _ _ ?_; exact ⟨s', by rw [hs']; rfl, hput, HST.out⟩)
       ·have d5 := ready_dep hr (k := 5) (by kernel_rfl)
        have d7 := ready_dep hr (k := 7) (by kernel_rfl)
        clear hr
        have e5 : s 5 = .bool d0 := HV.out.v d5 rfl
        have e7 : s 7 = bif d0 then undef else .pointer (some ⟨gc, 2, none⟩) := HV.out.v d7 rfl
        obtain ⟨q0, q1, q2, q3, q4, q5, q6, q7, hbl⟩ := HST.out
        have hput := Sv.put (i := 8) (v := bif d0 then undef else .agg #[.int .i64 C1.1, .int .i64 C1.2]) (Sv.re (j := 7) (v := bif d0 then undef else .pointer (some ⟨gc, 2, none⟩)) (Sv.re (j := 5) (v := .bool d0) HV.out e5) e7) (fun u hu => by cases hu; rfl)
        obtain ⟨s', hs'⟩ : ∃ s', s' = upd (upd (upd s 5 (.bool d0)) 7 (bif d0 then undef else .pointer (some ⟨gc, 2, none⟩))) 8 (bif d0 then undef else .agg #[.int .i64 C1.1, .int .i64 C1.2]) := ⟨_, rfl⟩
        rw [← hs'] at hput
        cases d0 <;> (refine wpOp_step rfl (fun K hK => ?_); go_simp; refine hK _ _ ?_; exact ⟨s', by rw [hs']; rfl, hput, HST.out⟩)
       ·have d5 := ready_dep hr (k := 5) (by kernel_rfl)
        clear hr
        have e5 : s 5 = .bool d0 := HV.out.v d5 rfl
        obtain ⟨q0, q1, q2, q3, q4, q5, q6, q7, hbl⟩ := HST.out
        have hput := Sv.put (i := 9) (v := bif d0 then undef else .agg #[.int .i64 p.1, .int .i64 p.2]) (Sv.re (j := 5) (v := .bool d0) HV.out e5) (fun u hu => by cases hu; rfl)
        obtain ⟨s', hs'⟩ : ∃ s', s' = upd (upd s 5 (.bool d0)) 9 (bif d0 then undef else .agg #[.int .i64 p.1, .int .i64 p.2]) := ⟨_, rfl⟩
        rw [← hs'] at hput
        cases d0 <;> (refine wpOp_step rfl (fun K hK => ?_); go_simp; refine hK _ _ ?_; exact ⟨s', by rw [hs']; rfl, hput, HST.out⟩)
       ·have d5 := ready_dep hr (k := 5) (by kernel_rfl)
        have d8 := ready_dep hr (k := 8) (by kernel_rfl)
        have d9 := ready_dep hr (k := 9) (by kernel_rfl)
        clear hr
        have e5 : s 5 = .bool d0 := HV.out.v d5 rfl
        have e8 : s 8 = bif d0 then undef else .agg #[.int .i64 C1.1, .int .i64 C1.2] := HV.out.v d8 rfl
        have e9 : s 9 = bif d0 then undef else .agg #[.int .i64 p.1, .int .i64 p.2] := HV.out.v d9 rfl
        have hput := Sv.put (i := 10) (v := bif d0 then undef else .bool d1) (Sv.re (j := 9) (v := bif d0 then undef else .agg #[.int .i64 p.1, .int .i64 p.2]) (Sv.re (j := 8) (v := bif d0 then undef else .agg #[.int .i64 C1.1, .int .i64 C1.2]) (Sv.re (j := 5) (v := .bool d0) HV.out e5) e8) e9) (fun u hu => by cases hu; rfl)
        obtain ⟨s', hs'⟩ : ∃ s', s' = upd (upd (upd (upd s 5 (.bool d0)) 8 (bif d0 then undef else .agg #[.int .i64 C1.1, .int .i64 C1.2])) 9 (bif d0 then undef else .agg #[.int .i64 p.1, .int .i64 p.2])) 10 (bif d0 then undef else .bool d1) := ⟨_, rfl⟩
        rw [← hs'] at hput
        cases d0 <;> (refine wpOp_step rfl (fun K hK => ?_); go_simp; refine hK _ _ ?_; exact ⟨s', by rw [hs']; rfl, hput, HST.out⟩)
       ·have d5 := ready_dep hr (k := 5) (by kernel_rfl)
        have d10 := ready_dep hr (k := 10) (by kernel_rfl)
        clear hr
        have e5 : s 5 = .bool d0 := HV.out.v d5 rfl
        have e10 : s 10 = bif d0 then undef else .bool d1 := HV.out.v d10 rfl
        have hput := Sv.put (i := 11) (v := .bool (d0 || d1)) (Sv.re (j := 10) (v := bif d0 then undef else .bool d1) (Sv.re (j := 5) (v := .bool d0) HV.out e5) e10) (fun u hu => by cases hu; rfl)
        obtain ⟨s', hs'⟩ : ∃ s', s' = upd (upd (upd s 5 (.bool d0)) 10 (bif d0 then undef else .bool d1)) 11 (.bool (d0 || d1)) := ⟨_, rfl⟩
        rw [← hs'] at hput
        cases d0 <;> (refine wpOp_step rfl (fun K hK => ?_); go_simp; refine hK _ _ ?_; exact ⟨s', by rw [hs']; rfl, hput, HST.out⟩)
       ·have d11 := ready_dep hr (k := 11) (by kernel_rfl)
        clear hr
        have e11 : s 11 = .bool (d0 || d1) := HV.out.v d11 rfl
        refine wpOp_step rfl (fun K hK => ?_)
        go_simp
        refine hK _ _ ?_
        exact ⟨upd (upd s 11 (.bool (d0 || d1))) 12 (.bool (d0 || d1)), rfl, Sv.put (Sv.re (j := 11) (v := .bool (d0 || d1)) HV.out e11) (fun u hu => by cases hu; rfl), HST.out⟩
       ·have d12 := ready_dep hr (k := 12) (by kernel_rfl)
        clear hr
        have e12 : s 12 = .bool (d0 || d1) := HV.out.v d12 rfl
        have hput := Sv.put (i := 13) (v := bif (d0 || d1) then undef else .slice (some ⟨gc, 0, none⟩) 3 3) (Sv.re (j := 12) (v := .bool (d0 || d1)) HV.out e12) (fun u hu => by cases hu; rfl)
        obtain ⟨s', hs'⟩ : ∃ s', s' = upd (upd s 12 (.bool (d0 || d1))) 13 (bif (d0 || d1) then undef else .slice (some ⟨gc, 0, none⟩) 3 3) := ⟨_, rfl⟩
        rw [← hs'] at hput
        cases d0 <;> cases d1 <;> (refine wpOp_step rfl (fun K hK => ?_); go_simp; refine hK _ _ ?_; exact ⟨s', by rw [hs']; rfl, hput, HST.out⟩)
       ·have d12 := ready_dep hr (k := 12) (by kernel_rfl)
        have d13 := ready_dep hr (k := 13) (by kernel_rfl)
        clear hr
        have e12 : s 12 = .bool (d0 || d1) := HV.out.v d12 rfl
        have e13 : s 13 = bif (d0 || d1) then undef else .slice (some ⟨gc, 0, none⟩) 3 3 := HV.out.v d13 rfl
        have hput := Sv.put (i := 14) (v := bif (d0 || d1) then undef else .pointer (some ⟨gc, 4, none⟩)) (Sv.re (j := 13) (v := bif (d0 || d1) then undef else .slice (some ⟨gc, 0, none⟩) 3 3) (Sv.re (j := 12) (v := .bool (d0 || d1)) HV.out e12) e13) (fun u hu => by cases hu; rfl)
        obtain ⟨s', hs'⟩ : ∃ s', s' = upd (upd (upd s 12 (.bool (d0 || d1))) 13 (bif (d0 || d1) then undef else .slice (some ⟨gc, 0, none⟩) 3 3)) 14 (bif (d0 || d1) then undef else .pointer (some ⟨gc, 4, none⟩)) := ⟨_, rfl⟩
        rw [← hs'] at hput
        cases d0 <;> cases d1 <;> (refine wpOp_step rfl (fun K hK => ?_); go_simp; refine hK _ _ ?_; exact ⟨s', by rw [hs']; rfl, hput, HST.out⟩)
       ·have d12 := ready_dep hr (k := 12) (by kernel_rfl)
        have d14 := ready_dep hr (k := 14) (by kernel_rfl)
        clear hr
        have e12 : s 12 = .bool (d0 || d1) := HV.out.v d12 rfl
        have e14 : s 14 = bif (d0 || d1) then undef else .pointer (some ⟨gc, 4, none⟩) := HV.out.v d14 rfl
        obtain ⟨q0, q1, q2, q3, q4, q5, q6, q7, hbl⟩ := HST.out
        have hput := Sv.put (i := 15) (v := bif (d0 || d1) then undef else .agg #[.int .i64 C2.1, .int .i64 C2.2]) (Sv.re (j := 14) (v := bif (d0 || d1) then undef else .pointer (some ⟨gc, 4, none⟩)) (Sv.re (j := 12) (v := .bool (d0 || d1)) HV.out e12) e14) (fun u hu => by cases hu; rfl)
        obtain ⟨s', hs'⟩ : ∃ s', s' = upd (upd (upd s 12 (.bool (d0 || d1))) 14 (bif (d0 || d1) then undef else .pointer (some ⟨gc, 4, none⟩))) 15 (bif (d0 || d1) then undef else .agg #[.int .i64 C2.1, .int .i64 C2.2]) := ⟨_, rfl⟩
        rw [← hs'] at hput
        cases d0 <;> cases d1 <;> (refine wpOp_step rfl (fun K hK => ?_); go_simp; refine hK _ _ ?_; exact ⟨s', by rw [hs']; rfl, hput, HST.out⟩)
       ·have d12 := ready_dep hr (k := 12) (by kernel_rfl)
        clear hr
        have e12 : s 12 = .bool (d0 || d1) := HV.out.v d12 rfl
        obtain ⟨q0, q1, q2, q3, q4, q5, q6, q7, hbl⟩ := HST.out
        have hput := Sv.put (i := 16) (v := bif (d0 || d1) then undef else .agg #[.int .i64 p.1, .int .i64 p.2]) (Sv.re (j := 12) (v := .bool (d0 || d1)) HV.out e12) (fun u hu => by cases hu; rfl)
        obtain ⟨s', hs'⟩ : ∃ s', s' = upd (upd s 12 (.bool (d0 || d1))) 16 (bif (d0 || d1) then undef else .agg #[.int .i64 p.1, .int .i64 p.2]) := ⟨_, rfl⟩
        rw [← hs'] at hput
        cases d0 <;> cases d1 <;> (refine wpOp_step rfl (fun K hK => ?_); go_simp; refine hK _ _ ?_; exact ⟨s', by rw [hs']; rfl, hput, HST.out⟩)
       ·have d12 := ready_dep hr (k := 12) (by kernel_rfl)
        have d15 := ready_dep hr (k := 15) (by kernel_rfl)
        have d16 := ready_dep hr (k := 16) (by kernel_rfl)
        clear hr
        have e12 : s 12 = .bool (d0 || d1) := HV.out.v d12 rfl
        have e15 : s 15 = bif (d0 || d1) then undef else .agg #[.int .i64 C2.1, .int .i64 C2.2] := HV.out.v d15 rfl
        have e16 : s 16 = bif (d0 || d1) then undef else .agg #[.int .i64 p.1, .int .i64 p.2] := HV.out.v d16 rfl
        have hput := Sv.put (i := 17) (v := bif (d0 || d1) then undef else .bool d2) (Sv.re (j := 16) (v := bif (d0 || d1) then undef else .agg #[.int .i64 p.1, .int .i64 p.2]) (Sv.re (j := 15) (v := bif (d0 || d1) then undef else .agg #[.int .i64 C2.1, .int .i64 C2.2]) (Sv.re (j := 12) (v := .bool (d0 || d1)) HV.out e12) e15) e16) (fun u hu => by cases hu; rfl)
        obtain ⟨s', hs'⟩ : ∃ s', s' = upd (upd (upd (upd s 12 (.bool (d0 || d1))) 15 (bif (d0 || d1) then undef else .agg #[.int .i64 C2.1, .int .i64 C2.2])) 16 (bif (d0 || d1) then undef else .agg #[.int .i64 p.1, .int .i64 p.2])) 17 (bif (d0 || d1) then undef else .bool d2) := ⟨_, rfl⟩
        rw [← hs'] at hput
        cases d0 <;> cases d1 <;> (refine wpOp_step rfl (fun K hK => ?_); go_simp; refine hK _ _ ?_; exact ⟨s', by rw [hs']; rfl, hput, HST.out⟩)
       ·have d12 := ready_dep hr (k := 12) (by kernel_rfl)
        have d17 := ready_dep hr (k := 17) (by kernel_rfl)
        clear hr
        have e12 : s 12 = .bool (d0 || d1) := HV.out.v d12 rfl
        have e17 : s 17 = bif (d0 || d1) then undef else .bool d2 := HV.out.v d17 rfl
        have hput := Sv.put (i := 18) (v := .bool (d0 || d1 || d2)) (Sv.re (j := 17) (v := bif (d0 || d1) then undef else .bool d2) (Sv.re (j := 12) (v := .bool (d0 || d1)) HV.out e12) e17) (fun u hu => by cases hu; rfl)
        obtain ⟨s', hs'⟩ : ∃ s', s' = upd (upd (upd s 12 (.bool (d0 || d1))) 17 (bif (d0 || d1) then undef else .bool d2)) 18 (.bool (d0 || d1 || d2)) := ⟨_, rfl⟩
        rw [← hs'] at hput
        cases d0 <;> cases d1 <;> (refine wpOp_step rfl (fun K hK => ?_); go_simp; refine hK _ _ ?_; exact ⟨s', by rw [hs']; rfl, hput, HST.out⟩)
      ·intro Lq aq WN hI hrd
       obtain ⟨s, ha, hv, hst⟩ := hI
       have hall := all_listedM hrd hv.sz (by kernel_rfl)
       clear hrd
       have e0 : s 0 = (.slice (some ⟨gc, 0, none⟩) 3 3) := hv.v (hall 0 (by decide)) rfl
       have e1 : s 1 = (.pointer (some ⟨gc, 0, none⟩)) := hv.v (hall 1 (by decide)) rfl
       have e2 : s 2 = (.agg #[.int .i64 C0.1, .int .i64 C0.2]) := hv.v (hall 2 (by decide)) rfl
       have e3 : s 3 = (.agg #[.int .i64 p.1, .int .i64 p.2]) := hv.v (hall 3 (by decide)) rfl
       have e4 : s 4 = (.bool d0) := hv.v (hall 4 (by decide)) rfl
       have e5 : s 5 = (.bool d0) := hv.v (hall 5 (by decide)) rfl
       have e6 : s 6 = (bif d0 then undef else .slice (some ⟨gc, 0, none⟩) 3 3) := hv.v (hall 6 (by decide)) rfl
       have e7 : s 7 = (bif d0 then undef else .pointer (some ⟨gc, 2, none⟩)) := hv.v (hall 7 (by decide)) rfl
       have e8 : s 8 = (bif d0 then undef else .agg #[.int .i64 C1.1, .int .i64 C1.2]) := hv.v (hall 8 (by decide)) rfl
       have e9 : s 9 = (bif d0 then undef else .agg #[.int .i64 p.1, .int .i64 p.2]) := hv.v (hall 9 (by decide)) rfl
       have e10 : s 10 = (bif d0 then undef else .bool d1) := hv.v (hall 10 (by decide)) rfl
       have e11 : s 11 = (.bool (d0 || d1)) := hv.v (hall 11 (by decide)) rfl
       have e12 : s 12 = (.bool (d0 || d1)) := hv.v (hall 12 (by decide)) rfl
       have e13 : s 13 = (bif (d0 || d1) then undef else .slice (some ⟨gc, 0, none⟩) 3 3) := hv.v (hall 13 (by decide)) rfl
       have e14 : s 14 = (bif (d0 || d1) then undef else .pointer (some ⟨gc, 4, none⟩)) := hv.v (hall 14 (by decide)) rfl
       have e15 : s 15 = (bif (d0 || d1) then undef else .agg #[.int .i64 C2.1, .int .i64 C2.2]) := hv.v (hall 15 (by decide)) rfl
       have e16 : s 16 = (bif (d0 || d1) then undef else .agg #[.int .i64 p.1, .int .i64 p.2]) := hv.v (hall 16 (by decide)) rfl
       have e17 : s 17 = (bif (d0 || d1) then undef else .bool d2) := hv.v (hall 17 (by decide)) rfl
       have e18 : s 18 = (.bool (d0 || d1 || d2)) := hv.v (hall 18 (by decide)) rfl
       simp only [e0, e1, e2, e3, e4, e5, e6, e7, e8, e9, e10, e11, e12, e13, e14, e15, e16, e17, e18] at ha
       subst ha
       clear hall hv e0 e1 e2 e3 e4 e5 e6 e7 e8 e9 e10 e11 e12 e13 e14 e15 e16 e17 e18
       obtain ⟨q0, q1, q2, q3, q4, q5, q6, q7, hbl⟩ := hst
       have HBR := Lib.hid (stay_b HB6.out hbl)
       clear q0 q1 q2 q3 q4 q5 q6 q7 hbl y0 y1 y2 y3 y4 y5 z0 z1 e0 e1 e2
       obtain ⟨D, hD⟩ : ∃ D, D = (d0 || d1 || d2) := ⟨_, rfl⟩
       have hisc : isC t p = D := by rw [hD, HISC.out]
       rw [← hD]
       have hcnt : (L.take (k + 1)).countP (fun t => isC t p) = M + if D = true then 1 else 0 := by rw [HCN.out, hisc]
       have HCNT := Lib.hid hcnt
       clear hcnt hisc hD HISC
       cases D with
       | true =>
        go_wp2
        go_roundw
        case rel => exact ⟨k + 1, by omega, by go_num, by rw [HCNT.out]; rfl, HBR⟩
        case measure => simp [intOf]; omega
       | false =>
        go_wp2
        go_roundw
        case rel => exact ⟨k + 1, by omega, by go_num, by rw [HCNT.out]; rfl, HBR⟩
        case measure => simp [intOf]; omega
     ·obtain rfl : k = L.length := by omega
      have hki : ¬ (L.length : Int) < (L.length : Int) := by omega
      have hcc := count_corners (fun t ht => (HIN.out t ht).2.2.2.2) p
      have hte : (L.take L.length).countP (fun t => isC t p) = (cornersA L).count p := by rw [List.take_length, hcc]
      have hcb : (L.take L.length).countP (fun t => isC t p) ≤ L.length := Nat.le_trans List.countP_le_length (by simp)
      obtain ⟨M, hM⟩ : ∃ M, M = (L.take L.length).countP (fun t => isC t p) := ⟨_, rfl⟩
      rw [← hM] at hte hcb ⊢
      have HTE := Lib.hid hte
      clear hcc hte hM
      obtain ⟨wm, hwm⟩ : ∃ x, x = wr := ⟨_, rfl⟩
      subst hwm
      by_cases hmf : (M : Int) = FP
      ·have hst : starB L cs p = decide (dsK (kfP cs p) 8 ≠ []) := by
        have h : (cornersA L).count p = fullP p := by rw [← HTE.out]; have := HFP.out; omega
        unfold starB
        rw [h]
        simp
       have hmb : (!((M : Int) == FP)) = false := by simp [hmf]
       have hmb2 : ((M : Int) == FP) = true := by simp [hmf]
       have x0 := stay_c x0 hB.out (Nat.le_refl _)
       have x1 := stay_c x1 hB.out (Nat.le_refl _)
       have HST := Lib.hid hst
       have kb := heap_alloc_new wm (.cells #[.int .i64 p.1, .int .i64 p.2, .slice none 0 0, .slice none 0 0] 51)
       have HKB := Lib.hid kb
       have hwox : wo.heap.size < wm.heap.size := Nat.lt_of_lt_of_le hwoA hB.out.size
       have HWM := Lib.hid (HWA.out.below hB.out (Nat.le_refl _))
       have HBM := Lib.hid (HBA.out.trans (hB.out.mono HBA.out.size))
       have hx0 := al_c x0 (.cells #[.int .i64 p.1, .int .i64 p.2, .slice none 0 0, .slice none 0 0] 51)
       have hx1 := al_c x1 (.cells #[.int .i64 p.1, .int .i64 p.2, .slice none 0 0, .slice none 0 0] 51)
       have HX := Lib.hid (And.intro hx0 hx1)
       have HB0 := Lib.hid (below_new wm (.cells #[.int .i64 p.1, .int .i64 p.2, .slice none 0 0, .slice none 0 0] 51))
       clear hst kb hmf HTE HFP HWA HBA hB hx0 hx1
       go_wp2_with fail
       clear hmb hmb2
       generalize wm.alloc (.cells #[.int .i64 p.1, .int .i64 p.2, .slice none 0 0, .slice none 0 0] 51) = w7 at HKB HB0 HX ⊢
       go_loopw [13] (fun x wr => ∃ (d : Nat) (dv kv : Value), d ≤ 8 ∧ x = .int .i64 d ∧ Hid (Below wm.heap.size wm wr) ∧ Hid (wr.heap[wm.heap.size]? = some (.cells #[.int .i64 p.1, .int .i64 p.2, dv, kv] 51 (0, 0))) ∧ Hid (wr.ownsRow wm.heap.size 3 1 dv (dsK (kfP cs p) d).length (vis (dsK (kfP cs p) d))) ∧ Hid (wr.ownsRow wm.heap.size 3 1 kv (dsK (kfP cs p) d).length (vis (ksK (kfP cs p) d))) ∧ Hid (ApB dv kv)) (fun x _ => 8 - (intOf x).toNat)
       case atStart => exact ⟨0, .slice none 0 0, .slice none 0 0, by omega, rfl, HB0, HKB, Lib.hid (World.ownsRow_nil _ _ _ _), Lib.hid (World.ownsRow_nil _ _ _ _), Lib.hid (.inl rfl)⟩
       case round =>
        clear HB0 HKB
        obtain ⟨d, dv, kv, hd, rfl, hB, hK, hD, hV, hA⟩ := hrel
        by_cases hd8 : d < 8
        ·have hdi : (d : Int) < 8 := by omega
         have hyes := fun h => dsK_yes (kf := kfP cs p) (j := d) h
         have hno := fun h => dsK_no (kf := kfP cs p) (j := d) h
         have hkpos := kindD_pos HCI.out.kind (edP p d)
         have cKD := fun (W' : World) (hb : Below wr.heap.size wr W') => CK.out W' (stay_b HBX.out (HBM.out.trans ((stay_b hB.out hb).mono HBM.out.size))) (edP p d)
         have cTW := fun (W' : World) => toward_any p.1 p.2 d W' hd8 (by omega) (by omega)
         have cED := fun (W' : World) => refEdge_any p.1 p.2 (p.1 + dxD d) (p.2 + dyD d) W'
         have hede : ordE p.1 p.2 (p.1 + dxD d) (p.2 + dyD d) = edP p d := rfl
         have hkf : kindD cs (edP p d) = kfP cs p d := rfl
         rw [hkf] at cKD hkpos
         rw [hede] at cED
         obtain ⟨Kd, hKd⟩ : ∃ z, z = kfP cs p d := ⟨_, rfl⟩
         obtain ⟨E, hE⟩ : ∃ z, z = edP p d := ⟨_, rfl⟩
         obtain ⟨qx, hqx⟩ : ∃ z, z = p.1 + dxD d := ⟨_, rfl⟩
         obtain ⟨qy, hqy⟩ : ∃ z, z = p.2 + dyD d := ⟨_, rfl⟩
         rw [← hKd] at cKD hyes hno hkpos
         rw [← hE] at cKD cED
         rw [← hqx, ← hqy] at cTW cED
         have hdl := (dsK_len (kfP cs p) d).2
         have hba := HBM.out.trans (hB.out.mono HBM.out.size)
         have b0 := stay_c a0 hba (Nat.le_refl _)
         have b1 := stay_c a1 hba (Nat.le_refl _)
         have b2 := stay_c a2 hba (Nat.le_refl _)
         have b3 := stay_c a3 hba (Nat.le_refl _)
         have x0 := stay_c x0 hB.out (Nat.le_refl _)
         have x1 := stay_c x1 hB.out (Nat.le_refl _)
         have HYES := Lib.hid hyes
         have HNO := Lib.hid hno
         have CKD := Lib.hid cKD
         have CTW := Lib.hid cTW
         have CED := Lib.hid cED
         have hk01 : Kd = 0 ∨ Kd = 1 ∨ Kd = 2 := hkpos.1
         clear hyes hno hkf hKd hE hqx hqy hede cKD cTW cED hkpos hba
         obtain ⟨wi, hwi⟩ : ∃ x, x = wr := ⟨_, rfl⟩
         subst hwi
         go_upto_region 22 with fail
         have HS22 := Lib.hid (And.intro hB.out (And.intro hK.out (And.intro hD.out (And.intro hV.out hA.out))))
         clear hB hK hD hV hA
         refine wp_region_inv (fun Lq aq WN => ∃ s : Nat → Value, aq = { tmps := #[shV W H Am nm cm Ac nc cc, .pointer (some ⟨w.heap.size, 0, none⟩), .slice none 0 0, .slice Av L.length cv, .slice (some ⟨gk, 0, none⟩) ps.length cp, .slice Av' (starsD L cs (List.take i ps)).length cv', .int .i64 ((i : Nat) : Int), .pointer (some ⟨wo.heap.size, 0, none⟩), .int .i64 ((M : Nat) : Int), .int .i64 FP, .int .i64 ((L.length : Nat) : Int), u11, .pointer (some ⟨wm.heap.size, 0, none⟩), .int .i64 ((d : Nat) : Int), (s 7), .agg #[.int .i64 ((W : Nat) : Int), .int .i64 ((H : Nat) : Int), .slice Am nm cm, .slice Ac nc cc], .slice Av L.length cv, .agg #[.int .i64 ((W : Nat) : Int), .int .i64 ((H : Nat) : Int), .slice Am nm cm, .slice Ac nc cc], .slice (some ⟨gk, 0, none⟩) ps.length cp, u19, u20, u21, u22, u23, u24, u25, u26, u27, u28, u29, u30, u31, u32, .int .i64 ((L.length : Nat) : Int), .slice Av L.length cv, .int .i64 ((L.length : Nat) : Int), .bool false, u37, u38, u39, u40, u41, u42, u43, u44, u45, u46, u47, u48, u49, u50, u51, u52, u53, u54, u55, u56, u57, u58, u59, u60, u61, u62, u63, u64, .int .i64 ((M : Nat) : Int), .int .i64 FP, .bool false, .agg #[.int .i64 p.1, .int .i64 p.2], .agg #[.int .i64 p.1, .int .i64 p.2, .slice none 0 0, .slice none 0 0], .int .i64 ((d : Nat) : Int), .bool true, u72, u73, (s 0), (s 1), (s 2), (s 3), (s 4), (s 5), (s 6), u81, u82, u83, u84, u85, u86, u87, u88, u89, u90, u91, u92, u93, u94, u95, u96, u97, u98, u99, u100, u101, u102, undef], defers := [] } ∧ Sv 8 [some (.agg #[.int .i64 W, .int .i64 H, .slice Am nm cm, .slice Ac nc cc]), some (.agg #[.int .i64 p.1, .int .i64 p.2]), some (.agg #[.int .i64 p.1, .int .i64 p.2]), some (.int .i64 ((d : Nat) : Int)), some (.agg #[.int .i64 qx, .int .i64 qy]), some (aggE E), some (.int .i64 Kd), some (.int .i64 Kd)] Lq s ∧ (WN.cell? ⟨w.heap.size, 0, none⟩ = some (.int .i64 W) ∧ WN.cell? ⟨w.heap.size, 1, none⟩ = some (.int .i64 H) ∧ WN.cell? ⟨w.heap.size, 2, none⟩ = some (.slice Am nm cm) ∧ WN.cell? ⟨w.heap.size, 3, none⟩ = some (.slice Ac nc cc) ∧ WN.cell? ⟨wo.heap.size, 0, none⟩ = some (.int .i64 p.1) ∧ WN.cell? ⟨wo.heap.size, 1, none⟩ = some (.int .i64 p.2) ∧ Below wi.heap.size wi WN)) (by kernel_rfl) ?_ ?_ ?_
         ·exact ⟨listF [u74, u75, u76, u77, u78, u79, u80, u14], rfl, Sv.start 8 _ _, ⟨b0, b1, b2, b3, x0, x1, (Below.refl _ _).drew⟩⟩
         ·intro Lq aq WN i0 hI hr
          obtain ⟨s, rfl, hv, hst⟩ := hI
          have hi0 : i0 < 8 := ready_lt hr
          have HV := Lib.hid hv
          have HST := Lib.hid hst
          clear hv hst
          have hii : i0 = 0 ∨ i0 = 1 ∨ i0 = 2 ∨ i0 = 3 ∨ i0 = 4 ∨ i0 = 5 ∨ i0 = 6 ∨ i0 = 7 := by omega
          clear hi0
          rcases hii with rfl | rfl | rfl | rfl | rfl | rfl | rfl | rfl
          ·clear hr
           obtain ⟨q0, q1, q2, q3, q4, q5, hbl⟩ := HST.out
           refine wpOp_step rfl (fun K hK => ?_)
           go_simp
           refine hK _ _ ?_
           exact ⟨upd s 0 (.agg #[.int .i64 W, .int .i64 H, .slice Am nm cm, .slice Ac nc cc]), rfl, Sv.put HV.out (fun u hu => by cases hu; rfl), HST.out⟩
          ·clear hr
           obtain ⟨q0, q1, q2, q3, q4, q5, hbl⟩ := HST.out
           refine wpOp_step rfl (fun K hK => ?_)
           go_simp
           refine hK _ _ ?_
           exact ⟨upd s 1 (.agg #[.int .i64 p.1, .int .i64 p.2]), rfl, Sv.put HV.out (fun u hu => by cases hu; rfl), HST.out⟩
          ·clear hr
           obtain ⟨q0, q1, q2, q3, q4, q5, hbl⟩ := HST.out
           refine wpOp_step rfl (fun K hK => ?_)
           go_simp
           refine hK _ _ ?_
           exact ⟨upd s 2 (.agg #[.int .i64 p.1, .int .i64 p.2]), rfl, Sv.put HV.out (fun u hu => by cases hu; rfl), HST.out⟩
          ·clear hr
           refine wpOp_step rfl (fun K hK => ?_)
           go_simp
           refine hK _ _ ?_
           exact ⟨upd s 3 (.int .i64 ((d : Nat) : Int)), rfl, Sv.put HV.out (fun u hu => by cases hu; rfl), HST.out⟩
          ·have d2 := ready_dep hr (k := 2) (by kernel_rfl)
           have d3 := ready_dep hr (k := 3) (by kernel_rfl)
           clear hr
           have e2 : s 2 = .agg #[.int .i64 p.1, .int .i64 p.2] := HV.out.v d2 rfl
           have e3 : s 3 = .int .i64 ((d : Nat) : Int) := HV.out.v d3 rfl
           obtain ⟨q0, q1, q2, q3, q4, q5, hbl⟩ := HST.out
           refine wpOp_step rfl (fun K hK => ?_)
           go_simp
           refine (CTW.out _).mono ?_
           rintro e' wc ⟨he, hbc⟩
           subst he
           refine hK _ _ ?_
           exact ⟨upd (upd (upd s 2 (.agg #[.int .i64 p.1, .int .i64 p.2])) 3 (.int .i64 ((d : Nat) : Int))) 4 (.agg #[.int .i64 qx, .int .i64 qy]), rfl, Sv.put (Sv.re (j := 3) (v := .int .i64 ((d : Nat) : Int)) (Sv.re (j := 2) (v := .agg #[.int .i64 p.1, .int .i64 p.2]) HV.out e2) e3) (fun u hu => by cases hu; rfl), ⟨stay_c q0 hbc (Nat.le_refl _), stay_c q1 hbc (Nat.le_refl _), stay_c q2 hbc (Nat.le_refl _), stay_c q3 hbc (Nat.le_refl _), stay_c q4 hbc (Nat.le_refl _), stay_c q5 hbc (Nat.le_refl _), stay_b hbl hbc⟩⟩
          ·have d1 := ready_dep hr (k := 1) (by kernel_rfl)
           have d4 := ready_dep hr (k := 4) (by kernel_rfl)
           clear hr
           have e1 : s 1 = .agg #[.int .i64 p.1, .int .i64 p.2] := HV.out.v d1 rfl
           have e4 : s 4 = .agg #[.int .i64 qx, .int .i64 qy] := HV.out.v d4 rfl
           obtain ⟨q0, q1, q2, q3, q4, q5, hbl⟩ := HST.out
           refine wpOp_step rfl (fun K hK => ?_)
           go_simp
           refine (CED.out _).mono ?_
           rintro e' wc ⟨he, hbc⟩
           subst he
           refine hK _ _ ?_
           exact ⟨upd (upd (upd s 1 (.agg #[.int .i64 p.1, .int .i64 p.2])) 4 (.agg #[.int .i64 qx, .int .i64 qy])) 5 (aggE E), rfl, Sv.put (Sv.re (j := 4) (v := .agg #[.int .i64 qx, .int .i64 qy]) (Sv.re (j := 1) (v := .agg #[.int .i64 p.1, .int .i64 p.2]) HV.out e1) e4) (fun u hu => by cases hu; rfl), ⟨stay_c q0 hbc (Nat.le_refl _), stay_c q1 hbc (Nat.le_refl _), stay_c q2 hbc (Nat.le_refl _), stay_c q3 hbc (Nat.le_refl _), stay_c q4 hbc (Nat.le_refl _), stay_c q5 hbc (Nat.le_refl _), stay_b hbl hbc⟩⟩
          ·have d0 := ready_dep hr (k := 0) (by kernel_rfl)
           have d5 := ready_dep hr (k := 5) (by kernel_rfl)
           clear hr
           have e0 : s 0 = .agg #[.int .i64 W, .int .i64 H, .slice Am nm cm, .slice Ac nc cc] := HV.out.v d0 rfl
           have e5 : s 5 = aggE E := HV.out.v d5 rfl
           obtain ⟨q0, q1, q2, q3, q4, q5, hbl⟩ := HST.out
           refine wpOp_step rfl (fun K hK => ?_)
           go_simp
           refine (CKD.out _ hbl).mono ?_
           rintro e' wc ⟨he, hbc⟩
           subst he
           refine hK _ _ ?_
           exact ⟨upd (upd (upd s 0 (.agg #[.int .i64 W, .int .i64 H, .slice Am nm cm, .slice Ac nc cc])) 5 (aggE E)) 6 (.int .i64 Kd), rfl, Sv.put (Sv.re (j := 5) (v := aggE E) (Sv.re (j := 0) (v := .agg #[.int .i64 W, .int .i64 H, .slice Am nm cm, .slice Ac nc cc]) HV.out e0) e5) (fun u hu => by cases hu; rfl), ⟨stay_c q0 hbc (Nat.le_refl _), stay_c q1 hbc (Nat.le_refl _), stay_c q2 hbc (Nat.le_refl _), stay_c q3 hbc (Nat.le_refl _), stay_c q4 hbc (Nat.le_refl _), stay_c q5 hbc (Nat.le_refl _), stay_b hbl hbc⟩⟩
          ·have d6 := ready_dep hr (k := 6) (by kernel_rfl)
           clear hr
           have e6 : s 6 = .int .i64 Kd := HV.out.v d6 rfl
           refine wpOp_step rfl (fun K hK => ?_)
           go_simp
           refine hK _ _ ?_
           exact ⟨upd (upd s 6 (.int .i64 Kd)) 7 (.int .i64 Kd), rfl, Sv.put (Sv.re (j := 6) (v := .int .i64 Kd) HV.out e6) (fun u hu => by cases hu; rfl), HST.out⟩
         ·intro Lq aq WN hI hrd
          obtain ⟨s, ha, hv, hst⟩ := hI
          have hall := all_listedM hrd hv.sz (by kernel_rfl)
          clear hrd
          have e0 : s 0 = (.agg #[.int .i64 W, .int .i64 H, .slice Am nm cm, .slice Ac nc cc]) := hv.v (hall 0 (by decide)) rfl
          have e1 : s 1 = (.agg #[.int .i64 p.1, .int .i64 p.2]) := hv.v (hall 1 (by decide)) rfl
          have e2 : s 2 = (.agg #[.int .i64 p.1, .int .i64 p.2]) := hv.v (hall 2 (by decide)) rfl
          have e3 : s 3 = (.int .i64 ((d : Nat) : Int)) := hv.v (hall 3 (by decide)) rfl
          have e4 : s 4 = (.agg #[.int .i64 qx, .int .i64 qy]) := hv.v (hall 4 (by decide)) rfl
          have e5 : s 5 = (aggE E) := hv.v (hall 5 (by decide)) rfl
          have e6 : s 6 = (.int .i64 Kd) := hv.v (hall 6 (by decide)) rfl
          have e7 : s 7 = (.int .i64 Kd) := hv.v (hall 7 (by decide)) rfl
          simp only [e0, e1, e2, e3, e4, e5, e6, e7] at ha
          subst ha
          clear hall hv e0 e1 e2 e3 e4 e5 e6 e7
          obtain ⟨q0, q1, q2, q3, q4, q5, hbl⟩ := hst
          obtain ⟨hB, hK, hD, hV, hA⟩ := HS22.out
          have hB1 := stay_b hB hbl
          have hK1 := blk_below hK hbl (blk_lt hK)
          have hD1 := own_below hD hbl (Nat.le_refl _)
          have hV1 := own_below hV hbl (Nat.le_refl _)
          have HB1 := Lib.hid hB1
          have HK1 := Lib.hid hK1
          have HD1 := Lib.hid hD1
          have HV1 := Lib.hid hV1
          have HA1 := Lib.hid hA
          have hszW : wm.heap.size ≤ WN.heap.size := hB1.size
          clear hB hK hD hV hA hB1 hK1 hD1 hV1 q0 q1 q2 q3 q4 q5 hbl HS22 b0 b1 b2 b3 CKD CTW CED
          obtain ⟨wx, hwx⟩ : ∃ x, x = WN := ⟨_, rfl⟩
          subst hwx
          by_cases hkz : Kd = 0
          ·have hkb : (Kd != 0) = false := by simp [hkz]
           obtain ⟨hy1, hy2⟩ := HNO.out (by omega)
           have hD2 : Hid (wx.ownsRow wm.heap.size 3 1 dv (dsK (kfP cs p) (d + 1)).length (vis (dsK (kfP cs p) (d + 1)))) := by rw [hy1]; exact HD1
           have hV2 : Hid (wx.ownsRow wm.heap.size 3 1 kv (dsK (kfP cs p) (d + 1)).length (vis (ksK (kfP cs p) (d + 1)))) := by rw [hy1, hy2]; exact HV1
           clear hy1 hy2 HYES HNO HD1 HV1 hkz
           go_wp2_with fail
           go_roundw
           case rel => exact ⟨d + 1, dv, kv, by omega, by go_num, HB1, HK1, hD2, hV2, HA1⟩
           case measure => simp [intOf]; omega
          ·have hkb : (Kd != 0) = true := by simp [hkz]
           obtain ⟨hy1, hy2⟩ := HYES.out (by omega)
           obtain ⟨n, hn⟩ : ∃ n, n = (dsK (kfP cs p) d).length := ⟨_, rfl⟩
           rw [← hn] at HD1 HV1 hdl
           obtain ⟨ds, hds⟩ : ∃ l, l = dsK (kfP cs p) d := ⟨_, rfl⟩
           obtain ⟨ks, hks⟩ : ∃ l, l = ksK (kfP cs p) d := ⟨_, rfl⟩
           rw [← hds] at HD1 hn hy1
           rw [← hks] at HV1 hy2
           have HY1 := Lib.hid hy1
           have HY2 := Lib.hid hy2
           have HN := Lib.hid hn
           have n1 := own_not HD1.out HK1.out (by decide)
           have N1 := Lib.hid n1
           have hi1 : ∀ z : Int, ∀ u ∈ [Value.int .i64 z], u.oneCell' = true := fun z u hu => by simp only [List.mem_cons, List.not_mem_nil, or_false] at hu; subst hu; rfl
           have y2 : wx.cell? ⟨wm.heap.size, 2, none⟩ = some dv := (cell_of_blk HK1.out 2).trans rfl
           have HI1 := Lib.hid hi1
           clear hy1 hy2 hn hds hks HYES HNO hkz n1 hi1 x0 x1
           have HQ1 := Lib.hid (rfl : (0 : Nat) = 0)
           go_wp2_with (first
            | (at_builtin; have hq1 := HQ1; clear hq1 HQ1; go_loud (refine app_gen Tryd.underlying22 int_info rfl (by decide) (by decide) rfl (.tmp 84) (.tmp 86) rfl wm.heap.size dv n (vis ds) [.int .i64 ((d : Nat) : Int)] rfl HD1.out hszW 1 _ rfl rfl rfl (HI1.out _) (by omega) ?_); intro v6 w6 hown6 hb6 hgr6; obtain ⟨g6, c6, _, hv6, _, _, _, _⟩ := own_addr hown6 (Nat.succ_pos _); subst hv6; have k6 := grow_blk HK1.out hgr6 N1.out; have v6 := own_grow HV1.out hgr6 HA1.out.symm; have p6 := ApB.grow HA1.out hgr6 HV1.out; have z6 : w6.cell? ⟨wm.heap.size, 2, none⟩ = some dv := (cell_of_blk k6 2).trans rfl; have f6 := frozen_of_blk k6; have l6 := blk_lt k6; have n6 := own_not hown6 k6 (by decide); have m6 := own_not v6 k6 (by decide); have k7 := blk_set k6 2 (.slice (some ⟨g6, 0, none⟩) (n + 1) c6); have d7 := own_set hown6 (fun k hk e => n6 (by rw [hk, e])) 2 (.slice (some ⟨g6, 0, none⟩) (n + 1) c6); have v7 := own_set v6 (fun k hk e => m6 (by rw [hk, e])) 2 (.slice (some ⟨g6, 0, none⟩) (n + 1) c6); have y7 : (w6.setCell ⟨wm.heap.size, 2, none⟩ (.slice (some ⟨g6, 0, none⟩) (n + 1) c6)).cell? ⟨wm.heap.size, 3, none⟩ = some kv := (cell_of_blk k7 3).trans rfl; have b7 : Below wm.heap.size wx (w6.setCell ⟨wm.heap.size, 2, none⟩ (.slice (some ⟨g6, 0, none⟩) (n + 1) c6)) := hb6.setCell (Nat.le_refl _) _; have s7 := Nat.le_trans hszW b7.size; have m7 := own_not v7 k7 (by decide); have K7 := Lib.hid k7; have D7 := Lib.hid d7; have V7 := Lib.hid v7; have P6 := Lib.hid p6; have B7 := Lib.hid b7; have M7 := Lib.hid m7; clear k6 v6 p6 n6 m6 k7 d7 v7 b7 m7 hown6 hb6 hgr6)
            | (at_builtin; go_loud (refine app_gen Tryd.underlying22 int_info rfl (by decide) (by decide) rfl (.tmp 90) (.tmp 92) rfl wm.heap.size kv n (vis ks) [.int .i64 Kd] rfl V7.out s7 1 w6.heap.size (by rw [World.size_setCell]) rfl rfl (HI1.out _) (by omega) ?_); intro v8 w8 hown8 hb8 hgr8; obtain ⟨g8, c8, _, hv8, _, _, _, _⟩ := own_addr hown8 (Nat.succ_pos _); subst hv8; have k8 := grow_blk K7.out hgr8 M7.out; have d8 := own_grow D7.out hgr8 P6.out; have p8 := ApB.grow P6.out.symm hgr8 D7.out; have z8 : w8.cell? ⟨wm.heap.size, 3, none⟩ = some kv := (cell_of_blk k8 3).trans rfl; have f8 := frozen_of_blk k8; have l8 := blk_lt k8; have K8 := Lib.hid k8; have D8 := Lib.hid d8; have V8 := Lib.hid hown8; have P8 := Lib.hid p8; have B8 := Lib.hid (B7.out.trans hb8); clear k8 d8 p8 hown8 hb8 hgr8))
           have n8 := own_not D8.out K8.out (by decide)
           have m8 := own_not V8.out K8.out (by decide)
           have k9 := blk_set K8.out 3 (.slice (some ⟨g8, 0, none⟩) (n + 1) c8)
           have d9 := own_set D8.out (fun k hk e => n8 (by rw [hk, e])) 3 (.slice (some ⟨g8, 0, none⟩) (n + 1) c8)
           have v9 := own_set V8.out (fun k hk e => m8 (by rw [hk, e])) 3 (.slice (some ⟨g8, 0, none⟩) (n + 1) c8)
           have b9 : Below wm.heap.size wm (w8.setCell ⟨wm.heap.size, 3, none⟩ (.slice (some ⟨g8, 0, none⟩) (n + 1) c8)) := HB1.out.trans (B8.out.setCell (Nat.le_refl _) _)
           have hd2 : (w8.setCell ⟨wm.heap.size, 3, none⟩ (.slice (some ⟨g8, 0, none⟩) (n + 1) c8)).ownsRow wm.heap.size 3 1 (.slice (some ⟨g6, 0, none⟩) (n + 1) c6) (dsK (kfP cs p) (d + 1)).length (vis (dsK (kfP cs p) (d + 1))) := by
            rw [HY1.out, List.length_append, ← HN.out, show vis (ds ++ [((d : Nat) : Int)]) = vis ds ++ [.int .i64 ((d : Nat) : Int)] by simp [vis]]
            exact d9
           have hv2 : (w8.setCell ⟨wm.heap.size, 3, none⟩ (.slice (some ⟨g8, 0, none⟩) (n + 1) c8)).ownsRow wm.heap.size 3 1 (.slice (some ⟨g8, 0, none⟩) (n + 1) c8) (dsK (kfP cs p) (d + 1)).length (vis (ksK (kfP cs p) (d + 1))) := by
            rw [HY1.out, HY2.out, List.length_append, ← HN.out, show vis (ks ++ [Kd]) = vis ks ++ [.int .i64 Kd] by simp [vis]]
            exact v9
           have HD2 := Lib.hid hd2
           have HV2 := Lib.hid hv2
           have HB2 := Lib.hid b9
           have HK2 : Hid ((w8.setCell ⟨wm.heap.size, 3, none⟩ (.slice (some ⟨g8, 0, none⟩) (n + 1) c8)).heap[wm.heap.size]? = some (.cells #[.int .i64 p.1, .int .i64 p.2, .slice (some ⟨g6, 0, none⟩) (n + 1) c6, .slice (some ⟨g8, 0, none⟩) (n + 1) c8] 51 (0, 0))) := k9
           have HA2 := Lib.hid P8.out.symm
           clear n8 m8 k9 d9 v9 b9 hd2 hv2 z6 f6 l6 y7 z8 f8 l8 y2
           go_roundw
           case rel => exact ⟨d + 1, _, _, by omega, by go_num, HB2, HK2, HD2, HV2, HA2⟩
           case measure => simp [intOf]; omega
        ·obtain rfl : d = 8 := by omega
         have hdi : ¬ ((8 : Nat) : Int) < 8 := by omega
         have y0 := cell_of_blk hK.out 0
         have y1 := cell_of_blk hK.out 1
         have y2 := cell_of_blk hK.out 2
         have y3 := cell_of_blk hK.out 3
         simp only [List.getElem?_toArray, List.getElem?_cons_zero, List.getElem?_cons_succ] at y0 y1 y2 y3
         have hone : ∀ u ∈ [Value.int .i64 p.1, .int .i64 p.2, dv, kv], u.oneCell' = true := by
          intro u hu
          simp only [List.mem_cons, List.not_mem_nil, or_false] at hu
          rcases hu with rfl | rfl | rfl | rfl
          ·rfl
          ·rfl
          ·exact own_one hD.out
          ·exact own_one hV.out
         obtain ⟨Ad, cd, hdv, _, _⟩ := own_slice hD.out
         subst hdv
         have hsz2 : w2.heap.size ≤ wr.heap.size := Nat.le_trans HBM.out.size hB.out.size
         have HW8 := Lib.hid (HWM.out.below hB.out (Nat.le_refl _))
         have HB8 := Lib.hid (HBM.out.trans (hB.out.mono HBM.out.size))
         have HONE := Lib.hid hone
         have hdl := dsK_len (kfP cs p) 8
         have hge : w2.heap.size ≤ wm.heap.size := HBM.out.size
         have hkk : wr.ownsRow wm.heap.size 3 1 kv (ksK (kfP cs p) 8).length (vis (ksK (kfP cs p) 8)) := by rw [← hdl.1]; exact hV.out
         have HDD := Lib.hid (own_mono hD.out hge)
         have HKK := Lib.hid (own_mono hkk hge)
         have hst := HST.out
         have hne : dsK (kfP cs p) 8 ≠ [] ↔ 0 < (dsK (kfP cs p) 8).length := by rw [List.length_pos_iff]
         obtain ⟨n8, hn8⟩ : ∃ n, n = (dsK (kfP cs p) 8).length := ⟨_, rfl⟩
         rw [← hn8] at hne y2 hone
         have HN8 := Lib.hid hn8
         have HNE := Lib.hid hne
         have HST8 := Lib.hid hst
         clear hone hkk hK hB hD hV hA hst hne hn8 hdl
         obtain ⟨wz, hwz⟩ : ∃ x, x = wr := ⟨_, rfl⟩
         subst hwz
         by_cases hz : 0 < n8
         ·have hzb : decide ((0 : Int) < (n8 : Int)) = true := decide_eq_true (by omega)
          have hsn := HSN.out
          rw [HST8.out, if_pos (decide_eq_true (HNE.out.2 hz))] at hsn
          have HSN2 := Lib.hid hsn
          rw [← HN8.out] at HONE
          clear hsn HSN HST8 HNE
          go_wp2_with (at_builtin; go_loud (refine app_gen Tryd.underlying44 star_info rfl (by decide) (by decide) rfl (.tmp 99) (.tmp 101) rfl w2.heap.size _ (starsD L cs (ps.take i)).length (zcs zs) [.int .i64 p.1, .int .i64 p.2, .slice Ad n8 cd, kv] rfl HW8.out.own hsz2 1 _ rfl rfl rfl HONE.out (by omega) ?_); intro v' w' hown' hb' hgr')
          have hW9 := StarsW.app (s := starP cs p) HW8.out HDD.out HKK.out (by rw [HN8.out] at hown'; exact hown') hgr'
          rw [← HSN2.out] at hW9
          have HW9 := Lib.hid hW9
          have HB9 := Lib.hid (HB8.out.trans hb')
          clear hW9 hown' hb' hgr' HW8 HB8 HDD HKK
          go_roundw
          case rel => exact ⟨i + 1, _, by omega, by go_num, HW9, HB9⟩
          case measure => simp [intOf]; omega
         ·have hzb : decide ((0 : Int) < (n8 : Int)) = false := decide_eq_false (by omega)
          have hsn := HSN.out
          rw [HST8.out, if_neg (by simp only [decide_eq_true_eq]; exact fun h => hz (HNE.out.1 h)), List.append_nil] at hsn
          have HW9 : Hid (StarsW wz w2.heap.size (.slice Av' (starsD L cs (ps.take i)).length cv') (starsD L cs (ps.take (i + 1))) zs) := by rw [hsn]; exact HW8
          clear hsn HSN HST8 HNE HW8 HDD HKK HONE
          go_wp2_with fail
          go_roundw
          case rel => exact ⟨i + 1, zs, by omega, by go_num, HW9, HB8⟩
          case measure => simp [intOf]; omega
      ·have hst : starB L cs p = false := by
        have h : (cornersA L).count p ≠ fullP p := by rw [← HTE.out]; have := HFP.out; omega
        unfold starB
        simp [h]
       have hmb : (!((M : Int) == FP)) = true := by simp [hmf]
       have hmb2 : ((M : Int) == FP) = false := by simp [hmf]
       have hsn := HSN.out
       rw [hst, if_neg (by decide), List.append_nil] at hsn
       have HW9 : Hid (StarsW wm w2.heap.size (.slice Av' (starsD L cs (ps.take i)).length cv') (starsD L cs (ps.take (i + 1))) zs) := by rw [hsn]; exact Lib.hid (HWA.out.below hB.out (Nat.le_refl _))
       have HB9 := Lib.hid (HBA.out.trans (hB.out.mono HBA.out.size))
       clear hst hsn HSN HWA HBA hB HTE HFP hmf
       go_wp2_with fail
       go_roundw
       case rel => exact ⟨i + 1, zs, by omega, by go_num, HW9, HB9⟩
       case measure => simp [intOf]; omega
  ·obtain rfl : i = ps.length := by omega
   have hii : ¬ (ps.length : Int) < (ps.length : Int) := by omega
   have hW2 := hW.out
   rw [List.take_length] at hW2
   have HW2 := Lib.hid (hW2.monoD hgw)
   have HBF := Lib.hid (HBW.out.trans (hB.out.mono hgw))
   clear hW2 hW hB
   go_wp2
   refine bodyPost_ret (v := .slice Av' (starsD L cs ps).length cv') (by simp [results, Tryd.results21, go_sem]) rfl ⟨.slice Av' (starsD L cs ps).length cv', rfl, zs, ps, HPT.out, HW2.out, HBF.out⟩
end
end Go.Proofs.YtoienokpchbglaaDoor
