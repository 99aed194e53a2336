/- tile.Move (taken over from the door seat).. -/
import Derived.Test.YtpkjekedgodccaaGreatDoorK20
namespace Go.Proofs.YtpkjekedgodccaaGreatDoor
set_option linter.unusedSimpArgs false
set_option linter.unusedVariables false
section
open Go.RowKit Go.Maps
theorem stepY_bd (j : Int) : -1 ≤ stepY j ∧ stepY j ≤ 1 := by unfold stepY; split <;> (try split) <;> omega
theorem stepX_bd (j : Int) : -1 ≤ stepX j ∧ stepX j ≤ 1 := by unfold stepX; split <;> (try split) <;> omega
theorem far3 {w : World} {g b j : Nat} {u : Value} (h : w.cell? ⟨b, j, none⟩ = some u) (hne : g ≠ b) (x y z : Value) : (((w.setCell ⟨g, 0, none⟩ x).setCell ⟨g, 1, none⟩ y).setCell ⟨g, 2, none⟩ z).cell? ⟨b, j, none⟩ = some u := far1 (far1 (far1 h hne) hne) hne
open Go.RowKit
set_option maxHeartbeats 800000 in
theorem half_any (n : Int) (w : World) (h1 : -8000000 ≤ n) (h2 : n ≤ 8000000) : Calls Tryz.prog 83 #[.int .i64 n] w fun e w' => e = .returned (.int .i64 (n / 2)) ∧ w = w' := by
 go_enter Tryz.func83, Tryz.ntmps83
 go_wp2
 go_ret
 exact ⟨rfl, rfl⟩
def ofK (x y : Int) : Int := if y < 0 then 0 else if 0 < x then 1 else if 0 < y then 2 else 3
set_option maxRecDepth 100000 in
set_option maxHeartbeats 3200000 in
theorem of_0 (mx my ax ay bx by_ : Int) (w : World) (m1 : -8000000 ≤ mx) (m2 : mx ≤ 8000000) (m3 : -8000000 ≤ my) (m4 : my ≤ 8000000) (a1 : -8000000 ≤ ax) (a2 : ax ≤ 8000000) (a3 : -8000000 ≤ ay) (a4 : ay ≤ 8000000) (b1 : -8000000 ≤ bx) (b2 : bx ≤ 8000000) (b3 : -8000000 ≤ by_) (b4 : by_ ≤ 8000000) (c0 : ay + by_ - 2 * my < 0) :
  Calls Tryz.prog 60 #[aggP mx my, aggP ax ay, aggP bx by_] w fun e' w' => e' = .returned (aggT (mx / 2) (my / 2) (ofK (ax + bx - 2 * mx) (ay + by_ - 2 * my))) ∧ Below w.heap.size w w' := by
 have h1 : IntKind.i64.wrap (ax + bx) = ax + bx := IntWalk.i64_in _ (by omega)
 have h2 : IntKind.i64.wrap (2 * mx) = 2 * mx := IntWalk.i64_in _ (by omega)
 have h3 : IntKind.i64.wrap (ax + bx - 2 * mx) = ax + bx - 2 * mx := IntWalk.i64_in _ (by omega)
 have h4 : IntKind.i64.wrap (ay + by_) = ay + by_ := IntWalk.i64_in _ (by omega)
 have h5 : IntKind.i64.wrap (2 * my) = 2 * my := IntWalk.i64_in _ (by omega)
 have h6 : IntKind.i64.wrap (ay + by_ - 2 * my) = ay + by_ - 2 * my := IntWalk.i64_in _ (by omega)
 obtain ⟨K, hK⟩ : ∃ K, K = ofK (ax + bx - 2 * mx) (ay + by_ - 2 * my) := ⟨_, rfl⟩
 rw [← hK]
 have HK : Hid (K = 0) := Lib.hid (by rw [hK]; unfold ofK; rw [if_pos c0])
 clear hK
 go_enter Tryz.func60, Tryz.ntmps60
 go_upto_region 1 with fail
 have d0 : (((((w.alloc (.cells #[.int .i64 mx, .int .i64 my] 98)).alloc (.cells #[.int .i64 ax, .int .i64 ay] 98)).alloc (.cells #[.int .i64 bx, .int .i64 by_] 98)).alloc (.cells #[.int .i64 0, .int .i64 0, .int .i64 0] 44)).drew).cell? ⟨w.heap.size, 0, none⟩ = some (.int .i64 mx) := cell_of_blk (blk_alloc (blk_alloc (blk_alloc (heap_alloc_new w (.cells #[.int .i64 mx, .int .i64 my] 98)) _) _) _) 0
 have d1 : (((((w.alloc (.cells #[.int .i64 mx, .int .i64 my] 98)).alloc (.cells #[.int .i64 ax, .int .i64 ay] 98)).alloc (.cells #[.int .i64 bx, .int .i64 by_] 98)).alloc (.cells #[.int .i64 0, .int .i64 0, .int .i64 0] 44)).drew).cell? ⟨w.heap.size, 1, none⟩ = some (.int .i64 my) := cell_of_blk (blk_alloc (blk_alloc (blk_alloc (heap_alloc_new w (.cells #[.int .i64 mx, .int .i64 my] 98)) _) _) _) 1
 have hS0 := And.intro d0 d1
 clear d0 d1
 go_cut [7] from 10 to 16 (fun s7 wx => s7 = .pointer (some ⟨w.heap.size + 1 + 1 + 1 + 1, 0, none⟩) ∧ wx = (((((w.alloc (.cells #[.int .i64 mx, .int .i64 my] 98)).alloc (.cells #[.int .i64 ax, .int .i64 ay] 98)).alloc (.cells #[.int .i64 bx, .int .i64 by_] 98)).alloc (.cells #[.int .i64 0, .int .i64 0, .int .i64 0] 44)).alloc (.cells #[.int .i64 (mx / 2), .int .i64 (my / 2), .int .i64 0] 44)).drew)
 case first =>
  go_region_held3 (fun w' => w'.cell? ⟨w.heap.size, 0, none⟩ = some (.int .i64 mx) ∧ w'.cell? ⟨w.heap.size, 1, none⟩ = some (.int .i64 my))
   (first
    | with_reducible exact hS0
    | (exact hS0)
    | (go_split_ands; with_reducible exact ⟨al_c ‹_› _, al_c ‹_› _⟩)
    | (go_split_ands; with_reducible exact ⟨al_d ‹_› _, al_d ‹_› _⟩)
    | (exact ⟨al_d hS0.1 _, al_d hS0.2 _⟩))
   (first
    | ((with_reducible refine (half_any mx _ (by omega) (by omega)).mono ?_); rintro e wc ⟨rfl, rfl⟩)
    | ((with_reducible refine (half_any my _ (by omega) (by omega)).mono ?_); rintro e wc ⟨rfl, rfl⟩))
  all_goals (go_wp2_with fail; go_meet; exact ⟨rfl, rfl⟩)
 case rest =>
 obtain ⟨rfl, rfl⟩ := hcut
 clear hS0
 go_wp2_with fail
 go_quiet (fail)
 go_wp2
 refine bodyPost_ret (v := aggT (mx / 2) (my / 2) 0) (by simp [results, Tryz.results60, go_sem]) rfl ⟨by rw [HK.out], ?_⟩
 exact set3_below ((below_drewN (ba (ba (ba (ba (ba (Below.refl _ _) _) _) _) _) _) _).setCell (show w.heap.size ≤ w.heap.size + 1 + 1 + 1 + 1 by omega) _) _ (by omega) _ _ _
set_option maxRecDepth 100000 in
set_option maxHeartbeats 3200000 in
theorem of_1 (mx my ax ay bx by_ : Int) (w : World) (m1 : -8000000 ≤ mx) (m2 : mx ≤ 8000000) (m3 : -8000000 ≤ my) (m4 : my ≤ 8000000) (a1 : -8000000 ≤ ax) (a2 : ax ≤ 8000000) (a3 : -8000000 ≤ ay) (a4 : ay ≤ 8000000) (b1 : -8000000 ≤ bx) (b2 : bx ≤ 8000000) (b3 : -8000000 ≤ by_) (b4 : by_ ≤ 8000000) (c0 : ¬ ay + by_ - 2 * my < 0) (c1 : 0 < ax + bx - 2 * mx) :
  Calls Tryz.prog 60 #[aggP mx my, aggP ax ay, aggP bx by_] w fun e' w' => e' = .returned (aggT (mx / 2) (my / 2) (ofK (ax + bx - 2 * mx) (ay + by_ - 2 * my))) ∧ Below w.heap.size w w' := by
 have h1 : IntKind.i64.wrap (ax + bx) = ax + bx := IntWalk.i64_in _ (by omega)
 have h2 : IntKind.i64.wrap (2 * mx) = 2 * mx := IntWalk.i64_in _ (by omega)
 have h3 : IntKind.i64.wrap (ax + bx - 2 * mx) = ax + bx - 2 * mx := IntWalk.i64_in _ (by omega)
 have h4 : IntKind.i64.wrap (ay + by_) = ay + by_ := IntWalk.i64_in _ (by omega)
 have h5 : IntKind.i64.wrap (2 * my) = 2 * my := IntWalk.i64_in _ (by omega)
 have h6 : IntKind.i64.wrap (ay + by_ - 2 * my) = ay + by_ - 2 * my := IntWalk.i64_in _ (by omega)
 obtain ⟨K, hK⟩ : ∃ K, K = ofK (ax + bx - 2 * mx) (ay + by_ - 2 * my) := ⟨_, rfl⟩
 rw [← hK]
 have HK : Hid (K = 1) := Lib.hid (by rw [hK]; unfold ofK; rw [if_neg c0, if_pos c1])
 clear hK
 go_enter Tryz.func60, Tryz.ntmps60
 go_upto_region 1 with fail
 have d0 : (((((w.alloc (.cells #[.int .i64 mx, .int .i64 my] 98)).alloc (.cells #[.int .i64 ax, .int .i64 ay] 98)).alloc (.cells #[.int .i64 bx, .int .i64 by_] 98)).alloc (.cells #[.int .i64 0, .int .i64 0, .int .i64 0] 44)).drew).cell? ⟨w.heap.size, 0, none⟩ = some (.int .i64 mx) := cell_of_blk (blk_alloc (blk_alloc (blk_alloc (heap_alloc_new w (.cells #[.int .i64 mx, .int .i64 my] 98)) _) _) _) 0
 have d1 : (((((w.alloc (.cells #[.int .i64 mx, .int .i64 my] 98)).alloc (.cells #[.int .i64 ax, .int .i64 ay] 98)).alloc (.cells #[.int .i64 bx, .int .i64 by_] 98)).alloc (.cells #[.int .i64 0, .int .i64 0, .int .i64 0] 44)).drew).cell? ⟨w.heap.size, 1, none⟩ = some (.int .i64 my) := cell_of_blk (blk_alloc (blk_alloc (blk_alloc (heap_alloc_new w (.cells #[.int .i64 mx, .int .i64 my] 98)) _) _) _) 1
 have hS0 := And.intro d0 d1
 clear d0 d1
 go_cut [7] from 10 to 16 (fun s7 wx => s7 = .pointer (some ⟨w.heap.size + 1 + 1 + 1 + 1, 0, none⟩) ∧ wx = (((((w.alloc (.cells #[.int .i64 mx, .int .i64 my] 98)).alloc (.cells #[.int .i64 ax, .int .i64 ay] 98)).alloc (.cells #[.int .i64 bx, .int .i64 by_] 98)).alloc (.cells #[.int .i64 0, .int .i64 0, .int .i64 0] 44)).alloc (.cells #[.int .i64 (mx / 2), .int .i64 (my / 2), .int .i64 0] 44)).drew)
 case first =>
  go_region_held3 (fun w' => w'.cell? ⟨w.heap.size, 0, none⟩ = some (.int .i64 mx) ∧ w'.cell? ⟨w.heap.size, 1, none⟩ = some (.int .i64 my))
   (first
    | with_reducible exact hS0
    | (exact hS0)
    | (go_split_ands; with_reducible exact ⟨al_c ‹_› _, al_c ‹_› _⟩)
    | (go_split_ands; with_reducible exact ⟨al_d ‹_› _, al_d ‹_› _⟩)
    | (exact ⟨al_d hS0.1 _, al_d hS0.2 _⟩))
   (first
    | ((with_reducible refine (half_any mx _ (by omega) (by omega)).mono ?_); rintro e wc ⟨rfl, rfl⟩)
    | ((with_reducible refine (half_any my _ (by omega) (by omega)).mono ?_); rintro e wc ⟨rfl, rfl⟩))
  all_goals (go_wp2_with fail; go_meet; exact ⟨rfl, rfl⟩)
 case rest =>
 obtain ⟨rfl, rfl⟩ := hcut
 clear hS0
 go_wp2_with fail
 go_quiet (fail)
 go_wp2
 refine bodyPost_ret (v := aggT (mx / 2) (my / 2) 1) (by simp [results, Tryz.results60, go_sem]) rfl ⟨by rw [HK.out], ?_⟩
 exact set3_below ((below_drewN (ba (ba (ba (ba (ba (Below.refl _ _) _) _) _) _) _) _).setCell (show w.heap.size ≤ w.heap.size + 1 + 1 + 1 + 1 by omega) _) _ (by omega) _ _ _
set_option maxRecDepth 100000 in
set_option maxHeartbeats 3200000 in
theorem of_2 (mx my ax ay bx by_ : Int) (w : World) (m1 : -8000000 ≤ mx) (m2 : mx ≤ 8000000) (m3 : -8000000 ≤ my) (m4 : my ≤ 8000000) (a1 : -8000000 ≤ ax) (a2 : ax ≤ 8000000) (a3 : -8000000 ≤ ay) (a4 : ay ≤ 8000000) (b1 : -8000000 ≤ bx) (b2 : bx ≤ 8000000) (b3 : -8000000 ≤ by_) (b4 : by_ ≤ 8000000) (c0 : ¬ ay + by_ - 2 * my < 0) (c1 : ¬ 0 < ax + bx - 2 * mx) (c2 : 0 < ay + by_ - 2 * my) :
  Calls Tryz.prog 60 #[aggP mx my, aggP ax ay, aggP bx by_] w fun e' w' => e' = .returned (aggT (mx / 2) (my / 2) (ofK (ax + bx - 2 * mx) (ay + by_ - 2 * my))) ∧ Below w.heap.size w w' := by
 have h1 : IntKind.i64.wrap (ax + bx) = ax + bx := IntWalk.i64_in _ (by omega)
 have h2 : IntKind.i64.wrap (2 * mx) = 2 * mx := IntWalk.i64_in _ (by omega)
 have h3 : IntKind.i64.wrap (ax + bx - 2 * mx) = ax + bx - 2 * mx := IntWalk.i64_in _ (by omega)
 have h4 : IntKind.i64.wrap (ay + by_) = ay + by_ := IntWalk.i64_in _ (by omega)
 have h5 : IntKind.i64.wrap (2 * my) = 2 * my := IntWalk.i64_in _ (by omega)
 have h6 : IntKind.i64.wrap (ay + by_ - 2 * my) = ay + by_ - 2 * my := IntWalk.i64_in _ (by omega)
 obtain ⟨K, hK⟩ : ∃ K, K = ofK (ax + bx - 2 * mx) (ay + by_ - 2 * my) := ⟨_, rfl⟩
 rw [← hK]
 have HK : Hid (K = 2) := Lib.hid (by rw [hK]; unfold ofK; rw [if_neg c0, if_neg c1, if_pos c2])
 clear hK
 go_enter Tryz.func60, Tryz.ntmps60
 go_upto_region 1 with fail
 have d0 : (((((w.alloc (.cells #[.int .i64 mx, .int .i64 my] 98)).alloc (.cells #[.int .i64 ax, .int .i64 ay] 98)).alloc (.cells #[.int .i64 bx, .int .i64 by_] 98)).alloc (.cells #[.int .i64 0, .int .i64 0, .int .i64 0] 44)).drew).cell? ⟨w.heap.size, 0, none⟩ = some (.int .i64 mx) := cell_of_blk (blk_alloc (blk_alloc (blk_alloc (heap_alloc_new w (.cells #[.int .i64 mx, .int .i64 my] 98)) _) _) _) 0
 have d1 : (((((w.alloc (.cells #[.int .i64 mx, .int .i64 my] 98)).alloc (.cells #[.int .i64 ax, .int .i64 ay] 98)).alloc (.cells #[.int .i64 bx, .int .i64 by_] 98)).alloc (.cells #[.int .i64 0, .int .i64 0, .int .i64 0] 44)).drew).cell? ⟨w.heap.size, 1, none⟩ = some (.int .i64 my) := cell_of_blk (blk_alloc (blk_alloc (blk_alloc (heap_alloc_new w (.cells #[.int .i64 mx, .int .i64 my] 98)) _) _) _) 1
 have hS0 := And.intro d0 d1
 clear d0 d1
 go_cut [7] from 10 to 16 (fun s7 wx => s7 = .pointer (some ⟨w.heap.size + 1 + 1 + 1 + 1, 0, none⟩) ∧ wx = (((((w.alloc (.cells #[.int .i64 mx, .int .i64 my] 98)).alloc (.cells #[.int .i64 ax, .int .i64 ay] 98)).alloc (.cells #[.int .i64 bx, .int .i64 by_] 98)).alloc (.cells #[.int .i64 0, .int .i64 0, .int .i64 0] 44)).alloc (.cells #[.int .i64 (mx / 2), .int .i64 (my / 2), .int .i64 0] 44)).drew)
 case first =>
  go_region_held3 (fun w' => w'.cell? ⟨w.heap.size, 0, none⟩ = some (.int .i64 mx) ∧ w'.cell? ⟨w.heap.size, 1, none⟩ = some (.int .i64 my))
   (first
    | with_reducible exact hS0
    | (exact hS0)
    | (go_split_ands; with_reducible exact ⟨al_c ‹_› _, al_c ‹_› _⟩)
    | (go_split_ands; with_reducible exact ⟨al_d ‹_› _, al_d ‹_› _⟩)
    | (exact ⟨al_d hS0.1 _, al_d hS0.2 _⟩))
   (first
    | ((with_reducible refine (half_any mx _ (by omega) (by omega)).mono ?_); rintro e wc ⟨rfl, rfl⟩)
    | ((with_reducible refine (half_any my _ (by omega) (by omega)).mono ?_); rintro e wc ⟨rfl, rfl⟩))
  all_goals (go_wp2_with fail; go_meet; exact ⟨rfl, rfl⟩)
 case rest =>
 obtain ⟨rfl, rfl⟩ := hcut
 clear hS0
 go_wp2_with fail
 go_quiet (fail)
 go_wp2
 refine bodyPost_ret (v := aggT (mx / 2) (my / 2) 2) (by simp [results, Tryz.results60, go_sem]) rfl ⟨by rw [HK.out], ?_⟩
 exact set3_below ((below_drewN (ba (ba (ba (ba (ba (Below.refl _ _) _) _) _) _) _) _).setCell (show w.heap.size ≤ w.heap.size + 1 + 1 + 1 + 1 by omega) _) _ (by omega) _ _ _
set_option maxRecDepth 100000 in
set_option maxHeartbeats 3200000 in
theorem of_3 (mx my ax ay bx by_ : Int) (w : World) (m1 : -8000000 ≤ mx) (m2 : mx ≤ 8000000) (m3 : -8000000 ≤ my) (m4 : my ≤ 8000000) (a1 : -8000000 ≤ ax) (a2 : ax ≤ 8000000) (a3 : -8000000 ≤ ay) (a4 : ay ≤ 8000000) (b1 : -8000000 ≤ bx) (b2 : bx ≤ 8000000) (b3 : -8000000 ≤ by_) (b4 : by_ ≤ 8000000) (c0 : ¬ ay + by_ - 2 * my < 0) (c1 : ¬ 0 < ax + bx - 2 * mx) (c2 : ¬ 0 < ay + by_ - 2 * my) :
  Calls Tryz.prog 60 #[aggP mx my, aggP ax ay, aggP bx by_] w fun e' w' => e' = .returned (aggT (mx / 2) (my / 2) (ofK (ax + bx - 2 * mx) (ay + by_ - 2 * my))) ∧ Below w.heap.size w w' := by
 have h1 : IntKind.i64.wrap (ax + bx) = ax + bx := IntWalk.i64_in _ (by omega)
 have h2 : IntKind.i64.wrap (2 * mx) = 2 * mx := IntWalk.i64_in _ (by omega)
 have h3 : IntKind.i64.wrap (ax + bx - 2 * mx) = ax + bx - 2 * mx := IntWalk.i64_in _ (by omega)
 have h4 : IntKind.i64.wrap (ay + by_) = ay + by_ := IntWalk.i64_in _ (by omega)
 have h5 : IntKind.i64.wrap (2 * my) = 2 * my := IntWalk.i64_in _ (by omega)
 have h6 : IntKind.i64.wrap (ay + by_ - 2 * my) = ay + by_ - 2 * my := IntWalk.i64_in _ (by omega)
 obtain ⟨K, hK⟩ : ∃ K, K = ofK (ax + bx - 2 * mx) (ay + by_ - 2 * my) := ⟨_, rfl⟩
 rw [← hK]
 have HK : Hid (K = 3) := Lib.hid (by rw [hK]; unfold ofK; rw [if_neg c0, if_neg c1, if_neg c2])
 clear hK
 go_enter Tryz.func60, Tryz.ntmps60
 go_upto_region 1 with fail
 have d0 : (((((w.alloc (.cells #[.int .i64 mx, .int .i64 my] 98)).alloc (.cells #[.int .i64 ax, .int .i64 ay] 98)).alloc (.cells #[.int .i64 bx, .int .i64 by_] 98)).alloc (.cells #[.int .i64 0, .int .i64 0, .int .i64 0] 44)).drew).cell? ⟨w.heap.size, 0, none⟩ = some (.int .i64 mx) := cell_of_blk (blk_alloc (blk_alloc (blk_alloc (heap_alloc_new w (.cells #[.int .i64 mx, .int .i64 my] 98)) _) _) _) 0
 have d1 : (((((w.alloc (.cells #[.int .i64 mx, .int .i64 my] 98)).alloc (.cells #[.int .i64 ax, .int .i64 ay] 98)).alloc (.cells #[.int .i64 bx, .int .i64 by_] 98)).alloc (.cells #[.int .i64 0, .int .i64 0, .int .i64 0] 44)).drew).cell? ⟨w.heap.size, 1, none⟩ = some (.int .i64 my) := cell_of_blk (blk_alloc (blk_alloc (blk_alloc (heap_alloc_new w (.cells #[.int .i64 mx, .int .i64 my] 98)) _) _) _) 1
 have hS0 := And.intro d0 d1
 clear d0 d1
 go_cut [7] from 10 to 16 (fun s7 wx => s7 = .pointer (some ⟨w.heap.size + 1 + 1 + 1 + 1, 0, none⟩) ∧ wx = (((((w.alloc (.cells #[.int .i64 mx, .int .i64 my] 98)).alloc (.cells #[.int .i64 ax, .int .i64 ay] 98)).alloc (.cells #[.int .i64 bx, .int .i64 by_] 98)).alloc (.cells #[.int .i64 0, .int .i64 0, .int .i64 0] 44)).alloc (.cells #[.int .i64 (mx / 2), .int .i64 (my / 2), .int .i64 0] 44)).drew)
 case first =>
  go_region_held3 (fun w' => w'.cell? ⟨w.heap.size, 0, none⟩ = some (.int .i64 mx) ∧ w'.cell? ⟨w.heap.size, 1, none⟩ = some (.int .i64 my))
   (first
    | with_reducible exact hS0
    | (exact hS0)
    | (go_split_ands; with_reducible exact ⟨al_c ‹_› _, al_c ‹_› _⟩)
    | (go_split_ands; with_reducible exact ⟨al_d ‹_› _, al_d ‹_› _⟩)
    | (exact ⟨al_d hS0.1 _, al_d hS0.2 _⟩))
   (first
    | ((with_reducible refine (half_any mx _ (by omega) (by omega)).mono ?_); rintro e wc ⟨rfl, rfl⟩)
    | ((with_reducible refine (half_any my _ (by omega) (by omega)).mono ?_); rintro e wc ⟨rfl, rfl⟩))
  all_goals (go_wp2_with fail; go_meet; exact ⟨rfl, rfl⟩)
 case rest =>
 obtain ⟨rfl, rfl⟩ := hcut
 clear hS0
 go_wp2_with fail
 go_quiet (fail)
 go_wp2
 refine bodyPost_ret (v := aggT (mx / 2) (my / 2) 3) (by simp [results, Tryz.results60, go_sem]) rfl ⟨by rw [HK.out], ?_⟩
 exact set3_below ((below_drewN (ba (ba (ba (ba (ba (Below.refl _ _) _) _) _) _) _) _).setCell (show w.heap.size ≤ w.heap.size + 1 + 1 + 1 + 1 by omega) _) _ (by omega) _ _ _
theorem of_any (mx my ax ay bx by_ : Int) (w : World) (m1 : -8000000 ≤ mx) (m2 : mx ≤ 8000000) (m3 : -8000000 ≤ my) (m4 : my ≤ 8000000) (a1 : -8000000 ≤ ax) (a2 : ax ≤ 8000000) (a3 : -8000000 ≤ ay) (a4 : ay ≤ 8000000) (b1 : -8000000 ≤ bx) (b2 : bx ≤ 8000000) (b3 : -8000000 ≤ by_) (b4 : by_ ≤ 8000000) :
  Calls Tryz.prog 60 #[aggP mx my, aggP ax ay, aggP bx by_] w fun e' w' => e' = .returned (aggT (mx / 2) (my / 2) (ofK (ax + bx - 2 * mx) (ay + by_ - 2 * my))) ∧ Below w.heap.size w w' := by
 by_cases c0 : ay + by_ - 2 * my < 0
 ·exact of_0 mx my ax ay bx by_ w m1 m2 m3 m4 a1 a2 a3 a4 b1 b2 b3 b4 c0
 by_cases c1 : 0 < ax + bx - 2 * mx
 ·exact of_1 mx my ax ay bx by_ w m1 m2 m3 m4 a1 a2 a3 a4 b1 b2 b3 b4 c0 c1
 by_cases c2 : 0 < ay + by_ - 2 * my
 ·exact of_2 mx my ax ay bx by_ w m1 m2 m3 m4 a1 a2 a3 a4 b1 b2 b3 b4 c0 c1 c2
 ·exact of_3 mx my ax ay bx by_ w m1 m2 m3 m4 a1 a2 a3 a4 b1 b2 b3 b4 c0 c1 c2
open Go.RowKit
theorem cornX_bd {x : Int} (k : Int) (x1 : -1000000 ≤ x) (x2 : x ≤ 1000000) : -2000002 ≤ cornX x k ∧ cornX x k ≤ 2000002 := by have := stepX_bd (k % 4); unfold cornX; omega
theorem cornY_bd {x : Int} (k : Int) (x1 : -1000000 ≤ x) (x2 : x ≤ 1000000) : -2000002 ≤ cornY x k ∧ cornY x k ≤ 2000002 := by have := stepY_bd (k % 4); unfold cornY; omega
def ptB (a b e x y : Int) : Int := a * x + b * y + e
def moveT (a b c d e f x y k : Int) : T3 :=
  (ptB a b e (2 * x + 1) (2 * y + 1) / 2, ptB c d f (2 * x + 1) (2 * y + 1) / 2,
   ofK (ptB a b e (cornX x k) (cornY y k) + ptB a b e (cornX x (k + 1)) (cornY y (k + 1)) - 2 * ptB a b e (2 * x + 1) (2 * y + 1))
     (ptB c d f (cornX x k) (cornY y k) + ptB c d f (cornX x (k + 1)) (cornY y (k + 1)) - 2 * ptB c d f (2 * x + 1) (2 * y + 1)))
set_option maxRecDepth 100000 in
set_option maxHeartbeats 6400000 in
theorem move_any (a b c d e f x y k : Int) (w : World) (hs : Steps w) (ha : Sm a b c d e f) (x1 : -1000000 ≤ x) (x2 : x ≤ 1000000) (y1 : -1000000 ≤ y) (y2 : y ≤ 1000000) (k1 : 0 ≤ k) (k2 : k ≤ 3) :
  Calls Tryz.prog 27 #[.agg #[.int .i64 a, .int .i64 b, .int .i64 c, .int .i64 d, .int .i64 e, .int .i64 f], aggT x y k] w fun e' w' => e' = .returned (aggT3 (moveT a b c d e f x y k)) ∧ Below w.heap.size w w' := by
 have bX1 := cornX_bd k x1 x2
 have bX2 := cornX_bd (k + 1) x1 x2
 have bY1 := cornY_bd k y1 y2
 have bY2 := cornY_bd (k + 1) y1 y2
 obtain ⟨X1, hX1⟩ : ∃ a, a = cornX x k := ⟨_, rfl⟩
 obtain ⟨Y1, hY1⟩ : ∃ a, a = cornY y k := ⟨_, rfl⟩
 obtain ⟨X2, hX2⟩ : ∃ a, a = cornX x (k + 1) := ⟨_, rfl⟩
 obtain ⟨Y2, hY2⟩ : ∃ a, a = cornY y (k + 1) := ⟨_, rfl⟩
 rw [← hX1] at bX1
 rw [← hX2] at bX2
 rw [← hY1] at bY1
 rw [← hY2] at bY2
 have HX1 := Lib.hid hX1
 clear hX1
 have HY1 := Lib.hid hY1
 clear hY1
 have HX2 := Lib.hid hX2
 clear hX2
 have HY2 := Lib.hid hY2
 clear hY2
 have oa0 := prod_bd (a := a) (x := 2 * x + 1) (M := 2000002) ha.a1 ha.a2 (by omega) (by omega)
 have ob0 := prod_bd (a := b) (x := 2 * y + 1) (M := 2000002) ha.b1 ha.b2 (by omega) (by omega)
 have oc0 := prod_bd (a := c) (x := 2 * x + 1) (M := 2000002) ha.c1 ha.c2 (by omega) (by omega)
 have od0 := prod_bd (a := d) (x := 2 * y + 1) (M := 2000002) ha.d1 ha.d2 (by omega) (by omega)
 obtain ⟨P0, hP0⟩ : ∃ z, z = a * (2 * x + 1) + b * (2 * y + 1) + e := ⟨_, rfl⟩
 obtain ⟨Q0, hQ0⟩ : ∃ z, z = c * (2 * x + 1) + d * (2 * y + 1) + f := ⟨_, rfl⟩
 have oa1 := prod_bd (a := a) (x := X1) (M := 2000002) ha.a1 ha.a2 (by omega) (by omega)
 have ob1 := prod_bd (a := b) (x := Y1) (M := 2000002) ha.b1 ha.b2 (by omega) (by omega)
 have oc1 := prod_bd (a := c) (x := X1) (M := 2000002) ha.c1 ha.c2 (by omega) (by omega)
 have od1 := prod_bd (a := d) (x := Y1) (M := 2000002) ha.d1 ha.d2 (by omega) (by omega)
 obtain ⟨P1, hP1⟩ : ∃ z, z = a * X1 + b * Y1 + e := ⟨_, rfl⟩
 obtain ⟨Q1, hQ1⟩ : ∃ z, z = c * X1 + d * Y1 + f := ⟨_, rfl⟩
 have oa2 := prod_bd (a := a) (x := X2) (M := 2000002) ha.a1 ha.a2 (by omega) (by omega)
 have ob2 := prod_bd (a := b) (x := Y2) (M := 2000002) ha.b1 ha.b2 (by omega) (by omega)
 have oc2 := prod_bd (a := c) (x := X2) (M := 2000002) ha.c1 ha.c2 (by omega) (by omega)
 have od2 := prod_bd (a := d) (x := Y2) (M := 2000002) ha.d1 ha.d2 (by omega) (by omega)
 obtain ⟨P2, hP2⟩ : ∃ z, z = a * X2 + b * Y2 + e := ⟨_, rfl⟩
 obtain ⟨Q2, hQ2⟩ : ∃ z, z = c * X2 + d * Y2 + f := ⟨_, rfl⟩
 have he1 := ha.e1
 have he2 := ha.e2
 have hf1 := ha.f1
 have hf2 := ha.f2
 have p0 : -8000000 ≤ P0 ∧ P0 ≤ 8000000 := by omega
 have q0 : -8000000 ≤ Q0 ∧ Q0 ≤ 8000000 := by omega
 have p1 : -8000000 ≤ P1 ∧ P1 ≤ 8000000 := by omega
 have q1 : -8000000 ≤ Q1 ∧ Q1 ≤ 8000000 := by omega
 have p2 : -8000000 ≤ P2 ∧ P2 ≤ 8000000 := by omega
 have q2 : -8000000 ≤ Q2 ∧ Q2 ≤ 8000000 := by omega
 have A0 : Hid (∀ w : World, Calls Tryz.prog 61 #[.agg #[.int .i64 a, .int .i64 b, .int .i64 c, .int .i64 d, .int .i64 e, .int .i64 f], aggP (2 * x + 1) (2 * y + 1)] w fun e' w' => e' = .returned (aggP P0 Q0) ∧ Below w.heap.size w w') := Lib.hid (fun w => by
  have h := point_any a b c d e f (2 * x + 1) (2 * y + 1) w (by omega) (by omega) (by omega) (by omega) (by omega) (by omega)
  rw [← hP0, ← hQ0] at h
  exact h)
 have A1 : Hid (∀ w : World, Calls Tryz.prog 61 #[.agg #[.int .i64 a, .int .i64 b, .int .i64 c, .int .i64 d, .int .i64 e, .int .i64 f], aggP X1 Y1] w fun e' w' => e' = .returned (aggP P1 Q1) ∧ Below w.heap.size w w') := Lib.hid (fun w => by
  have h := point_any a b c d e f X1 Y1 w (by omega) (by omega) (by omega) (by omega) (by omega) (by omega)
  rw [← hP1, ← hQ1] at h
  exact h)
 have A2 : Hid (∀ w : World, Calls Tryz.prog 61 #[.agg #[.int .i64 a, .int .i64 b, .int .i64 c, .int .i64 d, .int .i64 e, .int .i64 f], aggP X2 Y2] w fun e' w' => e' = .returned (aggP P2 Q2) ∧ Below w.heap.size w w') := Lib.hid (fun w => by
  have h := point_any a b c d e f X2 Y2 w (by omega) (by omega) (by omega) (by omega) (by omega) (by omega)
  rw [← hP2, ← hQ2] at h
  exact h)
 obtain ⟨T, hT⟩ : ∃ T, T = moveT a b c d e f x y k := ⟨_, rfl⟩
 rw [← hT]
 have hT2 : (P0 / 2, Q0 / 2, ofK (P1 + P2 - 2 * P0) (Q1 + Q2 - 2 * Q0)) = T := by
  rw [hT, hP0, hP1, hP2, hQ0, hQ1, hQ2, HX1.out, HX2.out, HY1.out, HY2.out]
  rfl
 have B : Hid (∀ w : World, Calls Tryz.prog 60 #[aggP P0 Q0, aggP P1 Q1, aggP P2 Q2] w fun e' w' => e' = .returned (aggT3 T) ∧ Below w.heap.size w w') := Lib.hid (fun w => by
  rw [← hT2]
  exact of_any P0 Q0 P1 Q1 P2 Q2 w p0.1 p0.2 q0.1 q0.2 p1.1 p1.2 q1.1 q1.2 p2.1 p2.2 q2.1 q2.2)
 clear hT2 hT p0 p1 p2 q0 q1 q2 hP0 hP1 hP2 hQ0 hQ1 hQ2 he1 he2 hf1 hf2 bX1 bX2 bY1 bY2 ha oa0 oa1 oa2 ob0 ob1 ob2 oc0 oc1 oc2 od0 od1 od2
 go_enter Tryz.func27, Tryz.ntmps27
 go_wp2_with fail
 refine (corners_any x y k _ (((hs.alloc _).alloc _).alloc _) x1 x2 y1 y2 k1 k2).mono ?_
 rintro e w1 ⟨he, hb1⟩
 rw [← HX1.out, ← HY1.out, ← HX2.out, ← HY2.out] at he
 subst he
 have k_m_1 : w1.heap[w.heap.size]? = some (.cells #[.int .i64 a, .int .i64 b, .int .i64 c, .int .i64 d, .int .i64 e, .int .i64 f] 63 (0, 0)) := blk_below (blk_alloc (blk_alloc (new_blk (.cells #[.int .i64 a, .int .i64 b, .int .i64 c, .int .i64 d, .int .i64 e, .int .i64 f] 63) (by first | rfl | (simp; done) | (simp; omega))) _) _) hb1 (by first | (simp; done) | (simp; omega))
 have k_t_1 : w1.heap[w.heap.size + 1]? = some (.cells #[.int .i64 x, .int .i64 y, .int .i64 k] 44 (0, 0)) := blk_below (blk_alloc (new_blk (.cells #[.int .i64 x, .int .i64 y, .int .i64 k] 44) (by first | rfl | (simp; done) | (simp; omega))) _) hb1 (by first | (simp; done) | (simp; omega))
 have k_r_1 : w1.heap[w.heap.size + 1 + 1]? = some (.cells #[.int .i64 0, .int .i64 0, .int .i64 0] 44 (0, 0)) := blk_below (new_blk (.cells #[.int .i64 0, .int .i64 0, .int .i64 0] 44) (by first | rfl | (simp; done) | (simp; omega))) hb1 (by first | (simp; done) | (simp; omega))
 have hw_1 : Below w.heap.size w w1 := stay_b (ba (ba (ba (Below.refl _ _) _) _) _) hb1
 have hs_1 := (((hs.alloc _).alloc _).alloc _).below hb1
 clear hb1
 have c_m_0 := cell_of_blk k_m_1 0
 have c_m_1 := cell_of_blk k_m_1 1
 have c_m_2 := cell_of_blk k_m_1 2
 have c_m_3 := cell_of_blk k_m_1 3
 have c_m_4 := cell_of_blk k_m_1 4
 have c_m_5 := cell_of_blk k_m_1 5
 simp only [List.getElem?_toArray, List.getElem?_cons_zero, List.getElem?_cons_succ] at c_m_0 c_m_1 c_m_2 c_m_3 c_m_4 c_m_5
 have f_m := frozen_of_blk k_m_1
 have s_m := blk_lt k_m_1
 have c_t_0 := cell_of_blk k_t_1 0
 have c_t_1 := cell_of_blk k_t_1 1
 have c_t_2 := cell_of_blk k_t_1 2
 simp only [List.getElem?_toArray, List.getElem?_cons_zero, List.getElem?_cons_succ] at c_t_0 c_t_1 c_t_2
 have f_t := frozen_of_blk k_t_1
 have s_t := blk_lt k_t_1
 have c_r_0 := cell_of_blk k_r_1 0
 have c_r_1 := cell_of_blk k_r_1 1
 have c_r_2 := cell_of_blk k_r_1 2
 simp only [List.getElem?_toArray, List.getElem?_cons_zero, List.getElem?_cons_succ] at c_r_0 c_r_1 c_r_2
 have f_r := frozen_of_blk k_r_1
 have s_r := blk_lt k_r_1
 have n2 : w.heap.size + 1 + 1 ≠ w1.heap.size := by omega
 go_wp2_with fail
 have k_m_2 : (((w1.alloc (.cells #[.int .i64 (2 * x + 1), .int .i64 (2 * y + 1), .int .i64 X1, .int .i64 Y1, .int .i64 X2, .int .i64 Y2] 123))).drew).heap[w.heap.size]? = some (.cells #[.int .i64 a, .int .i64 b, .int .i64 c, .int .i64 d, .int .i64 e, .int .i64 f] 63 (0, 0)) := (blk_alloc k_m_1 _)
 have k_t_2 : (((w1.alloc (.cells #[.int .i64 (2 * x + 1), .int .i64 (2 * y + 1), .int .i64 X1, .int .i64 Y1, .int .i64 X2, .int .i64 Y2] 123))).drew).heap[w.heap.size + 1]? = some (.cells #[.int .i64 x, .int .i64 y, .int .i64 k] 44 (0, 0)) := (blk_alloc k_t_1 _)
 have k_r_2 : (((w1.alloc (.cells #[.int .i64 (2 * x + 1), .int .i64 (2 * y + 1), .int .i64 X1, .int .i64 Y1, .int .i64 X2, .int .i64 Y2] 123))).drew).heap[w.heap.size + 1 + 1]? = some (.cells #[.int .i64 0, .int .i64 0, .int .i64 0] 44 (0, 0)) := (blk_alloc k_r_1 _)
 have k_c_2 : (((w1.alloc (.cells #[.int .i64 (2 * x + 1), .int .i64 (2 * y + 1), .int .i64 X1, .int .i64 Y1, .int .i64 X2, .int .i64 Y2] 123))).drew).heap[w1.heap.size]? = some (.cells #[.int .i64 (2 * x + 1), .int .i64 (2 * y + 1), .int .i64 X1, .int .i64 Y1, .int .i64 X2, .int .i64 Y2] 123 (0, 0)) := (new_blk (.cells #[.int .i64 (2 * x + 1), .int .i64 (2 * y + 1), .int .i64 X1, .int .i64 Y1, .int .i64 X2, .int .i64 Y2] 123) (by first | rfl | (simp; done) | (simp; omega)))
 have hw_2 : Below w.heap.size w (((w1.alloc (.cells #[.int .i64 (2 * x + 1), .int .i64 (2 * y + 1), .int .i64 X1, .int .i64 Y1, .int .i64 X2, .int .i64 Y2] 123))).drew) := ((ba hw_1 _)).drew
 have hs_2 : Steps (((w1.alloc (.cells #[.int .i64 (2 * x + 1), .int .i64 (2 * y + 1), .int .i64 X1, .int .i64 Y1, .int .i64 X2, .int .i64 Y2] 123))).drew) := ((hs_1.alloc _).below (Below.refl _ _).drew)
 clear c_m_0 c_m_1 c_m_2 c_m_3 c_m_4 c_m_5 f_m s_m c_t_0 c_t_1 c_t_2 f_t s_t c_r_0 c_r_1 c_r_2 f_r s_r k_m_1 k_t_1 k_r_1 hw_1
 have c_m_0 := cell_of_blk k_m_2 0
 have c_m_1 := cell_of_blk k_m_2 1
 have c_m_2 := cell_of_blk k_m_2 2
 have c_m_3 := cell_of_blk k_m_2 3
 have c_m_4 := cell_of_blk k_m_2 4
 have c_m_5 := cell_of_blk k_m_2 5
 simp only [List.getElem?_toArray, List.getElem?_cons_zero, List.getElem?_cons_succ] at c_m_0 c_m_1 c_m_2 c_m_3 c_m_4 c_m_5
 have f_m := frozen_of_blk k_m_2
 have s_m := blk_lt k_m_2
 have c_c_0 := cell_of_blk k_c_2 0
 have c_c_1 := cell_of_blk k_c_2 1
 have c_c_2 := cell_of_blk k_c_2 2
 have c_c_3 := cell_of_blk k_c_2 3
 have c_c_4 := cell_of_blk k_c_2 4
 have c_c_5 := cell_of_blk k_c_2 5
 simp only [List.getElem?_toArray, List.getElem?_cons_zero, List.getElem?_cons_succ] at c_c_0 c_c_1 c_c_2 c_c_3 c_c_4 c_c_5
 have f_c := frozen_of_blk k_c_2
 have s_c := blk_lt k_c_2
 have hS0 := And.intro c_m_0 (And.intro c_m_1 (And.intro c_m_2 (And.intro c_m_3 (And.intro c_m_4 (And.intro c_m_5 (And.intro c_c_0 (And.intro c_c_1 (And.intro c_c_2 (And.intro c_c_3 (And.intro c_c_4 (And.intro c_c_5 hw_2)))))))))))
 clear c_m_0 c_m_1 c_m_2 c_m_3 c_m_4 c_m_5 c_c_0 c_c_1 c_c_2 c_c_3 c_c_4 c_c_5 f_m s_m f_c s_c
 have kr := k_r_2
 have n1 : w.heap.size + 1 + 1 ≠ w.heap.size := by omega
 have hge : w.heap.size ≤ w.heap.size + 1 + 1 := by omega
 clear k_m_2 k_t_2 k_c_2 k_r_2 hs_2
 go_region_held3 (fun w' => w'.cell? ⟨w.heap.size, 0, none⟩ = some (.int .i64 a) ∧ w'.cell? ⟨w.heap.size, 1, none⟩ = some (.int .i64 b) ∧ w'.cell? ⟨w.heap.size, 2, none⟩ = some (.int .i64 c) ∧ w'.cell? ⟨w.heap.size, 3, none⟩ = some (.int .i64 d) ∧ w'.cell? ⟨w.heap.size, 4, none⟩ = some (.int .i64 e) ∧ w'.cell? ⟨w.heap.size, 5, none⟩ = some (.int .i64 f) ∧ w'.cell? ⟨w1.heap.size, 0, none⟩ = some (.int .i64 (2 * x + 1)) ∧ w'.cell? ⟨w1.heap.size, 1, none⟩ = some (.int .i64 (2 * y + 1)) ∧ w'.cell? ⟨w1.heap.size, 2, none⟩ = some (.int .i64 X1) ∧ w'.cell? ⟨w1.heap.size, 3, none⟩ = some (.int .i64 Y1) ∧ w'.cell? ⟨w1.heap.size, 4, none⟩ = some (.int .i64 X2) ∧ w'.cell? ⟨w1.heap.size, 5, none⟩ = some (.int .i64 Y2) ∧ Below w.heap.size w w')
  (first
   | with_reducible exact hS0
   | (go_split_ands; with_reducible exact ⟨far3 ‹_› n1 _ _ _, far3 ‹_› n1 _ _ _, far3 ‹_› n1 _ _ _, far3 ‹_› n1 _ _ _, far3 ‹_› n1 _ _ _, far3 ‹_› n1 _ _ _, far3 ‹_› n2 _ _ _, far3 ‹_› n2 _ _ _, far3 ‹_› n2 _ _ _, far3 ‹_› n2 _ _ _, far3 ‹_› n2 _ _ _, far3 ‹_› n2 _ _ _, set3_below ‹_› _ hge _ _ _⟩)
   | (go_split_ands; with_reducible exact ⟨sd ‹_› hbc, sd ‹_› hbc, sd ‹_› hbc, sd ‹_› hbc, sd ‹_› hbc, sd ‹_› hbc, sd ‹_› hbc, sd ‹_› hbc, sd ‹_› hbc, sd ‹_› hbc, sd ‹_› hbc, sd ‹_› hbc, stay_b ‹_› hbc⟩))
  (first
   | ((with_reducible refine (A0.out _).mono ?_); rintro e' wc ⟨he, hbc⟩; subst he; have kr := blk_below kr hbc (blk_lt kr); have z0 := cell_of_blk kr 0; have z1 := cell_of_blk kr 1; have z2 := cell_of_blk kr 2; simp only [List.getElem?_toArray, List.getElem?_cons_zero, List.getElem?_cons_succ] at z0 z1 z2; have zf := frozen_of_blk kr; have zl := blk_lt kr)
   | ((with_reducible refine (A1.out _).mono ?_); rintro e' wc ⟨he, hbc⟩; subst he; have kr := blk_below kr hbc (blk_lt kr); have z0 := cell_of_blk kr 0; have z1 := cell_of_blk kr 1; have z2 := cell_of_blk kr 2; simp only [List.getElem?_toArray, List.getElem?_cons_zero, List.getElem?_cons_succ] at z0 z1 z2; have zf := frozen_of_blk kr; have zl := blk_lt kr)
   | ((with_reducible refine (A2.out _).mono ?_); rintro e' wc ⟨he, hbc⟩; subst he; have kr := blk_below kr hbc (blk_lt kr); have z0 := cell_of_blk kr 0; have z1 := cell_of_blk kr 1; have z2 := cell_of_blk kr 2; simp only [List.getElem?_toArray, List.getElem?_cons_zero, List.getElem?_cons_succ] at z0 z1 z2; have zf := frozen_of_blk kr; have zl := blk_lt kr)
   | ((with_reducible refine (B.out _).mono ?_); rintro e' wc ⟨he, hbc⟩; subst he; have kr := blk_below kr hbc (blk_lt kr); have z0 := cell_of_blk kr 0; have z1 := cell_of_blk kr 1; have z2 := cell_of_blk kr 2; simp only [List.getElem?_toArray, List.getElem?_cons_zero, List.getElem?_cons_succ] at z0 z1 z2; have zf := frozen_of_blk kr; have zl := blk_lt kr))
 rename_i hH
 obtain ⟨_, _, _, _, _, _, _, _, _, _, _, _, hend⟩ := hH
 go_wp2
 exact bodyPost_ret (v := aggT3 T) (by simp [results, Tryz.results27, go_sem, z0, z1, z2]) rfl ⟨rfl, hend⟩
end
end Go.Proofs.YtpkjekedgodccaaGreatDoor
