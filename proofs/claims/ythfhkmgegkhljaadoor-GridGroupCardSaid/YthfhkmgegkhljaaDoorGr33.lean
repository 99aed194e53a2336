/- tile.half, tile.of. Printed by gen_gr33.py. -/
import Derived.Test.YthfhkmgegkhljaaDoorGr32
import Derived.Test.YthfhkmgegkhljaaDoorGr31
namespace Go.Proofs.YthfhkmgegkhljaaDoor
set_option linter.unusedSimpArgs false
set_option linter.unusedVariables false
open Go.RowKit

theorem shr1 (n : Int) (h1 : -9223372036854775808 ≤ n) (h2 : n ≤ 9223372036854775807) : IntKind.i64.wrap (n >>> 1) = n / 2 := by
  have h : n >>> 1 = n / 2 := by
    rw [Int.shiftRight_eq_div_pow]
    rfl
  rw [h]
  exact IntWalk.i64_in _ (by omega)
set_option maxHeartbeats 800000 in
theorem half_any (n : Int) (w : World) (h1 : -8000000 ≤ n) (h2 : n ≤ 8000000) : Calls Tryd.prog 70 #[.int .i64 n] w fun e w' => e = .returned (.int .i64 (n / 2)) ∧ w = w' := by
  go_enter Tryd.func70, Tryd.ntmps70
  go_wp2
  go_ret
  exact ⟨rfl, rfl⟩
def ofK (x y : Int) : Int := if y < 0 then 0 else if 0 < x then 1 else if 0 < y then 2 else 3
set_option maxRecDepth 100000 in
set_option maxHeartbeats 3200000 in
theorem of_0 (mx my ax ay bx by_ : Int) (w : World) (m1 : -8000000 ≤ mx) (m2 : mx ≤ 8000000) (m3 : -8000000 ≤ my) (m4 : my ≤ 8000000) (a1 : -8000000 ≤ ax) (a2 : ax ≤ 8000000) (a3 : -8000000 ≤ ay) (a4 : ay ≤ 8000000) (b1 : -8000000 ≤ bx) (b2 : bx ≤ 8000000) (b3 : -8000000 ≤ by_) (b4 : by_ ≤ 8000000) (c0 : ay + by_ - 2 * my < 0) :
    Calls Tryd.prog 69 #[aggP mx my, aggP ax ay, aggP bx by_] w fun e' w' => e' = .returned (aggT (mx / 2) (my / 2) (ofK (ax + bx - 2 * mx) (ay + by_ - 2 * my))) ∧ Below w.heap.size w w' := by
  have h1 : IntKind.i64.wrap (ax + bx) = ax + bx := IntWalk.i64_in _ (by omega)
  have h2 : IntKind.i64.wrap (2 * mx) = 2 * mx := IntWalk.i64_in _ (by omega)
  have h3 : IntKind.i64.wrap (ax + bx - 2 * mx) = ax + bx - 2 * mx := IntWalk.i64_in _ (by omega)
  have h4 : IntKind.i64.wrap (ay + by_) = ay + by_ := IntWalk.i64_in _ (by omega)
  have h5 : IntKind.i64.wrap (2 * my) = 2 * my := IntWalk.i64_in _ (by omega)
  have h6 : IntKind.i64.wrap (ay + by_ - 2 * my) = ay + by_ - 2 * my := IntWalk.i64_in _ (by omega)
  obtain ⟨K, hK⟩ : ∃ K, K = ofK (ax + bx - 2 * mx) (ay + by_ - 2 * my) := ⟨_, rfl⟩
  rw [← hK]
  have HK : Hid (K = 0) := Lib.hid (by rw [hK]; unfold ofK; rw [if_pos c0])
  clear hK
  go_enter Tryd.func69, Tryd.ntmps69
  go_upto_region 1 with fail
  have d0 : (((((w.alloc (.cells #[.int .i64 mx, .int .i64 my] 25)).alloc (.cells #[.int .i64 ax, .int .i64 ay] 25)).alloc (.cells #[.int .i64 bx, .int .i64 by_] 25)).alloc (.cells #[.int .i64 0, .int .i64 0, .int .i64 0] 23)).drew).cell? ⟨w.heap.size, 0, none⟩ = some (.int .i64 mx) := cell_of_blk (blk_alloc (blk_alloc (blk_alloc (heap_alloc_new w (.cells #[.int .i64 mx, .int .i64 my] 25)) _) _) _) 0
  have d1 : (((((w.alloc (.cells #[.int .i64 mx, .int .i64 my] 25)).alloc (.cells #[.int .i64 ax, .int .i64 ay] 25)).alloc (.cells #[.int .i64 bx, .int .i64 by_] 25)).alloc (.cells #[.int .i64 0, .int .i64 0, .int .i64 0] 23)).drew).cell? ⟨w.heap.size, 1, none⟩ = some (.int .i64 my) := cell_of_blk (blk_alloc (blk_alloc (blk_alloc (heap_alloc_new w (.cells #[.int .i64 mx, .int .i64 my] 25)) _) _) _) 1
  have hS0 := And.intro d0 d1
  clear d0 d1
  go_cut [7] from 10 to 16 (fun s7 wx => s7 = .pointer (some ⟨w.heap.size + 1 + 1 + 1 + 1, 0, none⟩) ∧ wx = (((((w.alloc (.cells #[.int .i64 mx, .int .i64 my] 25)).alloc (.cells #[.int .i64 ax, .int .i64 ay] 25)).alloc (.cells #[.int .i64 bx, .int .i64 by_] 25)).alloc (.cells #[.int .i64 0, .int .i64 0, .int .i64 0] 23)).alloc (.cells #[.int .i64 (mx / 2), .int .i64 (my / 2), .int .i64 0] 23)).drew)
  case first =>
    go_region_held3 (fun w' => w'.cell? ⟨w.heap.size, 0, none⟩ = some (.int .i64 mx) ∧ w'.cell? ⟨w.heap.size, 1, none⟩ = some (.int .i64 my))
      (first
        | with_reducible exact hS0
        | (exact hS0)
        | (go_split_ands; with_reducible exact ⟨al_c ‹_› _, al_c ‹_› _⟩)
        | (go_split_ands; with_reducible exact ⟨al_d ‹_› _, al_d ‹_› _⟩)
        | (exact ⟨al_d hS0.1 _, al_d hS0.2 _⟩))
      (first
        | ((with_reducible refine (half_any mx _ (by omega) (by omega)).mono ?_); rintro e wc ⟨rfl, rfl⟩)
        | ((with_reducible refine (half_any my _ (by omega) (by omega)).mono ?_); rintro e wc ⟨rfl, rfl⟩))
    all_goals (go_wp2_with fail; go_meet; exact ⟨rfl, rfl⟩)
  case rest =>
  obtain ⟨rfl, rfl⟩ := hcut
  clear hS0
  go_wp2_with fail
  go_quiet (fail)
  go_wp2
  refine bodyPost_ret (v := aggT (mx / 2) (my / 2) 0) (by simp [results, Tryd.results69, go_sem]) rfl ⟨by rw [HK.out], ?_⟩
  exact set3_below ((below_drewN (ba (ba (ba (ba (ba (Below.refl _ _) _) _) _) _) _) _).setCell (show w.heap.size ≤ w.heap.size + 1 + 1 + 1 + 1 by omega) _) _ (by omega) _ _ _
set_option maxRecDepth 100000 in
set_option maxHeartbeats 3200000 in
theorem of_1 (mx my ax ay bx by_ : Int) (w : World) (m1 : -8000000 ≤ mx) (m2 : mx ≤ 8000000) (m3 : -8000000 ≤ my) (m4 : my ≤ 8000000) (a1 : -8000000 ≤ ax) (a2 : ax ≤ 8000000) (a3 : -8000000 ≤ ay) (a4 : ay ≤ 8000000) (b1 : -8000000 ≤ bx) (b2 : bx ≤ 8000000) (b3 : -8000000 ≤ by_) (b4 : by_ ≤ 8000000) (c0 : ¬ ay + by_ - 2 * my < 0) (c1 : 0 < ax + bx - 2 * mx) :
    Calls Tryd.prog 69 #[aggP mx my, aggP ax ay, aggP bx by_] w fun e' w' => e' = .returned (aggT (mx / 2) (my / 2) (ofK (ax + bx - 2 * mx) (ay + by_ - 2 * my))) ∧ Below w.heap.size w w' := by
  have h1 : IntKind.i64.wrap (ax + bx) = ax + bx := IntWalk.i64_in _ (by omega)
  have h2 : IntKind.i64.wrap (2 * mx) = 2 * mx := IntWalk.i64_in _ (by omega)
  have h3 : IntKind.i64.wrap (ax + bx - 2 * mx) = ax + bx - 2 * mx := IntWalk.i64_in _ (by omega)
  have h4 : IntKind.i64.wrap (ay + by_) = ay + by_ := IntWalk.i64_in _ (by omega)
  have h5 : IntKind.i64.wrap (2 * my) = 2 * my := IntWalk.i64_in _ (by omega)
  have h6 : IntKind.i64.wrap (ay + by_ - 2 * my) = ay + by_ - 2 * my := IntWalk.i64_in _ (by omega)
  obtain ⟨K, hK⟩ : ∃ K, K = ofK (ax + bx - 2 * mx) (ay + by_ - 2 * my) := ⟨_, rfl⟩
  rw [← hK]
  have HK : Hid (K = 1) := Lib.hid (by rw [hK]; unfold ofK; rw [if_neg c0, if_pos c1])
  clear hK
  go_enter Tryd.func69, Tryd.ntmps69
  go_upto_region 1 with fail
  have d0 : (((((w.alloc (.cells #[.int .i64 mx, .int .i64 my] 25)).alloc (.cells #[.int .i64 ax, .int .i64 ay] 25)).alloc (.cells #[.int .i64 bx, .int .i64 by_] 25)).alloc (.cells #[.int .i64 0, .int .i64 0, .int .i64 0] 23)).drew).cell? ⟨w.heap.size, 0, none⟩ = some (.int .i64 mx) := cell_of_blk (blk_alloc (blk_alloc (blk_alloc (heap_alloc_new w (.cells #[.int .i64 mx, .int .i64 my] 25)) _) _) _) 0
  have d1 : (((((w.alloc (.cells #[.int .i64 mx, .int .i64 my] 25)).alloc (.cells #[.int .i64 ax, .int .i64 ay] 25)).alloc (.cells #[.int .i64 bx, .int .i64 by_] 25)).alloc (.cells #[.int .i64 0, .int .i64 0, .int .i64 0] 23)).drew).cell? ⟨w.heap.size, 1, none⟩ = some (.int .i64 my) := cell_of_blk (blk_alloc (blk_alloc (blk_alloc (heap_alloc_new w (.cells #[.int .i64 mx, .int .i64 my] 25)) _) _) _) 1
  have hS0 := And.intro d0 d1
  clear d0 d1
  go_cut [7] from 10 to 16 (fun s7 wx => s7 = .pointer (some ⟨w.heap.size + 1 + 1 + 1 + 1, 0, none⟩) ∧ wx = (((((w.alloc (.cells #[.int .i64 mx, .int .i64 my] 25)).alloc (.cells #[.int .i64 ax, .int .i64 ay] 25)).alloc (.cells #[.int .i64 bx, .int .i64 by_] 25)).alloc (.cells #[.int .i64 0, .int .i64 0, .int .i64 0] 23)).alloc (.cells #[.int .i64 (mx / 2), .int .i64 (my / 2), .int .i64 0] 23)).drew)
  case first =>
    go_region_held3 (fun w' => w'.cell? ⟨w.heap.size, 0, none⟩ = some (.int .i64 mx) ∧ w'.cell? ⟨w.heap.size, 1, none⟩ = some (.int .i64 my))
      (first
        | with_reducible exact hS0
        | (exact hS0)
        | (go_split_ands; with_reducible exact ⟨al_c ‹_› _, al_c ‹_› _⟩)
        | (go_split_ands; with_reducible exact ⟨al_d ‹_› _, al_d ‹_› _⟩)
        | (exact ⟨al_d hS0.1 _, al_d hS0.2 _⟩))
      (first
        | ((with_reducible refine (half_any mx _ (by omega) (by omega)).mono ?_); rintro e wc ⟨rfl, rfl⟩)
        | ((with_reducible refine (half_any my _ (by omega) (by omega)).mono ?_); rintro e wc ⟨rfl, rfl⟩))
    all_goals (go_wp2_with fail; go_meet; exact ⟨rfl, rfl⟩)
  case rest =>
  obtain ⟨rfl, rfl⟩ := hcut
  clear hS0
  go_wp2_with fail
  go_quiet (fail)
  go_wp2
  refine bodyPost_ret (v := aggT (mx / 2) (my / 2) 1) (by simp [results, Tryd.results69, go_sem]) rfl ⟨by rw [HK.out], ?_⟩
  exact set3_below ((below_drewN (ba (ba (ba (ba (ba (Below.refl _ _) _) _) _) _) _) _).setCell (show w.heap.size ≤ w.heap.size + 1 + 1 + 1 + 1 by omega) _) _ (by omega) _ _ _
set_option maxRecDepth 100000 in
set_option maxHeartbeats 3200000 in
theorem of_2 (mx my ax ay bx by_ : Int) (w : World) (m1 : -8000000 ≤ mx) (m2 : mx ≤ 8000000) (m3 : -8000000 ≤ my) (m4 : my ≤ 8000000) (a1 : -8000000 ≤ ax) (a2 : ax ≤ 8000000) (a3 : -8000000 ≤ ay) (a4 : ay ≤ 8000000) (b1 : -8000000 ≤ bx) (b2 : bx ≤ 8000000) (b3 : -8000000 ≤ by_) (b4 : by_ ≤ 8000000) (c0 : ¬ ay + by_ - 2 * my < 0) (c1 : ¬ 0 < ax + bx - 2 * mx) (c2 : 0 < ay + by_ - 2 * my) :
    Calls Tryd.prog 69 #[aggP mx my, aggP ax ay, aggP bx by_] w fun e' w' => e' = .returned (aggT (mx / 2) (my / 2) (ofK (ax + bx - 2 * mx) (ay + by_ - 2 * my))) ∧ Below w.heap.size w w' := by
  have h1 : IntKind.i64.wrap (ax + bx) = ax + bx := IntWalk.i64_in _ (by omega)
  have h2 : IntKind.i64.wrap (2 * mx) = 2 * mx := IntWalk.i64_in _ (by omega)
  have h3 : IntKind.i64.wrap (ax + bx - 2 * mx) = ax + bx - 2 * mx := IntWalk.i64_in _ (by omega)
  have h4 : IntKind.i64.wrap (ay + by_) = ay + by_ := IntWalk.i64_in _ (by omega)
  have h5 : IntKind.i64.wrap (2 * my) = 2 * my := IntWalk.i64_in _ (by omega)
  have h6 : IntKind.i64.wrap (ay + by_ - 2 * my) = ay + by_ - 2 * my := IntWalk.i64_in _ (by omega)
  obtain ⟨K, hK⟩ : ∃ K, K = ofK (ax + bx - 2 * mx) (ay + by_ - 2 * my) := ⟨_, rfl⟩
  rw [← hK]
  have HK : Hid (K = 2) := Lib.hid (by rw [hK]; unfold ofK; rw [if_neg c0, if_neg c1, if_pos c2])
  clear hK
  go_enter Tryd.func69, Tryd.ntmps69
  go_upto_region 1 with fail
  have d0 : (((((w.alloc (.cells #[.int .i64 mx, .int .i64 my] 25)).alloc (.cells #[.int .i64 ax, .int .i64 ay] 25)).alloc (.cells #[.int .i64 bx, .int .i64 by_] 25)).alloc (.cells #[.int .i64 0, .int .i64 0, .int .i64 0] 23)).drew).cell? ⟨w.heap.size, 0, none⟩ = some (.int .i64 mx) := cell_of_blk (blk_alloc (blk_alloc (blk_alloc (heap_alloc_new w (.cells #[.int .i64 mx, .int .i64 my] 25)) _) _) _) 0
  have d1 : (((((w.alloc (.cells #[.int .i64 mx, .int .i64 my] 25)).alloc (.cells #[.int .i64 ax, .int .i64 ay] 25)).alloc (.cells #[.int .i64 bx, .int .i64 by_] 25)).alloc (.cells #[.int .i64 0, .int .i64 0, .int .i64 0] 23)).drew).cell? ⟨w.heap.size, 1, none⟩ = some (.int .i64 my) := cell_of_blk (blk_alloc (blk_alloc (blk_alloc (heap_alloc_new w (.cells #[.int .i64 mx, .int .i64 my] 25)) _) _) _) 1
  have hS0 := And.intro d0 d1
  clear d0 d1
  go_cut [7] from 10 to 16 (fun s7 wx => s7 = .pointer (some ⟨w.heap.size + 1 + 1 + 1 + 1, 0, none⟩) ∧ wx = (((((w.alloc (.cells #[.int .i64 mx, .int .i64 my] 25)).alloc (.cells #[.int .i64 ax, .int .i64 ay] 25)).alloc (.cells #[.int .i64 bx, .int .i64 by_] 25)).alloc (.cells #[.int .i64 0, .int .i64 0, .int .i64 0] 23)).alloc (.cells #[.int .i64 (mx / 2), .int .i64 (my / 2), .int .i64 0] 23)).drew)
  case first =>
    go_region_held3 (fun w' => w'.cell? ⟨w.heap.size, 0, none⟩ = some (.int .i64 mx) ∧ w'.cell? ⟨w.heap.size, 1, none⟩ = some (.int .i64 my))
      (first
        | with_reducible exact hS0
        | (exact hS0)
        | (go_split_ands; with_reducible exact ⟨al_c ‹_› _, al_c ‹_› _⟩)
        | (go_split_ands; with_reducible exact ⟨al_d ‹_› _, al_d ‹_› _⟩)
        | (exact ⟨al_d hS0.1 _, al_d hS0.2 _⟩))
      (first
        | ((with_reducible refine (half_any mx _ (by omega) (by omega)).mono ?_); rintro e wc ⟨rfl, rfl⟩)
        | ((with_reducible refine (half_any my _ (by omega) (by omega)).mono ?_); rintro e wc ⟨rfl, rfl⟩))
    all_goals (go_wp2_with fail; go_meet; exact ⟨rfl, rfl⟩)
  case rest =>
  obtain ⟨rfl, rfl⟩ := hcut
  clear hS0
  go_wp2_with fail
  go_quiet (fail)
  go_wp2
  refine bodyPost_ret (v := aggT (mx / 2) (my / 2) 2) (by simp [results, Tryd.results69, go_sem]) rfl ⟨by rw [HK.out], ?_⟩
  exact set3_below ((below_drewN (ba (ba (ba (ba (ba (Below.refl _ _) _) _) _) _) _) _).setCell (show w.heap.size ≤ w.heap.size + 1 + 1 + 1 + 1 by omega) _) _ (by omega) _ _ _
set_option maxRecDepth 100000 in
set_option maxHeartbeats 3200000 in
theorem of_3 (mx my ax ay bx by_ : Int) (w : World) (m1 : -8000000 ≤ mx) (m2 : mx ≤ 8000000) (m3 : -8000000 ≤ my) (m4 : my ≤ 8000000) (a1 : -8000000 ≤ ax) (a2 : ax ≤ 8000000) (a3 : -8000000 ≤ ay) (a4 : ay ≤ 8000000) (b1 : -8000000 ≤ bx) (b2 : bx ≤ 8000000) (b3 : -8000000 ≤ by_) (b4 : by_ ≤ 8000000) (c0 : ¬ ay + by_ - 2 * my < 0) (c1 : ¬ 0 < ax + bx - 2 * mx) (c2 : ¬ 0 < ay + by_ - 2 * my) :
    Calls Tryd.prog 69 #[aggP mx my, aggP ax ay, aggP bx by_] w fun e' w' => e' = .returned (aggT (mx / 2) (my / 2) (ofK (ax + bx - 2 * mx) (ay + by_ - 2 * my))) ∧ Below w.heap.size w w' := by
  have h1 : IntKind.i64.wrap (ax + bx) = ax + bx := IntWalk.i64_in _ (by omega)
  have h2 : IntKind.i64.wrap (2 * mx) = 2 * mx := IntWalk.i64_in _ (by omega)
  have h3 : IntKind.i64.wrap (ax + bx - 2 * mx) = ax + bx - 2 * mx := IntWalk.i64_in _ (by omega)
  have h4 : IntKind.i64.wrap (ay + by_) = ay + by_ := IntWalk.i64_in _ (by omega)
  have h5 : IntKind.i64.wrap (2 * my) = 2 * my := IntWalk.i64_in _ (by omega)
  have h6 : IntKind.i64.wrap (ay + by_ - 2 * my) = ay + by_ - 2 * my := IntWalk.i64_in _ (by omega)
  obtain ⟨K, hK⟩ : ∃ K, K = ofK (ax + bx - 2 * mx) (ay + by_ - 2 * my) := ⟨_, rfl⟩
  rw [← hK]
  have HK : Hid (K = 3) := Lib.hid (by rw [hK]; unfold ofK; rw [if_neg c0, if_neg c1, if_neg c2])
  clear hK
  go_enter Tryd.func69, Tryd.ntmps69
  go_upto_region 1 with fail
  have d0 : (((((w.alloc (.cells #[.int .i64 mx, .int .i64 my] 25)).alloc (.cells #[.int .i64 ax, .int .i64 ay] 25)).alloc (.cells #[.int .i64 bx, .int .i64 by_] 25)).alloc (.cells #[.int .i64 0, .int .i64 0, .int .i64 0] 23)).drew).cell? ⟨w.heap.size, 0, none⟩ = some (.int .i64 mx) := cell_of_blk (blk_alloc (blk_alloc (blk_alloc (heap_alloc_new w (.cells #[.int .i64 mx, .int .i64 my] 25)) _) _) _) 0
  have d1 : (((((w.alloc (.cells #[.int .i64 mx, .int .i64 my] 25)).alloc (.cells #[.int .i64 ax, .int .i64 ay] 25)).alloc (.cells #[.int .i64 bx, .int .i64 by_] 25)).alloc (.cells #[.int .i64 0, .int .i64 0, .int .i64 0] 23)).drew).cell? ⟨w.heap.size, 1, none⟩ = some (.int .i64 my) := cell_of_blk (blk_alloc (blk_alloc (blk_alloc (heap_alloc_new w (.cells #[.int .i64 mx, .int .i64 my] 25)) _) _) _) 1
  have hS0 := And.intro d0 d1
  clear d0 d1
  go_cut [7] from 10 to 16 (fun s7 wx => s7 = .pointer (some ⟨w.heap.size + 1 + 1 + 1 + 1, 0, none⟩) ∧ wx = (((((w.alloc (.cells #[.int .i64 mx, .int .i64 my] 25)).alloc (.cells #[.int .i64 ax, .int .i64 ay] 25)).alloc (.cells #[.int .i64 bx, .int .i64 by_] 25)).alloc (.cells #[.int .i64 0, .int .i64 0, .int .i64 0] 23)).alloc (.cells #[.int .i64 (mx / 2), .int .i64 (my / 2), .int .i64 0] 23)).drew)
  case first =>
    go_region_held3 (fun w' => w'.cell? ⟨w.heap.size, 0, none⟩ = some (.int .i64 mx) ∧ w'.cell? ⟨w.heap.size, 1, none⟩ = some (.int .i64 my))
      (first
        | with_reducible exact hS0
        | (exact hS0)
        | (go_split_ands; with_reducible exact ⟨al_c ‹_› _, al_c ‹_› _⟩)
        | (go_split_ands; with_reducible exact ⟨al_d ‹_› _, al_d ‹_› _⟩)
        | (exact ⟨al_d hS0.1 _, al_d hS0.2 _⟩))
      (first
        | ((with_reducible refine (half_any mx _ (by omega) (by omega)).mono ?_); rintro e wc ⟨rfl, rfl⟩)
        | ((with_reducible refine (half_any my _ (by omega) (by omega)).mono ?_); rintro e wc ⟨rfl, rfl⟩))
    all_goals (go_wp2_with fail; go_meet; exact ⟨rfl, rfl⟩)
  case rest =>
  obtain ⟨rfl, rfl⟩ := hcut
  clear hS0
  go_wp2_with fail
  go_quiet (fail)
  go_wp2
  refine bodyPost_ret (v := aggT (mx / 2) (my / 2) 3) (by simp [results, Tryd.results69, go_sem]) rfl ⟨by rw [HK.out], ?_⟩
  exact set3_below ((below_drewN (ba (ba (ba (ba (ba (Below.refl _ _) _) _) _) _) _) _).setCell (show w.heap.size ≤ w.heap.size + 1 + 1 + 1 + 1 by omega) _) _ (by omega) _ _ _
theorem of_any (mx my ax ay bx by_ : Int) (w : World) (m1 : -8000000 ≤ mx) (m2 : mx ≤ 8000000) (m3 : -8000000 ≤ my) (m4 : my ≤ 8000000) (a1 : -8000000 ≤ ax) (a2 : ax ≤ 8000000) (a3 : -8000000 ≤ ay) (a4 : ay ≤ 8000000) (b1 : -8000000 ≤ bx) (b2 : bx ≤ 8000000) (b3 : -8000000 ≤ by_) (b4 : by_ ≤ 8000000) :
    Calls Tryd.prog 69 #[aggP mx my, aggP ax ay, aggP bx by_] w fun e' w' => e' = .returned (aggT (mx / 2) (my / 2) (ofK (ax + bx - 2 * mx) (ay + by_ - 2 * my))) ∧ Below w.heap.size w w' := by
  by_cases c0 : ay + by_ - 2 * my < 0
  · exact of_0 mx my ax ay bx by_ w m1 m2 m3 m4 a1 a2 a3 a4 b1 b2 b3 b4 c0
  by_cases c1 : 0 < ax + bx - 2 * mx
  · exact of_1 mx my ax ay bx by_ w m1 m2 m3 m4 a1 a2 a3 a4 b1 b2 b3 b4 c0 c1
  by_cases c2 : 0 < ay + by_ - 2 * my
  · exact of_2 mx my ax ay bx by_ w m1 m2 m3 m4 a1 a2 a3 a4 b1 b2 b3 b4 c0 c1 c2
  · exact of_3 mx my ax ay bx by_ w m1 m2 m3 m4 a1 a2 a3 a4 b1 b2 b3 b4 c0 c1 c2
end Go.Proofs.YthfhkmgegkhljaaDoor
