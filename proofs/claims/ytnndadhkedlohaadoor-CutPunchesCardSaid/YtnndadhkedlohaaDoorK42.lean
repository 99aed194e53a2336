/- The sides of a line: tile.Side, the document's SideOf, and that they agree (taken over).. -/
import Derived.Test.YtnndadhkedlohaaDoorK41
import Derived.Deep.RegionHeld3
namespace Go.Proofs.YtnndadhkedlohaaDoor
set_option linter.unusedSimpArgs false
set_option linter.unusedVariables false
section
open Go.RowKit
theorem lineMayB_bd {v c : Int} (h : lineMayB v c = true) : (0 ≤ v ∧ v ≤ 3) ∧ (-1000000 ≤ c ∧ c ≤ 1000000) ∧ c % 2 = 0 := by simp [lineMayB, inN] at h; omega
theorem triMayB_bd {x y k : Int} (h : triMayB x y k = true) : (-1000000 ≤ x ∧ x ≤ 1000000) ∧ (-1000000 ≤ y ∧ y ≤ 1000000) ∧ 0 ≤ k ∧ k ≤ 3 := by simp [triMayB, inN] at h; omega
set_option maxRecDepth 100000 in
theorem idx0 (p0 p1 p2 p3 p4 p5 : Value) (w : World) : (Instr.index 113 (.agg #[p0, p1, p2, p3, p4, p5]) (.int .i64 0)).run Tryd.prog w = .ok (.agg #[p0, p1]) w := by first | rfl | kernel_rfl | simp [Instr.index, go_sem]
set_option maxRecDepth 100000 in
theorem idx1 (p0 p1 p2 p3 p4 p5 : Value) (w : World) : (Instr.index 113 (.agg #[p0, p1, p2, p3, p4, p5]) (.int .i64 1)).run Tryd.prog w = .ok (.agg #[p2, p3]) w := by first | rfl | kernel_rfl | simp [Instr.index, go_sem]
set_option maxRecDepth 100000 in
theorem idx2 (p0 p1 p2 p3 p4 p5 : Value) (w : World) : (Instr.index 113 (.agg #[p0, p1, p2, p3, p4, p5]) (.int .i64 2)).run Tryd.prog w = .ok (.agg #[p4, p5]) w := by first | rfl | kernel_rfl | simp [Instr.index, go_sem]
def sumB (v x y k : Int) : Int := valB v (2 * x + 1) (2 * y + 1) + valB v (cornX x k) (cornY y k) + valB v (cornX x (k + 1)) (cornY y (k + 1))
def sideB (v c x y k : Int) : Int := if 3 * c < sumB v x y k then 1 else -1
theorem boxes_below (w : World) (v c x y k : Int) : Below w.heap.size w (boxes w v c x y k) := ((Below.refl _ _).alloc (Nat.le_refl _) _).alloc (by simp) _
theorem boxes_l (w : World) (v c x y k : Int) : (boxes w v c x y k).heap[w.heap.size]? = some (.cells #[.int .i64 v, .int .i64 c] 46 (0, 0)) := blk_alloc (heap_alloc_new w _) _
set_option maxRecDepth 100000 in
set_option maxHeartbeats 1600000 in
theorem side_any (v c x y k : Int) (w : World) (hs : Steps w) (c1 : -1000000 ≤ c) (c2 : c ≤ 1000000) (x1 : -1000000 ≤ x) (x2 : x ≤ 1000000) (y1 : -1000000 ≤ y) (y2 : y ≤ 1000000) (k1 : 0 ≤ k) (k2 : k ≤ 3) :
  Calls Tryd.prog 30 #[.agg #[.int .i64 v, .int .i64 c], .agg #[.int .i64 x, .int .i64 y, .int .i64 k]] w fun e w' => e = .returned (.int .i64 (sideB v c x y k)) ∧ Below w.heap.size w w' := by
 have hsb := hs.below (boxes_below w v c x y k)
 obtain ⟨X1, hX1⟩ : ∃ a, a = cornX x k := ⟨_, rfl⟩
 obtain ⟨Y1, hY1⟩ : ∃ a, a = cornY y k := ⟨_, rfl⟩
 obtain ⟨X2, hX2⟩ : ∃ a, a = cornX x (k + 1) := ⟨_, rfl⟩
 obtain ⟨Y2, hY2⟩ : ∃ a, a = cornY y (k + 1) := ⟨_, rfl⟩
 have bX1 := cornX_bd k x1 x2
 have bX2 := cornX_bd (k + 1) x1 x2
 have bY1 := cornY_bd k y1 y2
 have bY2 := cornY_bd (k + 1) y1 y2
 rw [← hX1] at bX1
 rw [← hX2] at bX2
 rw [← hY1] at bY1
 rw [← hY2] at bY2
 obtain ⟨V0, hV0⟩ : ∃ a, a = valB v (2 * x + 1) (2 * y + 1) := ⟨_, rfl⟩
 obtain ⟨V1, hV1⟩ : ∃ a, a = valB v X1 Y1 := ⟨_, rfl⟩
 obtain ⟨V2, hV2⟩ : ∃ a, a = valB v X2 Y2 := ⟨_, rfl⟩
 have b0 := valB_bd (v := v) (x := 2 * x + 1) (y := 2 * y + 1) (M := 4000000) (by omega) (by omega) (by omega) (by omega)
 have b1 := valB_bd (v := v) (x := X1) (y := Y1) (M := 4000000) (by omega) (by omega) (by omega) (by omega)
 have b2 := valB_bd (v := v) (x := X2) (y := Y2) (M := 4000000) (by omega) (by omega) (by omega) (by omega)
 rw [← hV0] at b0
 rw [← hV1] at b1
 rw [← hV2] at b2
 simp only [Int.reduceMul] at b0 b1 b2
 have i0 := idx0
 have i1 := idx1
 have i2 := idx2
 have HS : Hid (sumB v x y k = V0 + V1 + V2) := Lib.hid (by rw [hV0, hV1, hV2, hX1, hX2, hY1, hY2]; rfl)
 have HX1 := Lib.hid hX1
 have HX2 := Lib.hid hX2
 have HY1 := Lib.hid hY1
 have HY2 := Lib.hid hY2
 have HV0 := Lib.hid hV0
 have HV1 := Lib.hid hV1
 have HV2 := Lib.hid hV2
 clear hX1 hX2 hY1 hY2 hV0 hV1 hV2
 go_enter Tryd.func30, Tryd.ntmps30
 go_wp2_with fail
 refine (corners_any x y k _ hsb x1 x2 y1 y2 k1 k2).mono ?_
 rintro e w1 ⟨he, hb1⟩
 rw [← HX1.out, ← HX2.out, ← HY1.out, ← HY2.out] at he
 subst he
 have kl := blk_below (boxes_l w v c x y k) hb1 (blk_lt (boxes_l w v c x y k))
 have l0 := cell_of_blk kl 0
 have l1 := cell_of_blk kl 1
 simp only [List.getElem?_toArray, List.getElem?_cons_zero, List.getElem?_cons_succ] at l0 l1
 have hw1 : Below w.heap.size w w1 := stay_b (boxes_below w v c x y k) hb1
 clear kl hb1
 go_wp2
 go_loopw [5, 10] (fun t i wr => ∃ n : Nat, n ≤ 3 ∧ i = .int .i64 n ∧ t = .int .i64 (if n = 0 then 0 else if n = 1 then V0 else if n = 2 then V0 + V1 else V0 + V1 + V2) ∧ Below w1.heap.size w1 wr) (fun _ i _ => 3 - (intOf i).toNat)
 case atStart => exact ⟨0, by omega, rfl, rfl, Below.refl _ _⟩
 case round =>
  obtain ⟨n, hn, rfl, rfl, hbel⟩ := hrel
  have m0 := sd l0 hbel
  have m1 := sd l1 hbel
  have q : w.heap.size < wr.heap.size := World.block_lt_of_cell? _ _ m0
  have hn4 : n = 0 ∨ n = 1 ∨ n = 2 ∨ n = 3 := by omega
  rcases hn4 with rfl | rfl | rfl | rfl
  ·simp only [Nat.reduceEqDiff, reduceIte]
   go_wp2_with fail
   refine (value_any v (2 * x + 1) (2 * y + 1) _ (by omega) (by omega) (by omega) (by omega)).mono ?_
   rintro e w2 ⟨he, hb2⟩
   rw [← HV0.out] at he
   subst he
   go_wp2
   go_roundw
   case rel => exact ⟨1, by omega, rfl, by simp, (hbel.alloc hbel.size _).trans (hb2.mono (by have := hbel.size; simp; omega))⟩
   case measure => simp [intOf]
  ·simp only [Nat.reduceEqDiff, reduceIte]
   go_wp2_with fail
   refine (value_any v X1 Y1 _ (by omega) (by omega) (by omega) (by omega)).mono ?_
   rintro e w2 ⟨he, hb2⟩
   rw [← HV1.out] at he
   subst he
   go_wp2
   go_roundw
   case rel => exact ⟨2, by omega, rfl, by simp, (hbel.alloc hbel.size _).trans (hb2.mono (by have := hbel.size; simp; omega))⟩
   case measure => simp [intOf]
  ·simp only [Nat.reduceEqDiff, reduceIte]
   go_wp2_with fail
   refine (value_any v X2 Y2 _ (by omega) (by omega) (by omega) (by omega)).mono ?_
   rintro e w2 ⟨he, hb2⟩
   rw [← HV2.out] at he
   subst he
   go_wp2
   go_roundw
   case rel => exact ⟨3, by omega, rfl, by simp, (hbel.alloc hbel.size _).trans (hb2.mono (by have := hbel.size; simp; omega))⟩
   case measure => simp [intOf]
  ·simp only [Nat.reduceEqDiff, reduceIte]
   have hend : Below w.heap.size w wr := hw1.trans (hbel.mono hw1.size)
   by_cases hlt : 3 * c < V0 + V1 + V2
   ·have HL : Hid (sideB v c x y k = 1) := Lib.hid (by unfold sideB; rw [HS.out, if_pos hlt])
    go_wp2
    go_ret
    exact ⟨by rw [HL.out]; rfl, hend⟩
   ·have HL : Hid (sideB v c x y k = -1) := Lib.hid (by unfold sideB; rw [HS.out, if_neg hlt])
    go_wp2
    go_ret
    exact ⟨by rw [HL.out]; rfl, hend⟩
def anyB (v c x y k : Int) : Prop := c < valB v (2 * x + 1) (2 * y + 1) ∨ c < valB v (cornX x k) (cornY y k) ∨ c < valB v (cornX x (k + 1)) (cornY y (k + 1))
instance (v c x y k : Int) : Decidable (anyB v c x y k) := by unfold anyB; infer_instance
def sideOfB (v c x y k : Int) : Int := if anyB v c x y k then 1 else -1
set_option maxRecDepth 100000 in
set_option maxHeartbeats 3200000 in
theorem sideOf_any (v c x y k : Int) (w : World) (c1 : -1000000 ≤ c) (c2 : c ≤ 1000000) (x1 : -1000000 ≤ x) (x2 : x ≤ 1000000) (y1 : -1000000 ≤ y) (y2 : y ≤ 1000000) (k1 : 0 ≤ k) (k2 : k ≤ 3) :
    Calls Tryd.prog 32 #[.agg #[.int .i64 v, .int .i64 c], .agg #[.int .i64 x, .int .i64 y, .int .i64 k]] w fun e w' => e = .returned (.int .i64 (sideOfB v c x y k)) ∧ Below w.heap.size w w' := by
  obtain ⟨X1, hX1⟩ : ∃ a, a = cornX x k := ⟨_, rfl⟩
  obtain ⟨Y1, hY1⟩ : ∃ a, a = cornY y k := ⟨_, rfl⟩
  obtain ⟨X2, hX2⟩ : ∃ a, a = cornX x (k + 1) := ⟨_, rfl⟩
  obtain ⟨Y2, hY2⟩ : ∃ a, a = cornY y (k + 1) := ⟨_, rfl⟩
  have bX1 := cornX_bd k x1 x2
  have bX2 := cornX_bd (k + 1) x1 x2
  have bY1 := cornY_bd k y1 y2
  have bY2 := cornY_bd (k + 1) y1 y2
  rw [← hX1] at bX1
  rw [← hX2] at bX2
  rw [← hY1] at bY1
  rw [← hY2] at bY2
  obtain ⟨V0, hV0⟩ : ∃ a, a = valB v (2 * x + 1) (2 * y + 1) := ⟨_, rfl⟩
  obtain ⟨V1, hV1⟩ : ∃ a, a = valB v X1 Y1 := ⟨_, rfl⟩
  obtain ⟨V2, hV2⟩ : ∃ a, a = valB v X2 Y2 := ⟨_, rfl⟩
  have b0 := valB_bd (v := v) (x := 2 * x + 1) (y := 2 * y + 1) (M := 4000000) (by omega) (by omega) (by omega) (by omega)
  have b1 := valB_bd (v := v) (x := X1) (y := Y1) (M := 4000000) (by omega) (by omega) (by omega) (by omega)
  have b2 := valB_bd (v := v) (x := X2) (y := Y2) (M := 4000000) (by omega) (by omega) (by omega) (by omega)
  rw [← hV0] at b0
  rw [← hV1] at b1
  rw [← hV2] at b2
  simp only [Int.reduceMul] at b0 b1 b2
  have HS : Hid (anyB v c x y k ↔ (c < V0 ∨ c < V1 ∨ c < V2)) := Lib.hid (by rw [hV0, hV1, hV2, hX1, hX2, hY1, hY2]; exact Iff.rfl)
  have HX1 := Lib.hid hX1
  have HX2 := Lib.hid hX2
  have HY1 := Lib.hid hY1
  have HY2 := Lib.hid hY2
  have HV0 := Lib.hid hV0
  have HV1 := Lib.hid hV1
  have HV2 := Lib.hid hV2
  clear hX1 hX2 hY1 hY2 hV0 hV1 hV2
  go_enter Tryd.func32, Tryd.ntmps32
  go_wp2_with fail
  refine (cornersOf_any x y k _ x1 x2 y1 y2 k1 k2).mono ?_
  rintro e w1 ⟨⟨g, rfl, hg⟩, hb1⟩
  rw [← HX1.out, ← HX2.out, ← HY1.out, ← HY2.out] at hg
  have kl := blk_below (boxes_l w v c x y k) hb1 (blk_lt (boxes_l w v c x y k))
  have l0 := cell_of_blk kl 0
  have l1 := cell_of_blk kl 1
  have p0 := cell_of_blk hg 0
  have p1 := cell_of_blk hg 1
  have p2 := cell_of_blk hg 2
  have p3 := cell_of_blk hg 3
  have p4 := cell_of_blk hg 4
  have p5 := cell_of_blk hg 5
  simp only [List.getElem?_toArray, List.getElem?_cons_zero, List.getElem?_cons_succ] at l0 l1 p0 p1 p2 p3 p4 p5
  have hw1 : Below w.heap.size w w1 := stay_b (boxes_below w v c x y k) hb1
  clear kl hb1 hg
  go_wp2
  go_loopw [6] (fun i wr => ∃ n : Nat, n ≤ 3 ∧ i = .int .i64 n ∧ (0 < n → V0 ≤ c) ∧ (1 < n → V1 ≤ c) ∧ (2 < n → V2 ≤ c) ∧ Below w1.heap.size w1 wr) (fun i _ => 3 - (intOf i).toNat)
  case atStart => exact ⟨0, by omega, rfl, by omega, by omega, by omega, Below.refl _ _⟩
  case round =>
    obtain ⟨n, hn, rfl, g0, g1, g2, hbel⟩ := hrel
    have q0 := sd l0 hbel
    have q1 := sd l1 hbel
    have r0 := sd p0 hbel
    have r1 := sd p1 hbel
    have r2 := sd p2 hbel
    have r3 := sd p3 hbel
    have r4 := sd p4 hbel
    have r5 := sd p5 hbel
    have hend : Below w.heap.size w wr := hw1.trans (hbel.mono hw1.size)
    have bel0 : Below wr.heap.size wr wr.drew := (Below.refl _ _).drew
    have hn4 : n = 0 ∨ n = 1 ∨ n = 2 ∨ n = 3 := by omega
    rcases hn4 with rfl | rfl | rfl | rfl
    · by_cases hlt : c < V0
      · have HL : Hid (sideOfB v c x y k = 1) := Lib.hid (by unfold sideOfB; rw [if_pos (HS.out.2 (by omega))])
        go_wp2_with fail
        go_region_held3 (fun w' => w'.cell? ⟨w.heap.size, 0, none⟩ = some (.int .i64 v) ∧ w'.cell? ⟨w.heap.size, 1, none⟩ = some (.int .i64 c) ∧ w'.cell? ⟨g, 0, none⟩ = some (.int .i64 (2 * x + 1)) ∧ w'.cell? ⟨g, 1, none⟩ = some (.int .i64 (2 * y + 1)) ∧ Below wr.heap.size wr w')
          (first
            | go_keep
            | (go_split_ands
               exact ⟨sd ‹_› hbc, sd ‹_› hbc, sd ‹_› hbc, sd ‹_› hbc, stay_b ‹_› hbc⟩))
          ((with_reducible refine (valueOf_any v (2 * x + 1) (2 * y + 1) _ (by omega) (by omega) (by omega) (by omega)).mono ?_; rintro e wc ⟨he, hbc⟩; rw [← HV0.out] at he; subst he))
        rename_i hH
        obtain ⟨_, _, _, _, bel9⟩ := hH
        go_wp2
        go_ret
        exact ⟨by rw [HL.out]; rfl, stay_b hend bel9⟩
      · have G0 := Lib.hid g0
        have G1 := Lib.hid g1
        have G2 := Lib.hid g2
        clear g0 g1 g2
        go_wp2_with fail
        go_region_held3 (fun w' => w'.cell? ⟨w.heap.size, 0, none⟩ = some (.int .i64 v) ∧ w'.cell? ⟨w.heap.size, 1, none⟩ = some (.int .i64 c) ∧ w'.cell? ⟨g, 0, none⟩ = some (.int .i64 (2 * x + 1)) ∧ w'.cell? ⟨g, 1, none⟩ = some (.int .i64 (2 * y + 1)) ∧ Below wr.heap.size wr w')
          (first
            | go_keep
            | (go_split_ands
               exact ⟨sd ‹_› hbc, sd ‹_› hbc, sd ‹_› hbc, sd ‹_› hbc, stay_b ‹_› hbc⟩))
          ((with_reducible refine (valueOf_any v (2 * x + 1) (2 * y + 1) _ (by omega) (by omega) (by omega) (by omega)).mono ?_; rintro e wc ⟨he, hbc⟩; rw [← HV0.out] at he; subst he))
        rename_i hH
        obtain ⟨_, _, _, _, bel9⟩ := hH
        go_wp2
        go_roundw
        case rel => exact ⟨1, by omega, rfl, by have := G0.out; omega, by have := G1.out; omega, by have := G2.out; omega, hbel.trans (bel9.mono hbel.size)⟩
        case measure => simp [intOf]
    · by_cases hlt : c < V1
      · have HL : Hid (sideOfB v c x y k = 1) := Lib.hid (by unfold sideOfB; rw [if_pos (HS.out.2 (by omega))])
        go_wp2_with fail
        go_region_held3 (fun w' => w'.cell? ⟨w.heap.size, 0, none⟩ = some (.int .i64 v) ∧ w'.cell? ⟨w.heap.size, 1, none⟩ = some (.int .i64 c) ∧ w'.cell? ⟨g, 2, none⟩ = some (.int .i64 X1) ∧ w'.cell? ⟨g, 3, none⟩ = some (.int .i64 Y1) ∧ Below wr.heap.size wr w')
          (first
            | go_keep
            | (go_split_ands
               exact ⟨sd ‹_› hbc, sd ‹_› hbc, sd ‹_› hbc, sd ‹_› hbc, stay_b ‹_› hbc⟩))
          ((with_reducible refine (valueOf_any v X1 Y1 _ (by omega) (by omega) (by omega) (by omega)).mono ?_; rintro e wc ⟨he, hbc⟩; rw [← HV1.out] at he; subst he))
        rename_i hH
        obtain ⟨_, _, _, _, bel9⟩ := hH
        go_wp2
        go_ret
        exact ⟨by rw [HL.out]; rfl, stay_b hend bel9⟩
      · have G0 := Lib.hid g0
        have G1 := Lib.hid g1
        have G2 := Lib.hid g2
        clear g0 g1 g2
        go_wp2_with fail
        go_region_held3 (fun w' => w'.cell? ⟨w.heap.size, 0, none⟩ = some (.int .i64 v) ∧ w'.cell? ⟨w.heap.size, 1, none⟩ = some (.int .i64 c) ∧ w'.cell? ⟨g, 2, none⟩ = some (.int .i64 X1) ∧ w'.cell? ⟨g, 3, none⟩ = some (.int .i64 Y1) ∧ Below wr.heap.size wr w')
          (first
            | go_keep
            | (go_split_ands
               exact ⟨sd ‹_› hbc, sd ‹_› hbc, sd ‹_› hbc, sd ‹_› hbc, stay_b ‹_› hbc⟩))
          ((with_reducible refine (valueOf_any v X1 Y1 _ (by omega) (by omega) (by omega) (by omega)).mono ?_; rintro e wc ⟨he, hbc⟩; rw [← HV1.out] at he; subst he))
        rename_i hH
        obtain ⟨_, _, _, _, bel9⟩ := hH
        go_wp2
        go_roundw
        case rel => exact ⟨2, by omega, rfl, by have := G0.out; omega, by have := G1.out; omega, by have := G2.out; omega, hbel.trans (bel9.mono hbel.size)⟩
        case measure => simp [intOf]
    · by_cases hlt : c < V2
      · have HL : Hid (sideOfB v c x y k = 1) := Lib.hid (by unfold sideOfB; rw [if_pos (HS.out.2 (by omega))])
        go_wp2_with fail
        go_region_held3 (fun w' => w'.cell? ⟨w.heap.size, 0, none⟩ = some (.int .i64 v) ∧ w'.cell? ⟨w.heap.size, 1, none⟩ = some (.int .i64 c) ∧ w'.cell? ⟨g, 4, none⟩ = some (.int .i64 X2) ∧ w'.cell? ⟨g, 5, none⟩ = some (.int .i64 Y2) ∧ Below wr.heap.size wr w')
          (first
            | go_keep
            | (go_split_ands
               exact ⟨sd ‹_› hbc, sd ‹_› hbc, sd ‹_› hbc, sd ‹_› hbc, stay_b ‹_› hbc⟩))
          ((with_reducible refine (valueOf_any v X2 Y2 _ (by omega) (by omega) (by omega) (by omega)).mono ?_; rintro e wc ⟨he, hbc⟩; rw [← HV2.out] at he; subst he))
        rename_i hH
        obtain ⟨_, _, _, _, bel9⟩ := hH
        go_wp2
        go_ret
        exact ⟨by rw [HL.out]; rfl, stay_b hend bel9⟩
      · have G0 := Lib.hid g0
        have G1 := Lib.hid g1
        have G2 := Lib.hid g2
        clear g0 g1 g2
        go_wp2_with fail
        go_region_held3 (fun w' => w'.cell? ⟨w.heap.size, 0, none⟩ = some (.int .i64 v) ∧ w'.cell? ⟨w.heap.size, 1, none⟩ = some (.int .i64 c) ∧ w'.cell? ⟨g, 4, none⟩ = some (.int .i64 X2) ∧ w'.cell? ⟨g, 5, none⟩ = some (.int .i64 Y2) ∧ Below wr.heap.size wr w')
          (first
            | go_keep
            | (go_split_ands
               exact ⟨sd ‹_› hbc, sd ‹_› hbc, sd ‹_› hbc, sd ‹_› hbc, stay_b ‹_› hbc⟩))
          ((with_reducible refine (valueOf_any v X2 Y2 _ (by omega) (by omega) (by omega) (by omega)).mono ?_; rintro e wc ⟨he, hbc⟩; rw [← HV2.out] at he; subst he))
        rename_i hH
        obtain ⟨_, _, _, _, bel9⟩ := hH
        go_wp2
        go_roundw
        case rel => exact ⟨3, by omega, rfl, by have := G0.out; omega, by have := G1.out; omega, by have := G2.out; omega, hbel.trans (bel9.mono hbel.size)⟩
        case measure => simp [intOf]
    · have HL : Hid (sideOfB v c x y k = -1) := Lib.hid (by unfold sideOfB; rw [if_neg (fun h => by have := HS.out.1 h; omega)])
      clear g0 g1 g2
      go_wp2
      go_ret
      exact ⟨by rw [HL.out]; rfl, hend⟩
theorem side_law (v c x y k : Int) (hl : lineMayB v c = true) (ht : triMayB x y k = true) : sideB v c x y k = sideOfB v c x y k := by
 obtain ⟨⟨v1, v2⟩, _, he⟩ := lineMayB_bd hl
 obtain ⟨_, _, k1, k2⟩ := triMayB_bd ht
 clear hl ht
 have hk : k = 0 ∨ k = 1 ∨ k = 2 ∨ k = 3 := by omega
 have hv : v = 0 ∨ v = 1 ∨ v = 2 ∨ v = 3 := by omega
 have key : 3 * c < sumB v x y k ↔ anyB v c x y k := by
  unfold sumB anyB
  rcases hk with rfl | rfl | rfl | rfl <;> rcases hv with rfl | rfl | rfl | rfl <;> simp [valB, cornX, cornY, stepX, stepY] <;> omega
 unfold sideB sideOfB
 by_cases h : anyB v c x y k
 ·rw [if_pos h, if_pos (key.2 h)]
 ·rw [if_neg h, if_neg (fun h' => h (key.1 h'))]
end
end Go.Proofs.YtnndadhkedlohaaDoor
