/- The side by the document. Printed by gen_gr12.py (its middle lines are gen_gr7.py's). -/
import Derived.Test.YthfhkmgegkhljaaDoorGr10
import Derived.Test.YthfhkmgegkhljaaDoorGr8
import Derived.Deep.RegionHeld3
namespace Go.Proofs.YthfhkmgegkhljaaDoor
open Go.RowKit

def anyB (v c x y k : Int) : Prop := c < valB v (2 * x + 1) (2 * y + 1) ∨ c < valB v (cornX x k) (cornY y k) ∨ c < valB v (cornX x (k + 1)) (cornY y (k + 1))
instance (v c x y k : Int) : Decidable (anyB v c x y k) := by unfold anyB; infer_instance
def sideOfB (v c x y k : Int) : Int := if anyB v c x y k then 1 else -1

set_option maxRecDepth 100000 in
set_option maxHeartbeats 3200000 in
theorem sideOf_any (v c x y k : Int) (w : World) (c1 : -1000000 ≤ c) (c2 : c ≤ 1000000) (x1 : -1000000 ≤ x) (x2 : x ≤ 1000000) (y1 : -1000000 ≤ y) (y2 : y ≤ 1000000) (k1 : 0 ≤ k) (k2 : k ≤ 3) :
    Calls Tryd.prog 19 #[.agg #[.int .i64 v, .int .i64 c], .agg #[.int .i64 x, .int .i64 y, .int .i64 k]] w fun e w' => e = .returned (.int .i64 (sideOfB v c x y k)) ∧ Below w.heap.size w w' := by
  obtain ⟨X1, hX1⟩ : ∃ a, a = cornX x k := ⟨_, rfl⟩
  obtain ⟨Y1, hY1⟩ : ∃ a, a = cornY y k := ⟨_, rfl⟩
  obtain ⟨X2, hX2⟩ : ∃ a, a = cornX x (k + 1) := ⟨_, rfl⟩
  obtain ⟨Y2, hY2⟩ : ∃ a, a = cornY y (k + 1) := ⟨_, rfl⟩
  have bX1 := cornX_bd k x1 x2
  have bX2 := cornX_bd (k + 1) x1 x2
  have bY1 := cornY_bd k y1 y2
  have bY2 := cornY_bd (k + 1) y1 y2
  rw [← hX1] at bX1
  rw [← hX2] at bX2
  rw [← hY1] at bY1
  rw [← hY2] at bY2
  obtain ⟨V0, hV0⟩ : ∃ a, a = valB v (2 * x + 1) (2 * y + 1) := ⟨_, rfl⟩
  obtain ⟨V1, hV1⟩ : ∃ a, a = valB v X1 Y1 := ⟨_, rfl⟩
  obtain ⟨V2, hV2⟩ : ∃ a, a = valB v X2 Y2 := ⟨_, rfl⟩
  have b0 := valB_bd (v := v) (x := 2 * x + 1) (y := 2 * y + 1) (M := 4000000) (by omega) (by omega) (by omega) (by omega)
  have b1 := valB_bd (v := v) (x := X1) (y := Y1) (M := 4000000) (by omega) (by omega) (by omega) (by omega)
  have b2 := valB_bd (v := v) (x := X2) (y := Y2) (M := 4000000) (by omega) (by omega) (by omega) (by omega)
  rw [← hV0] at b0
  rw [← hV1] at b1
  rw [← hV2] at b2
  simp only [Int.reduceMul] at b0 b1 b2
  have HS : Hid (anyB v c x y k ↔ (c < V0 ∨ c < V1 ∨ c < V2)) := Lib.hid (by rw [hV0, hV1, hV2, hX1, hX2, hY1, hY2]; exact Iff.rfl)
  have HX1 := Lib.hid hX1
  have HX2 := Lib.hid hX2
  have HY1 := Lib.hid hY1
  have HY2 := Lib.hid hY2
  have HV0 := Lib.hid hV0
  have HV1 := Lib.hid hV1
  have HV2 := Lib.hid hV2
  clear hX1 hX2 hY1 hY2 hV0 hV1 hV2
  go_enter Tryd.func19, Tryd.ntmps19
  go_wp2_with fail
  refine (cornersOf_any x y k _ x1 x2 y1 y2 k1 k2).mono ?_
  rintro e w1 ⟨⟨g, rfl, hg⟩, hb1⟩
  rw [← HX1.out, ← HX2.out, ← HY1.out, ← HY2.out] at hg
  have kl := blk_below (boxes_l w v c x y k) hb1 (blk_lt (boxes_l w v c x y k))
  have l0 := cell_of_blk kl 0
  have l1 := cell_of_blk kl 1
  have p0 := cell_of_blk hg 0
  have p1 := cell_of_blk hg 1
  have p2 := cell_of_blk hg 2
  have p3 := cell_of_blk hg 3
  have p4 := cell_of_blk hg 4
  have p5 := cell_of_blk hg 5
  simp only [List.getElem?_toArray, List.getElem?_cons_zero, List.getElem?_cons_succ] at l0 l1 p0 p1 p2 p3 p4 p5
  have hw1 : Below w.heap.size w w1 := stay_b (boxes_below w v c x y k) hb1
  clear kl hb1 hg
  go_wp2
  go_loopw [6] (fun i wr => ∃ n : Nat, n ≤ 3 ∧ i = .int .i64 n ∧ (0 < n → V0 ≤ c) ∧ (1 < n → V1 ≤ c) ∧ (2 < n → V2 ≤ c) ∧ Below w1.heap.size w1 wr) (fun i _ => 3 - (intOf i).toNat)
  case atStart => exact ⟨0, by omega, rfl, by omega, by omega, by omega, Below.refl _ _⟩
  case round =>
    obtain ⟨n, hn, rfl, g0, g1, g2, hbel⟩ := hrel
    have q0 := stay_c l0 hbel (Nat.le_refl _)
    have q1 := stay_c l1 hbel (Nat.le_refl _)
    have r0 := stay_c p0 hbel (Nat.le_refl _)
    have r1 := stay_c p1 hbel (Nat.le_refl _)
    have r2 := stay_c p2 hbel (Nat.le_refl _)
    have r3 := stay_c p3 hbel (Nat.le_refl _)
    have r4 := stay_c p4 hbel (Nat.le_refl _)
    have r5 := stay_c p5 hbel (Nat.le_refl _)
    have hend : Below w.heap.size w wr := hw1.trans (hbel.mono hw1.size)
    have bel0 : Below wr.heap.size wr wr.drew := (Below.refl _ _).drew
    have hn4 : n = 0 ∨ n = 1 ∨ n = 2 ∨ n = 3 := by omega
    rcases hn4 with rfl | rfl | rfl | rfl
    · by_cases hlt : c < V0
      · have HL : Hid (sideOfB v c x y k = 1) := Lib.hid (by unfold sideOfB; rw [if_pos (HS.out.2 (by omega))])
        go_wp2_with fail
        go_region_held3 (fun w' => w'.cell? ⟨w.heap.size, 0, none⟩ = some (.int .i64 v) ∧ w'.cell? ⟨w.heap.size, 1, none⟩ = some (.int .i64 c) ∧ w'.cell? ⟨g, 0, none⟩ = some (.int .i64 (2 * x + 1)) ∧ w'.cell? ⟨g, 1, none⟩ = some (.int .i64 (2 * y + 1)) ∧ Below wr.heap.size wr w')
          (first
            | go_keep
            | (go_split_ands
               exact ⟨stay_c ‹_› hbc (Nat.le_refl _), stay_c ‹_› hbc (Nat.le_refl _), stay_c ‹_› hbc (Nat.le_refl _), stay_c ‹_› hbc (Nat.le_refl _), stay_b ‹_› hbc⟩))
          ((with_reducible refine (valueOf_any v (2 * x + 1) (2 * y + 1) _ (by omega) (by omega) (by omega) (by omega)).mono ?_; rintro e wc ⟨he, hbc⟩; rw [← HV0.out] at he; subst he))
        rename_i hH
        obtain ⟨_, _, _, _, bel9⟩ := hH
        go_wp2
        go_ret
        exact ⟨by rw [HL.out]; rfl, stay_b hend bel9⟩
      · have G0 := Lib.hid g0
        have G1 := Lib.hid g1
        have G2 := Lib.hid g2
        clear g0 g1 g2
        go_wp2_with fail
        go_region_held3 (fun w' => w'.cell? ⟨w.heap.size, 0, none⟩ = some (.int .i64 v) ∧ w'.cell? ⟨w.heap.size, 1, none⟩ = some (.int .i64 c) ∧ w'.cell? ⟨g, 0, none⟩ = some (.int .i64 (2 * x + 1)) ∧ w'.cell? ⟨g, 1, none⟩ = some (.int .i64 (2 * y + 1)) ∧ Below wr.heap.size wr w')
          (first
            | go_keep
            | (go_split_ands
               exact ⟨stay_c ‹_› hbc (Nat.le_refl _), stay_c ‹_› hbc (Nat.le_refl _), stay_c ‹_› hbc (Nat.le_refl _), stay_c ‹_› hbc (Nat.le_refl _), stay_b ‹_› hbc⟩))
          ((with_reducible refine (valueOf_any v (2 * x + 1) (2 * y + 1) _ (by omega) (by omega) (by omega) (by omega)).mono ?_; rintro e wc ⟨he, hbc⟩; rw [← HV0.out] at he; subst he))
        rename_i hH
        obtain ⟨_, _, _, _, bel9⟩ := hH
        go_wp2
        go_roundw
        case rel => exact ⟨1, by omega, rfl, by have := G0.out; omega, by have := G1.out; omega, by have := G2.out; omega, hbel.trans (bel9.mono hbel.size)⟩
        case measure => simp [intOf]
    · by_cases hlt : c < V1
      · have HL : Hid (sideOfB v c x y k = 1) := Lib.hid (by unfold sideOfB; rw [if_pos (HS.out.2 (by omega))])
        go_wp2_with fail
        go_region_held3 (fun w' => w'.cell? ⟨w.heap.size, 0, none⟩ = some (.int .i64 v) ∧ w'.cell? ⟨w.heap.size, 1, none⟩ = some (.int .i64 c) ∧ w'.cell? ⟨g, 2, none⟩ = some (.int .i64 X1) ∧ w'.cell? ⟨g, 3, none⟩ = some (.int .i64 Y1) ∧ Below wr.heap.size wr w')
          (first
            | go_keep
            | (go_split_ands
               exact ⟨stay_c ‹_› hbc (Nat.le_refl _), stay_c ‹_› hbc (Nat.le_refl _), stay_c ‹_› hbc (Nat.le_refl _), stay_c ‹_› hbc (Nat.le_refl _), stay_b ‹_› hbc⟩))
          ((with_reducible refine (valueOf_any v X1 Y1 _ (by omega) (by omega) (by omega) (by omega)).mono ?_; rintro e wc ⟨he, hbc⟩; rw [← HV1.out] at he; subst he))
        rename_i hH
        obtain ⟨_, _, _, _, bel9⟩ := hH
        go_wp2
        go_ret
        exact ⟨by rw [HL.out]; rfl, stay_b hend bel9⟩
      · have G0 := Lib.hid g0
        have G1 := Lib.hid g1
        have G2 := Lib.hid g2
        clear g0 g1 g2
        go_wp2_with fail
        go_region_held3 (fun w' => w'.cell? ⟨w.heap.size, 0, none⟩ = some (.int .i64 v) ∧ w'.cell? ⟨w.heap.size, 1, none⟩ = some (.int .i64 c) ∧ w'.cell? ⟨g, 2, none⟩ = some (.int .i64 X1) ∧ w'.cell? ⟨g, 3, none⟩ = some (.int .i64 Y1) ∧ Below wr.heap.size wr w')
          (first
            | go_keep
            | (go_split_ands
               exact ⟨stay_c ‹_› hbc (Nat.le_refl _), stay_c ‹_› hbc (Nat.le_refl _), stay_c ‹_› hbc (Nat.le_refl _), stay_c ‹_› hbc (Nat.le_refl _), stay_b ‹_› hbc⟩))
          ((with_reducible refine (valueOf_any v X1 Y1 _ (by omega) (by omega) (by omega) (by omega)).mono ?_; rintro e wc ⟨he, hbc⟩; rw [← HV1.out] at he; subst he))
        rename_i hH
        obtain ⟨_, _, _, _, bel9⟩ := hH
        go_wp2
        go_roundw
        case rel => exact ⟨2, by omega, rfl, by have := G0.out; omega, by have := G1.out; omega, by have := G2.out; omega, hbel.trans (bel9.mono hbel.size)⟩
        case measure => simp [intOf]
    · by_cases hlt : c < V2
      · have HL : Hid (sideOfB v c x y k = 1) := Lib.hid (by unfold sideOfB; rw [if_pos (HS.out.2 (by omega))])
        go_wp2_with fail
        go_region_held3 (fun w' => w'.cell? ⟨w.heap.size, 0, none⟩ = some (.int .i64 v) ∧ w'.cell? ⟨w.heap.size, 1, none⟩ = some (.int .i64 c) ∧ w'.cell? ⟨g, 4, none⟩ = some (.int .i64 X2) ∧ w'.cell? ⟨g, 5, none⟩ = some (.int .i64 Y2) ∧ Below wr.heap.size wr w')
          (first
            | go_keep
            | (go_split_ands
               exact ⟨stay_c ‹_› hbc (Nat.le_refl _), stay_c ‹_› hbc (Nat.le_refl _), stay_c ‹_› hbc (Nat.le_refl _), stay_c ‹_› hbc (Nat.le_refl _), stay_b ‹_› hbc⟩))
          ((with_reducible refine (valueOf_any v X2 Y2 _ (by omega) (by omega) (by omega) (by omega)).mono ?_; rintro e wc ⟨he, hbc⟩; rw [← HV2.out] at he; subst he))
        rename_i hH
        obtain ⟨_, _, _, _, bel9⟩ := hH
        go_wp2
        go_ret
        exact ⟨by rw [HL.out]; rfl, stay_b hend bel9⟩
      · have G0 := Lib.hid g0
        have G1 := Lib.hid g1
        have G2 := Lib.hid g2
        clear g0 g1 g2
        go_wp2_with fail
        go_region_held3 (fun w' => w'.cell? ⟨w.heap.size, 0, none⟩ = some (.int .i64 v) ∧ w'.cell? ⟨w.heap.size, 1, none⟩ = some (.int .i64 c) ∧ w'.cell? ⟨g, 4, none⟩ = some (.int .i64 X2) ∧ w'.cell? ⟨g, 5, none⟩ = some (.int .i64 Y2) ∧ Below wr.heap.size wr w')
          (first
            | go_keep
            | (go_split_ands
               exact ⟨stay_c ‹_› hbc (Nat.le_refl _), stay_c ‹_› hbc (Nat.le_refl _), stay_c ‹_› hbc (Nat.le_refl _), stay_c ‹_› hbc (Nat.le_refl _), stay_b ‹_› hbc⟩))
          ((with_reducible refine (valueOf_any v X2 Y2 _ (by omega) (by omega) (by omega) (by omega)).mono ?_; rintro e wc ⟨he, hbc⟩; rw [← HV2.out] at he; subst he))
        rename_i hH
        obtain ⟨_, _, _, _, bel9⟩ := hH
        go_wp2
        go_roundw
        case rel => exact ⟨3, by omega, rfl, by have := G0.out; omega, by have := G1.out; omega, by have := G2.out; omega, hbel.trans (bel9.mono hbel.size)⟩
        case measure => simp [intOf]
    · have HL : Hid (sideOfB v c x y k = -1) := Lib.hid (by unfold sideOfB; rw [if_neg (fun h => by have := HS.out.1 h; omega)])
      clear g0 g1 g2
      go_wp2
      go_ret
      exact ⟨by rw [HL.out]; rfl, hend⟩
end Go.Proofs.YthfhkmgegkhljaaDoor
