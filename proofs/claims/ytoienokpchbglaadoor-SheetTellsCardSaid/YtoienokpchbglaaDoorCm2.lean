/- Comparing edges, triangles. Printed by gen_cm2.py. -/
import Derived.Test.YtoienokpchbglaaDoorNr
namespace Go.Proofs.YtoienokpchbglaaDoor
set_option linter.unusedSimpArgs false
set_option linter.unusedVariables false
open Go.RowKit

set_option maxRecDepth 100000 in
set_option maxHeartbeats 6400000 in
theorem cmpEdge_any (a b c d a1 b1 c1 d1 : Int) (w : World) :
    Calls Tryd.prog 60 #[.agg #[.int .i64 a, .int .i64 b, .int .i64 c, .int .i64 d], .agg #[.int .i64 a1, .int .i64 b1, .int .i64 c1, .int .i64 d1]] w fun e w' => e = .returned (.int .i64 (cmpE (a, b, c, d) (a1, b1, c1, d1))) ∧ Gro w w' := by
  have k0 := heap_alloc_new w (.cells #[.int .i64 a, .int .i64 b, .int .i64 c, .int .i64 d] 86)
  have k0' := blk_alloc k0 (.cells #[.int .i64 a1, .int .i64 b1, .int .i64 c1, .int .i64 d1] 86)
  have k1 := heap_alloc_new (w.alloc (.cells #[.int .i64 a, .int .i64 b, .int .i64 c, .int .i64 d] 86)) (.cells #[.int .i64 a1, .int .i64 b1, .int .i64 c1, .int .i64 d1] 86)
  have hg : Gro w ((w.alloc (.cells #[.int .i64 a, .int .i64 b, .int .i64 c, .int .i64 d] 86)).alloc (.cells #[.int .i64 a1, .int .i64 b1, .int .i64 c1, .int .i64 d1] 86)) := ((Gro.refl w).alloc _).alloc _
  have hz : (w.alloc (.cells #[.int .i64 a, .int .i64 b, .int .i64 c, .int .i64 d] 86)).heap.size = w.heap.size + 1 := by simp
  rw [hz] at k1
  have cO := fun (w1 : World) => or_any w1.heap.size 2 2 [cmpP a b a1 b1, cmpP c d c1 d1] (w1.alloc (.cells #[.int .i64 (cmpP a b a1 b1), .int .i64 (cmpP c d c1 d1)] 3)) (lit_rd w1 [cmpP a b a1 b1, cmpP c d c1 d1] 2 rfl) (by decide)
  rw [or2] at cO
  have hres : orI (cmpP a b a1 b1) (cmpP c d c1 d1) = cmpE (a, b, c, d) (a1, b1, c1, d1) := rfl
  rw [hres] at cO
  obtain ⟨R, hR⟩ : ∃ R, R = cmpE (a, b, c, d) (a1, b1, c1, d1) := ⟨_, rfl⟩
  rw [← hR] at cO ⊢
  have fc0 := fun (w1 : World) => cmpPoint_any a b a1 b1 w1
  have fc1 := fun (w1 : World) => cmpPoint_any c d c1 d1 w1
  obtain ⟨x, hx⟩ : ∃ x, x = cmpP a b a1 b1 := ⟨_, rfl⟩
  rw [← hx] at fc0
  obtain ⟨y, hy⟩ : ∃ x, x = cmpP c d c1 d1 := ⟨_, rfl⟩
  rw [← hy] at fc1
  simp only [← hx, ← hy] at cO
  have CO := Lib.hid cO
  have C0 := Lib.hid fc0
  have C1 := Lib.hid fc1
  clear cO fc0 hx fc1 hy hR hres hz
  go_enter Tryd.func60, Tryd.ntmps60
  go_upto_region 1 with fail
  generalize (w.alloc (.cells #[.int .i64 a, .int .i64 b, .int .i64 c, .int .i64 d] 86)).alloc (.cells #[.int .i64 a1, .int .i64 b1, .int .i64 c1, .int .i64 d1] 86) = w2 at k0' k1 hg ⊢
  have q00 := cell_of_blk k0' 0
  have q01 := cell_of_blk k0' 1
  have q02 := cell_of_blk k0' 2
  have q03 := cell_of_blk k0' 3
  have q10 := cell_of_blk k1 0
  have q11 := cell_of_blk k1 1
  have q12 := cell_of_blk k1 2
  have q13 := cell_of_blk k1 3
  simp only [List.getElem?_toArray, List.getElem?_cons_zero, List.getElem?_cons_succ] at q00 q01 q02 q03 q10 q11 q12 q13
  have hS : w2.drew.cell? ⟨w.heap.size, 0, none⟩ = some (.int .i64 a) ∧ w2.drew.cell? ⟨w.heap.size, 1, none⟩ = some (.int .i64 b) ∧ w2.drew.cell? ⟨w.heap.size, 2, none⟩ = some (.int .i64 c) ∧ w2.drew.cell? ⟨w.heap.size, 3, none⟩ = some (.int .i64 d) ∧ w2.drew.cell? ⟨w.heap.size + 1, 0, none⟩ = some (.int .i64 a1) ∧ w2.drew.cell? ⟨w.heap.size + 1, 1, none⟩ = some (.int .i64 b1) ∧ w2.drew.cell? ⟨w.heap.size + 1, 2, none⟩ = some (.int .i64 c1) ∧ w2.drew.cell? ⟨w.heap.size + 1, 3, none⟩ = some (.int .i64 d1) ∧ Gro w w2.drew := ⟨q00, q01, q02, q03, q10, q11, q12, q13, hg.drew⟩
  clear k0 k0' k1 q00 q01 q02 q03 q10 q11 q12 q13 hg
  go_region_held3 (fun w' => w'.cell? ⟨w.heap.size, 0, none⟩ = some (.int .i64 a) ∧ w'.cell? ⟨w.heap.size, 1, none⟩ = some (.int .i64 b) ∧ w'.cell? ⟨w.heap.size, 2, none⟩ = some (.int .i64 c) ∧ w'.cell? ⟨w.heap.size, 3, none⟩ = some (.int .i64 d) ∧ w'.cell? ⟨w.heap.size + 1, 0, none⟩ = some (.int .i64 a1) ∧ w'.cell? ⟨w.heap.size + 1, 1, none⟩ = some (.int .i64 b1) ∧ w'.cell? ⟨w.heap.size + 1, 2, none⟩ = some (.int .i64 c1) ∧ w'.cell? ⟨w.heap.size + 1, 3, none⟩ = some (.int .i64 d1) ∧ Gro w w')
    (first
      | with_reducible exact hS
      | with_reducible assumption
      | (go_split_ands; exact ⟨al_c ‹_› _, al_c ‹_› _, al_c ‹_› _, al_c ‹_› _, al_c ‹_› _, al_c ‹_› _, al_c ‹_› _, al_c ‹_› _, Gro.alloc ‹_› _⟩)
      | (go_split_ands; exact ⟨stay_c ‹_› hbc.below (Nat.le_refl _), stay_c ‹_› hbc.below (Nat.le_refl _), stay_c ‹_› hbc.below (Nat.le_refl _), stay_c ‹_› hbc.below (Nat.le_refl _), stay_c ‹_› hbc.below (Nat.le_refl _), stay_c ‹_› hbc.below (Nat.le_refl _), stay_c ‹_› hbc.below (Nat.le_refl _), stay_c ‹_› hbc.below (Nat.le_refl _), Gro.trans ‹_› hbc⟩))
    (first
      | ((with_reducible refine (C0.out _).mono ?_); rintro e wc ⟨he, hbc⟩; subst he)
      | ((with_reducible refine (C1.out _).mono ?_); rintro e wc ⟨he, hbc⟩; subst he)
      | ((with_reducible refine (CO.out _).mono ?_); rintro e wc ⟨he, hw⟩; subst he; subst hw))
  rename_i hH
  go_wp2
  go_ret
  exact ⟨rfl, hH.2.2.2.2.2.2.2.2⟩
set_option maxRecDepth 100000 in
set_option maxHeartbeats 6400000 in
theorem cmpTri_any (a b c a1 b1 c1 : Int) (w : World) :
    Calls Tryd.prog 92 #[.agg #[.int .i64 a, .int .i64 b, .int .i64 c], .agg #[.int .i64 a1, .int .i64 b1, .int .i64 c1]] w fun e w' => e = .returned (.int .i64 (cmpT (a, b, c) (a1, b1, c1))) ∧ Gro w w' := by
  have k0 := heap_alloc_new w (.cells #[.int .i64 a, .int .i64 b, .int .i64 c] 93)
  have k0' := blk_alloc k0 (.cells #[.int .i64 a1, .int .i64 b1, .int .i64 c1] 93)
  have k1 := heap_alloc_new (w.alloc (.cells #[.int .i64 a, .int .i64 b, .int .i64 c] 93)) (.cells #[.int .i64 a1, .int .i64 b1, .int .i64 c1] 93)
  have hg : Gro w ((w.alloc (.cells #[.int .i64 a, .int .i64 b, .int .i64 c] 93)).alloc (.cells #[.int .i64 a1, .int .i64 b1, .int .i64 c1] 93)) := ((Gro.refl w).alloc _).alloc _
  have hz : (w.alloc (.cells #[.int .i64 a, .int .i64 b, .int .i64 c] 93)).heap.size = w.heap.size + 1 := by simp
  rw [hz] at k1
  have cO := fun (w1 : World) => or_any w1.heap.size 3 3 [cmpI b b1, cmpI a a1, cmpI c c1] (w1.alloc (.cells #[.int .i64 (cmpI b b1), .int .i64 (cmpI a a1), .int .i64 (cmpI c c1)] 3)).drew (lit_rd w1 [cmpI b b1, cmpI a a1, cmpI c c1] 3 rfl).drew (by decide)
  rw [or3] at cO
  have hres : orI (cmpI b b1) (orI (cmpI a a1) (cmpI c c1)) = cmpT (a, b, c) (a1, b1, c1) := rfl
  rw [hres] at cO
  obtain ⟨R, hR⟩ : ∃ R, R = cmpT (a, b, c) (a1, b1, c1) := ⟨_, rfl⟩
  rw [← hR] at cO ⊢
  have fc0 := fun (w1 : World) => cmp_any b b1 w1
  have fc1 := fun (w1 : World) => cmp_any a a1 w1
  have fc2 := fun (w1 : World) => cmp_any c c1 w1
  obtain ⟨x, hx⟩ : ∃ x, x = cmpI b b1 := ⟨_, rfl⟩
  rw [← hx] at fc0
  obtain ⟨y, hy⟩ : ∃ x, x = cmpI a a1 := ⟨_, rfl⟩
  rw [← hy] at fc1
  obtain ⟨v, hv⟩ : ∃ x, x = cmpI c c1 := ⟨_, rfl⟩
  rw [← hv] at fc2
  simp only [← hx, ← hy, ← hv] at cO
  have CO := Lib.hid cO
  have C0 := Lib.hid fc0
  have C1 := Lib.hid fc1
  have C2 := Lib.hid fc2
  clear cO fc0 hx fc1 hy fc2 hv hR hres hz
  go_enter Tryd.func92, Tryd.ntmps92
  go_upto_region 1 with fail
  generalize (w.alloc (.cells #[.int .i64 a, .int .i64 b, .int .i64 c] 93)).alloc (.cells #[.int .i64 a1, .int .i64 b1, .int .i64 c1] 93) = w2 at k0' k1 hg ⊢
  have q00 := cell_of_blk k0' 0
  have q01 := cell_of_blk k0' 1
  have q02 := cell_of_blk k0' 2
  have q10 := cell_of_blk k1 0
  have q11 := cell_of_blk k1 1
  have q12 := cell_of_blk k1 2
  simp only [List.getElem?_toArray, List.getElem?_cons_zero, List.getElem?_cons_succ] at q00 q01 q02 q10 q11 q12
  have hS : w2.drew.cell? ⟨w.heap.size, 0, none⟩ = some (.int .i64 a) ∧ w2.drew.cell? ⟨w.heap.size, 1, none⟩ = some (.int .i64 b) ∧ w2.drew.cell? ⟨w.heap.size, 2, none⟩ = some (.int .i64 c) ∧ w2.drew.cell? ⟨w.heap.size + 1, 0, none⟩ = some (.int .i64 a1) ∧ w2.drew.cell? ⟨w.heap.size + 1, 1, none⟩ = some (.int .i64 b1) ∧ w2.drew.cell? ⟨w.heap.size + 1, 2, none⟩ = some (.int .i64 c1) ∧ Gro w w2.drew := ⟨q00, q01, q02, q10, q11, q12, hg.drew⟩
  clear k0 k0' k1 q00 q01 q02 q10 q11 q12 hg
  go_region_held3 (fun w' => w'.cell? ⟨w.heap.size, 0, none⟩ = some (.int .i64 a) ∧ w'.cell? ⟨w.heap.size, 1, none⟩ = some (.int .i64 b) ∧ w'.cell? ⟨w.heap.size, 2, none⟩ = some (.int .i64 c) ∧ w'.cell? ⟨w.heap.size + 1, 0, none⟩ = some (.int .i64 a1) ∧ w'.cell? ⟨w.heap.size + 1, 1, none⟩ = some (.int .i64 b1) ∧ w'.cell? ⟨w.heap.size + 1, 2, none⟩ = some (.int .i64 c1) ∧ Gro w w')
    (first
      | with_reducible exact hS
      | with_reducible assumption
      | (go_split_ands; exact ⟨al_c ‹_› _, al_c ‹_› _, al_c ‹_› _, al_c ‹_› _, al_c ‹_› _, al_c ‹_› _, Gro.alloc ‹_› _⟩)
      | (go_split_ands; exact ⟨stay_c ‹_› hbc.below (Nat.le_refl _), stay_c ‹_› hbc.below (Nat.le_refl _), stay_c ‹_› hbc.below (Nat.le_refl _), stay_c ‹_› hbc.below (Nat.le_refl _), stay_c ‹_› hbc.below (Nat.le_refl _), stay_c ‹_› hbc.below (Nat.le_refl _), Gro.trans ‹_› hbc⟩))
    (first
      | ((with_reducible refine (C0.out _).mono ?_); rintro e wc ⟨he, hw⟩; subst he; subst hw)
      | ((with_reducible refine (C1.out _).mono ?_); rintro e wc ⟨he, hw⟩; subst he; subst hw)
      | ((with_reducible refine (C2.out _).mono ?_); rintro e wc ⟨he, hw⟩; subst he; subst hw)
      | ((with_reducible refine (CO.out _).mono ?_); rintro e wc ⟨he, hw⟩; subst he; subst hw))
  rename_i hH
  go_wp2
  go_ret
  exact ⟨rfl, hH.2.2.2.2.2.2⟩
end Go.Proofs.YtoienokpchbglaaDoor
