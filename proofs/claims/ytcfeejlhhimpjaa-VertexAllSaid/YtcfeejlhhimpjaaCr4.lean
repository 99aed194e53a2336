/- A turned ring. -/
import Derived.Test.YtcfeejlhhimpjaaCr3
namespace Go.Proofs.Ytcfeejlhhimpjaa
set_option linter.unusedSimpArgs false
set_option linter.unusedVariables false
open Go.RowKit Vx

theorem far2 {w : World} {g b j : Nat} {u : Value} (h : w.cell? ⟨b, j, none⟩ = some u) (hne : g ≠ b) (x y : Value) : ((w.setCell ⟨g, 0, none⟩ x).setCell ⟨g, 1, none⟩ y).cell? ⟨b, j, none⟩ = some u := (World.cell?_setCell_far _ _ _ _ hne).trans ((World.cell?_setCell_far w _ _ _ hne).trans h)
set_option maxRecDepth 100000 in
set_option maxHeartbeats 3200000 in
theorem turn_any (b off n c : Nat) (xs : List Int) (b' off' c' : Nat) (ys : List Int) (k : Nat) (w : World) (h : Rd w 1 (some ⟨b, off, none⟩) n (vis xs)) (h' : Rd w 1 (some ⟨b', off', none⟩) n (vis ys)) (hn : n ≤ 100) (hnc : n ≤ c) (hcc : c ≤ maxLen) (hnc' : n ≤ c') (hcc' : c' ≤ maxLen) (hk : k < n) :
    Calls Try.prog 27 #[.agg #[.slice (some ⟨b, off, none⟩) n c, .slice (some ⟨b', off', none⟩) n c'], .int .i64 k] w fun e w' => ∃ A1 c1 A2 c2, e = .returned (.agg #[.slice A1 n c1, .slice A2 n c2]) ∧ w'.ownsRow w.heap.size 3 1 (.slice A1 n c1) n (vis (xs.drop k ++ xs.take k)) ∧ w'.ownsRow w.heap.size 3 1 (.slice A2 n c2) n (vis (ys.drop k ++ ys.take k)) ∧ Below w.heap.size w w' := by
  have H1 := Lib.hid h
  have H2 := Lib.hid h'
  clear h h'
  go_enter Try.func27, Try.ntmps27
  go_upto_region 2 with fail
  have k0 : (((w.alloc (.cells #[.slice (some ⟨b, off, none⟩) n c, .slice (some ⟨b', off', none⟩) n c'] 43)).alloc (.cells #[.int .i64 k] 3)).alloc (.cells #[.slice none 0 0, .slice none 0 0] 43)).heap[w.heap.size]? = some (.cells #[.slice (some ⟨b, off, none⟩) n c, .slice (some ⟨b', off', none⟩) n c'] 43 (0, 0)) := blk_alloc (blk_alloc (new_blk _ rfl) _) _
  have k1 : (((w.alloc (.cells #[.slice (some ⟨b, off, none⟩) n c, .slice (some ⟨b', off', none⟩) n c'] 43)).alloc (.cells #[.int .i64 k] 3)).alloc (.cells #[.slice none 0 0, .slice none 0 0] 43)).heap[w.heap.size + 1]? = some (.cells #[.int .i64 k] 3 (0, 0)) := blk_alloc (new_blk _ (by simp)) _
  have k2 : (((w.alloc (.cells #[.slice (some ⟨b, off, none⟩) n c, .slice (some ⟨b', off', none⟩) n c'] 43)).alloc (.cells #[.int .i64 k] 3)).alloc (.cells #[.slice none 0 0, .slice none 0 0] 43)).heap[w.heap.size + 1 + 1]? = some (.cells #[.slice none 0 0, .slice none 0 0] 43 (0, 0)) := new_blk _ (by simp)
  have hw0 : Below w.heap.size w (((w.alloc (.cells #[.slice (some ⟨b, off, none⟩) n c, .slice (some ⟨b', off', none⟩) n c'] 43)).alloc (.cells #[.int .i64 k] 3)).alloc (.cells #[.slice none 0 0, .slice none 0 0] 43)) := ba (ba (below_new _ _) _) _
  generalize (((w.alloc (.cells #[.slice (some ⟨b, off, none⟩) n c, .slice (some ⟨b', off', none⟩) n c'] 43)).alloc (.cells #[.int .i64 k] 3)).alloc (.cells #[.slice none 0 0, .slice none 0 0] 43)) = w0 at k0 k1 k2 hw0 ⊢
  have c0 := cell_of_blk k0 0
  have c1 := cell_of_blk k0 1
  have c2 := cell_of_blk k1 0
  simp only [List.getElem?_toArray, List.getElem?_cons_zero, List.getElem?_cons_succ] at c0 c1 c2
  have hS : w0.drew.cell? ⟨w.heap.size, 0, none⟩ = some (.slice (some ⟨b, off, none⟩) n c) ∧ w0.drew.cell? ⟨w.heap.size, 1, none⟩ = some (.slice (some ⟨b', off', none⟩) n c') ∧ w0.drew.cell? ⟨w.heap.size + 1, 0, none⟩ = some (.int .i64 k) ∧ Below w.heap.size w w0.drew := ⟨c0, c1, c2, hw0.drew⟩
  have qn : w0.drew.heap[w.heap.size + 1 + 1]? = some (.cells #[.slice none 0 0, .slice none 0 0] 43 (0, 0)) := k2
  clear c0 c1 c2 k0 k1 k2 hw0
  have hz2 : w.heap.size ≤ w.heap.size + 1 + 1 := by omega
  have hz3 : w.heap.size + 1 + 1 < w0.drew.heap.size := blk_lt qn
  have hent := turn1_enter
  have HE := Lib.hid hent
  clear hent
  go_region_held3 (fun w' => w'.cell? ⟨w.heap.size, 0, none⟩ = some (.slice (some ⟨b, off, none⟩) n c) ∧ w'.cell? ⟨w.heap.size, 1, none⟩ = some (.slice (some ⟨b', off', none⟩) n c') ∧ w'.cell? ⟨w.heap.size + 1, 0, none⟩ = some (.int .i64 k) ∧ Below w.heap.size w w')
    (first
      | with_reducible exact hS
      | (go_split_ands; exact ⟨stay_c ‹_› hbc (Nat.le_refl _), stay_c ‹_› hbc (Nat.le_refl _), stay_c ‹_› hbc (Nat.le_refl _), stay_b ‹_› hbc⟩)
      | (go_split_ands; exact ⟨far2 ‹_› (by omega) _ _, far2 ‹_› (by omega) _ _, far2 ‹_› (by omega) _ _, ((Below.setCell ‹_› hz2 _).setCell hz2 _)⟩))
    (first
      | (go_split_ands; (with_reducible refine (turn1_any b off n c xs (w.heap.size + 1) k _ (H1.out.below (by assumption)) hn hnc hcc hk (by assumption)).mono ?_); rintro e wA ⟨v1, he, hownA, hbc⟩; subst he; obtain ⟨A1, c1, hv1, _, _⟩ := own_slice hownA; subst hv1; have hbA := hbc; have qn := blk_below qn hbc (blk_lt qn); have z0 := cell_of_blk qn 0; have z1 := cell_of_blk qn 1; simp only [List.getElem?_toArray, List.getElem?_cons_zero, List.getElem?_cons_succ] at z0 z1; have zf := frozen_of_blk qn; have zl := blk_lt qn)
      | (go_split_ands; (with_reducible refine (turn1_any b' off' n c' ys (w.heap.size + 1) k _ (H2.out.below (by assumption)) hn hnc' hcc' hk (by assumption)).mono ?_); rintro e wK ⟨v2, he, hownK, hbc⟩; subst he; obtain ⟨A2, c2, hv2, _, _⟩ := own_slice hownK; subst hv2; have hbK := hbc; have qn := blk_below qn hbc (blk_lt qn); have z0 := cell_of_blk qn 0; have z1 := cell_of_blk qn 1; simp only [List.getElem?_toArray, List.getElem?_cons_zero, List.getElem?_cons_succ] at z0 z1; have zf := frozen_of_blk qn; have zl := blk_lt qn))
  · rename_i hH
    obtain ⟨_, _, _, hB⟩ := hH
    have oA := own_below hownA hbK (Nat.le_refl _)
    have oK := hownK
    have sz1 := hbA.size
    have sz2 := hbK.size
    have lA : ∀ k', (Value.slice A1 n c1).ownBlock = some k' → k' ≠ w.heap.size + 1 + 1 := fun k' hk' => by have := (oA.lt k' hk').1; omega
    have lK : ∀ k', (Value.slice A2 n c2).ownBlock = some k' → k' ≠ w.heap.size + 1 + 1 := fun k' hk' => by have := (oK.lt k' hk').1; omega
    have fA := own_mono (own_set (own_set oA lA 0 (.slice A1 n c1)) lA 1 (.slice A2 n c2)) (show w.heap.size ≤ _ by omega)
    have fK := own_mono (own_set (own_set oK lK 0 (.slice A1 n c1)) lK 1 (.slice A2 n c2)) (show w.heap.size ≤ _ by omega)
    clear lA lK oA oK hownA hownK
    go_wp2
    refine bodyPost_ret (v := .agg #[.slice A1 n c1, .slice A2 n c2]) (by simp [results, Try.results27, go_sem, z0, z1]) rfl ?_
    exact ⟨A1, c1, A2, c2, rfl, fA, fK, hB⟩
end Go.Proofs.Ytcfeejlhhimpjaa
