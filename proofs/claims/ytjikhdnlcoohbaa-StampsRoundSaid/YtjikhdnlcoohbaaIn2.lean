/- slices.Insert of one number. -/
import Derived.Test.YtjikhdnlcoohbaaIn1
namespace Go.Proofs.Ytjikhdnlcoohbaa
set_option linter.unusedSimpArgs false
set_option linter.unusedVariables false
open Go.RowKit St

theorem vis_at {o : List Int} {j : Nat} {y : Int} (h : o[j]? = some y) : (vis o)[j]? = some (Value.int .i64 y) := by simp [h]
theorem ins_fill {o : List Int} {n i : Nat} {z : Int} {cur c1 c2 : Array Value} (hl : o.length = n) (hi : i ≤ n) (hs : n + 1 ≤ cur.size)
    (h0 : ∀ (j : Nat) (y : Int), j < i → o[j]? = some y → cur[j]? = some (Value.int .i64 y))
    (h1 : ∀ j, j < cur.size → c1[j]? = if 0 + (i + 1) ≤ j ∧ j < 0 + (i + 1) + ((vis o).drop i).length then ((vis o).drop i)[j - (0 + (i + 1))]? else cur[j]?)
    (h2 : ∀ j, j < cur.size → c2[j]? = if 0 + i ≤ j ∧ j < 0 + i + [Value.int .i64 z].length then [Value.int .i64 z][j - (0 + i)]? else c1[j]?) :
    ∀ (j : Nat) (y : Int), (o.insertIdx i z)[j]? = some y → c2[j]? = some (Value.int .i64 y) := by
  intro j y hy
  have hj : j < n + 1 := by
    have := (List.getElem?_eq_some_iff.1 hy).1
    rw [List.length_insertIdx_of_le_length (by omega), hl] at this
    exact this
  rw [ins_at hl hi] at hy
  rw [h2 j (by omega)]
  by_cases a : j = i
  · subst a
    rw [if_neg (by omega), if_pos rfl] at hy
    rw [if_pos (by simp)]
    simp at hy
    simp [hy]
  · rw [if_neg (by simp; omega), h1 j (by omega)]
    by_cases b : j < i
    · rw [if_pos b] at hy
      rw [if_neg (by omega)]
      exact h0 j y b hy
    · rw [if_neg b, if_neg a] at hy
      rw [if_pos (by simp [hl]; omega), List.getElem?_drop, show i + (j - (0 + (i + 1))) = j - 1 by omega]
      exact vis_at hy
theorem ins_fill2 {o : List Int} {n i : Nat} {z : Int} {cur c1 c2 : Array Value} (hl : o.length = n) (hi : i ≤ n) (hs : n + 1 ≤ cur.size)
    (h0 : ∀ (j : Nat) (y : Int), j < i → o[j]? = some y → cur[j]? = some (Value.int .i64 y))
    (h1 : ∀ j, j < cur.size → c1[j]? = if i ≤ j ∧ j < i + [Value.int .i64 z].length then [Value.int .i64 z][j - i]? else cur[j]?)
    (h2 : ∀ j, j < cur.size → c2[j]? = if i + 1 ≤ j ∧ j < i + 1 + ((vis o).drop i).length then ((vis o).drop i)[j - (i + 1)]? else c1[j]?) :
    ∀ (j : Nat) (y : Int), (o.insertIdx i z)[j]? = some y → c2[j]? = some (Value.int .i64 y) := by
  intro j y hy
  have hj : j < n + 1 := by
    have := (List.getElem?_eq_some_iff.1 hy).1
    rw [List.length_insertIdx_of_le_length (by omega), hl] at this
    exact this
  rw [ins_at hl hi] at hy
  rw [h2 j (by omega)]
  by_cases b : j < i
  · rw [if_pos b] at hy
    rw [if_neg (by omega), h1 j (by omega), if_neg (by omega)]
    exact h0 j y b hy
  · by_cases a : j = i
    · subst a
      rw [if_neg (by omega), if_pos rfl] at hy
      rw [if_neg (by omega), h1 j (by omega), if_pos (by simp)]
      simp at hy
      simp [hy]
    · rw [if_neg b, if_neg a] at hy
      rw [if_pos (by simp [hl]; omega), List.getElem?_drop, show i + (j - (i + 1)) = j - 1 by omega]
      exact vis_at hy
set_option maxRecDepth 100000 in
set_option maxHeartbeats 1600000 in
theorem insert_any (B g n c i vb : Nat) (o : List Int) (z : Int) (w : World) (h : IRow w g n c o) (hv : w.heap[vb]? = some (.cells #[.int .i64 z] 3 (0, 0))) (hne : vb ≠ g) (hi : i ≤ n) (hn0 : 0 < n) (hn : n ≤ 100) (hB : B ≤ g) :
    Calls Try.prog 51 #[.slice (some ⟨g, 0, none⟩) n c, .int .i64 i, .slice (some ⟨vb, 0, none⟩) 1 1] w fun e w' => ∃ g' c', e = .returned (.slice (some ⟨g', 0, none⟩) (n + 1) c') ∧ B ≤ g' ∧ IRow w' g' (n + 1) c' (o.insertIdx i z) ∧ Below B w w' := by
  have hrd := h.rd
  obtain ⟨hl, hnc, hcm, cur, hb, hs, ht⟩ := h
  have hlt := blk_lt hb
  have hc63 : c ≤ 9223372036854775807 := by unfold maxLen at hcm; omega
  have hcs : ∀ j v, (vis o)[j]? = some v → w.cell? ⟨g, 0 + j, none⟩ = some v := by
    obtain ⟨b, off, e, _, hc⟩ := hrd.2 hn0
    cases e
    exact hc
  have hvs : ∀ j v, [Value.int .i64 z][j]? = some v → w.cell? ⟨vb, 0 + j, none⟩ = some v := by
    intro j v hj
    rw [Nat.zero_add, cell_of_blk hv j]
    simpa using hj
  have hvl : (vis o).length = n := by simp [hl]
  have h1c : ∀ v ∈ vis o, v.oneCell' = true := by
    intro u hu
    obtain ⟨y, _, rfl⟩ := List.mem_map.1 hu
    rfl
  have h1v : ∀ v ∈ [Value.int .i64 z], v.oneCell' = true := by
    intro u hu
    simp at hu
    subst hu
    rfl
  have hll : (o.insertIdx i z).length = n + 1 := by rw [List.length_insertIdx_of_le_length (by omega), hl]
  have hcur : ∀ (j : Nat) (y : Int), o[j]? = some y → cur[j]? = some (Value.int .i64 y) := by
    intro j y hy
    have := hcs j _ (vis_at hy)
    rw [Nat.zero_add, cell_of_blk hb j] at this
    exact this
  have hsome : ∀ j, j < c → (w.cell? ⟨g, 0 + j, none⟩).isSome = true := by
    intro j hj
    rw [Nat.zero_add, cell_of_blk hb j, Array.getElem?_eq_getElem (by omega)]
    rfl
  have hfz : ∀ j, w.frozen? ⟨g, 0 + j, none⟩ = false := fun j => frozen_of_blk hb _
  by_cases hroom : n + 1 ≤ c
  · rcases Nat.lt_or_ge i n with hin | hin
    · refine (Any2.slices_Insert_int_shift insA g 0 n c i vb 0 1 1 (vis o) [.int .i64 z] w hin (by decide) hroom hc63 hne hvl rfl hcs (fun j hj => hsome j (by omega)) (fun j _ => hfz j) hvs h1c h1v 3 3 1 c (by simp [World.shape?, hv]) (by simp [World.shape?, hb, hs]) (by omega) (frozen_of_blk hv _) (frozen_of_blk hv _)).mono ?_
      rintro e w' ⟨rfl, rfl⟩
      obtain ⟨c1, b1, s1, f1⟩ := blk_setCells ((vis o).drop i) (0 + (i + 1)) w.drew cur hb
      obtain ⟨c2, b2, s2, f2⟩ := blk_setCells [.int .i64 z] (0 + i) _ c1 b1
      refine ⟨g, c, rfl, hB, own_irow hll hroom hcm b2 (by omega) ?_, below_setC hB _ _ _ (below_setC hB _ _ _ (Below.refl _ _).drew)⟩
      intro j y hy
      rw [cell_of_blk b2 j]
      exact ins_fill hl hi (by omega) (fun j y _ => hcur j y) f1 (fun j hj => f2 j (by omega)) j y hy
    · obtain rfl : i = n := by omega
      refine (Any2.slices_Insert_int_end_room insA g 0 i c vb 0 1 1 [.int .i64 z] w (by decide) hroom hc63 rfl (fun j hj => by rw [Nat.add_assoc]; exact hsome _ (by omega)) (fun j _ => frozen_of_blk hb _) hvs h1v).mono ?_
      rintro e w' ⟨rfl, rfl⟩
      obtain ⟨c2, b2, s2, f2⟩ := blk_setCells [.int .i64 z] (0 + i) w cur hb
      refine ⟨g, c, rfl, hB, own_irow hll hroom hcm b2 (by omega) ?_, below_setC hB _ _ _ (Below.refl _ _)⟩
      intro j y hy
      rw [cell_of_blk b2 j]
      exact ins_fill (c1 := cur) hl hi (by omega) (fun j y _ => hcur j y) (fun j hj => by rw [if_neg]; simp [hl]) (fun j hj => f2 j (by omega)) j y hy
  · have hg1 : n + 1 ≤ grownCap w (n + 1) c 3 := grownCap_ge w (n + 1) c 3
    have hg2 : grownCap w (n + 1) c 3 ≤ maxLen := grownCap_le_maxLen w (n + 1) c 3 (by unfold maxLen; omega)
    rcases Nat.lt_or_ge i n with hin | hin
    · refine (Any2.slices_Insert_int_grow insA g 0 n c i vb 0 1 1 (vis o) [.int .i64 z] w hin (by decide) hnc (by omega) (by omega) hvl rfl hcs hvs h1c h1v).mono ?_
      rintro e w' ⟨rfl, rfl⟩
      simp only [show insA_ren.t 3 = 3 from rfl]
      generalize grownCap w (n + 1) c 3 = cap at hg1 hg2 ⊢
      have hz : (Value.int .i64 0).cells.size = 1 := rfl
      obtain ⟨c0, hc0⟩ : ∃ c0, c0 = ((vis o).take i).toArray ++ Builtin.zeroCells (Value.int .i64 0).cells (n + 1 - i) ++ Builtin.zeroCells (Value.int .i64 0).cells (cap - (n + 1)) := ⟨_, rfl⟩
      rw [← hc0]
      have hsz : c0.size = cap := by
        rw [hc0]
        simp only [Array.size_append, size_zeroCells, List.size_toArray, hz, List.length_take, hvl]
        omega
      obtain ⟨c1, b1, s1, f1⟩ := blk_setCells [.int .i64 z] i (w.alloc (.cells c0 3)).drew c0 (new_blk (W := w) _ rfl)
      obtain ⟨c2, b2, s2, f2⟩ := blk_setCells ((vis o).drop i) (i + 1) ((w.alloc (.cells c0 3)).drew.setCells w.heap.size i [.int .i64 z]).drew c1 b1
      refine ⟨w.heap.size, cap, rfl, by omega, own_irow hll hg1 hg2 b2 (by omega) ?_, below_setC (by omega) _ _ _ (below_setC (by omega) _ _ _ ((Below.refl B w).alloc (by omega) _).drew).drew⟩
      intro j y hy
      rw [cell_of_blk b2 j]
      refine ins_fill2 (cur := c0) hl hi (by omega) (fun j y hj hy => ?_) f1 (fun j hj => f2 j (by omega)) j y hy
      rw [hc0, Array.append_assoc, Array.getElem?_append_left (by simp [hl]; omega), List.getElem?_toArray, List.getElem?_take_of_lt hj]
      exact vis_at hy
    · obtain rfl : i = n := by omega
      refine (Any2.slices_Insert_int_end_grow insA (some ⟨g, 0, none⟩) i c vb 0 1 1 (vis o) [.int .i64 z] w (by decide) hnc (by omega) (by omega) hvl rfl (fun h => by cases h) (fun a ha j v hj => by cases ha; rw [addr_add]; exact hcs j v hj) hvs h1v).mono ?_
      rintro e w' ⟨rfl, rfl⟩
      simp only [show insA_ren.t 3 = 3 from rfl]
      generalize grownCap w (i + 1) c 3 = cap at hg1 hg2 ⊢
      have hz : (Value.int .i64 0).cells.size = 1 := rfl
      obtain ⟨c0, hc0⟩ : ∃ c0, c0 = (vis o ++ [Value.int .i64 z]).toArray ++ Builtin.zeroCells (Value.int .i64 0).cells (cap - (i + 1)) := ⟨_, rfl⟩
      rw [← hc0]
      have hsz : c0.size = cap := by
        rw [hc0]
        simp only [Array.size_append, size_zeroCells, List.size_toArray, hz, List.length_append, hvl, List.length_singleton]
        omega
      have b2 : (w.drew.alloc (.cells c0 3)).heap[w.heap.size]? = some (.cells c0 3 (0, 0)) := new_blk (W := w.drew) _ rfl
      refine ⟨w.heap.size, cap, rfl, by omega, own_irow hll hg1 hg2 b2 hsz ?_, ((Below.refl B w).drew).alloc (by show B ≤ w.heap.size; omega) _⟩
      intro j y hy
      have hj : j < i + 1 := by
        have := (List.getElem?_eq_some_iff.1 hy).1
        rw [hll] at this
        exact this
      rw [ins_at hl hi] at hy
      rw [cell_of_blk b2 j, hc0, Array.getElem?_append_left (by simp [hl]; omega), List.getElem?_toArray]
      by_cases a : j = i
      · subst a
        rw [if_neg (by omega), if_pos rfl] at hy
        rw [List.getElem?_append_right (by omega), hvl]
        simp at hy
        simp [hy]
      · rw [if_pos (by omega)] at hy
        rw [List.getElem?_append_left (by omega)]
        exact vis_at hy
end Go.Proofs.Ytjikhdnlcoohbaa
