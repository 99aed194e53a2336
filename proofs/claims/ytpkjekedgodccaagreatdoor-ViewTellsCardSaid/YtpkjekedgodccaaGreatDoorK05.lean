/- Plain laws of sheets: triangles, edges, what can be reached, faces.. -/
import Derived.Test.YtpkjekedgodccaaGreatDoorK04
namespace Go.Proofs.YtpkjekedgodccaaGreatDoor
set_option linter.unusedSimpArgs false
set_option linter.unusedVariables false
section
open Go.RowKit
def eT (t : T3) (i : Nat) : E4 := edgeT t.1 t.2.1 t.2.2 i
def nT (t : T3) (i : Nat) : T3 := nextT t.1 t.2.1 t.2.2 i
def hT (t : T3) (e : E4) : Bool := hasE t.1 t.2.1 t.2.2 e
def K4 (t : T3) : Prop := 0 ≤ t.2.2 ∧ t.2.2 ≤ 3
theorem k4_cases {t : T3} (h : K4 t) : ∃ x y, t = (x, y, 0) ∨ t = (x, y, 1) ∨ t = (x, y, 2) ∨ t = (x, y, 3) := by
 obtain ⟨x, y, k⟩ := t
 have h1 := h.1
 have h2 := h.2
 simp only at h1 h2
 have : k = 0 ∨ k = 1 ∨ k = 2 ∨ k = 3 := by omega
 exact ⟨x, y, by rcases this with rfl | rfl | rfl | rfl <;> simp⟩
theorem i3_cases {i : Nat} (h : i < 3) : i = 0 ∨ i = 1 ∨ i = 2 := by omega
theorem edge_out (x y : Int) :
  eT (x, y, 0) 0 = (2 * x, 2 * y, 2 * x + 1, 2 * y + 1) ∧ eT (x, y, 0) 1 = (2 * x, 2 * y, 2 * x + 2, 2 * y) ∧ eT (x, y, 0) 2 = (2 * x + 1, 2 * y + 1, 2 * x + 2, 2 * y) ∧
  eT (x, y, 1) 0 = (2 * x + 1, 2 * y + 1, 2 * x + 2, 2 * y) ∧ eT (x, y, 1) 1 = (2 * x + 2, 2 * y, 2 * x + 2, 2 * y + 2) ∧ eT (x, y, 1) 2 = (2 * x + 1, 2 * y + 1, 2 * x + 2, 2 * y + 2) ∧
  eT (x, y, 2) 0 = (2 * x + 1, 2 * y + 1, 2 * x + 2, 2 * y + 2) ∧ eT (x, y, 2) 1 = (2 * x, 2 * y + 2, 2 * x + 2, 2 * y + 2) ∧ eT (x, y, 2) 2 = (2 * x, 2 * y + 2, 2 * x + 1, 2 * y + 1) ∧
  eT (x, y, 3) 0 = (2 * x, 2 * y + 2, 2 * x + 1, 2 * y + 1) ∧ eT (x, y, 3) 1 = (2 * x, 2 * y, 2 * x, 2 * y + 2) ∧ eT (x, y, 3) 2 = (2 * x, 2 * y, 2 * x + 1, 2 * y + 1) := by
 have key : ∀ (k : Int) (i : Nat) (a b c d : Int), edgeT 0 0 k i = (a, b, c, d) → eT (x, y, k) i = (2 * x + a, 2 * y + b, 2 * x + c, 2 * y + d) := by
  intro k i a b c d h
  unfold eT
  rw [edgeT_shift, h]
  simp only [shiftE, Prod.mk.injEq]
  omega
 refine ⟨?_, ?_, ?_, ?_, ?_, ?_, ?_, ?_, ?_, ?_, ?_, ?_⟩
 ·rw [key 0 0 0 0 1 1 (by decide)]; simp
 ·rw [key 0 1 0 0 2 0 (by decide)]; simp
 ·rw [key 0 2 1 1 2 0 (by decide)]; simp
 ·rw [key 1 0 1 1 2 0 (by decide)]; simp
 ·rw [key 1 1 2 0 2 2 (by decide)]; simp
 ·rw [key 1 2 1 1 2 2 (by decide)]
 ·rw [key 2 0 1 1 2 2 (by decide)]
 ·rw [key 2 1 0 2 2 2 (by decide)]; simp
 ·rw [key 2 2 0 2 1 1 (by decide)]; simp
 ·rw [key 3 0 0 2 1 1 (by decide)]; simp
 ·rw [key 3 1 0 0 0 2 (by decide)]; simp
 ·rw [key 3 2 0 0 1 1 (by decide)]; simp
theorem next_out (x y : Int) :
  nT (x, y, 0) 0 = (x, y, 3) ∧ nT (x, y, 0) 1 = (x, y - 1, 2) ∧ nT (x, y, 0) 2 = (x, y, 1) ∧
  nT (x, y, 1) 0 = (x, y, 0) ∧ nT (x, y, 1) 1 = (x + 1, y, 3) ∧ nT (x, y, 1) 2 = (x, y, 2) ∧
  nT (x, y, 2) 0 = (x, y, 1) ∧ nT (x, y, 2) 1 = (x, y + 1, 0) ∧ nT (x, y, 2) 2 = (x, y, 3) ∧
  nT (x, y, 3) 0 = (x, y, 2) ∧ nT (x, y, 3) 1 = (x - 1, y, 1) ∧ nT (x, y, 3) 2 = (x, y, 0) := by
 refine ⟨?_, ?_, ?_, ?_, ?_, ?_, ?_, ?_, ?_, ?_, ?_, ?_⟩ <;> simp [nT, nextT] <;> omega
theorem e00 (x y : Int) : eT (x, y, 0) 0 = (2 * x, 2 * y, 2 * x + 1, 2 * y + 1) := (edge_out x y).1
theorem n00 (x y : Int) : nT (x, y, 0) 0 = (x, y, 3) := (next_out x y).1
theorem e01 (x y : Int) : eT (x, y, 0) 1 = (2 * x, 2 * y, 2 * x + 2, 2 * y) := (edge_out x y).2.1
theorem n01 (x y : Int) : nT (x, y, 0) 1 = (x, y - 1, 2) := (next_out x y).2.1
theorem e02 (x y : Int) : eT (x, y, 0) 2 = (2 * x + 1, 2 * y + 1, 2 * x + 2, 2 * y) := (edge_out x y).2.2.1
theorem n02 (x y : Int) : nT (x, y, 0) 2 = (x, y, 1) := (next_out x y).2.2.1
theorem e10 (x y : Int) : eT (x, y, 1) 0 = (2 * x + 1, 2 * y + 1, 2 * x + 2, 2 * y) := (edge_out x y).2.2.2.1
theorem n10 (x y : Int) : nT (x, y, 1) 0 = (x, y, 0) := (next_out x y).2.2.2.1
theorem e11 (x y : Int) : eT (x, y, 1) 1 = (2 * x + 2, 2 * y, 2 * x + 2, 2 * y + 2) := (edge_out x y).2.2.2.2.1
theorem n11 (x y : Int) : nT (x, y, 1) 1 = (x + 1, y, 3) := (next_out x y).2.2.2.2.1
theorem e12 (x y : Int) : eT (x, y, 1) 2 = (2 * x + 1, 2 * y + 1, 2 * x + 2, 2 * y + 2) := (edge_out x y).2.2.2.2.2.1
theorem n12 (x y : Int) : nT (x, y, 1) 2 = (x, y, 2) := (next_out x y).2.2.2.2.2.1
theorem e20 (x y : Int) : eT (x, y, 2) 0 = (2 * x + 1, 2 * y + 1, 2 * x + 2, 2 * y + 2) := (edge_out x y).2.2.2.2.2.2.1
theorem n20 (x y : Int) : nT (x, y, 2) 0 = (x, y, 1) := (next_out x y).2.2.2.2.2.2.1
theorem e21 (x y : Int) : eT (x, y, 2) 1 = (2 * x, 2 * y + 2, 2 * x + 2, 2 * y + 2) := (edge_out x y).2.2.2.2.2.2.2.1
theorem n21 (x y : Int) : nT (x, y, 2) 1 = (x, y + 1, 0) := (next_out x y).2.2.2.2.2.2.2.1
theorem e22 (x y : Int) : eT (x, y, 2) 2 = (2 * x, 2 * y + 2, 2 * x + 1, 2 * y + 1) := (edge_out x y).2.2.2.2.2.2.2.2.1
theorem n22 (x y : Int) : nT (x, y, 2) 2 = (x, y, 3) := (next_out x y).2.2.2.2.2.2.2.2.1
theorem e30 (x y : Int) : eT (x, y, 3) 0 = (2 * x, 2 * y + 2, 2 * x + 1, 2 * y + 1) := (edge_out x y).2.2.2.2.2.2.2.2.2.1
theorem n30 (x y : Int) : nT (x, y, 3) 0 = (x, y, 2) := (next_out x y).2.2.2.2.2.2.2.2.2.1
theorem e31 (x y : Int) : eT (x, y, 3) 1 = (2 * x, 2 * y, 2 * x, 2 * y + 2) := (edge_out x y).2.2.2.2.2.2.2.2.2.2.1
theorem n31 (x y : Int) : nT (x, y, 3) 1 = (x - 1, y, 1) := (next_out x y).2.2.2.2.2.2.2.2.2.2.1
theorem e32 (x y : Int) : eT (x, y, 3) 2 = (2 * x, 2 * y, 2 * x + 1, 2 * y + 1) := (edge_out x y).2.2.2.2.2.2.2.2.2.2.2
theorem n32 (x y : Int) : nT (x, y, 3) 2 = (x, y, 0) := (next_out x y).2.2.2.2.2.2.2.2.2.2.2
theorem nT_k {t : T3} (h : K4 t) {i : Nat} (hi : i < 3) : K4 (nT t i) := by
 obtain ⟨x, y, ht⟩ := k4_cases h
 rcases i3_cases hi with rfl | rfl | rfl <;> rcases ht with rfl | rfl | rfl | rfl <;> simp [K4, n00, n01, n02, n10, n11, n12, n20, n21, n22, n30, n31, n32]
def bk (i : Nat) : Nat := if i = 0 then 2 else if i = 1 then 1 else 0
theorem bk_lt (i : Nat) : bk i < 3 := by unfold bk; split <;> (try split) <;> omega
theorem e_sym {t : T3} (h : K4 t) {i : Nat} (hi : i < 3) : nT (nT t i) (bk i) = t ∧ eT (nT t i) (bk i) = eT t i := by
 obtain ⟨x, y, ht⟩ := k4_cases h
 have b0 : bk 0 = 2 := rfl
 have b1 : bk 1 = 1 := rfl
 have b2 : bk 2 = 0 := rfl
 rcases i3_cases hi with rfl | rfl | rfl <;> rcases ht with rfl | rfl | rfl | rfl <;> simp [b0, b1, b2, n00, n01, n02, n10, n11, n12, n20, n21, n22, n30, n31, n32, e00, e01, e02, e10, e11, e12, e20, e21, e22, e30, e31, e32] <;> omega
theorem nT_ne {t : T3} (h : K4 t) {i : Nat} (hi : i < 3) : nT t i ≠ t := by
 obtain ⟨x, y, ht⟩ := k4_cases h
 rcases i3_cases hi with rfl | rfl | rfl <;> rcases ht with rfl | rfl | rfl | rfl <;> simp [n00, n01, n02, n10, n11, n12, n20, n21, n22, n30, n31, n32]
theorem e_inj {t : T3} (h : K4 t) {i j : Nat} (hi : i < 3) (hj : j < 3) (he : eT t i = eT t j) : i = j := by
 obtain ⟨x, y, ht⟩ := k4_cases h
 rcases i3_cases hi with rfl | rfl | rfl <;> rcases i3_cases hj with rfl | rfl | rfl <;> rcases ht with rfl | rfl | rfl | rfl <;> simp [e00, e01, e02, e10, e11, e12, e20, e21, e22, e30, e31, e32] at he ⊢ <;> omega
theorem e_two {t u : T3} (ht : K4 t) (hu : K4 u) {i j : Nat} (hi : i < 3) (hj : j < 3) (he : eT u j = eT t i) : u = t ∨ u = nT t i := by
 obtain ⟨x, y, h1⟩ := k4_cases ht
 obtain ⟨z, v, h2⟩ := k4_cases hu
 rcases i3_cases hi with rfl | rfl | rfl <;> rcases h1 with rfl | rfl | rfl | rfl <;> rcases i3_cases hj with rfl | rfl | rfl <;> rcases h2 with rfl | rfl | rfl | rfl <;> simp [e00, e01, e02, e10, e11, e12, e20, e21, e22, e30, e31, e32, n00, n01, n02, n10, n11, n12, n20, n21, n22, n30, n31, n32] at he ⊢ <;> omega
theorem hT_iff {t : T3} {e : E4} : hT t e = true ↔ ∃ i, i < 3 ∧ eT t i = e := by
 constructor
 ·intro h
  obtain ⟨i, hi, e⟩ := has_one h
  exact ⟨i, hi, e.symm⟩
 ·rintro ⟨i, hi, rfl⟩
  exact has_self _ _ _ hi
theorem hT_two {t u : T3} (ht : K4 t) (hu : K4 u) {i : Nat} (hi : i < 3) : hT u (eT t i) = true ↔ u = t ∨ u = nT t i := by
 rw [hT_iff]
 constructor
 ·rintro ⟨j, hj, e⟩
  exact e_two ht hu hi hj e
 ·rintro (rfl | rfl)
  ·exact ⟨i, hi, rfl⟩
  ·exact ⟨bk i, bk_lt i, (e_sym ht hi).2⟩
def innerB (l : List T3) (e : E4) : Bool := l.any fun t => (List.range 3).any fun i => decide (eT t i = e) && decide (nT t i ∈ l)
theorem innerB_iff {l : List T3} {e : E4} : innerB l e = true ↔ ∃ t ∈ l, ∃ i, i < 3 ∧ eT t i = e ∧ nT t i ∈ l := by
 simp [innerB, and_assoc]
theorem inner_at {l : List T3} (hl : ∀ t ∈ l, K4 t) {t : T3} (ht : K4 t) {i : Nat} (hi : i < 3) : innerB l (eT t i) = (decide (t ∈ l) && decide (nT t i ∈ l)) := by
 rw [Bool.eq_iff_iff, innerB_iff, Bool.and_eq_true, decide_eq_true_eq, decide_eq_true_eq]
 constructor
 ·rintro ⟨u, hu, j, hj, e, hn⟩
  rcases e_two ht (hl u hu) hi hj e with rfl | rfl
  ·have := e_inj ht hj hi e
   subst this
   exact ⟨hu, hn⟩
  ·refine ⟨?_, hu⟩
   have h1 := (e_sym ht hi)
   have := e_inj (nT_k ht hi) hj (bk_lt i) (e.trans h1.2.symm)
   subst this
   rw [h1.1] at hn
   exact hn
 ·rintro ⟨h1, h2⟩
  exact ⟨t, h1, i, hi, rfl, h2⟩
theorem count_two {l : List T3} (hl : ∀ t ∈ l, K4 t) (hnd : l.Nodup) (e : E4) : (l.countP (fun t => hT t e) = 2) ↔ innerB l e = true := by
 by_cases h : ∃ t ∈ l, hT t e = true
 ·obtain ⟨t, ht, he⟩ := h
  obtain ⟨i, hi, rfl⟩ := hT_iff.1 he
  rw [inner_at hl (hl t ht) hi]
  have hf : l.filter (fun u => hT u (eT t i)) = l.filter (fun u => decide (u = t) || decide (u = nT t i)) := by
   apply List.filter_congr
   intro u hu
   rw [Bool.eq_iff_iff, hT_two (hl t ht) (hl u hu) hi]
   simp
  have hne := nT_ne (hl t ht) hi
  have hperm : ∀ (l : List T3), l.Nodup → t ∈ l → (l.filter (fun u => decide (u = t) || decide (u = nT t i))).length = 1 + if nT t i ∈ l then 1 else 0 := by
   intro l
   have one : ∀ (l : List T3) (a : T3), l.Nodup → (l.filter fun u => decide (u = a)).length = if a ∈ l then 1 else 0 := by
    intro l a
    induction l with
    | nil => simp
    | cons b l ih =>
     intro hn
     rw [List.nodup_cons] at hn
     have := ih hn.2
     by_cases hb : b = a
     ·subst hb
      rw [if_neg hn.1] at this
      simp [this]
     ·have : ¬ a = b := fun e => hb e.symm
      simp [hb, this, ih hn.2]
   have split : ∀ (l : List T3), (l.filter fun u => decide (u = t) || decide (u = nT t i)).length = (l.filter fun u => decide (u = t)).length + (l.filter fun u => decide (u = nT t i)).length := by
    intro l
    induction l with
    | nil => rfl
    | cons b l ih =>
     by_cases h1 : b = t
     ·have h2 : ¬ b = nT t i := fun e => hne (by rw [← e, h1])
      simp [h1, Ne.symm hne]
      omega
     ·by_cases h2 : b = nT t i
      ·simp [h2, hne]
       omega
      ·simp [h1, h2]
       omega
   intro hn ht
   rw [split, one l t hn, one l (nT t i) hn, if_pos ht]
  rw [List.countP_eq_length_filter, hf, hperm l hnd ht]
  by_cases hn : nT t i ∈ l
  ·simp [hn, ht]
  ·simp [hn]
 ·have h0 : l.countP (fun t => hT t e) = 0 := by
   rw [List.countP_eq_zero]
   intro t ht he
   exact h ⟨t, ht, he⟩
  rw [h0]
  constructor
  ·intro h1
   omega
  ·intro h1
   obtain ⟨t, ht, i, hi, e, _⟩ := innerB_iff.1 h1
   exact absurd ⟨t, ht, hT_iff.2 ⟨i, hi, e⟩⟩ h
def bitB (m : Int) (k : Nat) : Bool := decide (m / 2 ^ k % 2 = 1)
def triAt (W i k : Nat) : T3 := (((i % W : Nat) : Int), ((i / W : Nat) : Int), (k : Int))
def cellK (W : Nat) (mask : List Int) (i k : Nat) : List T3 := ((List.range k).filter fun k => bitB (mask.getD i 0) k).map fun k => triAt W i k
def partT (W : Nat) (mask : List Int) (i : Nat) : List T3 := (List.range i).flatMap fun i => cellK W mask i 4
def trisL (W : Nat) (mask : List Int) : List T3 := partT W mask mask.length
theorem cellK_succ (W : Nat) (mask : List Int) (i k : Nat) : cellK W mask i (k + 1) = cellK W mask i k ++ if bitB (mask.getD i 0) k = true then [triAt W i k] else [] := by
 unfold cellK
 rw [List.range_succ, List.filter_append, List.map_append]
 congr 1
 by_cases h : bitB (mask.getD i 0) k = true
 ·rw [if_pos h, List.filter_cons_of_pos (by exact h)]
  rfl
 ·rw [if_neg h, List.filter_cons_of_neg (by exact h)]
  rfl
theorem partT_succ (W : Nat) (mask : List Int) (i : Nat) : partT W mask (i + 1) = partT W mask i ++ cellK W mask i 4 := by
 simp [partT, List.range_succ]
theorem cellK_mem {W : Nat} {mask : List Int} {i n : Nat} {t : T3} : t ∈ cellK W mask i n ↔ ∃ k, k < n ∧ bitB (mask.getD i 0) k = true ∧ t = triAt W i k := by
 unfold cellK
 simp only [List.mem_map, List.mem_filter, List.mem_range]
 constructor
 ·rintro ⟨k, ⟨h1, h2⟩, rfl⟩
  exact ⟨k, h1, h2, rfl⟩
 ·rintro ⟨k, h1, h2, rfl⟩
  exact ⟨k, ⟨h1, h2⟩, rfl⟩
theorem partT_mem {W : Nat} {mask : List Int} {n : Nat} {t : T3} : t ∈ partT W mask n ↔ ∃ i, i < n ∧ ∃ k, k < 4 ∧ bitB (mask.getD i 0) k = true ∧ t = triAt W i k := by
 unfold partT
 simp only [List.mem_flatMap, List.mem_range, cellK_mem]
def triLt (a b : T3) : Prop := a.2.1 < b.2.1 ∨ a.2.1 = b.2.1 ∧ (a.1 < b.1 ∨ a.1 = b.1 ∧ a.2.2 < b.2.2)
theorem triLt_irrefl (a : T3) : ¬ triLt a a := by unfold triLt; omega
theorem triLt_trans {a b c : T3} (h : triLt a b) (g : triLt b c) : triLt a c := by unfold triLt at *; omega
theorem triLt_tri (a b : T3) : triLt a b ∨ a = b ∨ triLt b a := by
 obtain ⟨a1, a2, a3⟩ := a
 obtain ⟨b1, b2, b3⟩ := b
 unfold triLt
 simp only [Prod.mk.injEq]
 omega
theorem triAt_lt {W i j k m : Nat} (hW : 0 < W) (h : i < j) : triLt (triAt W i k) (triAt W j m) := by
 unfold triLt triAt
 have h1 := Nat.div_add_mod i W
 have h2 := Nat.div_add_mod j W
 have h3 := Nat.mod_lt i hW
 have h4 := Nat.mod_lt j hW
 by_cases hd : i / W < j / W
 ·left
  simp only
  omega
 ·right
  have hle : i / W ≤ j / W := Nat.div_le_div_right (by omega)
  have he : i / W = j / W := by omega
  rw [he] at h1
  refine ⟨by simp only; omega, .inl ?_⟩
  simp only
  omega
theorem partT_sorted {W : Nat} (hW : 0 < W) (mask : List Int) (n : Nat) : (partT W mask n).Pairwise triLt := by
 unfold partT
 rw [List.pairwise_flatMap]
 constructor
 ·intro i _
  unfold cellK
  rw [List.pairwise_map]
  refine (List.pairwise_lt_range.filter _).imp ?_
  intro a b h
  refine .inr ⟨rfl, .inr ⟨rfl, ?_⟩⟩
  show ((a : Nat) : Int) < ((b : Nat) : Int)
  omega
 ·refine List.pairwise_lt_range.imp ?_
  intro i j h a ha b hb
  obtain ⟨k, _, _, rfl⟩ := cellK_mem.1 ha
  obtain ⟨m, _, _, rfl⟩ := cellK_mem.1 hb
  exact triAt_lt hW h
theorem sorted_nodup {l : List T3} (h : l.Pairwise triLt) : l.Nodup := h.imp fun {a b} h (e : a = b) => triLt_irrefl b (by rw [e] at h; exact h)
theorem trisL_in {W H : Nat} {mask : List Int} (hW : 0 < W) (hm : mask.length = W * H) {t : T3} (h : t ∈ trisL W mask) : 0 ≤ t.1 ∧ t.1 < W ∧ 0 ≤ t.2.1 ∧ t.2.1 < H ∧ K4 t := by
 obtain ⟨i, hi, k, hk, _, rfl⟩ := partT_mem.1 h
 have h3 := Nat.mod_lt i hW
 have h4 : i / W < H := by
  rw [Nat.div_lt_iff_lt_mul hW, Nat.mul_comm]
  omega
 have a1 : ∀ n : Nat, (0 : Int) ≤ (n : Int) := fun n => by omega
 have a2 : ∀ n m : Nat, n < m → (n : Int) < (m : Int) := fun n m h => by omega
 refine ⟨a1 _, a2 _ _ h3, a1 _, a2 _ _ h4, a1 _, ?_⟩
 show (k : Int) ≤ 3
 omega
theorem trisL_len (W : Nat) (mask : List Int) : (trisL W mask).length ≤ 4 * mask.length := by
 unfold trisL
 have : ∀ n, (partT W mask n).length ≤ 4 * n := by
  intro n
  induction n with
  | zero => simp [partT]
  | succ n ih =>
   rw [partT_succ, List.length_append]
   have : (cellK W mask n 4).length ≤ 4 := by
    unfold cellK
    rw [List.length_map]
    exact Nat.le_trans (List.length_filter_le _ _) (by simp)
   omega
 exact this _
def threeL (a : Int) : List Int := [a - 1, a, a + 1]
def nearL (e : E4) : List T3 := (threeL (e.1.tdiv 2)).flatMap fun x => (threeL (e.2.1.tdiv 2)).flatMap fun y => [0, 1, 2, 3].map fun k => (x, y, k)
def nearG (W H : Nat) (e : E4) : Bool := !(decide (e.1 < 0) || decide (e.2.1 < -1) || decide (2 * (W : Int) < e.1) || decide (2 * (H : Int) < e.2.1))
theorem nearL_mem {e : E4} {t : T3} : t ∈ nearL e ↔ (e.1.tdiv 2 - 1 ≤ t.1 ∧ t.1 ≤ e.1.tdiv 2 + 1) ∧ (e.2.1.tdiv 2 - 1 ≤ t.2.1 ∧ t.2.1 ≤ e.2.1.tdiv 2 + 1) ∧ K4 t := by
 obtain ⟨x, y, k⟩ := t
 unfold nearL threeL K4
 simp only [List.mem_flatMap, List.mem_map, List.mem_cons, List.not_mem_nil, or_false, Prod.mk.injEq]
 constructor
 ·rintro ⟨a, ha, b, hb, c, hc, rfl, rfl, rfl⟩
  omega
 ·rintro ⟨h1, h2, h3⟩
  exact ⟨x, by omega, y, by omega, k, by omega, rfl, rfl, rfl⟩
theorem edge_box {t : T3} (h : K4 t) {i : Nat} (hi : i < 3) : 2 * t.1 ≤ (eT t i).1 ∧ (eT t i).1 ≤ 2 * t.1 + 2 ∧ 2 * t.2.1 ≤ (eT t i).2.1 ∧ (eT t i).2.1 ≤ 2 * t.2.1 + 2 := by
 obtain ⟨x, y, ht⟩ := k4_cases h
 rcases i3_cases hi with rfl | rfl | rfl <;> rcases ht with rfl | rfl | rfl | rfl <;> simp [e00, e01, e02, e10, e11, e12, e20, e21, e22, e30, e31, e32] <;> omega
theorem near_has {W H : Nat} {t : T3} (hk : K4 t) (hx : 0 ≤ t.1) (hx2 : t.1 < W) (hy : 0 ≤ t.2.1) (hy2 : t.2.1 < H) {i : Nat} (hi : i < 3) : nearG W H (eT t i) = true ∧ t ∈ nearL (eT t i) := by
 obtain ⟨h1, h2, h3, h4⟩ := edge_box hk hi
 constructor
 ·unfold nearG
  simp
  omega
 ·rw [nearL_mem]
  rw [Int.tdiv_eq_ediv_of_nonneg (by omega), Int.tdiv_eq_ediv_of_nonneg (by omega)]
  exact ⟨by omega, by omega, hk⟩
theorem inner_none {W H : Nat} {l : List T3} (hl : ∀ t ∈ l, 0 ≤ t.1 ∧ t.1 < W ∧ 0 ≤ t.2.1 ∧ t.2.1 < H ∧ K4 t) {e : E4} (h : nearG W H e = false ∨ ∀ t ∈ nearL e, hT t e = false) : innerB l e = false := by
 rw [Bool.eq_false_iff]
 intro hin
 obtain ⟨t, ht, i, hi, rfl, _⟩ := innerB_iff.1 hin
 obtain ⟨a, b, c, d, k⟩ := hl t ht
 obtain ⟨n1, n2⟩ := near_has k a b c d hi (W := W) (H := H)
 rcases h with h | h
 ·rw [n1] at h
  cases h
 ·have := h t n2
  rw [hT_iff.2 ⟨i, hi, rfl⟩] at this
  cases this
inductive Rch (l : List T3) (c : E4 → Bool) (a : T3) : T3 → Prop
 | refl : Rch l c a a
 | step {t : T3} {i : Nat} : Rch l c a t → i < 3 → c (eT t i) = true → nT t i ∈ l → Rch l c a (nT t i)
theorem Rch.mem {l : List T3} {c : E4 → Bool} {a t : T3} (ha : a ∈ l) (h : Rch l c a t) : t ∈ l := by
 cases h with
 | refl => exact ha
 | step _ _ _ h => exact h
theorem Rch.trans {l : List T3} {c : E4 → Bool} {a b t : T3} (h1 : Rch l c a b) (h2 : Rch l c b t) : Rch l c a t := by
 induction h2 with
 | refl => exact h1
 | step _ hi hc hm ih => exact .step ih hi hc hm
theorem Rch.symm {l : List T3} {c : E4 → Bool} {a t : T3} (hl : ∀ t ∈ l, K4 t) (ha : a ∈ l) (h : Rch l c a t) : Rch l c t a := by
 induction h with
 | refl => exact .refl
 | @step t i hr hi hc hm ih =>
  have ht := hr.mem ha
  have hs := e_sym (hl t ht) hi
  have h1 : Rch l c (nT t i) t := by
   have := Rch.step (l := l) (c := c) (a := nT t i) (t := nT t i) (i := bk i) .refl (bk_lt i) (by rw [hs.2]; exact hc) (by rw [hs.1]; exact ht)
   rw [hs.1] at this
   exact this
  exact h1.trans ih
structure Closed (l : List T3) (c : E4 → Bool) (a : T3) (q : List T3) : Prop where
 nd : q.Nodup
 fst : a ∈ q
 rch : ∀ t ∈ q, Rch l c a t
 cl : ∀ t ∈ q, ∀ i, i < 3 → c (eT t i) = true → nT t i ∈ l → nT t i ∈ q
theorem Closed.iff {l : List T3} {c : E4 → Bool} {a : T3} {q : List T3} (h : Closed l c a q) (t : T3) : t ∈ q ↔ Rch l c a t := by
 constructor
 ·exact h.rch t
 ·intro hr
  induction hr with
  | refl => exact h.fst
  | step hr hi hc hm ih => exact h.cl _ ih _ hi hc hm
structure Grp (l : List T3) (c : E4 → Bool) (who : List Nat) : Prop where
 len : who.length = l.length
 le : ∀ i, i < l.length → who.getD i 0 ≤ i
 rch : ∀ i t, l[i]? = some t → ∃ u, l[who.getD i 0]? = some u ∧ Rch l c t u
 cl : ∀ i j t k, l[i]? = some t → k < 3 → c (eT t k) = true → l[j]? = some (nT t k) → who.getD j 0 = who.getD i 0
theorem Grp.same {l : List T3} {c : E4 → Bool} {who : List Nat} (h : Grp l c who) (hnd : l.Nodup) {a t : T3} (hr : Rch l c a t) : ∀ i j, l[i]? = some a → l[j]? = some t → who.getD i 0 = who.getD j 0 := by
 have at_inj : ∀ (i j : Nat) (x : T3), l[i]? = some x → l[j]? = some x → i = j := by
  intro i j x hi hj
  exact (List.getElem?_inj (List.getElem?_eq_some_iff.1 hi).1 hnd).1 (hi.trans hj.symm)
 induction hr with
 | refl =>
  intro i j hi hj
  rw [at_inj i j a hi hj]
 | @step t k hr hk hc hm ih =>
  intro i j hi hj
  have ht : t = a ∨ t ∈ l := by
   cases hr with
   | refl => exact .inl rfl
   | step _ _ _ h => exact .inr h
  have htl : t ∈ l := by
   rcases ht with rfl | ht
   ·exact List.mem_of_getElem? hi
   ·exact ht
  obtain ⟨m, hm1, hm2⟩ := List.getElem_of_mem htl
  have hm' : l[m]? = some t := by rw [List.getElem?_eq_getElem hm1, hm2]
  rw [ih i m hi hm', h.cl m j t k hm' hk hc hj]
theorem Grp.iff {l : List T3} {c : E4 → Bool} {who : List Nat} (h : Grp l c who) (hnd : l.Nodup) (hl : ∀ t ∈ l, K4 t) {i j : Nat} {a t : T3} (hi : l[i]? = some a) (hj : l[j]? = some t) : who.getD i 0 = who.getD j 0 ↔ Rch l c a t := by
 constructor
 ·intro e
  obtain ⟨u, hu, h1⟩ := h.rch i a hi
  obtain ⟨v, hv, h2⟩ := h.rch j t hj
  rw [e, hv] at hu
  cases hu
  exact h1.trans (h2.symm hl (List.mem_of_getElem? hj))
 ·intro hr
  exact h.same hnd hr i j hi hj
theorem nodup_sub_len {α : Type} [DecidableEq α] : ∀ {q l : List α}, q.Nodup → (∀ x ∈ q, x ∈ l) → q.length ≤ l.length := by
 intro q
 induction q with
 | nil => intros; simp
 | cons a q ih =>
  intro l hq hs
  rw [List.nodup_cons] at hq
  have := ih (l := l.erase a) hq.2 (fun x hx => (List.mem_erase_of_ne (by rintro rfl; exact hq.1 hx)).2 (hs x (List.mem_cons_of_mem _ hx)))
  have h2 := List.length_erase_of_mem (hs a (List.mem_cons_self))
  have h3 := List.length_pos_of_mem (hs a (List.mem_cons_self))
  simp
  omega
theorem sub_of_len {α : Type} [DecidableEq α] {q l : List α} (hq : q.Nodup) (hs : ∀ x ∈ q, x ∈ l) (hl : l.Nodup) (he : q.length = l.length) : ∀ x ∈ l, x ∈ q := by
 intro x hx
 apply Classical.byContradiction
 intro hn
 have := nodup_sub_len (q := x :: q) (l := l) (List.nodup_cons.2 ⟨hn, hq⟩) (fun y hy => by
  rcases List.mem_cons.1 hy with rfl | hy
  ·exact hx
  ·exact hs y hy)
 simp at this
 omega
theorem joined_law {l : List T3} {who : List Nat} {q : List T3} {a : T3} (hnd : l.Nodup) (hl : ∀ t ∈ l, K4 t) (ha : l[0]? = some a) (hg : Grp l (fun _ => true) who) (hq : Closed l (fun _ => true) a q) :
  (who.all fun z => z == 0) = decide (q.length = l.length) := by
 have hal := List.mem_of_getElem? ha
 have hql : ∀ x ∈ q, x ∈ l := fun x hx => (hq.rch x hx).mem hal
 have hpos : 0 < l.length := List.length_pos_of_mem hal
 rw [Bool.eq_iff_iff, List.all_eq_true, decide_eq_true_eq]
 constructor
 ·intro h
  have h1 := nodup_sub_len hq.nd hql
  have h2 : l.length ≤ q.length := by
   refine nodup_sub_len hnd fun x hx => ?_
   obtain ⟨j, hj, e⟩ := List.getElem_of_mem hx
   have hj' : l[j]? = some x := by rw [List.getElem?_eq_getElem hj, e]
   rw [hq.iff]
   rw [← hg.iff hnd hl ha hj']
   have z : ∀ j, j < l.length → who.getD j 0 = 0 := by
    intro j hj
    have hw : j < who.length := by rw [hg.len]; exact hj
    rw [List.getD_eq_getElem?_getD, List.getElem?_eq_getElem hw]
    simpa using h _ (List.getElem_mem hw)
   rw [z 0 hpos, z j hj]
  omega
 ·intro h z hz
  obtain ⟨j, hj, e⟩ := List.getElem_of_mem hz
  have hj2 : j < l.length := by rw [← hg.len]; exact hj
  have hm := sub_of_len hq.nd hql hnd h _ (List.getElem_mem hj2)
  rw [hq.iff, ← hg.iff hnd hl ha (List.getElem?_eq_getElem hj2)] at hm
  have h0 := hg.le 0 hpos
  have hz2 : who.getD j 0 = z := by rw [List.getD_eq_getElem?_getD, List.getElem?_eq_getElem hj, e]; rfl
  rw [hz2] at hm
  simp
  omega
def cmpI (a b : Int) : Int := if a < b then -1 else if b < a then 1 else 0
def orI (a b : Int) : Int := if a = 0 then b else a
def cmpP (a b c d : Int) : Int := orI (cmpI a c) (cmpI b d)
def cmpE (a b : E4) : Int := orI (cmpP a.1 a.2.1 b.1 b.2.1) (cmpP a.2.2.1 a.2.2.2 b.2.2.1 b.2.2.2)
def cmpT (a b : T3) : Int := orI (cmpI a.2.1 b.2.1) (orI (cmpI a.1 b.1) (cmpI a.2.2 b.2.2))
def lessE (a b : E4) : Bool := lessB a.1 a.2.1 b.1 b.2.1 || (decide (a.1 = b.1 ∧ a.2.1 = b.2.1) && lessB a.2.2.1 a.2.2.2 b.2.2.1 b.2.2.2)
theorem cmpE_less (a b : E4) : decide (0 ≤ cmpE a b) = !lessE a b := by
 obtain ⟨a1, a2, a3, a4⟩ := a
 obtain ⟨b1, b2, b3, b4⟩ := b
 have e : lessE (a1, a2, a3, a4) (b1, b2, b3, b4) = true ↔ (a1 < b1 ∨ a1 = b1 ∧ a2 < b2) ∨ ((a1 = b1 ∧ a2 = b2) ∧ (a3 < b3 ∨ a3 = b3 ∧ a4 < b4)) := by
  simp [lessE, lessB]
 rw [Bool.eq_iff_iff, decide_eq_true_eq, Bool.not_eq_true', ← Bool.not_eq_true, e]
 unfold cmpE cmpP orI cmpI
 simp only
 repeat' split
 all_goals omega
theorem cmpT_lt (a b : T3) : cmpT a b < 0 ↔ triLt a b := by
 obtain ⟨a1, a2, a3⟩ := a
 obtain ⟨b1, b2, b3⟩ := b
 unfold cmpT triLt orI cmpI
 simp only
 repeat' split
 all_goals omega
abbrev C5 := E4 × Int
def cellsB (W H : Int) (mask : List Int) : Bool := decide (1 ≤ W ∧ W ≤ 8) && decide (1 ≤ H ∧ H ≤ 8) && decide ((mask.length : Int) = W * H) && mask.all fun m => decide (0 ≤ m ∧ m ≤ 15)
def creaseB (l : List T3) (prev : Option C5) (c : C5) : Bool := (match prev with | none => true | some p => lessE p.1 c.1) && decide (c.2 = 1 ∨ c.2 = 2) && innerB l c.1
def creasesB (l : List T3) : Option C5 → List C5 → Bool
 | _, [] => true
 | prev, c :: cs => creaseB l prev c && creasesB l (some c) cs
theorem creasesB_at {l : List T3} : ∀ {cs : List C5} {prev : Option C5}, creasesB l prev cs = true ↔ ∀ i c, cs[i]? = some c → creaseB l (if i = 0 then prev else cs[i - 1]?) c = true
 | [], prev => by simp [creasesB]
 | c :: cs, prev => by
  rw [creasesB, Bool.and_eq_true, creasesB_at]
  constructor
  ·rintro ⟨h1, h2⟩ i d hd
   cases i with
   | zero =>
    simp at hd
    subst hd
    exact h1
   | succ i =>
    rw [List.getElem?_cons_succ] at hd
    have := h2 i d hd
    rw [if_neg (by omega), Nat.add_sub_cancel]
    cases i with
    | zero => simpa using this
    | succ i => simpa using this
  ·intro h
   refine ⟨by simpa using h 0 c rfl, fun i d hd => ?_⟩
   have := h (i + 1) d (by simpa using hd)
   rw [if_neg (by omega), Nat.add_sub_cancel] at this
   cases i with
   | zero => simpa using this
   | succ i => simpa using this
open Classical in
noncomputable def compL (l : List T3) (c : E4 → Bool) (t : T3) : List T3 := l.filter fun u => decide (Rch l c t u)
theorem compL_mem {l : List T3} {c : E4 → Bool} {t u : T3} (ht : t ∈ l) : u ∈ compL l c t ↔ Rch l c t u := by
 unfold compL
 rw [List.mem_filter]
 simp only [decide_eq_true_eq]
 exact ⟨fun h => h.2, fun h => ⟨h.mem ht, h⟩⟩
theorem comp_len {l : List T3} {c : E4 → Bool} {t : T3} {q : List T3} (hl : l.Pairwise triLt) (ht : t ∈ l) (hq : Closed l c t q) : (compL l c t).length = q.length := by
 have hnd : (compL l c t).Nodup := sorted_nodup (hl.filter _)
 exact Nat.le_antisymm (nodup_sub_len hnd fun x hx => (hq.iff x).2 ((compL_mem ht).1 hx)) (nodup_sub_len hq.nd fun x hx => (compL_mem ht).2 ((hq.iff x).1 hx))
end
end Go.Proofs.YtpkjekedgodccaaGreatDoor
