/- The document's trying of all orders. -/
import Derived.Test.YtcfeejlhhimpjaaOr3
namespace Go.Proofs.Ytcfeejlhhimpjaa
set_option linter.unusedSimpArgs false
set_option linter.unusedVariables false
open Go.RowKit Vx Vo

def setAll (O : List Bool) (p : Nat → Bool) : List Bool := O.mapIdx fun m o => o || p m
theorem setAll_len (O : List Bool) (p : Nat → Bool) : (setAll O p).length = O.length := by simp [setAll]
theorem setAll_at (O : List Bool) (p : Nat → Bool) (m : Nat) : (setAll O p)[m]? = (O[m]?).map fun o => o || p m := by simp [setAll]
theorem setAll_no (O : List Bool) : setAll O (fun _ => false) = O := by
  apply List.ext_getElem?
  intro m
  rw [setAll_at]
  simp
theorem setAll_congr {O : List Bool} {p p' : Nat → Bool} (h : ∀ m, p m = p' m) : setAll O p = setAll O p' := by rw [funext h]
theorem setAll_two (O : List Bool) (p p' : Nat → Bool) : setAll (setAll O p) p' = setAll O (fun m => p m || p' m) := by
  apply List.ext_getElem?
  intro m
  rw [setAll_at, setAll_at, setAll_at]
  simp [Bool.or_assoc, Function.comp_def]
theorem setAll_one (O : List Bool) (j : Nat) : setAll O (fun m => j == m) = O.set j true := by
  apply List.ext_getElem?
  intro m
  rw [setAll_at, List.getElem?_set]
  by_cases h : j = m
  · subst h
    simp
    cases h : O[j]? with
    | none =>
      have := List.getElem?_eq_none_iff.1 h
      rw [if_neg (by omega)]
      rfl
    | some o =>
      have := (List.getElem?_eq_some_iff.1 h).1
      rw [if_pos (by omega)]
      rfl
  · have : (j == m) = false := by simp [h]
    simp [this, h]
theorem any_succ {p : Nat → Bool} {k : Nat} : (List.range (k + 1)).any p = ((List.range k).any p || p k) := by
  rw [List.range_succ, List.any_append]; simp
/-- heights of sectors, and which lists have been found, in blocks of their own -/
structure Tab (n gh go : Nat) (w : World) (hl : List Int) (O : List Bool) : Prop where
  l1 : hl.length = n
  l2 : O.length = 2 ^ n
  b1 : w.heap[gh]? = some (.cells (vis hl).toArray 3 (0, 0))
  b2 : w.heap[go]? = some (.cells (O.map Value.bool).toArray 4 (0, 0))
theorem Tab.drewN {n gh go q : Nat} {w : World} {hl : List Int} {O : List Bool} (h : Tab n gh go w hl O) : Tab n gh go (w.drewN q) hl O := ⟨h.l1, h.l2, h.b1, h.b2⟩
theorem Tab.setH {n gh go k : Nat} {w : World} {hl : List Int} {O : List Bool} (h : Tab n gh go w hl O) (hne : gh ≠ go) (z : Int) : Tab n gh go (w.setCell ⟨gh, k, none⟩ (.int .i64 z)) (hl.set k z) O := by
  refine ⟨by simpa using h.l1, h.l2, ?_, ?_⟩
  · rw [blk_set h.b1]
    simp [List.map_set]
  · exact blk_far h.b2 (p := ⟨gh, k, none⟩) hne.symm _
theorem Tab.setO {n gh go m : Nat} {w : World} {hl : List Int} {O : List Bool} (h : Tab n gh go w hl O) (hne : gh ≠ go) : Tab n gh go (w.setCell ⟨go, m, none⟩ (.bool true)) hl (O.set m true) := by
  refine ⟨h.l1, by simpa using h.l2, ?_, ?_⟩
  · exact blk_far h.b1 (p := ⟨go, m, none⟩) hne _
  · rw [blk_set h.b2]
    simp [List.map_set]
theorem Tab.rd {n gh go : Nat} {w : World} {hl : List Int} {O : List Bool} (h : Tab n gh go w hl O) : Rd w 1 (some ⟨gh, 0, none⟩) n (vis hl) := by
  refine ⟨by simp [h.l1], fun _ => ⟨gh, 0, rfl, blk_lt h.b1, fun j u hu => ?_⟩⟩
  rw [Nat.zero_add, cell_of_blk h.b1, List.getElem?_toArray]
  exact hu
theorem set_take {hl : List Int} {k : Nat} (hk : k < hl.length) (z : Int) : (hl.set k z).take (k + 1) = hl.take k ++ [z] := by
  rw [take_succ (z := z) (by rw [List.getElem?_set_self hk])]
  rw [List.take_set_of_le (Nat.le_refl _)]
theorem contains_take {hl : List Int} {i : Nat} {z h : Int} (hz : hl[i]? = some z) : (hl.take (i + 1)).contains h = ((hl.take i).contains h || (h == z)) := by
  rw [take_succ hz, List.contains_append]
  simp only [List.contains_cons, List.contains_nil, Bool.or_false]
set_option maxHeartbeats 3200000 in
theorem order_base (b off c gh go B n : Nat) (xl : List Int) (hn : n ≤ 8) (hn0 : 0 < n) (hne : gh ≠ go) (hB1 : B ≤ gh) (hB2 : B ≤ go) (hb : b < B) (hl : List Int) (O : List Bool) (w : World)
    (h : Rd w 1 (some ⟨b, off, none⟩) (n + 1) (vis xl)) (ht : Tab n gh go w hl O) :
    Calls Try.prog 20 #[.slice (some ⟨b, off, none⟩) (n + 1) c, .slice (some ⟨gh, 0, none⟩) n n, .int .i64 n, .slice (some ⟨go, 0, none⟩) (2 ^ n) (2 ^ n)] w fun e w' => e = .returned (.tuple #[]) ∧
      ∃ hl', hl'.take n = hl.take n ∧ Tab n gh go w' hl' (setAll O (reachB (fn xl) n 0 (hl.take n))) ∧ Below B w w' := by
  have hG := goodOrder_any b off c gh 0 n n xl hl w h ht.rd hn
  have htk : hl.take n = hl := List.take_of_length_le (by rw [ht.l1]; exact Nat.le_refl _)
  have hre : ∀ m, reachB (fn xl) n 0 (hl.take n) m = (goodB (fn xl) (fn hl) n && (knum (fn hl) n n == m)) := fun m => by rw [htk]; rfl
  obtain ⟨G, hGe⟩ : ∃ G, G = goodB (fn xl) (fn hl) n := ⟨_, rfl⟩
  rw [← hGe] at hG
  simp only [← hGe] at hre
  have CG := Lib.hid hG
  have HT := Lib.hid ht
  have HRE := Lib.hid hre
  clear hG htk hre hGe h ht
  cases G with
  | false =>
    go_enter Try.func20, Try.ntmps20
    go_wp2_with fail
    refine (CG.out).mono ?_
    rintro e w1 ⟨rfl, q, rfl⟩
    go_wp2

    refine bodyPost_ret (results_none rfl _ _ _) rfl ?_
    exact ⟨rfl, hl, rfl, by rw [setAll_congr HRE.out]; simp only [Bool.false_and]; rw [setAll_no]; exact HT.out.drewN, below_drewN (Below.refl _ _) _⟩
  | true =>
    have cK := fun q => kindsOf_any gh 0 n n hl (w.drewN q) HT.out.drewN.rd hn
    have hlt := knum_lt (fn hl) n n
    obtain ⟨M, hM⟩ : ∃ M, M = knum (fn hl) n n := ⟨_, rfl⟩
    simp only [← hM] at cK hlt
    have CK := Lib.hid cK
    have HM := Lib.hid hM
    have hp := pow_le8 (Nat.le_refl n) hn
    obtain ⟨N, hN⟩ : ∃ N, N = 2 ^ n := ⟨_, rfl⟩
    rw [← hN] at hlt hp ⊢
    have HN := Lib.hid hN
    have hf := frozen_of_blk HT.out.b2 M
    have hcl := cell_of_blk HT.out.b2 M
    obtain ⟨o, ho⟩ : ∃ o, O[M]? = some o := ⟨_, List.getElem?_eq_getElem (by rw [HT.out.l2, ← HN.out]; exact hlt)⟩
    simp only [List.getElem?_toArray, List.getElem?_map, ho, Option.map_some] at hcl
    clear hM hN cK ho
    go_enter Try.func20, Try.ntmps20
    go_wp2_with fail
    refine (CG.out).mono ?_
    rintro e w1 ⟨rfl, q, rfl⟩
    go_wp2_with fail
    refine (CK.out q).mono ?_
    rintro e w1 ⟨rfl, q2, rfl⟩
    go_wp2
    refine bodyPost_ret (results_none rfl _ _ _) rfl ?_
    refine ⟨rfl, hl, rfl, ?_, ?_⟩
    · rw [setAll_congr HRE.out]
      simp only [Bool.true_and, ← HM.out]
      rw [setAll_one]
      exact (HT.out.drewN (q := _)).setO hne
    · exact (below_drewN (Below.refl _ _) _).setCell hB2 _
end Go.Proofs.Ytcfeejlhhimpjaa
