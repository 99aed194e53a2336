/- all lists of kinds: the iterator. -/
import Derived.Test.YtcfeejlhhimpjaaCr7
import Derived.Test.YtcfeejlhhimpjaaCr8
import Derived.Shelf.Abstract
import Derived.Shelf.RegionOpen
import Derived.OwnWalkIn
import Derived.TacticsInMore
import Derived.LoopNIn
import Derived.LoopIn
namespace Go.Proofs.Ytcfeejlhhimpjaa
set_option linter.unusedSimpArgs false
set_option linter.unusedVariables false
open Go.RowKit Vx
attribute [local go_sem] Oper.semAt_some

/-- The i-th kind of the m-th list of k. -/
def kindAt (k m i : Nat) : Int := 1 + ((m / 2 ^ (k - 1 - i) % 2 : Nat) : Int)
def kindsOf (k m : Nat) : List Int := (List.range k).map (kindAt k m)
theorem kindsOf_len (k m : Nat) : (kindsOf k m).length = k := by simp [kindsOf]
theorem kindsOf_12 (k m : Nat) : ∀ z ∈ kindsOf k m, z = 1 ∨ z = 2 := by
  intro z hz
  simp only [kindsOf, List.mem_map] at hz
  obtain ⟨i, _, rfl⟩ := hz
  unfold kindAt
  omega
theorem kind_val (k m i : Nat) : wrap64 (1 + bits .and .i64 ((m : Int) / 2 ^ (k - 1 - i)) 1) = kindAt k m i := by
  rw [and1]
  have e : ((m : Int) / 2 ^ (k - 1 - i)) = ((m / 2 ^ (k - 1 - i) : Nat) : Int) := by simp
  rw [e]
  unfold kindAt
  generalize m / 2 ^ (k - 1 - i) = x
  have h : ((x : Nat) : Int) % 2 = ((x % 2 : Nat) : Int) := by omega
  rw [h]
  have h2 : x % 2 = 0 ∨ x % 2 = 1 := by omega
  rcases h2 with h2 | h2
  · rw [h2]
    show wrap64 1 = 1
    kernel_rfl
  · rw [h2]
    show wrap64 2 = 2
    kernel_rfl
theorem cells_full {k m : Nat} {cs : Array Value} (hs : cs.size = k) (h : ∀ j, j < k → cs[j]? = some (.int .i64 (kindAt k m j))) : cs = (vis (kindsOf k m)).toArray := by
  apply Array.ext_getElem?
  intro j
  by_cases hj : j < k
  · rw [h j hj]
    simp [kindsOf, hj]
  · rw [Array.getElem?_eq_none (by omega), Array.getElem?_eq_none (by simp [kindsOf_len]; omega)]
/-- What a round must keep: the box of the number of creases. -/
def KpN (Bn : Nat) (A C : World) : Prop := A.heap.size ≤ C.heap.size ∧ C.cell? ⟨Bn, 0, none⟩ = A.cell? ⟨Bn, 0, none⟩
set_option maxRecDepth 100000 in
set_option maxHeartbeats 3200000 in
theorem all1_in (F : Fence) (n : Nat) (hf : F.fn 32) (hro : F.round = none) (hn : 1 ≤ n) (l Bn B k : Nat) (J : List Nat → World → Prop) (hJ : ∀ s A B, J s A → Below A.heap.size A B → J s B)
    (hY : ∀ pre x W1, J pre W1 → (W1.heap[x]? = some (.cells (vis (kindsOf k pre.length)).toArray 3 (0, 0)) ∧ B ≤ x ∧ pre.length < 2 ^ k) → YieldAt F (n - 1) Try.prog l #[.slice (some ⟨x, 0, none⟩) k k] W1 fun e W' => e = .returned (.bool true) ∧ J (pre ++ [x]) W' ∧ KpN Bn W1 W')
    (W : World) (hB : B ≤ W.heap.size) (hc : W.cell? ⟨Bn, 0, none⟩ = some (.int .i64 k)) (hk : k ≤ 8) (h0 : J [] W) :
    CallsIn F n Try.prog 32 #[.func (.yield l) #[] #[], .pointer (some ⟨Bn, 0, none⟩)] W fun e W' => (∃ v, e = .returned v) ∧ ∃ xs : List Nat, xs.length = 2 ^ k ∧ J xs W' := by
  have hpow : IntKind.i64.wrap (2 ^ k : Int) = ((2 ^ k : Nat) : Int) := by
    have : k = 0 ∨ k = 1 ∨ k = 2 ∨ k = 3 ∨ k = 4 ∨ k = 5 ∨ k = 6 ∨ k = 7 ∨ k = 8 := by omega
    rcases this with rfl | rfl | rfl | rfl | rfl | rfl | rfl | rfl | rfl <;> decide
  obtain ⟨T, hT⟩ : ∃ T : Nat, T = 2 ^ k := ⟨_, rfl⟩
  rw [← hT] at hpow ⊢
  have hTb : T ≤ 256 := by
    rw [hT]
    exact Nat.pow_le_pow_right (by decide) hk
  obtain ⟨i0, hi, hz0, hz1, hz2⟩ := info_parts int_info
  have hmk : ∀ w, (Instr.makeSlice 22 (.int .i64 (k : Int)) (.int .i64 (k : Int))).run Try.prog w = .ok (.slice (some ⟨w.heap.size, 0, none⟩) k k) (w.alloc (.cells (madeCells #[.int .i64 0] k) 3)) := fun w => by
    have := run_makeSlice (P := Try.prog) w 22 3 i0 (.int .i64 0) Try.underlying22 hi hz0 .i64 .i64 k k (by omega) (Int.le_refl _) (by rw [hz1]; simp; omega) (by rw [hz2]; omega) (by omega)
    rw [this, hz1]
    simp [Value.cells]
  have hmz : (madeCells #[.int .i64 0] k).size = k := size_madeCells _ _
  obtain ⟨Z, hZ⟩ : ∃ Z, Z = madeCells #[.int .i64 0] k := ⟨_, rfl⟩
  simp only [← hZ] at hmk
  rw [← hZ] at hmz
  have HT := Lib.hid hT
  have HMZ := Lib.hid hmz
  clear hT hmz hZ hi hz0 hz1 hz2
  refine callsIn_of_wp Try.func32 rfl hf ?_ hro
  simp only [Try.ntmps32, List.size_toArray, List.length_cons, List.length_nil, Nat.reduceAdd, Nat.reduceSub, Array.replicate_succ, Array.replicate_zero, List.push_toArray, List.append_toArray, List.nil_append, List.cons_append]
  gi_wp2
  gi_loopw [8] (fun p wr => ∃ ys : List Nat, ys.length ≤ T ∧ p = .int .i64 (ys.length : Nat) ∧ J ys wr ∧ B ≤ wr.heap.size ∧ wr.cell? ⟨Bn, 0, none⟩ = some (.int .i64 k)) (fun p _ => T - (intOf p).toNat)
  case atStart => exact ⟨[], by simp, by simp, h0, hB, hc⟩
  case round =>
    obtain ⟨ys, hle, rfl, hJs, hbel, hcn⟩ := hrel
    obtain ⟨m, hm⟩ : ∃ m, m = ys.length := ⟨_, rfl⟩
    rw [← hm] at hle ⊢
    have HM := Lib.hid hm
    clear hm
    by_cases hlt : m < T
    · gi_wp2
      have hlt0 : Bn < wr.heap.size := World.block_lt_of_cell? wr _ hcn
      generalize wr = wo at hJs hbel hcn hlt0 ⊢
      have hmkk := Lib.hid hmk
      clear hmk
      gi_loopw [15] (fun p w2 => ∃ (i : Nat) (cs : Array Value), i ≤ k ∧ p = .int .i64 i ∧ w2.heap[wo.heap.size]? = some (.cells cs 3 (0, 0)) ∧ cs.size = k ∧ (∀ j, j < i → cs[j]? = some (.int .i64 (kindAt k m j))) ∧ Below wo.heap.size wo w2) (fun p _ => k - (intOf p).toNat)
      case atStart => exact ⟨0, Z, by omega, rfl, heap_alloc_new wo _, HMZ.out, fun j hj => by omega, below_new wo _⟩
      case round =>
        obtain ⟨i, cs, hik, rfl, hcs, hsz, hall, hb2⟩ := hrel
        have HALL := Lib.hid hall
        have HSZ := Lib.hid hsz
        clear hall hsz
        by_cases hik2 : i < k
        · have hc2 := (hb2.cell (p := ⟨Bn, 0, none⟩) hlt0).trans hcn
          have hci := cell_of_blk hcs i
          obtain ⟨u, hu⟩ : ∃ u, cs[i]? = some u := ⟨cs[i]'(by rw [HSZ.out]; exact hik2), Array.getElem?_eq_getElem (by rw [HSZ.out]; exact hik2)⟩
          rw [hu] at hci
          have hfr := frozen_of_blk hcs i
          have hgl := blk_lt hcs
          have wr1 : IntKind.i64.wrap ((k : Int) - 1) = k - 1 := IntWalk.i64_in _ (by omega)
          have wr2 : IntKind.i64.wrap ((k : Int) - 1 - i) = k - 1 - i := IntWalk.i64_in _ (by omega)
          have HU := Lib.hid hu
          clear hu
          gi_wp2
          have HKV := Lib.hid (kind_val k m i)
          refine ⟨⟨i + 1, cs.setIfInBounds i (.int .i64 (kindAt k m i)), by omega, by go_num, ?_, by simp [HSZ.out], ?_, hb2.setCell (Nat.le_refl _) _⟩, by simp [intOf]; omega⟩
          · rw [HKV.out]
            exact blk_set hcs i _
          · intro j hj
            by_cases hji : j = i
            · subst hji
              have : j < cs.size := by rw [HSZ.out]; exact hik2
              simp [this]
            · rw [Array.getElem?_setIfInBounds_ne (by omega)]
              exact HALL.out j (by omega)
        · obtain rfl : i = k := by omega
          have hcs2 : wr.heap[wo.heap.size]? = some (.cells (vis (kindsOf i m)).toArray 3 (0, 0)) := by
            rw [← cells_full HSZ.out HALL.out]
            exact hcs
          have hJ2 := hJ _ _ _ hJs hb2
          obtain ⟨fn, tmps, assign, body, hy, hR⟩ := hY ys wo.heap.size wr hJ2 ⟨by rw [← HM.out]; exact hcs2, hbel, by rw [← HT.out, ← HM.out]; exact hlt⟩
          have hc3 := (hb2.cell (p := ⟨Bn, 0, none⟩) hlt0).trans hcn
          have HC3 := Lib.hid hc3
          clear hc3
          gi_wp2
          refine hR.mono ?_
          rintro e W3 ⟨rfl, hJ3, hk3⟩
          gi_wp2
          have hml := HM.out
          exact ⟨⟨ys ++ [wo.heap.size], by simp; omega, by rw [List.length_append, ← hml]; go_num, hJ3, Nat.le_trans (Nat.le_trans hbel hb2.size) hk3.1, hk3.2.trans HC3.out⟩, by simp [intOf]; omega⟩
    · gi_wp2
      go_end0
      obtain rfl : m = T := by omega
      exact ⟨⟨_, rfl⟩, ys, HM.out.symm, hJs⟩
end Go.Proofs.Ytcfeejlhhimpjaa
