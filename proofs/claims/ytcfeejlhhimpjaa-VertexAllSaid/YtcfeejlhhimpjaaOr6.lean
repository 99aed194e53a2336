/- Orders: which lists of kinds have a good order. -/
import Derived.Test.YtcfeejlhhimpjaaOr5
namespace Go.Proofs.Ytcfeejlhhimpjaa
set_option linter.unusedSimpArgs false
set_option linter.unusedVariables false
open Go.RowKit Vx Vo

theorem all_ext {p q : Nat → Bool} {n : Nat} (h : ∀ k, k < n → p k = q k) : (List.range n).all p = (List.range n).all q := by
  rw [Bool.eq_iff_iff]
  simp only [List.all_eq_true, List.mem_range]
  exact ⟨fun h1 k hk => by rw [← h k hk]; exact h1 k hk, fun h1 k hk => by rw [h k hk]; exact h1 k hk⟩
theorem good_congr {X X' H : Nat → Int} {n : Nat} (h : ∀ j, j ≤ n → X j = X' j) : goodB X H n = goodB X' H n := by
  unfold goodB
  apply all_ext
  intro j hj
  unfold okJ
  congr 1
  · apply all_ext
    intro c hc
    unfold ok1 pastB
    rw [h c (by omega), h (c + 1) (by omega), h j (by omega)]
  · apply all_ext
    intro k hk
    unfold ok2
    rw [h k (by omega), h (k + 1) (by omega), h j (by omega), h (j + 1) (by omega)]
theorem reach_congr {X X' : Nat → Int} {n : Nat} (h : ∀ j, j ≤ n → X j = X' j) : ∀ (r : Nat) (pre : List Int) (m : Nat), reachB X n r pre m = reachB X' n r pre m := by
  intro r
  induction r with
  | zero => intro pre m; simp only [reachB]; rw [good_congr h]
  | succ r ih => intro pre m; simp only [reachB, ih]
def xsum (xs : List Int) (k : Nat) : List Int := (List.range k).map (XX xs)
theorem xsum_succ (xs : List Int) (k : Nat) : xsum xs (k + 1) = xsum xs k ++ [XX xs k] := by simp [xsum, List.range_succ]
theorem xsum_len (xs : List Int) (k : Nat) : (xsum xs k).length = k := by simp [xsum]
theorem fn_xsum (xs : List Int) {n j : Nat} (hj : j < n) : fn (xsum xs n) j = XX xs j := by
  apply fn_at
  unfold xsum
  rw [List.getElem?_map, List.getElem?_range hj]
  rfl
/-- which lists of kinds the trying finds -/
def found (xs : List Int) : List Bool := (List.range (2 ^ xs.length)).map fun m => reachB (XX xs) xs.length xs.length [] m
theorem found_eq (xs : List Int) : setAll (List.replicate (2 ^ xs.length) false) (reachB (fn (xsum xs (xs.length + 1))) xs.length xs.length []) = found xs := by
  apply List.ext_getElem?
  intro m
  rw [setAll_at]
  unfold found
  rw [List.getElem?_map]
  by_cases hm : m < 2 ^ xs.length
  · rw [List.getElem?_replicate, if_pos hm, List.getElem?_range hm]
    simp only [Option.map_some, Bool.false_or, Option.some.injEq]
    exact reach_congr (fun j hj => fn_xsum xs (by omega)) _ _ _
  · rw [List.getElem?_replicate, if_neg hm, List.getElem?_eq_none (by simpa using hm)]
    rfl
theorem bool_info : (Try.prog.info? 4).map (fun i => (i.zero, i.size, i.bytes)) = some (some (.bool false), 1, 1) := by kernel_rfl
theorem XX_bd {xs : List Int} (h : ∀ x ∈ xs, 1 ≤ x ∧ x ≤ 1000) (k : Nat) (hk : k ≤ xs.length) : -(1000 * (k : Int)) ≤ XX xs k ∧ XX xs k ≤ 1000 * k := by
  have := alt_bd (l := xs.take k) (fun x hx => by have := h x (List.mem_of_mem_take hx); simp [inR]; omega)
  rw [List.length_take, Nat.min_eq_left hk] at this
  exact this
set_option maxRecDepth 100000 in
set_option maxHeartbeats 3200000 in
theorem orders_any (b off n c : Nat) (xs : List Int) (w : World) (h : Rd w 1 (some ⟨b, off, none⟩) n (vis xs)) (he : chkE xs = 0) :
    Calls Try.prog 10 #[.slice (some ⟨b, off, none⟩) n c] w fun e w' => ∃ g, e = .returned (.slice (some ⟨g, 0, none⟩) (2 ^ n) (2 ^ n)) ∧ w'.heap[g]? = some (.cells ((found xs).map Value.bool).toArray 4 (0, 0)) ∧ w.heap.size ≤ g ∧ Below w.heap.size w w' := by
  have hok := chk_ok he
  have hl := h.ints_len
  have hn8 : n ≤ 8 := by have := hok.2.1; omega
  have hn2 : 2 ≤ n := by have := hok.1; omega
  have hpow : IntKind.i64.wrap (2 ^ n : Int) = ((2 ^ n : Nat) : Int) := by
    have : n = 2 ∨ n = 3 ∨ n = 4 ∨ n = 5 ∨ n = 6 ∨ n = 7 ∨ n = 8 := by omega
    rcases this with rfl | rfl | rfl | rfl | rfl | rfl | rfl <;> decide
  have hT256 := pow_le8 (Nat.le_refl n) hn8
  have hORD := fun go gh gx cx => order_any gx 0 cx gh go go n (xsum xs (n + 1)) hn8 (by omega)
  obtain ⟨T, hT⟩ : ∃ T : Nat, T = 2 ^ n := ⟨_, rfl⟩
  rw [← hT] at hpow hT256 ⊢
  simp only [← hT] at hORD
  obtain ⟨i0, hi, hz0, hz1, hz2⟩ := info_parts int_info
  obtain ⟨j0, gi, gz0, gz1, gz2⟩ := info_parts bool_info
  have hmk : ∀ w, (Instr.makeSlice 22 (.int .i64 (n : Int)) (.int .i64 (n : Int))).run Try.prog w = .ok (.slice (some ⟨w.heap.size, 0, none⟩) n n) (w.alloc (.cells (vis (List.replicate n 0)).toArray 3)) := fun w => by
    have := run_makeSlice (P := Try.prog) w 22 3 i0 (.int .i64 0) Try.underlying22 hi hz0 .i64 .i64 n n (by omega) (Int.le_refl _) (by rw [hz1]; simp; omega) (by rw [hz2]; omega) (by omega)
    rw [this, hz1]
    have e : madeCells #[Value.int .i64 0] n = (vis (List.replicate n 0)).toArray := by
      apply Array.toList_inj.1
      rw [toList_madeCells_one]
      simp [vis]
    simp [Value.cells, e]
  have hmb : ∀ w, (Instr.makeSlice 28 (.int .i64 (T : Int)) (.int .i64 (T : Int))).run Try.prog w = .ok (.slice (some ⟨w.heap.size, 0, none⟩) T T) (w.alloc (.cells ((List.replicate T false).map Value.bool).toArray 4)) := fun w => by
    have := run_makeSlice (P := Try.prog) w 28 4 j0 (.bool false) Try.underlying28 gi gz0 .i64 .i64 T T (by omega) (Int.le_refl _) (by rw [gz1]; simp; omega) (by rw [gz2]; omega) (by omega)
    rw [this, gz1]
    have e : madeCells #[Value.bool false] T = ((List.replicate T false).map Value.bool).toArray := by
      apply Array.toList_inj.1
      rw [toList_madeCells_one]
      simp
    simp [Value.cells, e]
  obtain ⟨Z1, hZ1⟩ : ∃ Z, Z = (vis (List.replicate n 0)).toArray := ⟨_, rfl⟩
  obtain ⟨Z2, hZ2⟩ : ∃ Z, Z = ((List.replicate T false).map Value.bool).toArray := ⟨_, rfl⟩
  simp only [← hZ1] at hmk
  simp only [← hZ2] at hmb
  have HT := Lib.hid hT
  have HZ1 := Lib.hid hZ1
  have HZ2 := Lib.hid hZ2
  have HR := Lib.hid h
  have HL := Lib.hid hl
  have HOK := Lib.hid hok
  have ORD := Lib.hid hORD
  have HMK := Lib.hid hmk
  have HMB := Lib.hid hmb
  have HP := Lib.hid hpow
  clear hT hZ1 hZ2 h hl hok hORD hmk hmb hpow hi hz0 hz1 hz2 gi gz0 gz1 gz2 he
  go_enter Try.func10, Try.ntmps10
  go_wp2_with fail
  go_loopw [4, 5] (fun v i wr => ∃ j : Nat, j ≤ n ∧ i = .int .i64 j ∧ wr.ownsRow w.heap.size 3 1 v (j + 1) (vis (xsum xs (j + 1))) ∧ Below w.heap.size w wr) (fun _ i _ => n - (intOf i).toNat)
  case atStart => exact ⟨0, Nat.zero_le _, rfl, World.ownsRow_lit w _ 1 (Nat.le_refl _) (by decide) (by decide), below_new w _⟩
  case round =>
    obtain ⟨j, hj, rfl, hown, hbel⟩ := hrel
    obtain ⟨gx, cx, cur, rfl, hcx1, hcx2, hgx, hgxb⟩ := own_addr hown (by omega)
    have hgl := blk_lt hgxb
    clear hgxb
    by_cases hjn : j < n
    · obtain ⟨b1, o1, z, hA, _, hz, hcz⟩ := (HR.out.below hbel).int hjn
      simp only [Option.some.injEq, Addr.mk.injEq, and_true] at hA
      obtain ⟨rfl, rfl⟩ := hA
      have hcx := (Rd.of_own hown).at_fn (show j < j + 1 by omega)
      rw [fn_xsum xs (show j < j + 1 by omega), Nat.zero_add] at hcx
      have hbd := XX_bd HOK.out.2.2.2 j (by rw [HL.out]; omega)
      have hzb := HOK.out.2.2.2 z (List.mem_of_getElem? hz)
      have hxs := XX_succ hz
      have hsn := xsum_succ xs (j + 1)
      obtain ⟨X, hX⟩ : ∃ X, X = XX xs j := ⟨_, rfl⟩
      rw [← hX] at hbd hxs hcx
      have HXS := Lib.hid hxs
      have HSN := Lib.hid hsn
      have HOW := Lib.hid hown
      have b1 : -8000 ≤ X := by omega
      have b2 : X ≤ 8000 := by omega
      have z1 := hzb.1
      have z2 := hzb.2
      clear hX hxs hsn hz hbd hzb hown
      by_cases hpar : j % 2 = 0
      · have hj0 : (j : Int) % 2 = 0 := by omega
        have hnew := HXS.out
        rw [if_pos hpar] at hnew
        have HNW := Lib.hid hnew
        clear hnew hpar
        go_wp2_with (at_builtin; refine app_ints rfl (.tmp 26) (.tmp 33) rfl w.heap.size (.slice (some ⟨gx, 0, none⟩) (j + 1) cx) (j + 1) (xsum xs (j + 1)) [X + z] rfl HOW.out hbel.size 1 _ rfl rfl rfl (by omega) ?_; intro v' w' hown' hb' _)
        go_roundw
        case rel => exact ⟨j + 1, by omega, by go_num, by rw [HSN.out, HNW.out]; exact hown', hbel.trans hb'⟩
        case measure => simp [intOf]; omega
      · have hj0 : (j : Int) % 2 = 1 := by omega
        have hnew := HXS.out
        rw [if_neg hpar] at hnew
        have HNW := Lib.hid hnew
        clear hnew hpar
        go_wp2_with (at_builtin; refine app_ints rfl (.tmp 26) (.tmp 33) rfl w.heap.size (.slice (some ⟨gx, 0, none⟩) (j + 1) cx) (j + 1) (xsum xs (j + 1)) [X + -z] rfl HOW.out hbel.size 1 _ rfl rfl rfl (by omega) ?_; intro v' w' hown' hb' _)
        go_roundw
        case rel => exact ⟨j + 1, by omega, by go_num, by rw [HSN.out, HNW.out]; exact hown', hbel.trans hb'⟩
        case measure => simp [intOf]; omega
    · obtain rfl : j = n := by omega
      have hmk := HMK.out
      have hmb := HMB.out
      have hpow := HP.out
      have RX := Lib.hid (Rd.of_own hown)
      clear hown
      have hT1 : Tab j (wr.heap.size + 1) wr.heap.size ((wr.alloc (.cells Z2 4)).alloc (.cells Z1 3)) (List.replicate j 0) (List.replicate T false) := by
        refine ⟨by simp, by rw [← HT.out]; simp, ?_, ?_⟩
        · rw [HZ1.out]
          exact new_blk _ (by simp)
        · rw [HZ2.out]
          exact blk_alloc (new_blk _ rfl) _
      have cO := ORD.out wr.heap.size (wr.heap.size + 1) gx cx (by omega) (by omega) (Nat.le_refl _) hgl j 0 (by omega) (List.replicate j 0) (List.replicate T false) _ ((RX.out.alloc _).alloc _) hT1
      have CO := Lib.hid cO
      clear cO hT1
      go_wp2_with fail
      refine (CO.out).mono ?_
      rintro e w3 ⟨rfl, hl3, _, hT3, hb3⟩
      have HT3 := Lib.hid hT3
      clear hT3
      go_wp2
      go_ret
      refine ⟨_, rfl, ?_, hbel.size, (ba (ba hbel _) _).trans (hb3.mono hbel.size)⟩
      have hb := HT3.out.b2
      have e : setAll (List.replicate T false) (reachB (fn (xsum xs (j + 1))) j j (List.take 0 (List.replicate j 0))) = found xs := by
        rw [List.take_zero, HT.out, ← HL.out]
        exact found_eq xs
      rw [e] at hb
      exact hb
end Go.Proofs.Ytcfeejlhhimpjaa
