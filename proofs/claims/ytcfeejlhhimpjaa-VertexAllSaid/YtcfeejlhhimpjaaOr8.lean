/- The walk of VertexAll. -/
import Derived.Test.YtcfeejlhhimpjaaOr7
import Derived.Test.YtcfeejlhhimpjaaCr13
namespace Go.Proofs.Ytcfeejlhhimpjaa
set_option linter.unusedSimpArgs false
set_option linter.unusedVariables false
open Go.RowKit Vx Vo

theorem num_kinds {n m : Nat} (hm : m < 2 ^ n) : numK (fn (kindsOf n m)) n = m := by
  have key : ∀ j, j ≤ n → numK (fn (kindsOf n m)) j = m / 2 ^ (n - j) := by
    intro j
    induction j with
    | zero =>
      intro _
      simp only [numK, Nat.sub_zero]
      rw [Nat.div_eq_of_lt hm]
    | succ j ih =>
      intro hj
      simp only [numK]
      rw [ih (by omega)]
      have hat : fn (kindsOf n m) j = kindAt n m j := by
        apply fn_at
        unfold kindsOf
        rw [List.getElem?_map, List.getElem?_range (by omega)]
        rfl
      rw [hat]
      unfold kindAt
      rw [show n - (j + 1) = n - 1 - j by omega, show n - j = (n - 1 - j) + 1 by omega, Nat.pow_succ, ← Nat.div_div_eq_div_mul]
      generalize m / 2 ^ (n - 1 - j) = x
      split <;> omega
  rw [key n (Nat.le_refl _)]
  simp
theorem found_at {xs : List Int} (he : chkE xs = 0) {m : Nat} (hm : m < 2 ^ xs.length) : (found xs)[m]? = some (Fb (xs.zip (kindsOf xs.length m))) := by
  have := found_F (ys := kindsOf xs.length m) he (by rw [kindsOf_len]) (kindsOf_12 _ _)
  rw [num_kinds hm] at this
  exact this
theorem goods_at {xs : List Int} {n m T : Nat} (hm : m < T) (hF : Fb (xs.zip (kindsOf n m)) = true) : (goods xs n T)[(goods xs n m).length]? = some (kindsOf n m) := by
  have h1 : ∀ d, ∃ Z, goods xs n (m + 1 + d) = goods xs n (m + 1) ++ Z := by
    intro d
    induction d with
    | zero => exact ⟨[], by simp⟩
    | succ d ih =>
      obtain ⟨Z, h⟩ := ih
      exact ⟨_, by rw [← Nat.add_assoc, goods_succ, h, List.append_assoc]⟩
  obtain ⟨Z, h⟩ := h1 (T - (m + 1))
  rw [show m + 1 + (T - (m + 1)) = T by omega, goods_succ, if_pos hF] at h
  rw [h, List.append_assoc, List.getElem?_append_right (Nat.le_refl _)]
  simp
theorem goods_cnt {xs : List Int} {n m : Nat} {b : Bool} (hF : Fb (xs.zip (kindsOf n m)) = b) : (goods xs n (m + 1)).length = (goods xs n m).length + (if b = true then 1 else 0) := by
  rw [goods_succ, List.length_append, hF]
  cases b <;> simp
theorem rd_blk {w : World} {g n : Nat} {K : List Int} (h : w.heap[g]? = some (.cells (vis K).toArray 3 (0, 0))) (hl : K.length = n) : Rd w 1 (some ⟨g, 0, none⟩) n (vis K) := by
  refine ⟨by simp [hl], fun _ => ⟨g, 0, rfl, blk_lt h, fun j u hu => ?_⟩⟩
  rw [Nat.zero_add, cell_of_blk h, List.getElem?_toArray]
  exact hu
theorem vall_err (A : Option Addr) (n c : Nat) (xs : List Int) (w : World) (h : Rd w 1 A n (vis xs)) (hn : n * 8 ≤ 140737488351232) (hA : A = none → c = 0) (h0 : chkE xs ≠ 0) :
    Calls Try.prog 4 #[.slice A n c] w fun e w' => e = .returned (.bool true) ∧ Below w.heap.size w w' := by
  have cI := fun w1 (hb : Below w.heap.size w w1) => ints_any A n c xs w1 (h.below hb) hn hA
  have cA := fun (a : Option Addr) (d : Nat) (w1 : World) (r : Rd w1 1 a n (vis xs)) => all_err a n d xs w1 r (by omega) h0
  have cC := fun (a : Option Addr) (d : Nat) (w1 : World) (r : Rd w1 1 a n (vis xs)) => count_err a n d xs w1 r (by omega) h0
  have cM := fun w1 (hb : Below w.heap.size w w1) => anglesMay_any A n c xs w1 (h.below hb) (by omega)
  obtain ⟨E, hE⟩ : ∃ E, E = chkE xs := ⟨_, rfl⟩
  simp only [← hE] at cM cA cC h0
  have CI := Lib.hid cI
  have CA := Lib.hid cA
  have CC := Lib.hid cC
  have CM := Lib.hid cM
  have e0 : (E == 0) = false := by simp [h0]
  have f0 : (E != 0) = true := by simp [h0]
  have hEE : (E == E) = true := by simp
  clear cI cA cC cM hE h0 h
  go_enter Try.func4, Try.ntmps4
  go_wp2_with fail
  refine (CI.out _ (Below.refl _ _)).mono ?_
  rintro e w1 ⟨v1, rfl, ho1, hb1⟩
  obtain ⟨a1, d1, rfl, q1, q2⟩ := own_slice ho1
  have CA1 := Lib.hid (CA.out a1 d1 w1 (Rd.of_own ho1))
  go_wp2_with fail
  refine (CA1.out).mono ?_
  rintro e w2 ⟨rfl, hb2⟩
  have hb12 := stay_b hb1 hb2
  clear hb1 hb2 ho1
  go_wp2_with fail
  refine (CI.out _ hb12).mono ?_
  rintro e w3 ⟨v3, rfl, ho3, hb3⟩
  obtain ⟨a3, d3, rfl, q3, q4⟩ := own_slice ho3
  have CC3 := Lib.hid (CC.out a3 d3 w3 (Rd.of_own ho3))
  have hb13 := stay_b hb12 hb3
  clear hb3 hb12 ho3
  go_wp2_with fail
  refine (CC3.out).mono ?_
  rintro e w4 ⟨rfl, hb4⟩
  have hb14 := stay_b hb13 hb4
  clear hb4 hb13
  go_wp2_with fail
  refine (CM.out _ hb14).mono ?_
  rintro e w5 ⟨rfl, rfl⟩
  go_wp2
  go_ret
  exact ⟨rfl, hb14⟩
set_option maxRecDepth 100000 in
set_option maxHeartbeats 3200000 in
theorem vall_ok (b off n c : Nat) (xs : List Int) (w : World) (h : Rd w 1 (some ⟨b, off, none⟩) n (vis xs)) (hn : n * 8 ≤ 140737488351232) (h0 : chkE xs = 0) :
    Calls Try.prog 4 #[.slice (some ⟨b, off, none⟩) n c] w fun e w' => e = .returned (.bool true) ∧ Below w.heap.size w w' := by
  have hl := h.ints_len
  have hok := chk_ok h0
  have hn8 : n ≤ 8 := by have := hok.2.1; omega
  have hn0 : 0 < n := by have := hok.1; omega
  have cI := fun w1 (hb : Below w.heap.size w w1) => ints_any (some ⟨b, off, none⟩) n c xs w1 (h.below hb) hn (by simp)
  have cM := fun w1 (hb : Below w.heap.size w w1) => anglesMay_any (some ⟨b, off, none⟩) n c xs w1 (h.below hb) (by omega)
  have cO := fun w1 (hb : Below w.heap.size w w1) => orders_any b off n c xs w1 (h.below hb) h0
  have cA := fun (g d : Nat) (w1 : World) (r : Rd w1 1 (some ⟨g, 0, none⟩) n (vis xs)) (q1 : n ≤ d) (q2 : d ≤ maxLen) => all_ok g 0 n d xs w1 r q1 q2 h0
  have cC := fun (g d : Nat) (w1 : World) (r : Rd w1 1 (some ⟨g, 0, none⟩) n (vis xs)) (q1 : n ≤ d) (q2 : d ≤ maxLen) => count_ok g 0 n d xs w1 r q1 q2 h0
  have hfd := fun m (hm : m < 2 ^ xs.length) => found_at h0 hm
  have hga := fun m (hm : m < 2 ^ n) => goods_at (xs := xs) (n := n) hm
  have hgl : (goods xs n (2 ^ n)).length ≤ 2 ^ n := goods_le _ _ _
  simp only [h0] at cM
  simp only [hl] at hfd
  have hT256 := pow_le8 (Nat.le_refl n) hn8
  obtain ⟨T, hT⟩ : ∃ T, T = 2 ^ n := ⟨_, rfl⟩
  simp only [← hT] at cO cA cC hfd hga hgl hT256
  obtain ⟨N, hN⟩ : ∃ N, N = (goods xs n T).length := ⟨_, rfl⟩
  simp only [← hN] at cA cC hgl
  have CI := Lib.hid cI
  have CM := Lib.hid cM
  have CO := Lib.hid cO
  have CA := Lib.hid cA
  have CC := Lib.hid cC
  have FD := Lib.hid hfd
  have GA := Lib.hid hga
  have HN := Lib.hid hN
  have HT := Lib.hid hT
  have hNN : ((N : Int) == (N : Int)) = true := by simp
  have hnn : ((n : Int) == (n : Int)) = true := by simp
  have hnm : ((n : Int) != (n : Int)) = false := by simp
  clear cI cM cO cA cC hfd hga hN hT h hl hok h0 hn
  go_enter Try.func4, Try.ntmps4
  go_wp2_with fail
  refine (CI.out _ (Below.refl _ _)).mono ?_
  rintro e w1 ⟨v1, rfl, ho1, hb1⟩
  obtain ⟨g1, d1, _, rfl, q1, q2, _, _⟩ := own_addr ho1 hn0
  have CA1 := Lib.hid (CA.out g1 d1 w1 (Rd.of_own ho1) q1 q2)
  clear ho1
  go_wp2_with fail
  refine (CA1.out).mono ?_
  rintro e w2 ⟨v, vals, rfl, hrow, hrows, hb2⟩
  obtain ⟨A7, c7, rfl, _, _⟩ := own_slice hrow
  have hb12 := stay_b hb1 hb2
  clear hb1 hb2
  go_wp2_with fail
  refine (CI.out _ hb12).mono ?_
  rintro e w3 ⟨v3, rfl, ho3, hb3⟩
  obtain ⟨g3, d3, _, rfl, q3, q4, _, _⟩ := own_addr ho3 hn0
  have CC3 := Lib.hid (CC.out g3 d3 w3 (Rd.of_own ho3) q3 q4)
  have hrow3 := own_below hrow hb3 (Nat.le_refl _)
  have hrows3 := hrows.below hb3
  have hb13 := stay_b hb12 hb3
  clear hb3 hb12 ho3 hrow hrows
  go_wp2_with fail
  refine (CC3.out).mono ?_
  rintro e w4 ⟨rfl, hb4⟩
  have hrow4 := own_below hrow3 hb4 (Nat.le_refl _)
  have hrows4 := hrows3.below hb4
  have hb14 := stay_b hb13 hb4
  clear hb4 hb13 hrow3 hrows3
  go_wp2_with fail
  refine (CM.out _ hb14).mono ?_
  rintro e w5 ⟨rfl, rfl⟩
  go_wp2_with fail
  refine (CO.out _ hb14).mono ?_
  rintro e w6 ⟨g6, rfl, hg6, hg6l, hb6⟩
  have HRW := Lib.hid (own_below hrow4 hb6 (Nat.le_refl _))
  have HRS := Lib.hid (hrows4.below hb6)
  have hb16 := stay_b hb14 hb6
  have HG6 := Lib.hid hg6
  clear hb6 hb14 hrow4 hrows4 hg6
  go_wp2_with fail
  go_loopw [9, 10] (fun q v wr => ∃ m k : Nat, m ≤ T ∧ k ≤ N ∧ v = .int .i64 m ∧ q = .int .i64 k ∧ k = (goods xs n m).length ∧ w6 = wr) (fun _ v _ => T - (intOf v).toNat)
  case atStart => exact ⟨0, 0, by omega, by omega, rfl, rfl, rfl, rfl⟩
  case round =>
    obtain ⟨m, k, hm, hk, rfl, rfl, hke, rfl⟩ := hrel
    have HK := Lib.hid hke
    clear hke
    by_cases hmT : m < T
    · have hfd := FD.out m hmT
      have hcm := cell_of_blk HG6.out m
      simp only [List.getElem?_toArray, List.getElem?_map, hfd, Option.map_some] at hcm
      have hga := GA.out m hmT
      have hcn := fun b => @goods_cnt xs n m b
      obtain ⟨fb, hfb⟩ : ∃ fb, fb = Fb (xs.zip (kindsOf n m)) := ⟨_, rfl⟩
      rw [← hfb] at hcm hga
      simp only [← hfb, ← HK.out] at hcn
      rw [← HK.out] at hga
      have GA1 := Lib.hid hga
      have CN1 := Lib.hid (hcn fb rfl)
      clear hga hcn hfd hfb
      cases fb with
      | false =>
        go_wp2
        go_roundw
        case rel => exact ⟨m + 1, k, by omega, hk, by go_num, rfl, CN1.out.symm, by simp⟩
        case measure => simp [intOf]; omega
      | true =>
        have hKt := GA1.out rfl
        have hkN : k < N := by rw [HN.out]; exact (List.getElem?_eq_some_iff.1 hKt).1
        obtain ⟨b7, o7, hA7, hbl7, hv7⟩ := (Rd.of_own HRW.out).2 (show 0 < N by omega)
        subst hA7
        obtain ⟨g7, hg1, hg2⟩ := HRS.out.2 k _ hKt
        have hcv := hv7 k _ hg1
        have cN := kindsNumber_any (some ⟨g7, 0, none⟩) n n (kindsOf n m) w6 (rd_blk hg2 (kindsOf_len n m)) hn8 (kindsOf_12 n m)
        rw [num_kinds (by rw [← HT.out]; exact hmT)] at cN
        have CN := Lib.hid cN
        have HG7 := Lib.hid hg2
        have hmm : ((m : Int) != (m : Int)) = false := by simp
        clear hKt hg1 hg2 hv7 cN
        go_wp2_with fail
        refine (CN.out).mono ?_
        rintro e w7 ⟨rfl, rfl⟩
        go_wp2_with fail
        go_loopw [11] (fun v wr => ∃ i : Nat, i ≤ n ∧ v = .int .i64 i ∧ w6 = wr) (fun v _ => n - (intOf v).toNat)
        case atStart => exact ⟨0, by omega, rfl, rfl⟩
        case round =>
          obtain ⟨i, hi, rfl, rfl⟩ := hrel
          by_cases hin : i < n
          · obtain ⟨z, hz⟩ : ∃ z, (kindsOf n m)[i]? = some z := ⟨_, List.getElem?_eq_getElem (by rw [kindsOf_len]; exact hin)⟩
            have hz12 := kindsOf_12 n m z (List.mem_of_getElem? hz)
            have hc9 := cell_of_blk HG7.out i
            simp only [List.getElem?_toArray, List.getElem?_map, hz, Option.map_some] at hc9
            clear hz
            rcases hz12 with rfl | rfl
            all_goals
              go_wp2
              go_roundw
              case rel => exact ⟨i + 1, by omega, by go_num, by simp⟩
              case measure => simp [intOf]; omega
          · obtain rfl : i = n := by omega
            go_wp2
            go_roundw
            case rel => exact ⟨m + 1, k + 1, by omega, by omega, by go_num, by go_num, CN1.out.symm, by simp⟩
            case measure => simp [intOf]; omega
    · obtain rfl : m = T := by omega
      obtain rfl : k = N := by rw [HK.out, HN.out]
      go_wp2
      go_ret
      exact ⟨rfl, hb16⟩
theorem vall_walk (A : Option Addr) (n c : Nat) (xs : List Int) (w : World) (h : Rd w 1 A n (vis xs)) (hn : n * 8 ≤ 140737488351232) (hA : A = none → c = 0) :
    Calls Try.prog 4 #[.slice A n c] w fun e w' => e = .returned (.bool true) ∧ Below w.heap.size w w' := by
  by_cases h0 : chkE xs = 0
  · have hok := chk_ok h0
    obtain ⟨b, off, hb⟩ := h.addr (show 0 < n by have := h.ints_len; have := hok.1; omega)
    subst hb
    exact vall_ok b off n c xs w h hn h0
  · exact vall_err A n c xs w h hn hA h0
end Go.Proofs.Ytcfeejlhhimpjaa
