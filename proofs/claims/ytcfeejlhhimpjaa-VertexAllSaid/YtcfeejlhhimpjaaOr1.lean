/- The document's words on orders of sectors: between, kindsOf, KindsNumber, AnglesMay. -/
import Derived.Test.YtcfeejlhhimpjaaCr14
import Derived.Test.YtcfeejlhhimpjaaPo3
namespace Go.Proofs.Ytcfeejlhhimpjaa
set_option linter.unusedSimpArgs false
set_option linter.unusedVariables false
open Go.RowKit Vx Vo

theorem between_any (h a b : Int) (w : World) :
    Calls Try.prog 34 #[.int .i64 h, .int .i64 a, .int .i64 b] w fun e w' => e = .returned (.bool (btwB h a b)) ∧ w = w' := by
  by_cases p1 : a < h
  · by_cases p2 : h < b
    · have e : btwB h a b = true := by simp [btwB, p1, p2]
      rw [e]
      clear e
      go_enter Try.func34, Try.ntmps34
      go_wp2
      go_ret
      exact ⟨rfl, rfl⟩
    · have p4 : ¬ h < a := by omega
      have e : btwB h a b = false := by simp [btwB, p1, p2, p4]
      rw [e]
      clear e
      by_cases p3 : b < h
      all_goals
        go_enter Try.func34, Try.ntmps34
        go_wp2
        go_ret
        exact ⟨rfl, rfl⟩
  · by_cases p3 : b < h
    · by_cases p4 : h < a
      · have e : btwB h a b = true := by simp [btwB, p3, p4]
        rw [e]
        clear e
        go_enter Try.func34, Try.ntmps34
        go_wp2
        go_ret
        exact ⟨rfl, rfl⟩
      · have e : btwB h a b = false := by simp [btwB, p1, p4]
        rw [e]
        clear e
        go_enter Try.func34, Try.ntmps34
        go_wp2
        go_ret
        exact ⟨rfl, rfl⟩
    · have e : btwB h a b = false := by simp [btwB, p1, p3]
      rw [e]
      clear e
      go_enter Try.func34, Try.ntmps34
      go_wp2
      go_ret
      exact ⟨rfl, rfl⟩
theorem inBounds_any (x a b : Int) (w : World) :
    Calls Try.prog 19 #[.int .i64 x, .int .i64 a, .int .i64 b] w fun e w' => e = .returned (.bool (decide (a ≤ x) && decide (x ≤ b))) ∧ w = w' := by
  by_cases p1 : a ≤ x
  · by_cases p2 : x ≤ b
    all_goals
      go_enter Try.func19, Try.ntmps19
      go_wp2
      go_ret
      exact ⟨by simp [p1, p2], rfl⟩
  · go_enter Try.func19, Try.ntmps19
    go_wp2
    go_ret
    exact ⟨by simp [show ¬ a ≤ x by omega], rfl⟩
set_option maxHeartbeats 1600000 in
theorem anglesMay_any (A : Option Addr) (n c : Nat) (xs : List Int) (w : World) (h : Rd w 1 A n (vis xs)) (hn : n ≤ 9223372036854775807) :
    Calls Try.prog 9 #[.slice A n c] w fun e w' => e = .returned (.int .i64 (chkE xs)) ∧ w = w' := by
  have hl := h.ints_len
  have HL := Lib.hid hl
  have htm : ((n : Int).tmod 2) = ((n % 2 : Nat) : Int) := by rw [Int.ofNat_tmod]; rfl
  by_cases hb : n < 2
  · have he : chkE xs = 2 := by simp [chkE, sizeBad, hl, hb]
    have HE := Lib.hid he
    clear he hl htm
    have hb1 : ((n : Int) < 2) := by omega
    go_enter Try.func9, Try.ntmps9
    go_wp2
    go_ret
    exact ⟨by rw [HE.out]; rfl, rfl⟩
  by_cases hb2 : 8 < n
  · have he : chkE xs = 2 := by simp [chkE, sizeBad, hl, hb2]
    have HE := Lib.hid he
    clear he hl htm
    go_enter Try.func9, Try.ntmps9
    go_wp2
    go_ret
    exact ⟨by rw [HE.out]; rfl, rfl⟩
  by_cases hb3 : n % 2 = 1
  · have he : chkE xs = 2 := by simp [chkE, sizeBad, hl, hb3]
    have HE := Lib.hid he
    have h0 : (n : Int) % 2 = 1 := by omega
    clear he hl htm hb3
    go_enter Try.func9, Try.ntmps9
    go_wp2
    go_ret
    exact ⟨by rw [HE.out]; rfl, rfl⟩
  have h0 : (n : Int) % 2 = 0 := by omega
  have hs : sizeBad xs.length = false := by simp [sizeBad, hl]; omega
  have HS := Lib.hid hs
  clear htm hl hs hb3
  go_enter Try.func9, Try.ntmps9
  go_wp2
  have H0 := Lib.hid h0
  clear h0
  go_loopw [4, 5, 6] (fun s o i wr => ∃ (k : Nat) (E O : Int), k ≤ n ∧ i = .int .i64 k ∧ s = .int .i64 E ∧ o = .int .i64 O ∧ E - O = alt (xs.take k) ∧ 0 ≤ E ∧ E ≤ 1000 * k ∧ 0 ≤ O ∧ O ≤ 1000 * k ∧ (∀ x ∈ xs.take k, inR x = true) ∧ w = wr) (fun _ _ i _ => n - (intOf i).toNat)
  case atStart => exact ⟨0, 0, 0, by omega, rfl, rfl, rfl, rfl, by omega, by omega, by omega, by omega, by simp, rfl⟩
  case round =>
    obtain ⟨k, E, O, hk, rfl, rfl, rfl, hEO, e1, e2, o1, o2, hall, rfl⟩ := hrel
    have HA := Lib.hid hall
    have HEO := Lib.hid hEO
    clear hall hEO
    by_cases hlt : k < n
    · obtain ⟨b, off, z, hA, hb0, hz, hc⟩ := h.int hlt
      subst hA
      have HZ := Lib.hid hz
      have hlen : (xs.take k).length = k := by rw [List.length_take, HL.out]; omega
      have hnx : alt (xs.take (k + 1)) = alt (xs.take k) + (if k % 2 = 0 then z else -z) := by
        rw [take_succ hz, alt_app, hlen]
        simp [alt]
      have HN := Lib.hid hnx
      have cB := inBounds_any z 1 1000 w
      have CB := Lib.hid cB
      clear hz hlen hnx cB
      by_cases hz1 : 1 ≤ z ∧ z ≤ 1000
      · obtain ⟨hz1, hz2⟩ := hz1
        have hzb : (decide ((1 : Int) ≤ z) && decide (z ≤ 1000)) = true := by simp [hz1, hz2]
        have cB := CB.out
        rw [hzb] at cB
        have CB2 := Lib.hid cB
        have hnew : ∀ x ∈ xs.take (k + 1), inR x = true := by
          intro x hx
          rw [take_succ HZ.out] at hx
          rcases List.mem_append.1 hx with hx | hx
          · exact HA.out x hx
          · simp at hx
            subst hx
            simp [inR]; omega
        have HNew := Lib.hid hnew
        clear hnew hzb cB CB
        by_cases hpar : k % 2 = 0
        · have hk0 : (k : Int) % 2 = 0 := by omega
          have hpr := HN.out
          rw [if_pos hpar] at hpr
          have HP := Lib.hid hpr
          clear hpr hpar
          go_wp2_with fail
          refine (CB2.out).mono ?_
          rintro e w1 ⟨rfl, rfl⟩
          go_wp2
          go_roundw
          case rel => exact ⟨k + 1, E + z, O, by omega, by go_num, rfl, rfl, by rw [HP.out, ← HEO.out]; omega, by omega, by omega, by omega, by omega, HNew.out, by simp⟩
          case measure => simp [intOf]; omega
        · have hk0 : (k : Int) % 2 = 1 := by omega
          have hpr := HN.out
          rw [if_neg hpar] at hpr
          have HP := Lib.hid hpr
          clear hpr hpar
          go_wp2_with fail
          refine (CB2.out).mono ?_
          rintro e w1 ⟨rfl, rfl⟩
          go_wp2
          go_roundw
          case rel => exact ⟨k + 1, E, O + z, by omega, by go_num, rfl, rfl, by rw [HP.out, ← HEO.out]; omega, by omega, by omega, by omega, by omega, HNew.out, by simp⟩
          case measure => simp [intOf]; omega
      · have hzb : (decide ((1 : Int) ≤ z) && decide (z ≤ 1000)) = false := by
          rw [Bool.and_eq_false_iff]
          simp only [decide_eq_false_iff_not]
          omega
        have cB := CB.out
        rw [hzb] at cB
        have CB2 := Lib.hid cB
        have he : chkE xs = 3 := by
          have : xs.all inR = false := by
            apply List.all_eq_false.2
            exact ⟨z, List.mem_of_getElem? HZ.out, by simp [inR]; omega⟩
          simp [chkE, HS.out, this]
        have HE := Lib.hid he
        clear he hzb cB CB hz1
        go_wp2_with fail
        refine (CB2.out).mono ?_
        rintro e w1 ⟨rfl, rfl⟩
        go_wp2
        go_ret
        exact ⟨by rw [HE.out]; rfl, by simp⟩
    · obtain rfl : k = n := by omega
      have htk : xs.take k = xs := List.take_of_length_le (by rw [HL.out]; exact Nat.le_refl _)
      have hal : xs.all inR = true := by
        have := HA.out
        rw [htk] at this
        exact List.all_eq_true.2 this
      have he : chkE xs = if alt xs ≠ 0 then 8 else 0 := by simp [chkE, HS.out, hal]
      have heo := HEO.out
      rw [htk] at heo
      rw [← heo] at he
      have HE := Lib.hid he
      clear he hal htk heo
      by_cases h0 : E = O
      · subst h0
        go_wp2
        go_ret
        exact ⟨by rw [HE.out, if_neg (by omega)]; rfl, by simp⟩
      · have hq : (E == O) = false := by simp [h0]
        go_wp2
        go_ret
        exact ⟨by rw [HE.out, if_pos (by omega)]; rfl, by simp⟩
/-- KindsNumber at a list of kinds -/
theorem numK_ext {K K' : Nat → Int} : ∀ j, (∀ i < j, K i = K' i) → numK K j = numK K' j := by
  intro j
  induction j with
  | zero => intro _; rfl
  | succ j ih =>
    intro h
    simp only [numK]
    rw [ih (fun i hi => h i (by omega)), h j (by omega)]
theorem numK_lt (K : Nat → Int) (j : Nat) : numK K j < 2 ^ j := by
  induction j with
  | zero => simp [numK]
  | succ j ih =>
    simp only [numK, Nat.pow_succ]
    split <;> omega
theorem pow_le8 {j n : Nat} (h : j ≤ n) (hn : n ≤ 8) : 2 ^ j ≤ 256 := Nat.le_trans (Nat.pow_le_pow_right (by decide) (Nat.le_trans h hn)) (by decide)
theorem kindsNumber_any (A : Option Addr) (n c : Nat) (ys : List Int) (w : World) (h : Rd w 1 A n (vis ys)) (hn : n ≤ 8) (hK : ∀ z ∈ ys, z = 1 ∨ z = 2) :
    Calls Try.prog 11 #[.slice A n c] w fun e w' => e = .returned (.int .i64 (numK (fn ys) n : Nat)) ∧ w = w' := by
  have HK := Lib.hid hK
  clear hK
  go_enter Try.func11, Try.ntmps11
  go_wp2
  go_loopw [3, 4] (fun m i wr => ∃ k : Nat, k ≤ n ∧ i = .int .i64 k ∧ m = .int .i64 (numK (fn ys) k : Nat) ∧ w = wr) (fun _ i _ => n - (intOf i).toNat)
  case atStart => exact ⟨0, by omega, rfl, rfl, rfl⟩
  case round =>
    obtain ⟨k, hk, rfl, rfl, rfl⟩ := hrel
    by_cases hkn : k < n
    · obtain ⟨b, off, z, hA, hb, hz, hcz⟩ := h.int hkn
      subst hA
      have hzk := HK.out z (List.mem_of_getElem? hz)
      have hst : numK (fn ys) (k + 1) = 2 * numK (fn ys) k + (if z = 2 then 1 else 0) := by
        simp only [numK]
        rw [fn_at hz]
      have hlt := numK_lt (fn ys) k
      have hp := pow_le8 (Nat.le_of_lt hkn) hn
      obtain ⟨M, hM⟩ : ∃ M, M = numK (fn ys) k := ⟨_, rfl⟩
      rw [← hM] at hst hlt ⊢
      have HST := Lib.hid hst
      have hM2 : M ≤ 256 := by omega
      clear hst hM hz hlt hp
      rcases hzk with rfl | rfl
      · go_wp2
        go_roundw
        case rel => exact ⟨k + 1, by omega, by go_num, by rw [HST.out, if_neg (by decide)]; go_num, by simp⟩
        case measure => simp [intOf]; omega
      · go_wp2
        go_roundw
        case rel => exact ⟨k + 1, by omega, by go_num, by rw [HST.out, if_pos rfl]; exact congrArg (Value.int .i64) (by omega), by simp⟩
        case measure => simp [intOf]; omega
    · obtain rfl : k = n := by omega
      go_wp2
      go_ret
      exact ⟨rfl, rfl⟩
end Go.Proofs.Ytcfeejlhhimpjaa
