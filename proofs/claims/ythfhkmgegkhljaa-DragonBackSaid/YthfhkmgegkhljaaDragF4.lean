/- The walk of DragonBack. -/
import Derived.Test.YthfhkmgegkhljaaDragF3
namespace Go.Proofs.Ythfhkmgegkhljaa
open Go.RowKit

/-- Are two lists the same? -/
theorem equal_any (A B : Option Addr) (n m c d : Nat) (xs ys : List Int) (w : World) (hx : Rd w 1 A n (vis xs)) (hy : Rd w 1 B m (vis ys)) (hn : n ≤ 9223372036854775807) (hm : m ≤ 9223372036854775807) :
    Calls Try.prog 31 #[.slice A n c, .slice B m d] w fun e w' => e = .returned (.bool (decide (xs = ys))) ∧ Below w.heap.size w w' := by
  have hxl := hx.ints_len
  have hyl := hy.ints_len
  by_cases hnm : n = m
  · subst hnm
    have HX := Lib.hid hxl
    have HY := Lib.hid hyl
    clear hxl hyl
    go_enter Try.func31, Try.ntmps31
    go_wp2
    go_loopw [5] (fun i wr => ∃ k : Nat, k ≤ n ∧ i = .int .i64 k ∧ Hid (xs.take k = ys.take k) ∧ Below w.heap.size w wr) (fun i _ => n - (intOf i).toNat)
    case atStart => exact ⟨0, Nat.zero_le _, rfl, Lib.hid rfl, Below.refl _ _⟩
    case round =>
      obtain ⟨k, hk, rfl, heq, hb⟩ := hrel
      by_cases hlt : k < n
      · obtain ⟨b1, o1, x, hA, hb1, hx1, hc1⟩ := (hx.below hb).int hlt
        obtain ⟨b2, o2, y, hB, hb2, hy1, hc2⟩ := (hy.below hb).int hlt
        have HX1 := Lib.hid hx1
        have HY1 := Lib.hid hy1
        have hki : (k : Int) < (n : Int) := by omega
        clear hx1 hy1
        subst hA
        subst hB
        by_cases hxy : x = y
        · subst hxy
          go_wp2
          go_quiet (fail)
          go_wp2
          go_roundw
          case rel => exact ⟨k + 1, by omega, by go_num, Lib.hid (by rw [List.take_add_one, List.take_add_one, HX1.out, HY1.out, heq.out]), below_drewN hb _⟩
          case measure => simp [intOf] <;> omega
        · have hne : (x != y) = true := by simpa using hxy
          go_wp2
          go_quiet (fail)
          go_wp2
          go_ret
          refine ⟨ret_bool ?_, below_drewN hb _⟩
          have : ¬ xs = ys := by
            rintro rfl
            have h1 := HX1.out.symm.trans HY1.out
            injection h1 with h1
            exact hxy h1
          simp [this]
      · have hfin : xs = ys := by
          have h1 := heq.out
          rw [List.take_of_length_le (by rw [HX.out]; omega), List.take_of_length_le (by rw [HY.out]; omega)] at h1
          exact h1
        have HF := Lib.hid hfin
        clear hfin
        go_wp2
        go_ret
        exact ⟨ret_bool (by simp [HF.out]), hb⟩
  · have hne : ((n : Int) != (m : Int)) = true := by simp; omega
    have hxy : ¬ xs = ys := by rintro rfl; omega
    have HXY := Lib.hid hxy
    clear hxl hyl hnm hxy
    go_enter Try.func31, Try.ntmps31
    go_wp2
    go_ret
    exact ⟨ret_bool (by simp [HXY.out]), Below.refl _ _⟩

set_option maxRecDepth 100000 in
set_option maxHeartbeats 3200000 in
theorem back_walk (A : Option Addr) (n c : Nat) (zs : List Int) (w : World) (h : Rd w 1 A n (vis zs)) (hn : n ≤ 9223372036854775807)
    (hz : ∀ z ∈ zs, -9223372036854775808 ≤ z ∧ z ≤ 9223372036854775807) :
    Calls Try.prog 9 #[.slice A n c] w fun e w' => e = .returned (.bool true) ∧ Below w.heap.size w w' := by
  go_enter Try.func9, Try.ntmps9
  go_wp2_with fail
  refine (kinds_any A n c zs 10 w h hn (by decide) hz).mono ?_
  rintro e w1 ⟨v1, rfl, hown1, hbel1⟩
  obtain ⟨A1, c1, rfl, hc1, hc1'⟩ := own_slice hown1
  have hrd1 := Rd.of_own hown1
  obtain ⟨r, hr⟩ : ∃ r, r = ((zs.take 10).map kindOfRaw).reverse := ⟨_, rfl⟩
  have hrev : (zs.take 10).map kindOfRaw = r.reverse := by rw [hr, List.reverse_reverse]
  rw [hrev] at hown1 hrd1
  have hkd : Kinded r := by
    intro z hz
    rw [hr, List.mem_reverse, List.mem_map] at hz
    obtain ⟨y, _, rfl⟩ := hz
    have h1 := pick_lo y 2 (by omega)
    have h2 := pick_hi y 2 (by omega)
    unfold kindOfRaw
    omega
  obtain ⟨m, hm⟩ : ∃ m, m = min n 10 := ⟨_, rfl⟩
  rw [← hm] at hown1 hrd1 hc1 ⊢
  have hm10 : m ≤ 10 := by omega
  have hrl : r.length = m := by have := hrd1.ints_len; simpa using this
  have hchk : checkE r.reverse = 0 := by
    unfold checkE
    rw [if_neg (by simp; omega), if_neg]
    intro h
    rw [List.any_eq_true] at h
    obtain ⟨z, hz, hs⟩ := h
    have := hkd z (by simpa using hz)
    rcases this with rfl | rfl <;> simp [strangeB] at hs
  have hfold := foldsR_dw hkd (by omega)
  obtain ⟨s, hs1, hs2, hs3⟩ := revc_dw r hkd
  have hfold2 := foldsR_dw hs2 (by omega)
  obtain ⟨N, hN⟩ : ∃ N, N = 2 ^ m := ⟨_, rfl⟩
  have hNb : N ≤ 1024 := by have h2 : 2 ^ m ≤ 2 ^ 10 := Nat.pow_le_pow_right (by decide) hm10; omega
  have hlen := dw_len r
  rw [hrl, ← hN] at hlen
  obtain ⟨q, hq⟩ : ∃ q, q = (dw r).length := ⟨_, rfl⟩
  rw [← hq] at hlen
  have hq1023 : q ≤ 1023 := by omega
  have hpow : wrap64 (2 ^ m) = (q : Int) + 1 := by
    have : (2 : Int) ^ m = (N : Int) := by rw [hN]; push_cast; rfl
    rw [this, ← hlen]; push_cast; exact IntWalk.wrap64_in _ ⟨by omega, by omega⟩
  have HQ := Lib.hid hq
  have HR := Lib.hid hr
  have HM := Lib.hid hm
  have HRL := Lib.hid hrl
  have HRV := Lib.hid hrev
  have HF := Lib.hid hfold
  have HF2 := Lib.hid hfold2
  have HS1 := Lib.hid hs1
  have HS3 := Lib.hid hs3
  have HC := Lib.hid hchk
  clear hr hm hrl hrev hq hlen hN hfold hfold2 hs1 hs3 hchk
  go_wp2_with fail
  refine (Word_yes r A1 m c1 w1 hrd1 hm10 hc1 hkd HC.out).mono ?_
  rintro e w2 ⟨v2, rfl, hown2, hbel2⟩
  rw [← HQ.out] at hown2
  obtain ⟨A2, c2, rfl, hc2, hc2'⟩ := own_slice hown2
  have hr2 := Rd.of_own hown2
  have hb2 := hbel1.trans (hbel2.mono hbel1.size)
  go_wp2_with fail
  refine (folds_any A2 q c2 _ w2 hr2 (by omega)).mono ?_
  rintro e w3 ⟨v3, rfl, hown3, hbel3⟩
  rw [HF.out] at hown3 ⊢
  simp only [List.length_reverse, HRL.out] at hown3
  obtain ⟨A3, c3, rfl, hc3, hc3'⟩ := own_slice hown3
  have hb3 := hb2.trans (hbel3.mono hb2.size)
  go_wp2_with fail
  refine (equal_any A3 A1 m m c3 c1 _ _ w3 (Rd.of_own hown3) ((hrd1.below hbel2).below hbel3) (by omega) (by omega)).mono ?_
  rintro e w4 ⟨rfl, hbel4⟩
  have ht : decide (r.reverse = r.reverse) = true := by simp
  rw [ht]
  clear ht
  have hb4 := hb3.trans (hbel4.mono hb3.size)
  have hr4 := (hr2.below hbel3).below hbel4
  go_wp2_with fail
  simp only [hpow]
  go_loopw [8, 9] (fun u i wr => ∃ (t : Nat) (I : Int), t ≤ q ∧ i = .int .i64 I ∧ I + 1 + t ≤ q ∧ (q : Int) ≤ I + 1 + t ∧ wr.ownsRow w4.heap.size 3 1 u t (vis ((revc (dw r)).take t)) ∧ Below w4.heap.size w4 wr) (fun _ i _ => (intOf i + 1).toNat)
  case atStart => exact ⟨0, (q : Int) - 1, Nat.zero_le _, rfl, by omega, by omega, World.ownsRow_nil _ _ _ _, Below.refl _ _⟩
  case round =>
    obtain ⟨t, I, ht, rfl, hI1, hI2, hown, hbel⟩ := hrel
    have hrw := hr4.below hbel
    by_cases hlt : t < q
    · obtain ⟨J, rfl⟩ : ∃ J : Nat, I = (J : Int) := ⟨I.toNat, by omega⟩
      obtain ⟨b, off, x, hA, hb, hx, hc⟩ := hrw.int (k := J) (by omega)
      have hx12 := kinded_dw hkd x (List.mem_of_getElem? hx)
      have hx1 : 1 ≤ x ∧ x ≤ 2 := by omega
      have hrx : (revc (dw r))[t]? = some (3 - x) := by
        unfold revc
        rw [List.getElem?_map, List.getElem?_reverse (by have := HQ.out; omega), show (dw r).length - 1 - t = J from by have := HQ.out; omega, hx]
        rfl
      have HX := Lib.hid hrx
      subst hA
      clear hx hx12 hrx
      go_wp2_with (at_builtin; refine app_ints rfl (.tmp 52) (.tmp 58) rfl w4.heap.size _ t ((revc (dw r)).take t) [3 - x] rfl hown hbel.size 1 _ rfl rfl rfl (by omega) ?_; intro v' w' hown' hb' _)
      go_roundw
      case rel =>
        refine ⟨t + 1, (J : Int) - 1, by omega, rfl, by omega, by omega, ?_, hbel.trans hb'⟩
        rw [List.take_add_one, HX.out]
        exact hown'
      case measure => simp [intOf] <;> omega
    · have hI : I = -1 := by omega
      subst hI
      obtain rfl : t = q := by omega
      have hta : (revc (dw r)).take t = dw s := by
        rw [List.take_of_length_le (by simp [revc]; have := HQ.out; omega), HS3.out]
      rw [hta] at hown
      obtain ⟨A5, c5, rfl, hc5, hc5'⟩ := own_slice hown
      have hb5 := hb4.trans (hbel.mono hb4.size)
      go_wp2_with fail
      refine (folds_any A5 t c5 _ wr (Rd.of_own hown) (by omega)).mono ?_
      rintro e w6 ⟨v6, rfl, hown6, hbel6⟩
      rw [HF2.out] at hown6 ⊢
      simp only [List.length_reverse, HS1.out, HRL.out] at hown6
      obtain ⟨A6, c6, rfl, hc6, hc6'⟩ := own_slice hown6
      clear hta
      go_wp2
      go_ret
      exact ⟨rfl, hb5.trans (hbel6.mono hb5.size)⟩
end Go.Proofs.Ythfhkmgegkhljaa
