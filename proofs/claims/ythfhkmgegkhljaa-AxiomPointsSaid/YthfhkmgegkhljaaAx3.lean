/- 'FarMay'; the greatest common divisor once more; straights in form. -/
import Derived.Test.YthfhkmgegkhljaaAx2
namespace Go.Proofs.Ythfhkmgegkhljaa
open Go.RowKit

set_option maxRecDepth 100000 in
set_option maxHeartbeats 3200000 in
theorem farMay_any (A B : Option Addr) (n m c d : Nat) (ps : List V2) (ls : List V3) (w : World) (hp : Rd w 2 A n (vps ps)) (hs : Rd w 3 B m (vsts ls)) (hn : n ≤ 2147483648) (hm : m ≤ 2147483648) :
    Calls Try.prog 23 #[.slice A n c, .slice B m d] w fun e w' => e = .returned (.int .i64 (farE ps ls)) ∧ Below w.heap.size w w' := by
  have HPL := Lib.hid hp.len2
  have HSL := Lib.hid hs.len3
  go_enter Try.func23, Try.ntmps23
  go_wp2
  go_loop [5] (fun i => ∃ k : Nat, k ≤ n ∧ i = .int .i64 k ∧ NoneB farP ps k) (fun i => n - (intOf i).toNat)
  case atStart => exact ⟨0, Nat.zero_le _, rfl, noneB_zero _ _⟩
  case round =>
    obtain ⟨k, hk, rfl, hnb⟩ := hrel
    by_cases hlt : k < n
    · obtain ⟨b, off, x, y, hA, hb, hz, c0, c1⟩ := hp.pt hlt
      have HZ := Lib.hid hz
      clear hz
      subst hA
      cases hx : farN x
      · cases hy : farN y
        · have HF : Hid (farP (x, y) = false) := Lib.hid (by simp [farP, hx, hy])
          go_wp2_with (go_at_call 39; refine (inFar_any _ _).mono ?_; rintro e w1 ⟨rfl, rfl⟩)
          go_round
          case rel => exact ⟨k + 1, by omega, by go_num, noneB_succ hnb HZ.out HF.out⟩
          case measure => simp [intOf]; omega
        · have HF : Hid (farP (x, y) = true) := Lib.hid (by simp [farP, hy])
          go_wp2_with (go_at_call 39; refine (inFar_any _ _).mono ?_; rintro e w1 ⟨rfl, rfl⟩)
          go_ret
          exact ⟨ret_int (by unfold farE; rw [noneB_idx HZ.out HF.out]; rfl), Below.refl _ _⟩
      · have HF : Hid (farP (x, y) = true) := Lib.hid (by simp [farP, hx])
        go_wp2_with (go_at_call 39; refine (inFar_any _ _).mono ?_; rintro e w1 ⟨rfl, rfl⟩)
        go_ret
        exact ⟨ret_int (by unfold farE; rw [noneB_idx HZ.out HF.out]; rfl), Below.refl _ _⟩
    · have hno := noneB_all hnb (by have := HPL.out; omega)
      have HNO := Lib.hid hno
      clear hno hnb
      go_wp2
      go_loopw [6] (fun i wr => ∃ k : Nat, k ≤ m ∧ i = .int .i64 k ∧ NoneB farL ls k ∧ Below w.heap.size w wr) (fun i _ => m - (intOf i).toNat)
      case atStart => exact ⟨0, Nat.zero_le _, rfl, noneB_zero _ _, Below.refl _ _⟩
      case round =>
        obtain ⟨k2, hk2, rfl, hnb, hbel⟩ := hrel
        by_cases hlt2 : k2 < m
        · obtain ⟨b, off, x, y, z, hB, hb, hz, c0, c1, c2⟩ := (hs.below hbel).st hlt2
          have HZ := Lib.hid hz
          clear hz
          subst hB
          have hbx : Below w.heap.size w (wr.alloc (.cells #[.int .i64 x, .int .i64 y, .int .i64 z] 40)) := hbel.alloc hbel.size _
          cases hx : farN x
          · cases hy : farN y
            · cases hz' : farN z
              · have HF : Hid (farL (x, y, z) = false) := Lib.hid (by simp [farL, hx, hy, hz'])
                go_wp2_with (go_at_call 39; refine (inFar_any _ _).mono ?_; rintro e w1 ⟨rfl, rfl⟩)
                go_roundw
                case rel => exact ⟨k2 + 1, by omega, by go_num, noneB_succ hnb HZ.out HF.out, hbx⟩
                case measure => simp [intOf]; omega
              · have HF : Hid (farL (x, y, z) = true) := Lib.hid (by simp [farL, hz'])
                go_wp2_with (go_at_call 39; refine (inFar_any _ _).mono ?_; rintro e w1 ⟨rfl, rfl⟩)
                go_ret
                exact ⟨ret_int (by unfold farE; rw [HNO.out, noneB_idx HZ.out HF.out]; rfl), hbx⟩
            · have HF : Hid (farL (x, y, z) = true) := Lib.hid (by simp [farL, hy])
              go_wp2_with (go_at_call 39; refine (inFar_any _ _).mono ?_; rintro e w1 ⟨rfl, rfl⟩)
              go_ret
              exact ⟨ret_int (by unfold farE; rw [HNO.out, noneB_idx HZ.out HF.out]; rfl), hbx⟩
          · have HF : Hid (farL (x, y, z) = true) := Lib.hid (by simp [farL, hx])
            go_wp2_with (go_at_call 39; refine (inFar_any _ _).mono ?_; rintro e w1 ⟨rfl, rfl⟩)
            go_ret
            exact ⟨ret_int (by unfold farE; rw [HNO.out, noneB_idx HZ.out HF.out]; rfl), hbx⟩
        · have hno2 := noneB_all hnb (by have := HSL.out; omega)
          have HNO2 := Lib.hid hno2
          clear hno2 hnb
          go_wp2
          go_loop [8] (fun i => ∃ k : Nat, k ≤ m ∧ i = .int .i64 k ∧ NoneB nilL ls k) (fun i => m - (intOf i).toNat)
          case atStart => exact ⟨0, Nat.zero_le _, rfl, noneB_zero _ _⟩
          case round =>
            obtain ⟨k3, hk3, rfl, hnb⟩ := hrel
            by_cases hlt3 : k3 < m
            · obtain ⟨b, off, x, y, z, hB, hb, hz, c0, c1, c2⟩ := (hs.below hbel).st hlt3
              have HZ := Lib.hid hz
              clear hz
              subst hB
              by_cases h1 : x = 0
              · subst h1
                by_cases h2 : y = 0
                · subst h2
                  go_wp2
                  go_ret
                  exact ⟨ret_int (by unfold farE; rw [HNO.out, HNO2.out, noneB_idx HZ.out (by rfl)]; rfl), hbel⟩
                · have h2' : (y == 0) = false := by simpa using h2
                  have HF : Hid (nilL (0, y, z) = false) := Lib.hid (by simp [nilL, h2])
                  clear h2
                  go_wp2
                  go_round
                  case rel => exact ⟨k3 + 1, by omega, by go_num, noneB_succ hnb HZ.out HF.out⟩
                  case measure => simp [intOf]; omega
              · have h1' : (x == 0) = false := by simpa using h1
                have HF : Hid (nilL (x, y, z) = false) := Lib.hid (by simp [nilL, h1])
                clear h1
                go_wp2
                go_round
                case rel => exact ⟨k3 + 1, by omega, by go_num, noneB_succ hnb HZ.out HF.out⟩
                case measure => simp [intOf]; omega
            · have hno3 := noneB_all hnb (by have := HSL.out; omega)
              have HNO3 := Lib.hid hno3
              clear hno3 hnb
              go_wp2
              go_ret
              exact ⟨ret_int (by unfold farE; rw [HNO.out, HNO2.out, HNO3.out]; rfl), hbel⟩

theorem common_step (x y : Int) (hx : 0 ≤ x) (hy : 0 ≤ y) : Int.gcd (y % x) x = Int.gcd x y := by
  obtain ⟨a, rfl⟩ := Int.eq_ofNat_of_zero_le hx
  obtain ⟨b, rfl⟩ := Int.eq_ofNat_of_zero_le hy
  have h : ((b : Int) % (a : Int)) = ((b % a : Nat) : Int) := by push_cast; rfl
  rw [h]
  show Nat.gcd (b % a) a = Nat.gcd a b
  rw [Nat.gcd_rec a b]
set_option maxHeartbeats 800000 in
theorem common_any (a b : Int) (w : World) (h1 : -4611686018427387904 ≤ a) (h2 : a ≤ 4611686018427387904) (h3 : -4611686018427387904 ≤ b) (h4 : b ≤ 4611686018427387904) :
    Calls Try.prog 51 #[.int .i64 a, .int .i64 b] w fun e w' => e = .returned (.int .i64 (Int.gcd a b)) ∧ w = w' := by
  have key : ∀ (u v : Int), 0 ≤ u → 0 ≤ v → u ≤ 4611686018427387904 → v ≤ 4611686018427387904 → Int.gcd u v = Int.gcd a b → True := fun _ _ _ _ _ _ _ => trivial
  clear key
  by_cases ha : a < 0
  · by_cases hb : b < 0
    all_goals
      go_enter Try.func51, Try.ntmps51
      go_wp2
      go_loop [0, 1] (fun u v => ∃ x y : Int, u = .int .i64 x ∧ v = .int .i64 y ∧ 0 ≤ x ∧ x ≤ 4611686018427387904 ∧ 0 ≤ y ∧ y ≤ 4611686018427387904 ∧ Hid (Int.gcd x y = Int.gcd a b)) (fun u _ => (intOf u).natAbs)
      case atStart => exact ⟨_, _, rfl, rfl, by omega, by omega, by omega, by omega, Lib.hid (by simp [Int.gcd_neg, Int.neg_gcd])⟩
      case round =>
        obtain ⟨x, y, rfl, rfl, x1, x2, y1, y2, hg⟩ := hrel
        by_cases hx : 0 < x
        · have hm1 := Int.emod_nonneg y (show x ≠ 0 by omega)
          have hm2 := Int.emod_lt_of_pos y hx
          go_wp2
          go_round
          case rel => exact ⟨y % x, x, rfl, rfl, by omega, by omega, x1, x2, Lib.hid (by rw [common_step x y x1 y1]; exact hg.out)⟩
          case measure => simp [intOf]; omega
        · have hx0 : x = 0 := by omega
          subst hx0
          go_wp2
          go_ret
          exact ⟨ret_int (by rw [← hg.out, Int.gcd_zero_left]; omega), rfl⟩
  · by_cases hb : b < 0
    all_goals
      go_enter Try.func51, Try.ntmps51
      go_wp2
      go_loop [0, 1] (fun u v => ∃ x y : Int, u = .int .i64 x ∧ v = .int .i64 y ∧ 0 ≤ x ∧ x ≤ 4611686018427387904 ∧ 0 ≤ y ∧ y ≤ 4611686018427387904 ∧ Hid (Int.gcd x y = Int.gcd a b)) (fun u _ => (intOf u).natAbs)
      case atStart => exact ⟨_, _, rfl, rfl, by omega, by omega, by omega, by omega, Lib.hid (by simp [Int.gcd_neg])⟩
      case round =>
        obtain ⟨x, y, rfl, rfl, x1, x2, y1, y2, hg⟩ := hrel
        by_cases hx : 0 < x
        · have hm1 := Int.emod_nonneg y (show x ≠ 0 by omega)
          have hm2 := Int.emod_lt_of_pos y hx
          go_wp2
          go_round
          case rel => exact ⟨y % x, x, rfl, rfl, by omega, by omega, x1, x2, Lib.hid (by rw [common_step x y x1 y1]; exact hg.out)⟩
          case measure => simp [intOf]; omega
        · have hx0 : x = 0 := by omega
          subst hx0
          go_wp2
          go_ret
          exact ⟨ret_int (by rw [← hg.out, Int.gcd_zero_left]; omega), rfl⟩
end Go.Proofs.Ythfhkmgegkhljaa
