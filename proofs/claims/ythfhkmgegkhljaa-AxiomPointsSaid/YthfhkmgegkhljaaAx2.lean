/- 'check' and 'FarMay'. -/
import Derived.Test.YthfhkmgegkhljaaAx1
namespace Go.Proofs.Ythfhkmgegkhljaa
open Go.RowKit

def inB (z l m : Int) : Bool := decide (l ≤ z) && decide (z ≤ m)
theorem inBounds_any (z l m : Int) (w : World) : Calls Try.prog 39 #[.int .i64 z, .int .i64 l, .int .i64 m] w fun e w' => e = .returned (.bool (inB z l m)) ∧ w = w' := by
  by_cases h1 : l ≤ z
  · by_cases h2 : z ≤ m
    · have HF : Hid (inB z l m = true) := Lib.hid (by simp [inB, h1, h2])
      go_enter Try.func39, Try.ntmps39
      go_wp2
      go_ret
      exact ⟨ret_bool HF.out.symm, rfl⟩
    · have HF : Hid (inB z l m = false) := Lib.hid (by simp [inB, h2])
      go_enter Try.func39, Try.ntmps39
      go_wp2
      go_ret
      exact ⟨ret_bool HF.out.symm, rfl⟩
  · have HF : Hid (inB z l m = false) := Lib.hid (by simp [inB, h1])
    go_enter Try.func39, Try.ntmps39
    go_wp2
    go_ret
    exact ⟨ret_bool HF.out.symm, rfl⟩
/-- As FarMay asks it. -/
theorem inFar_any (z : Int) (w : World) : Calls Try.prog 39 #[.int .i64 z, .int .i64 (-1000), .int .i64 1000] w fun e w' => e = .returned (.bool (!farN z)) ∧ w = w' := by
  refine (inBounds_any z (-1000) 1000 w).mono ?_
  rintro e w' ⟨rfl, rfl⟩
  refine ⟨ret_bool ?_, rfl⟩
  unfold farN inB
  by_cases h1 : z < -1000
  · simp [h1, show ¬ (-1000 ≤ z) by omega]
  · by_cases h2 : 1000 < z
    · simp [h2, show ¬ (z ≤ 1000) by omega]
    · simp [h1, h2, show -1000 ≤ z by omega, show z ≤ 1000 by omega]

theorem rd_lit2 (w : World) (a b : Int) : Rd (w.alloc (.cells #[.int .i64 a, .int .i64 b] 3)) 1 (some ⟨w.heap.size, 0, none⟩) 2 (vis [a, b]) :=
  Rd.of_own (World.ownsRow_lit (base := 0) (e := 3) (size := 1) w #[.int .i64 a, .int .i64 b] 2 (Nat.zero_le _) (by simp [maxLen]) rfl)
theorem rd_lit3 (w : World) (a b c : Int) : Rd (w.alloc (.cells #[.int .i64 a, .int .i64 b, .int .i64 c] 3)) 1 (some ⟨w.heap.size, 0, none⟩) 3 (vis [a, b, c]) :=
  Rd.of_own (World.ownsRow_lit (base := 0) (e := 3) (size := 1) w #[.int .i64 a, .int .i64 b, .int .i64 c] 3 (Nat.zero_le _) (by simp [maxLen]) rfl)

set_option maxRecDepth 100000 in
set_option maxHeartbeats 1600000 in
theorem acheck_any (A B : Option Addr) (n m c d : Nat) (ps : List V2) (ls : List V3) (w : World) (hp : Rd w 2 A n (vps ps)) (hs : Rd w 3 B m (vsts ls)) (hn : n ≤ 2147483648) (hm : m ≤ 2147483648) :
    Calls Try.prog 36 #[.slice A n c, .slice B m d] w fun e w' => e = .returned (.int .i64 (farE ps ls)) ∧ Below w.heap.size w w' := by
  have HPL := Lib.hid hp.len2
  have HSL := Lib.hid hs.len3
  go_enter Try.func36, Try.ntmps36
  go_wp2
  go_loopw [11] (fun i wr => ∃ k : Nat, k ≤ n ∧ i = .int .i64 k ∧ NoneB farP ps k ∧ Below w.heap.size w wr) (fun i _ => n - (intOf i).toNat)
  case atStart => exact ⟨0, Nat.zero_le _, rfl, noneB_zero _ _, Below.refl _ _⟩
  case round =>
    obtain ⟨k, hk, rfl, hnb, hbel⟩ := hrel
    by_cases hlt : k < n
    · obtain ⟨b, off, x, y, hA, hb, hz, c0, c1⟩ := (hp.below hbel).pt hlt
      have HZ := Lib.hid hz
      clear hz
      subst hA
      have hbx : Below w.heap.size w ((wr.alloc (.cells #[.int .i64 x, .int .i64 y] 29)).alloc (.cells #[.int .i64 x, .int .i64 y] 3)) := (hbel.alloc hbel.size _).alloc (by have := hbel.size; simp; omega) _
      have hrd := rd_lit2 (wr.alloc (.cells #[.int .i64 x, .int .i64 y] 29)) x y
      rw [World.size_alloc] at hrd
      cases hf : farP (x, y)
      all_goals
        have HF := Lib.hid hf
        clear hf
        go_wp2_with fail
        refine (far_any _ 2 2 [x, y] _ hrd (by decide)).mono ?_
        rintro e w1 ⟨rfl, rfl⟩
        have hff : [x, y].any farN = farP (x, y) := by simp [farP]
        rw [hff, HF.out]
        clear hff
      · go_wp2
        go_roundw
        case rel => exact ⟨k + 1, by omega, by go_num, noneB_succ hnb HZ.out HF.out, hbx⟩
        case measure => simp [intOf]; omega
      · go_wp2
        go_ret
        exact ⟨ret_int (by unfold farE; rw [noneB_idx HZ.out HF.out]; rfl), hbx⟩
    · have hno := noneB_all hnb (by have := HPL.out; omega)
      have HNO := Lib.hid hno
      clear hno hnb
      go_wp2
      go_loopw [24] (fun i wx => ∃ k : Nat, k ≤ m ∧ i = .int .i64 k ∧ NoneB farL ls k ∧ Below w.heap.size w wx) (fun i _ => m - (intOf i).toNat)
      case atStart => exact ⟨0, Nat.zero_le _, rfl, noneB_zero _ _, hbel⟩
      case round =>
        obtain ⟨k2, hk2, rfl, hnb, hbel2⟩ := hrel
        by_cases hlt2 : k2 < m
        · obtain ⟨b, off, x, y, z, hB, hb, hz, c0, c1, c2⟩ := (hs.below hbel2).st hlt2
          have HZ := Lib.hid hz
          clear hz
          subst hB
          have hbx : Below w.heap.size w ((wr.alloc (.cells #[.int .i64 x, .int .i64 y, .int .i64 z] 40)).alloc (.cells #[.int .i64 x, .int .i64 y, .int .i64 z] 3)) := (hbel2.alloc hbel2.size _).alloc (by have := hbel2.size; simp; omega) _
          have hrd := rd_lit3 (wr.alloc (.cells #[.int .i64 x, .int .i64 y, .int .i64 z] 40)) x y z
          rw [World.size_alloc] at hrd
          cases hf : farL (x, y, z)
          all_goals
            have HF := Lib.hid hf
            clear hf
            go_wp2_with fail
            refine (far_any _ 3 3 [x, y, z] _ hrd (by decide)).mono ?_
            rintro e w1 ⟨rfl, rfl⟩
            have hff : [x, y, z].any farN = farL (x, y, z) := by simp [farL, Bool.or_assoc]
            rw [hff, HF.out]
            clear hff
          · go_wp2
            go_roundw
            case rel => exact ⟨k2 + 1, by omega, by go_num, noneB_succ hnb HZ.out HF.out, hbx⟩
            case measure => simp [intOf]; omega
          · go_wp2
            go_ret
            exact ⟨ret_int (by unfold farE; rw [HNO.out, noneB_idx HZ.out HF.out]; rfl), hbx⟩
        · have hno2 := noneB_all hnb (by have := HSL.out; omega)
          have HNO2 := Lib.hid hno2
          clear hno2 hnb
          go_wp2_with fail
          refine (containsNil_any B m d ls _ (hs.below hbel2) (by omega)).mono ?_
          rintro e w1 ⟨rfl, hb1⟩
          have hbx := hbel2.trans (hb1.mono hbel2.size)
          cases hf : ls.any nilL
          all_goals
            have HF := Lib.hid hf
            clear hf
            go_wp2
            go_ret
            exact ⟨ret_int (by unfold farE; rw [HNO.out, HNO2.out, HF.out]; rfl), hbx⟩
end Go.Proofs.Ythfhkmgegkhljaa
