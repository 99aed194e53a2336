/- The reference's word, place by place; comparing lists; copying a list. -/
import Derived.Test.YthfhkmgegkhljaaDragC
import Derived.Test.YthfhkmgegkhljaaRow
import Derived.RegionTactic
import Derived.Laws.AppendOwnNone
namespace Go.Proofs.Ythfhkmgegkhljaa
open Go.RowKit

/-- 'append(nil, l...)': a copy. -/
theorem ints_any (A : Option Addr) (n c : Nat) (zs : List Int) (w : World) (h : Rd w 1 A n (vis zs)) (hn : n * 8 ≤ 140737488351232) (hA : A = none → c = 0) :
    Calls Try.prog 13 #[.slice A n c] w fun e w' => ∃ v, e = .returned v ∧ w'.ownsRow w.heap.size 3 1 v n (vis zs) ∧ Below w.heap.size w w' := by
  obtain ⟨i0, hi, hz0, hz1, hz2⟩ := info_parts int_info
  have hl := h.ints_len
  cases A with
  | none =>
    have h0 : n = 0 := by
      rcases Nat.eq_zero_or_pos n with h0 | h0
      · exact h0
      · obtain ⟨_, _, e, _⟩ := h.2 h0; cases e
    obtain rfl := hA rfl
    subst h0
    have hz : zs = [] := List.eq_nil_of_length_eq_zero hl
    subst hz
    clear hl
    go_enter Try.func13, Try.ntmps13
    go_wp2_with (at_builtin; refine wpList_append_own_none rfl _ _ 22 rfl w.heap.size 3 i0 1 Try.underlying22 hi (.slice none 0 0) 0 [] rfl (World.ownsRow_nil _ _ _ _) rfl ?_)
    go_ret
    exact ⟨_, rfl, World.ownsRow_nil _ _ _ _, Below.refl _ _⟩
  | some ad =>
    have hc : ∀ j u, (vis zs)[j]? = some u → w.cell? (ad.add j) = some u := by
      intro j u hu
      rcases Nat.eq_zero_or_pos n with h0 | h0
      · subst h0
        have hz : zs = [] := List.eq_nil_of_length_eq_zero hl
        subst hz
        simp at hu
      · obtain ⟨b, off, e, _, hc⟩ := h.2 h0
        injection e with e
        subst e
        rw [addr_add]
        exact hc j u hu
    have HC := Lib.hid hc
    have HL := Lib.hid hl
    clear hc hl
    go_enter Try.func13, Try.ntmps13
    go_wp2_with (at_builtin; refine wpList_append_own _ rfl _ _ 22 rfl w.heap.size 3 i0 (.int .i64 0) 1 8 Try.underlying22 hi hz0 hz1 hz2 rfl (by decide) (.slice none 0 0) 0 [] rfl (World.ownsRow_nil _ _ _ _) ad n c (vis zs) rfl ?c0 HC.out ?c1 ?c2 ?c3 (Nat.le_refl _) ?_; (case c0 => simp [HL.out]); (case c1 => intro u hu; obtain ⟨z, _, rfl⟩ := List.mem_map.1 hu; rfl); (case c2 => simp only [maxLen]; omega); (case c3 => omega); intro v' w' h1 h2 _)
    go_ret
    exact ⟨_, rfl, by simpa using h1, (Below.refl _ _).grown h2 (Nat.le_refl _) (fun k hk => by cases hk)⟩

/-- Are two lists the same? -/
theorem sameInts_any (A B : Option Addr) (n m c d : Nat) (xs ys : List Int) (w : World) (hx : Rd w 1 A n (vis xs)) (hy : Rd w 1 B m (vis ys)) (hn : n ≤ 9223372036854775807) (hm : m ≤ 9223372036854775807) :
    Calls Try.prog 16 #[.slice A n c, .slice B m d] w fun e w' => e = .returned (.bool (decide (xs = ys))) ∧ Below w.heap.size w w' := by
  have hxl := hx.ints_len
  have hyl := hy.ints_len
  by_cases hnm : n = m
  · subst hnm
    have HX := Lib.hid hxl
    have HY := Lib.hid hyl
    clear hxl hyl
    go_enter Try.func16, Try.ntmps16
    go_wp2
    go_loopw [5] (fun i wr => ∃ k : Nat, k ≤ n ∧ i = .int .i64 k ∧ Hid (xs.take k = ys.take k) ∧ Below w.heap.size w wr) (fun i _ => n - (intOf i).toNat)
    case atStart => exact ⟨0, Nat.zero_le _, rfl, Lib.hid rfl, Below.refl _ _⟩
    case round =>
      obtain ⟨k, hk, rfl, heq, hb⟩ := hrel
      by_cases hlt : k < n
      · obtain ⟨b1, o1, x, hA, hb1, hx1, hc1⟩ := (hx.below hb).int hlt
        obtain ⟨b2, o2, y, hB, hb2, hy1, hc2⟩ := (hy.below hb).int hlt
        have HX1 := Lib.hid hx1
        have HY1 := Lib.hid hy1
        have hki : (k : Int) < (n : Int) := by omega
        clear hx1 hy1
        subst hA
        subst hB
        by_cases hxy : x = y
        · subst hxy
          go_wp2
          go_quiet (fail)
          go_wp2
          go_roundw
          case rel => exact ⟨k + 1, by omega, by go_num, Lib.hid (by rw [List.take_add_one, List.take_add_one, HX1.out, HY1.out, heq.out]), below_drewN hb _⟩
          case measure => simp [intOf]; omega
        · have hne : (x != y) = true := by simpa using hxy
          go_wp2
          go_quiet (fail)
          go_wp2
          go_ret
          refine ⟨ret_bool ?_, below_drewN hb _⟩
          have : ¬ xs = ys := by
            rintro rfl
            have h1 := HX1.out.symm.trans HY1.out
            injection h1 with h1
            exact hxy h1
          simp [this]
      · have hfin : xs = ys := by
          have h1 := heq.out
          rw [List.take_of_length_le (by rw [HX.out]; omega), List.take_of_length_le (by rw [HY.out]; omega)] at h1
          exact h1
        have HF := Lib.hid hfin
        clear hfin
        go_wp2
        go_ret
        exact ⟨ret_bool (by simp [HF.out]), hb⟩
  · have hne : ((n : Int) != (m : Int)) = true := by simp; omega
    have hxy : ¬ xs = ys := by rintro rfl; omega
    have HXY := Lib.hid hxy
    clear hxl hyl hnm hxy
    go_enter Try.func16, Try.ntmps16
    go_wp2
    go_ret
    exact ⟨ret_bool (by simp [HXY.out]), Below.refl _ _⟩
end Go.Proofs.Ythfhkmgegkhljaa
