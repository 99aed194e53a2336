/- The document's words on orders: within, heightOf, between; ints, sameInts. -/
import Derived.Test.YtjikhdnlcoohbaaSt6
import Derived.Laws.AppendOwnNone
namespace Go.Proofs.Ytjikhdnlcoohbaa
set_option linter.unusedSimpArgs false
set_option linter.unusedVariables false
open Go.RowKit St

set_option maxRecDepth 100000 in
/-- 'append(nil, l...)': a copy. -/
theorem ints_any (A : Option Addr) (n c : Nat) (zs : List Int) (w : World) (h : Rd w 1 A n (vis zs)) (hn : n * 8 ≤ 140737488351232) (hA : A = none → c = 0) :
    Calls Try.prog 9 #[.slice A n c] w fun e w' => ∃ v, e = .returned v ∧ w'.ownsRow w.heap.size 3 1 v n (vis zs) ∧ Below w.heap.size w w' := by
  obtain ⟨i0, hi, hz0, hz1, hz2⟩ := info_parts int_info
  have hl := h.ints_len
  cases A with
  | none =>
    have h0 : n = 0 := by
      rcases Nat.eq_zero_or_pos n with h0 | h0
      · exact h0
      · obtain ⟨_, _, e, _⟩ := h.2 h0; cases e
    obtain rfl := hA rfl
    subst h0
    have hz : zs = [] := List.eq_nil_of_length_eq_zero hl
    subst hz
    clear hl
    go_enter Try.func9, Try.ntmps9
    go_wp2_with (at_builtin; refine wpList_append_own_none rfl _ _ 22 rfl w.heap.size 3 i0 1 Try.underlying22 hi (.slice none 0 0) 0 [] rfl (World.ownsRow_nil _ _ _ _) rfl ?_)
    go_ret
    exact ⟨_, rfl, World.ownsRow_nil _ _ _ _, Below.refl _ _⟩
  | some ad =>
    have hc : ∀ j u, (vis zs)[j]? = some u → w.cell? (ad.add j) = some u := by
      intro j u hu
      rcases Nat.eq_zero_or_pos n with h0 | h0
      · subst h0
        have hz : zs = [] := List.eq_nil_of_length_eq_zero hl
        subst hz
        simp at hu
      · obtain ⟨b, off, e, _, hc⟩ := h.2 h0
        injection e with e
        subst e
        rw [addr_add]
        exact hc j u hu
    have HC := Lib.hid hc
    have HL := Lib.hid hl
    clear hc hl
    go_enter Try.func9, Try.ntmps9
    go_wp2_with (at_builtin; refine wpList_append_own _ rfl _ _ 22 rfl w.heap.size 3 i0 (.int .i64 0) 1 8 Try.underlying22 hi hz0 hz1 hz2 rfl (by decide) (.slice none 0 0) 0 [] rfl (World.ownsRow_nil _ _ _ _) ad n c (vis zs) rfl ?c0 HC.out ?c1 ?c2 ?c3 (Nat.le_refl _) ?_; (case c0 => simp [HL.out]); (case c1 => intro u hu; obtain ⟨z, _, rfl⟩ := List.mem_map.1 hu; rfl); (case c2 => simp only [maxLen]; omega); (case c3 => omega); intro v' w' h1 h2 _)
    go_ret
    exact ⟨_, rfl, by simpa using h1, (Below.refl _ _).grown h2 (Nat.le_refl _) (fun k hk => by cases hk)⟩


set_option maxRecDepth 100000 in
/-- Are two lists the same? -/
theorem sameInts_any (A B : Option Addr) (n m c d : Nat) (xs ys : List Int) (w : World) (hx : Rd w 1 A n (vis xs)) (hy : Rd w 1 B m (vis ys)) (hn : n ≤ 9223372036854775807) (hm : m ≤ 9223372036854775807) :
    Calls Try.prog 13 #[.slice A n c, .slice B m d] w fun e w' => e = .returned (.bool (decide (xs = ys))) ∧ Below w.heap.size w w' := by
  have hxl := hx.ints_len
  have hyl := hy.ints_len
  by_cases hnm : n = m
  · subst hnm
    have HX := Lib.hid hxl
    have HY := Lib.hid hyl
    clear hxl hyl
    go_enter Try.func13, Try.ntmps13
    go_wp2
    go_loopw [5] (fun i wr => ∃ k : Nat, k ≤ n ∧ i = .int .i64 k ∧ Hid (xs.take k = ys.take k) ∧ Below w.heap.size w wr) (fun i _ => n - (intOf i).toNat)
    case atStart => exact ⟨0, Nat.zero_le _, rfl, Lib.hid rfl, Below.refl _ _⟩
    case round =>
      obtain ⟨k, hk, rfl, heq, hb⟩ := hrel
      by_cases hlt : k < n
      · obtain ⟨b1, o1, x, hA, hb1, hx1, hc1⟩ := (hx.below hb).int hlt
        obtain ⟨b2, o2, y, hB, hb2, hy1, hc2⟩ := (hy.below hb).int hlt
        have HX1 := Lib.hid hx1
        have HY1 := Lib.hid hy1
        have hki : (k : Int) < (n : Int) := by omega
        clear hx1 hy1
        subst hA
        subst hB
        by_cases hxy : x = y
        · subst hxy
          go_wp2
          go_quiet (fail)
          go_wp2
          go_roundw
          case rel => exact ⟨k + 1, by omega, by go_num, Lib.hid (by rw [List.take_add_one, List.take_add_one, HX1.out, HY1.out, heq.out]), below_drewN hb _⟩
          case measure => simp [intOf]; omega
        · have hne : (x != y) = true := by simpa using hxy
          go_wp2
          go_quiet (fail)
          go_wp2
          go_ret
          refine ⟨ret_bool ?_, below_drewN hb _⟩
          have : ¬ xs = ys := by
            rintro rfl
            have h1 := HX1.out.symm.trans HY1.out
            injection h1 with h1
            exact hxy h1
          simp [this]
      · have hfin : xs = ys := by
          have h1 := heq.out
          rw [List.take_of_length_le (by rw [HX.out]; omega), List.take_of_length_le (by rw [HY.out]; omega)] at h1
          exact h1
        have HF := Lib.hid hfin
        clear hfin
        go_wp2
        go_ret
        exact ⟨ret_bool (by simp [HF.out]), hb⟩
  · have hne : ((n : Int) != (m : Int)) = true := by simp; omega
    have hxy : ¬ xs = ys := by rintro rfl; omega
    have HXY := Lib.hid hxy
    clear hxl hyl hnm hxy
    go_enter Try.func13, Try.ntmps13
    go_wp2
    go_ret
    exact ⟨ret_bool (by simp [HXY.out]), Below.refl _ _⟩

theorem between_any (h a b : Int) (w : World) :
    Calls Try.prog 28 #[.int .i64 h, .int .i64 a, .int .i64 b] w fun e w' => e = .returned (.bool (btw h a b)) ∧ w = w' := by
  by_cases p1 : a < h
  · by_cases p2 : h < b
    · have e : btw h a b = true := by simp [btw, p1, p2]
      rw [e]
      clear e
      go_enter Try.func28, Try.ntmps28
      go_wp2
      go_ret
      exact ⟨rfl, rfl⟩
    · have p4 : ¬ h < a := by omega
      have e : btw h a b = false := by simp [btw, p1, p2, p4]
      rw [e]
      clear e
      by_cases p3 : b < h
      all_goals
        go_enter Try.func28, Try.ntmps28
        go_wp2
        go_ret
        exact ⟨rfl, rfl⟩
  · by_cases p3 : b < h
    · by_cases p4 : h < a
      · have e : btw h a b = true := by simp [btw, p3, p4]
        rw [e]
        clear e
        go_enter Try.func28, Try.ntmps28
        go_wp2
        go_ret
        exact ⟨rfl, rfl⟩
      · have e : btw h a b = false := by simp [btw, p1, p4]
        rw [e]
        clear e
        go_enter Try.func28, Try.ntmps28
        go_wp2
        go_ret
        exact ⟨rfl, rfl⟩
    · have e : btw h a b = false := by simp [btw, p1, p3]
      rw [e]
      clear e
      go_enter Try.func28, Try.ntmps28
      go_wp2
      go_ret
      exact ⟨rfl, rfl⟩

set_option maxHeartbeats 1600000 in
theorem within_any (A : Option Addr) (n c : Nat) (zs : List Int) (s : Int) (w : World) (h : Rd w 1 A n (vis zs)) (hn : n ≤ 1000) :
    Calls Try.prog 26 #[.slice A n c, .int .i64 s] w fun e w' => e = .returned (.bool (decide (s ∈ zs))) ∧ w = w' := by
  have hlen := h.ints_len
  obtain ⟨G, hG⟩ : ∃ G, G = decide (s ∈ zs) := ⟨_, rfl⟩
  rw [← hG]
  have HR := Lib.hid h
  have HL := Lib.hid hlen
  have HG := Lib.hid hG
  clear h hlen hG
  go_enter Try.func26, Try.ntmps26
  go_wp2_with fail
  go_loopw [5] (fun i wr => ∃ k : Nat, k ≤ n ∧ i = .int .i64 k ∧ (∀ j, j < k → zs[j]? ≠ some s) ∧ wr = w) (fun i _ => n - (intOf i).toNat)
  case atStart => exact ⟨0, by omega, rfl, fun j hj => by omega, rfl⟩
  case round =>
    obtain ⟨k, hk, rfl, hno, rfl⟩ := hrel
    have HN := Lib.hid hno
    clear hno
    by_cases hkn : k < n
    · obtain ⟨b, off, z, hA, _, hz, hcz⟩ := HR.out.int hkn
      subst hA
      have HZ := Lib.hid hz
      clear hz
      by_cases hzs : z = s
      · subst hzs
        have hg : G = true := by rw [HG.out]; exact decide_eq_true (List.mem_of_getElem? HZ.out)
        subst hg
        go_wp2_with fail
        go_ret
        exact ⟨rfl, rfl⟩
      · go_wp2_with fail
        go_roundw
        case rel =>
          refine ⟨k + 1, by omega, by go_num, fun j hj => ?_, trivial⟩
          by_cases hjk : j = k
          · subst hjk
            rw [HZ.out]
            simpa using hzs
          · exact HN.out j (by omega)
        case measure => simp [intOf]; omega
    · obtain rfl : k = n := by omega
      have hg : G = false := by
        rw [HG.out]
        refine decide_eq_false fun hm => ?_
        obtain ⟨j, hj⟩ := List.getElem?_of_mem hm
        have := (List.getElem?_eq_some_iff.1 hj).1
        exact HN.out j (by rw [HL.out] at this; exact this) hj
      subst hg
      go_wp2_with fail
      go_ret
      exact ⟨rfl, rfl⟩
set_option maxHeartbeats 1600000 in
theorem height_any (A : Option Addr) (n c : Nat) (os : List Int) (j : Nat) (w : World) (h : Rd w 1 A n (vis os)) (hn : n ≤ 1000) (hp : os.Perm (upto os.length)) (hj : j < n) (s : Int) (hs : s = (j : Int) + 1) :
    Calls Try.prog 27 #[.slice A n c, .int .i64 s] w fun e w' => e = .returned (.int .i64 (fn (hsOf os) j)) ∧ w = w' := by
  have hlen := h.ints_len
  have hv : ∀ k : Nat, os[k]? = some s → fn (hsOf os) j = k := by
    intro k hk
    have hnd := hp.nodup_iff.2 (upto_nodup _)
    rw [hs_fn (by omega), ← hs, idx_eq hnd hk]
  have hm : s ∈ os := hp.mem_iff.2 (upto_mem.2 (by omega))
  obtain ⟨G, hG⟩ : ∃ G, G = fn (hsOf os) j := ⟨_, rfl⟩
  rw [← hG]
  have HV := Lib.hid hv
  have HM := Lib.hid hm
  have HR := Lib.hid h
  have HL := Lib.hid hlen
  have HG := Lib.hid hG
  clear h hlen hG hv hm hs hj hp
  go_enter Try.func27, Try.ntmps27
  go_wp2_with fail
  go_loopw [5] (fun i wr => ∃ k : Nat, k ≤ n ∧ i = .int .i64 k ∧ (∀ j, j < k → os[j]? ≠ some s) ∧ wr = w) (fun i _ => n - (intOf i).toNat)
  case atStart => exact ⟨0, by omega, rfl, fun j hj => by omega, rfl⟩
  case round =>
    obtain ⟨k, hk, rfl, hno, rfl⟩ := hrel
    have HN := Lib.hid hno
    clear hno
    by_cases hkn : k < n
    · obtain ⟨b, off, z, hA, _, hz, hcz⟩ := HR.out.int hkn
      subst hA
      have HZ := Lib.hid hz
      clear hz
      by_cases hzs : z = s
      · subst hzs
        have hg : G = (k : Int) := by rw [HG.out]; exact HV.out k HZ.out
        subst hg
        go_wp2_with fail
        go_ret
        exact ⟨rfl, rfl⟩
      · go_wp2_with fail
        go_roundw
        case rel =>
          refine ⟨k + 1, by omega, by go_num, fun j hj => ?_, trivial⟩
          by_cases hjk : j = k
          · subst hjk
            rw [HZ.out]
            simpa using hzs
          · exact HN.out j (by omega)
        case measure => simp [intOf]; omega
    · exfalso
      obtain rfl : k = n := by omega
      obtain ⟨j, hj⟩ := List.getElem?_of_mem HM.out
      have := (List.getElem?_eq_some_iff.1 hj).1
      exact HN.out j (by rw [HL.out] at this; exact this) hj
end Go.Proofs.Ytjikhdnlcoohbaa
