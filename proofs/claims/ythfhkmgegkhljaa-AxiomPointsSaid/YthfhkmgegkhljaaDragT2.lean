/- The reference's word, place by place, is the program's word. -/
import Derived.Test.YthfhkmgegkhljaaDragT1
namespace Go.Proofs.Ythfhkmgegkhljaa
open Go.RowKit

/-- The kind at a place (from 1 on); the folds are told from the last one on. -/
def refK : List Int → Nat → Int
  | [], _ => 0
  | k :: r, p => if p % 2 = 0 then refK r (p / 2) else if p % 4 = 3 then 3 - k else k
theorem weave_even (l : List Int) : ∀ (k : Int) (j : Nat), j ≤ l.length → (weave k l)[2 * j]? = some (altK k j) := by
  induction l with
  | nil => intro k j hj; simp at hj; subst hj; rfl
  | cons x l ih =>
    intro k j hj
    cases j with
    | zero => rfl
    | succ j =>
      have : 2 * (j + 1) = 2 * j + 1 + 1 := by omega
      rw [this]
      simp only [weave, List.getElem?_cons_succ]
      rw [ih (3 - k) j (by simpa using hj), altK_flip]
theorem weave_odd (l : List Int) : ∀ (k : Int) (j : Nat), (weave k l)[2 * j + 1]? = l[j]? := by
  induction l with
  | nil => intro k j; simp [weave]
  | cons x l ih =>
    intro k j
    cases j with
    | zero => rfl
    | succ j =>
      have : 2 * (j + 1) + 1 = 2 * j + 1 + 1 + 1 := by omega
      rw [this]
      simp only [weave, List.getElem?_cons_succ]
      exact ih (3 - k) j
theorem dw_at (r : List Int) : ∀ i : Nat, i + 1 < 2 ^ r.length → (dw r)[i]? = some (refK r (i + 1)) := by
  induction r with
  | nil => intro i h; simp at h
  | cons k r ih =>
    intro i h
    have hl := dw_len r
    simp only [List.length_cons, Nat.pow_succ] at h
    simp only [dw, refK]
    rcases Nat.mod_two_eq_zero_or_one i with h0 | h1
    · obtain ⟨j, rfl⟩ : ∃ j, i = 2 * j := ⟨i / 2, by omega⟩
      rw [weave_even _ _ _ (by omega), if_neg (by omega)]
      unfold altK
      by_cases hj : j % 2 = 0
      · rw [if_pos hj, if_neg (by omega)]
      · rw [if_neg hj, if_pos (by omega)]
    · obtain ⟨j, rfl⟩ : ∃ j, i = 2 * j + 1 := ⟨i / 2, by omega⟩
      rw [weave_odd, if_pos (by omega), ih j (by omega)]
      congr 2
      omega
theorem refK_step (r : List Int) (v m : Nat) (hv : v < r.length) (hm : m % 2 = 0) : refK (r.drop v) m = refK (r.drop (v + 1)) (m / 2) := by
  rw [List.drop_eq_getElem_cons hv]
  simp only [refK, if_pos hm]
theorem refK_end (r : List Int) (v m : Nat) (z : Int) (hz : r[v]? = some z) (hm : m % 2 = 1) : refK (r.drop v) m = if m % 4 = 3 then 3 - z else z := by
  obtain ⟨hv, he⟩ := List.getElem?_eq_some_iff.1 hz
  rw [List.drop_eq_getElem_cons hv, he]
  simp only [refK]
  rw [if_neg (by omega)]

set_option maxHeartbeats 800000 in
theorem wordOf_any (r : List Int) (A : Option Addr) (n c : Nat) (w : World) (h : Rd w 1 A n (vis r.reverse)) (hn : n ≤ 10) (hkd : Kinded r) :
    Calls Try.prog 17 #[.slice A n c] w fun e w' => ∃ v, e = .returned v ∧ w'.ownsRow w.heap.size 3 1 v (dw r).length (vis (dw r)) ∧ Below w.heap.size w w' := by
  have hrl : r.length = n := by have := h.ints_len; simpa using this
  obtain ⟨N, hN⟩ : ∃ N, N = 2 ^ n := ⟨_, rfl⟩
  have hNb : N ≤ 1024 := by have h2 : 2 ^ n ≤ 2 ^ 10 := Nat.pow_le_pow_right (by decide) hn; omega
  have hN1 : 1 ≤ N := by have : 0 < 2 ^ n := Nat.pow_pos (by decide); omega
  have hlen : (dw r).length + 1 = N := by have := dw_len r; rw [hrl] at this; omega
  have hpow : wrap64 (2 ^ n) = (N : Int) := by
    have : (2 : Int) ^ n = (N : Int) := by rw [hN]; push_cast; rfl
    rw [this]; exact IntWalk.wrap64_in _ ⟨by omega, by omega⟩
  have HN := Lib.hid hN
  have HL := Lib.hid hlen
  have HR := Lib.hid hrl
  clear hN hlen hrl
  go_enter Try.func17, Try.ntmps17
  go_wp2
  go_loopw [4, 5] (fun v p wr => ∃ q : Nat, 1 ≤ q ∧ q ≤ N ∧ p = .int .i64 q ∧ wr.ownsRow w.heap.size 3 1 v (q - 1) (vis ((dw r).take (q - 1))) ∧ Below w.heap.size w wr) (fun _ p _ => N - (intOf p).toNat)
  case atStart => exact ⟨1, by omega, by omega, rfl, World.ownsRow_nil _ _ _ _, Below.refl _ _⟩
  case round =>
    obtain ⟨q, hq1, hq2, rfl, hown, hbel⟩ := hrel
    by_cases hlt : q < N
    · have hrd := h.below hbel
      have hn1 : 1 ≤ n := by
        rcases Nat.eq_zero_or_pos n with h0 | h0
        · have := HN.out; rw [h0] at this; omega
        · exact h0
      have hwr : ∃ wo : World, wo = wr := ⟨_, rfl⟩
      obtain ⟨wo, hwo⟩ := hwr
      subst hwo
      go_wp2
      go_loop [6, 7] (fun m f => ∃ x v y : Nat, m = .int .i64 x ∧ f = .int .i64 y ∧ 1 ≤ x ∧ x ≤ q ∧ y + v + 1 ≤ n ∧ n ≤ y + v + 1 ∧ Hid (x * 2 ^ v = q) ∧ Hid (refK r q = refK (r.drop v) x)) (fun m _ => (intOf m).toNat)
      case atStart => exact ⟨q, 0, n - 1, rfl, by congr 1; omega, hq1, Nat.le_refl _, by omega, by omega, Lib.hid (by simp), Lib.hid (by simp)⟩
      case round =>
        obtain ⟨x, v, y, rfl, rfl, hx1, hx2, hv1, hv2, hpw, hrk⟩ := hrel
        by_cases he : x % 2 = 0
        · have hev : ((x : Int) % 2 == 0) = true := by rw [beq_iff_eq]; omega
          have hy : 1 ≤ y := by
            rcases Nat.eq_zero_or_pos y with h0 | h0
            · exfalso
              have h1 : v + 1 = n := by omega
              have h2 : 2 ^ n ≤ q := by
                rw [← hpw.out, ← h1, Nat.pow_succ, Nat.mul_comm]
                exact Nat.mul_le_mul_right _ (by omega)
              have := HN.out
              omega
            · exact h0
          obtain ⟨y', rfl⟩ : ∃ y', y = y' + 1 := ⟨y - 1, by omega⟩
          have HE := Lib.hid he
          clear he
          go_wp2
          go_round
          case rel =>
            refine ⟨x / 2, v + 1, y', by go_num, by go_num, by have := HE.out; omega, by omega, by omega, by omega, Lib.hid ?_, Lib.hid ?_⟩
            · rw [← hpw.out, Nat.pow_succ, Nat.mul_comm (2 ^ v) 2, ← Nat.mul_assoc]
              congr 1
              have := HE.out
              omega
            · rw [hrk.out]
              exact refK_step r v x (by have := HR.out; omega) HE.out
          case measure => simp [intOf]; omega
        · have hev : ((x : Int) % 2 == 0) = false := by rw [beq_eq_false_iff_ne]; omega
          have HE := Lib.hid he
          clear he
          obtain ⟨b, off, z, hA, hb, hz, hc⟩ := hrd.int (k := y) (by omega)
          subst hA
          have hz' : r[v]? = some z := by
            rw [List.getElem?_reverse (by have := HR.out; omega)] at hz
            rw [show r.length - 1 - y = v from by have := HR.out; omega] at hz
            exact hz
          have hk := hkd z (List.mem_of_getElem? hz')
          have hend := refK_end r v x z hz' (by have := HE.out; omega)
          have HZ := Lib.hid hend
          clear hz hz' hend
          have hat := dw_at r (q - 1) (by rw [HR.out, ← HN.out]; omega)
          rw [show q - 1 + 1 = q from by omega, hrk.out] at hat
          have HAT := Lib.hid hat
          clear hat
          obtain ⟨q', rfl⟩ : ∃ q', q = q' + 1 := ⟨q - 1, by omega⟩
          simp only [Nat.add_sub_cancel] at hown
          have hk1 : 1 ≤ z ∧ z ≤ 2 := by omega
          by_cases h3 : x % 4 = 3
          all_goals
            first
              | (have hev3 : ((x : Int) % 4 == 3) = true := by rw [beq_iff_eq]; omega)
              | (have hev3 : ((x : Int) % 4 == 3) = false := by rw [beq_eq_false_iff_ne]; omega)
            have H3 := Lib.hid h3
            clear h3
            go_wp2_with (at_builtin; refine app_ints rfl (.tmp 36) (.tmp 38) rfl w.heap.size _ q' ((dw r).take q') [_] rfl hown hbel.size 1 _ rfl rfl rfl (by omega) ?_; intro v' w' hown' hb' _)
            go_roundw
            case rel =>
              refine ⟨q' + 1 + 1, by omega, by omega, by go_num, ?_, hbel.trans hb'⟩
              have ht : (dw r).take (q' + 1) = (dw r).take q' ++ [refK (r.drop v) x] := by rw [List.take_add_one, Nat.add_sub_cancel] at *; rw [HAT.out]; rfl
              simp only [Nat.add_sub_cancel]
              rw [ht, HZ.out]
              first
                | (rw [if_pos H3.out]; exact hown')
                | (rw [if_neg H3.out]; exact hown')
            case measure => simp [intOf]; omega
    · go_wp2
      go_ret
      have : q = N := by omega
      subst this
      have hl := HL.out
      have ht : (dw r).take (q - 1) = dw r := List.take_of_length_le (by omega)
      rw [ht] at hown
      exact ⟨_, rfl, by rw [show (dw r).length = q - 1 from by omega]; exact hown, hbel⟩
end Go.Proofs.Ythfhkmgegkhljaa
