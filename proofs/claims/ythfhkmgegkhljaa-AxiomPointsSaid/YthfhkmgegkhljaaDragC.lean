/- The word of folds. -/
import Derived.Test.YthfhkmgegkhljaaDragB
namespace Go.Proofs.Ythfhkmgegkhljaa
open Go.RowKit

/-- One fold more: at the odd places the kind and the other one, by turns. -/
def weave (k : Int) : List Int → List Int
  | [] => [k]
  | x :: r => k :: x :: weave (3 - k) r
/-- The word; the folds are told from the last one on. -/
def dw : List Int → List Int
  | [] => []
  | k :: r => weave k (dw r)
def altK (k : Int) (n : Nat) : Int := if n % 2 = 0 then k else 3 - k
theorem altK_zero (k : Int) : altK k 0 = k := rfl
theorem altK_succ (k : Int) (n : Nat) : altK k (n + 1) = 3 - altK k n := by unfold altK; split <;> split <;> omega
theorem altK_flip (k : Int) (n : Nat) : altK (3 - k) n = altK k (n + 1) := by unfold altK; split <;> split <;> omega
theorem weave_snoc (l : List Int) (x : Int) : ∀ k, weave k (l ++ [x]) = weave k l ++ [x, altK k (l.length + 1)] := by
  induction l with
  | nil => intro k; simp [weave, altK]
  | cons y l ih => intro k; simp only [List.cons_append, weave, ih, altK_flip, List.length_cons]
theorem weave_len (l : List Int) : ∀ k, (weave k l).length = 2 * l.length + 1 := by
  induction l with
  | nil => intro k; rfl
  | cons y l ih => intro k; simp only [weave, List.length_cons, ih]; omega
theorem dw_len (l : List Int) : (dw l).length + 1 = 2 ^ l.length := by
  induction l with
  | nil => rfl
  | cons k r ih => simp only [dw, weave_len, List.length_cons, Nat.pow_succ]; omega
theorem dw_small (l : List Int) (h : l.length ≤ 10) : (dw l).length ≤ 1023 := by
  have h1 := dw_len l
  have h2 : 2 ^ l.length ≤ 2 ^ 10 := Nat.pow_le_pow_right (by decide) h
  omega
def Kinded (l : List Int) : Prop := ∀ z ∈ l, z = 1 ∨ z = 2
theorem altK_kind {k : Int} (n : Nat) (h : k = 1 ∨ k = 2) : altK k n = 1 ∨ altK k n = 2 := by unfold altK; split <;> omega
theorem kinded_weave {l : List Int} : ∀ {k : Int}, (k = 1 ∨ k = 2) → Kinded l → Kinded (weave k l) := by
  induction l with
  | nil => intro k hk _ z hz; simp [weave] at hz; subst hz; exact hk
  | cons y l ih =>
    intro k hk hl z hz
    simp only [weave, List.mem_cons] at hz
    rcases hz with rfl | rfl | hz
    · exact hk
    · exact hl _ (by simp)
    · exact ih (k := 3 - k) (by omega) (fun z hz => hl z (by simp [hz])) z hz
theorem kinded_dw {l : List Int} (h : Kinded l) : Kinded (dw l) := by
  induction l with
  | nil => intro z hz; simp [dw] at hz
  | cons k r ih => exact kinded_weave (h k (by simp)) (ih fun z hz => h z (by simp [hz]))

theorem Rd.take {w : World} {sz n : Nat} {A : Option Addr} {xs : List Value} (h : Rd w sz A n xs) {k : Nat} (hk : k ≤ n) : Rd w sz A k (xs.take (k * sz)) := by
  refine ⟨?_, fun hp => ?_⟩
  · rw [List.length_take, h.1]; exact Nat.min_eq_left (Nat.mul_le_mul_right _ hk)
  · obtain ⟨b, off, e, hb, hc⟩ := h.2 (by omega)
    refine ⟨b, off, e, hb, fun j u hu => hc j u ?_⟩
    rw [List.getElem?_take] at hu
    split at hu
    · exact hu
    · cases hu

set_option maxHeartbeats 800000 in
theorem word_any (r : List Int) : ∀ (A : Option Addr) (n c : Nat) (w : World), Rd w 1 A n (vis r.reverse) → n ≤ 10 → n ≤ c → Kinded r →
    Calls Try.prog 35 #[.slice A n c] w fun e w' =>
      ∃ v, e = .returned v ∧ w'.ownsRow w.heap.size 3 1 v (dw r).length (vis (dw r)) ∧ Below w.heap.size w w' := by
  induction r with
  | nil =>
    intro A n c w h hn hc _
    have hl := h.ints_len
    simp at hl
    subst hl
    go_enter Try.func35, Try.ntmps35
    go_wp2_with fail
    go_ret
    exact ⟨_, rfl, World.ownsRow_nil _ _ _ _, Below.refl _ _⟩
  | cons k r ih =>
    intro A n c w h hn hcap hkd
    have hl := h.ints_len
    simp at hl
    obtain ⟨b, off, z, hA, hb, hz, hc⟩ := h.int (k := r.length) (by omega)
    have hzk : z = k := by simp at hz; exact hz.symm
    subst hzk
    subst hA
    clear hz
    have hkr : Kinded r := fun z hz => hkd z (by simp [hz])
    have hz12 : 1 ≤ z ∧ z ≤ 2 := by have := hkd z (by simp); omega
    have hds := dw_small r (by omega)
    have hkdw := Lib.hid (kinded_dw hkr)
    have HZ := Lib.hid (hkd z (by simp))
    have hsub : Rd (w.alloc (.cells #[.int .i64 z] 3)) 1 (some ⟨b, off, none⟩) r.length (vis r.reverse) := by
      have := (h.take (k := r.length) (by omega)).alloc (.cells #[.int .i64 z] 3)
      simpa [vis, List.take_append] using this
    have hown0 : (w.alloc (.cells #[.int .i64 z] 3)).ownsRow w.heap.size 3 1 (.slice (some ⟨w.heap.size, 0, none⟩) 1 1) 1 (vis (weave z ((dw r).take 0))) :=
      World.ownsRow_lit w #[.int .i64 z] 1 (Nat.le_refl _) (by simp [maxLen]) rfl
    have HI := Lib.hid ih
    clear ih
    obtain ⟨m, hm⟩ : ∃ m, m = r.length := ⟨_, rfl⟩
    rw [← hm] at hc hsub hl
    have HM := Lib.hid hm
    clear hm
    have hbel0 : Below w.heap.size w (w.alloc (.cells #[.int .i64 z] 3)) := (Below.refl _ _).alloc (Nat.le_refl _) _
    obtain rfl : n = m + 1 := by omega
    clear hl
    go_enter Try.func35, Try.ntmps35
    go_wp2_with fail
    refine (HI.out (some ⟨b, off, none⟩) m c _ hsub (by omega) (by omega) hkr).mono ?_
    rintro e w1 ⟨v, rfl, hown, hb1⟩
    obtain ⟨A1, c1, rfl, hc1, hc2⟩ := own_slice hown
    have hbel1 : Below w.heap.size w w1 := hbel0.trans (hb1.mono (by simp))
    have hown1 := own_below hown0 hb1 (Nat.le_refl _)
    have hrd1 := Rd.of_own hown
    have hoff1 : Off (.slice (some ⟨w.heap.size, 0, none⟩) 1 1) A1 := by
      intro a ha e
      have h1 := (own_lt hown a ha).1
      simp [Value.ownBlock] at e
      simp at h1
      omega
    obtain ⟨q, hq⟩ : ∃ q, q = (dw r).length := ⟨_, rfl⟩
    rw [← hq] at hown hrd1 hds hc1 ⊢
    have HQ := Lib.hid hq
    clear hq
    go_wp2_with fail
    go_loopw [4, 5, 25] (fun kd v i wr => ∃ (j : Nat) (d : Int), j ≤ q ∧ i = .int .i64 j ∧ kd = .int .i64 d ∧ d = altK z j ∧ wr.ownsRow w.heap.size 3 1 v (2 * j + 1) (vis (weave z ((dw r).take j))) ∧ Below w.heap.size w wr ∧ Rd wr 1 A1 q (vis (dw r)) ∧ Off v A1) (fun _ _ i _ => q - (intOf i).toNat)
    case atStart => exact ⟨0, z, Nat.zero_le _, rfl, rfl, rfl, hown1, hbel1, hrd1, hoff1⟩
    case round =>
      obtain ⟨j, d, hj, rfl, rfl, hd, hownr, hbelr, hrdr, hoffr⟩ := hrel
      by_cases hlt : j < q
      · obtain ⟨b2, off2, x, hA2, hb2, hx, hcx⟩ := hrdr.int hlt
        subst hA2
        have HX := Lib.hid hx
        clear hx
        have hd12 : 1 ≤ d ∧ d ≤ 2 := by have := altK_kind j HZ.out; rw [← hd] at this; omega
        have HD := Lib.hid hd
        clear hd
        go_wp2_with fail
        refine (other_any d _ (by omega) (by omega)).mono ?_
        rintro e w2 ⟨rfl, rfl⟩
        go_wp2_with (at_builtin; refine app_ints rfl (.tmp 31) (.tmp 34) rfl w.heap.size _ (2 * j + 1) (weave z ((dw r).take j)) [x, 3 - d] rfl hownr hbelr.size 2 _ rfl rfl rfl (by omega) ?_; intro v' w' hown' hb' hgr)
        go_roundw
        case rel =>
          refine ⟨j + 1, 3 - d, by omega, by go_num, rfl, by rw [altK_succ, HD.out], ?_, hbelr.trans hb', hrdr.grow hgr hoffr, hoffr.grow (hrdr.lt (by omega)) hgr⟩
          have ht : (dw r).take (j + 1) = (dw r).take j ++ [x] := by rw [List.take_add_one, HX.out]; rfl
          have hlen : ((dw r).take j).length = j := by rw [List.length_take]; have := HQ.out; omega
          rw [ht, weave_snoc, hlen, altK_succ, ← HD.out]
          exact hown'
        case measure => simp [intOf]; omega
      · go_wp2
        go_ret
        have : j = q := by omega
        subst this
        have ht : (dw r).take j = dw r := List.take_of_length_le (by have := HQ.out; omega)
        rw [ht] at hownr
        have hlen : (dw (z :: r)).length = 2 * j + 1 := by simp only [dw, weave_len]; have := HQ.out; omega
        exact ⟨_, rfl, by rw [hlen]; exact hownr, hbelr⟩
end Go.Proofs.Ythfhkmgegkhljaa
