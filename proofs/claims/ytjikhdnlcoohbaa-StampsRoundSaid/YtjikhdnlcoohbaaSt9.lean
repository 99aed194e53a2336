/- OrderGood. -/
import Derived.Test.YtjikhdnlcoohbaaSt8
namespace Go.Proofs.Ytjikhdnlcoohbaa
set_option linter.unusedSimpArgs false
set_option linter.unusedVariables false
open Go.RowKit St

/-- the height of stamp s -/
def hI (os : List Int) (s : Int) : Int := fn (hsOf os) (s - 1).toNat
theorem hI_any (A : Option Addr) (n c : Nat) (os : List Int) (w : World) (h : Rd w 1 A n (vis os)) (hn : n ≤ 1000) (hp : os.Perm (upto os.length)) (s : Int) (h1 : 1 ≤ s) (h2 : s ≤ n) :
    Calls Try.prog 27 #[.slice A n c, .int .i64 s] w fun e w' => e = .returned (.int .i64 (hI os s)) ∧ w = w' :=
  height_any A n c os (s - 1).toNat w h hn hp (by omega) s (by omega)
theorem hI_a (os : List Int) (i : Nat) : hI os (i : Int) = fn (hsOf os) (i - 1) := by
  unfold hI
  rw [show ((i : Int) - 1).toNat = i - 1 by omega]
theorem hI_b (os : List Int) (i : Nat) : hI os ((i : Int) + 1) = fn (hsOf os) i := by
  unfold hI
  rw [show ((i : Int) + 1 - 1).toNat = i by omega]
theorem pair_hI (os : List Int) (i k : Nat) : pairOk (fn (hsOf os)) i k = (btw (hI os k) (hI os i) (hI os ((i : Int) + 1)) == btw (hI os ((k : Int) + 1)) (hI os i) (hI os ((i : Int) + 1))) := by
  rw [hI_a, hI_a, hI_b, hI_b]
  rfl
set_option maxRecDepth 100000 in
set_option maxHeartbeats 3200000 in
theorem orderGood_any (A : Option Addr) (n c : Nat) (os : List Int) (w : World) (h : Rd w 1 A n (vis os)) (hn : n ≤ 1000) (h0 : 1 ≤ n) (hp : os.Perm (upto os.length)) :
    Calls Try.prog 12 #[.slice A n c] w fun e w' => e = .returned (.bool (gd os)) ∧ Below w.heap.size w w' := by
  have hlen := h.ints_len
  have hgd : gd os = goodR (fn (hsOf os)) n := by
    unfold gd
    rw [good_eq (hs_inj hp), hlen]
  obtain ⟨G, hG⟩ : ∃ G, G = gd os := ⟨_, rfl⟩
  rw [← hG]
  have hno := fun i k h1 h2 h3 h4 hb => hG.trans (hgd.trans (goodR_no (h := fn (hsOf os)) (n := n) (i := i) (k := k) h1 h2 h3 h4 hb))
  have hyes := fun ha => hG.trans (hgd.trans (goodR_yes (h := fn (hsOf os)) (n := n) ha))
  have cH := hI_any A n c os w h hn hp
  have CH := Lib.hid cH
  have HN := Lib.hid hno
  have HY := Lib.hid hyes
  clear hG hgd hno hyes cH hlen h hp
  go_enter Try.func12, Try.ntmps12
  go_wp2_with fail
  go_loopw [4] (fun i wr => ∃ k : Nat, 1 ≤ k ∧ k ≤ n ∧ i = .int .i64 k ∧ (∀ i' k' : Nat, 0 < i' → i' < k → i' < k' → k' < n → i' % 2 = k' % 2 → pairOk (fn (hsOf os)) i' k' = true) ∧ wr = w) (fun i _ => n - (intOf i).toNat)
  case atStart => exact ⟨1, by omega, by omega, rfl, fun i' k' h1 h2 => by omega, rfl⟩
  case round =>
    obtain ⟨i, hi1, hin, rfl, hall, rfl⟩ := hrel
    have HA := Lib.hid hall
    clear hall
    by_cases hlt : i < n
    · go_wp2_with (go_at_call 27; refine (CH.out _ (by omega) (by omega)).mono ?_; rintro e w1 ⟨rfl, rfl⟩)
      go_loopw [7] (fun v w2 => ∃ k : Nat, i + 2 ≤ k ∧ k ≤ n + 1 ∧ (k - i) % 2 = 0 ∧ v = .int .i64 k ∧ (∀ k' : Nat, i < k' → k' < k → k' < n → i % 2 = k' % 2 → pairOk (fn (hsOf os)) i k' = true) ∧ w2 = wr) (fun v _ => n + 1 - (intOf v).toNat)
      case atStart => exact ⟨i + 2, by omega, by omega, by omega, by go_num, fun k' h1 h2 h3 h4 => by omega, rfl⟩
      case round =>
        obtain ⟨k, hk1, hk2, hkp, rfl, hal2, rfl⟩ := hrel
        have HB := Lib.hid hal2
        have hpar : i % 2 = k % 2 := by omega
        clear hal2
        by_cases hkn : k < n
        · have hpo := pair_hI os i k
          rcases hr0 : btw (hI os k) (hI os i) (hI os ((i : Int) + 1)) with _ | _ <;> rcases hr1 : btw (hI os ((k : Int) + 1)) (hI os i) (hI os ((i : Int) + 1)) with _ | _ <;> rw [hr0, hr1] at hpo <;> have HPO := Lib.hid hpo <;> clear hpo
          · -- False False
            go_wp2_with (first
              | (go_at_call 27; refine (CH.out _ (by omega) (by omega)).mono ?_; rintro e w1 ⟨rfl, rfl⟩)
              | (go_at_call 28; refine (between_any _ _ _ _).mono ?_; rintro e w1 ⟨rfl, rfl⟩; first | rw [hr0] | rw [hr1]))
            go_roundw
            case rel =>
              refine ⟨k + 2, by omega, by omega, by omega, by go_num, fun k' g1 g2 g3 g4 => ?_, trivial⟩
              by_cases hkk : k' = k
              · subst hkk
                rw [HPO.out]
                rfl
              · exact HB.out k' g1 (by omega) g3 g4
            case measure => simp [intOf]; omega
          · -- False True
            go_wp2_with (first
              | (go_at_call 27; refine (CH.out _ (by omega) (by omega)).mono ?_; rintro e w1 ⟨rfl, rfl⟩)
              | (go_at_call 28; refine (between_any _ _ _ _).mono ?_; rintro e w1 ⟨rfl, rfl⟩; first | rw [hr0] | rw [hr1]))
            have hg := HN.out i k (by omega) hkn (by omega) hpar (by rw [HPO.out]; rfl)
            subst hg
            go_ret
            exact ⟨rfl, Below.refl _ _⟩
          · -- True False
            go_wp2_with (first
              | (go_at_call 27; refine (CH.out _ (by omega) (by omega)).mono ?_; rintro e w1 ⟨rfl, rfl⟩)
              | (go_at_call 28; refine (between_any _ _ _ _).mono ?_; rintro e w1 ⟨rfl, rfl⟩; first | rw [hr0] | rw [hr1]))
            have hg := HN.out i k (by omega) hkn (by omega) hpar (by rw [HPO.out]; rfl)
            subst hg
            go_ret
            exact ⟨rfl, Below.refl _ _⟩
          · -- True True
            go_wp2_with (first
              | (go_at_call 27; refine (CH.out _ (by omega) (by omega)).mono ?_; rintro e w1 ⟨rfl, rfl⟩)
              | (go_at_call 28; refine (between_any _ _ _ _).mono ?_; rintro e w1 ⟨rfl, rfl⟩; first | rw [hr0] | rw [hr1]))
            go_roundw
            case rel =>
              refine ⟨k + 2, by omega, by omega, by omega, by go_num, fun k' g1 g2 g3 g4 => ?_, trivial⟩
              by_cases hkk : k' = k
              · subst hkk
                rw [HPO.out]
                rfl
              · exact HB.out k' g1 (by omega) g3 g4
            case measure => simp [intOf]; omega
        · go_wp2_with fail
          go_roundw
          case rel =>
            refine ⟨i + 1, by omega, by omega, by go_num, fun i' k' g1 g2 g3 g4 g5 => ?_, trivial⟩
            by_cases hii : i' = i
            · subst hii
              exact HB.out k' g3 (by omega) g4 g5
            · exact HA.out i' k' g1 (by omega) g3 g4 g5
          case measure => simp [intOf]; omega
    · have hg := HY.out (fun i' k' g1 g2 g3 g4 => HA.out i' k' g1 (by omega) g2 g3 g4)
      subst hg
      go_wp2_with fail
      go_ret
      exact ⟨rfl, Below.refl _ _⟩
end Go.Proofs.Ytjikhdnlcoohbaa
