/- StampKinds. -/
import Derived.Test.YtjikhdnlcoohbaaSt9
namespace Go.Proofs.Ytjikhdnlcoohbaa
set_option linter.unusedSimpArgs false
set_option linter.unusedVariables false
open Go.RowKit St

theorem kAt_hI (os : List Int) (k : Nat) : kAt (fn (hsOf os)) k = if decide (hI os ((k + 1 : Nat) : Int) < hI os (((k + 1 : Nat) : Int) + 1)) = decide ((k + 1) % 2 = 1) then 2 else 1 := by
  unfold kAt
  rw [hI_a, hI_b]
  rfl
theorem hI_ne {os : List Int} (hp : os.Perm (upto os.length)) {i : Nat} (h1 : 1 ≤ i) (h2 : i < os.length) : hI os (i : Int) ≠ hI os ((i : Int) + 1) := by
  rw [hI_a, hI_b]
  intro e
  have := hs_inj hp _ _ (by omega) (by omega) e
  omega
set_option maxRecDepth 100000 in
set_option maxHeartbeats 3200000 in
theorem stampKinds_any (A : Option Addr) (n c : Nat) (os : List Int) (w : World) (h : Rd w 1 A n (vis os)) (hn : n ≤ 1000) (h0 : 1 ≤ n) (hp : os.Perm (upto os.length)) :
    Calls Try.prog 14 #[.slice A n c] w fun e w' => ∃ v, e = .returned v ∧ w'.ownsRow w.heap.size 3 1 v (n - 1) (vis (kOf os)) ∧ Below w.heap.size w w' := by
  have hlen := h.ints_len
  have hko : kOf os = ksOf (fn (hsOf os)) (n - 1) := by unfold kOf; rw [hlen]
  obtain ⟨K, hK⟩ : ∃ K, K = fn (hsOf os) := ⟨_, rfl⟩
  have hka := fun k => kAt_hI os k
  have hne := fun i (a : 1 ≤ i) (b : i < n) => hI_ne (i := i) hp a (by omega)
  rw [← hK] at hko hka
  rw [hko]
  have cH := fun (w1 : World) (hb : Below w.heap.size w w1) => hI_any A n c os w1 (h.below hb) hn hp
  have CH := Lib.hid cH
  have HKA := Lib.hid hka
  have HNE := Lib.hid hne
  clear hlen hko hK cH h hka hne
  go_enter Try.func14, Try.ntmps14
  go_wp2_with fail
  go_loopw [3, 4] (fun v i wr => ∃ k : Nat, k + 1 ≤ n ∧ i = .int .i64 ((k + 1 : Nat) : Int) ∧ wr.ownsRow w.heap.size 3 1 v k (vis (ksOf K k)) ∧ Below w.heap.size w wr) (fun _ i _ => n - (intOf i).toNat)
  case atStart => exact ⟨0, by omega, rfl, World.ownsRow_nil _ _ _ _, Below.refl _ _⟩
  case round =>
    obtain ⟨k, hk, rfl, hown, hbel⟩ := hrel
    have hkk := HKA.out k
    obtain ⟨i, hi⟩ : ∃ i, i = k + 1 := ⟨_, rfl⟩
    rw [← hi] at hk hkk ⊢
    have HI := Lib.hid hi
    have HOW := Lib.hid hown
    have hk1 : k + 1 ≤ i := by omega
    have hi1 : i ≤ k + 1 := by omega
    clear hi hown
    by_cases hin : i < n
    · have hsn := ksOf_succ K k
      have hdd := HNE.out i (by omega) hin
      generalize kAt K k = kk at hsn hkk
      have CHH := Lib.hid (CH.out wr hbel)
      have HSN := Lib.hid hsn
      have HKK := Lib.hid hkk
      clear hsn hkk
      have fin : ∀ z : Int, kk = z → ∀ (v' : Value) (w' : World), w'.ownsRow w.heap.size 3 1 v' (k + 1) (vis (ksOf K k ++ [z])) → w'.ownsRow w.heap.size 3 1 v' (k + 1) (vis (ksOf K (k + 1))) := fun z hz v' w' ho => by rw [HSN.out, hz]; exact ho
      have FIN := Lib.hid fin
      clear fin
      by_cases d : hI os (i : Int) < hI os ((i : Int) + 1)
      · by_cases par : i % 2 = 1
        · have dd : decide (hI os (i : Int) < hI os ((i : Int) + 1)) = true := decide_eq_true d
          have e1 : ¬ hI os ((i : Int) + 1) < hI os (i : Int) := by omega
          have hz : kk = 2 := by rw [HKK.out, dd]; simp [par]
          have ip : (i : Int) % 2 = 1 := by omega
          have it : Int.tmod (i : Int) 2 = 1 := by rw [Int.tmod_eq_emod_of_nonneg (by omega)]; exact ip
          have HZ := Lib.hid hz
          clear hz dd hdd
          go_wp2_with (first | (go_at_call 27; refine (CHH.out _ (by omega) (by omega)).mono ?_; rintro e w1 ⟨rfl, rfl⟩) | (at_builtin; refine app_ints rfl (.tmp 28) (.tmp 29) rfl w.heap.size _ k (ksOf K k) [2] rfl (by exact HOW.out) hbel.size 1 _ rfl rfl rfl (by omega) ?_; intro v' w' hown' hb' _))
          have hw' : Below w.heap.size w w' := hbel.trans hb'
          have HO' := Lib.hid hown'
          clear hown'
          go_roundw
          case rel => exact ⟨k + 1, by omega, by rw [← HI.out]; go_num, FIN.out _ HZ.out _ _ HO'.out, hw'⟩
          case measure => simp [intOf]; omega
        · have dd : decide (hI os (i : Int) < hI os ((i : Int) + 1)) = true := decide_eq_true d
          have e1 : ¬ hI os ((i : Int) + 1) < hI os (i : Int) := by omega
          have hz : kk = 1 := by rw [HKK.out, dd]; simp [par]
          have ip : (i : Int) % 2 = 0 := by omega
          have it : Int.tmod (i : Int) 2 = 0 := by rw [Int.tmod_eq_emod_of_nonneg (by omega)]; exact ip
          have HZ := Lib.hid hz
          clear hz dd hdd
          go_wp2_with (first | (go_at_call 27; refine (CHH.out _ (by omega) (by omega)).mono ?_; rintro e w1 ⟨rfl, rfl⟩) | (at_builtin; refine app_ints rfl (.tmp 31) (.tmp 32) rfl w.heap.size _ k (ksOf K k) [1] rfl (by exact HOW.out) hbel.size 1 _ rfl rfl rfl (by omega) ?_; intro v' w' hown' hb' _))
          have hw' : Below w.heap.size w w' := hbel.trans hb'
          have HO' := Lib.hid hown'
          clear hown'
          go_roundw
          case rel => exact ⟨k + 1, by omega, by rw [← HI.out]; go_num, FIN.out _ HZ.out _ _ HO'.out, hw'⟩
          case measure => simp [intOf]; omega
      · by_cases par : i % 2 = 1
        · have dd : decide (hI os (i : Int) < hI os ((i : Int) + 1)) = false := decide_eq_false d
          have e1 : hI os ((i : Int) + 1) < hI os (i : Int) := by omega
          have hz : kk = 1 := by rw [HKK.out, dd]; simp [par]
          have ip : (i : Int) % 2 = 1 := by omega
          have it : Int.tmod (i : Int) 2 = 1 := by rw [Int.tmod_eq_emod_of_nonneg (by omega)]; exact ip
          have HZ := Lib.hid hz
          clear hz dd hdd
          go_wp2_with (first | (go_at_call 27; refine (CHH.out _ (by omega) (by omega)).mono ?_; rintro e w1 ⟨rfl, rfl⟩) | (at_builtin; refine app_ints rfl (.tmp 31) (.tmp 32) rfl w.heap.size _ k (ksOf K k) [1] rfl (by exact HOW.out) hbel.size 1 _ rfl rfl rfl (by omega) ?_; intro v' w' hown' hb' _))
          have hw' : Below w.heap.size w w' := hbel.trans hb'
          have HO' := Lib.hid hown'
          clear hown'
          go_roundw
          case rel => exact ⟨k + 1, by omega, by rw [← HI.out]; go_num, FIN.out _ HZ.out _ _ HO'.out, hw'⟩
          case measure => simp [intOf]; omega
        · have dd : decide (hI os (i : Int) < hI os ((i : Int) + 1)) = false := decide_eq_false d
          have e1 : hI os ((i : Int) + 1) < hI os (i : Int) := by omega
          have hz : kk = 2 := by rw [HKK.out, dd]; simp [par]
          have ip : (i : Int) % 2 = 0 := by omega
          have it : Int.tmod (i : Int) 2 = 0 := by rw [Int.tmod_eq_emod_of_nonneg (by omega)]; exact ip
          have HZ := Lib.hid hz
          clear hz dd hdd
          go_wp2_with (first | (go_at_call 27; refine (CHH.out _ (by omega) (by omega)).mono ?_; rintro e w1 ⟨rfl, rfl⟩) | (at_builtin; refine app_ints rfl (.tmp 28) (.tmp 29) rfl w.heap.size _ k (ksOf K k) [2] rfl (by exact HOW.out) hbel.size 1 _ rfl rfl rfl (by omega) ?_; intro v' w' hown' hb' _))
          have hw' : Below w.heap.size w w' := hbel.trans hb'
          have HO' := Lib.hid hown'
          clear hown'
          go_roundw
          case rel => exact ⟨k + 1, by omega, by rw [← HI.out]; go_num, FIN.out _ HZ.out _ _ HO'.out, hw'⟩
          case measure => simp [intOf]; omega
    · obtain rfl : i = n := by omega
      go_wp2_with fail
      go_ret
      exact ⟨_, rfl, by rw [show i - 1 = k by omega]; exact HOW.out, hbel⟩
end Go.Proofs.Ytjikhdnlcoohbaa
