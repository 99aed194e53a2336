/- check: whether an order is one; May; Kinds. -/
import Derived.Test.YtjikhdnlcoohbaaSo3
namespace Go.Proofs.Ytjikhdnlcoohbaa
set_option linter.unusedSimpArgs false
set_option linter.unusedVariables false
open Go.RowKit St

def chkE (os : List Int) : Int := if os.length < 1 ∨ 8 < os.length then 2 else if srt os = upto os.length then 0 else 1
theorem chk_size {os : List Int} (h : os.length < 1 ∨ 8 < os.length) : chkE os = 2 := if_pos h
theorem chk_form {os : List Int} (h : ¬ (os.length < 1 ∨ 8 < os.length)) {k : Nat} {z : Int} (hz : (srt os)[k]? = some z) (hne : z ≠ (k : Int) + 1) : chkE os = 1 := by
  unfold chkE
  rw [if_neg h, if_neg]
  intro e
  rw [e] at hz
  have hk : k < os.length := by
    have := (List.getElem?_eq_some_iff.1 hz).1
    rwa [upto_len] at this
  have : (upto os.length)[k]? = some ((k : Int) + 1) := by simp [upto, hk]
  rw [this] at hz
  exact hne (Option.some.inj hz).symm
theorem chk_ok {os : List Int} (h : ¬ (os.length < 1 ∨ 8 < os.length)) (ha : ∀ k, k < os.length → (srt os)[k]? = some ((k : Int) + 1)) : chkE os = 0 := by
  unfold chkE
  rw [if_neg h, if_pos]
  apply List.ext_getElem?
  intro k
  by_cases hk : k < os.length
  · rw [ha k hk]
    simp [upto, hk]
  · rw [List.getElem?_eq_none (by rw [srt_len]; omega), List.getElem?_eq_none (by rw [upto_len]; omega)]
theorem chk_zero {os : List Int} : chkE os = 0 ↔ 1 ≤ os.length ∧ os.length ≤ 8 ∧ os.Perm (upto os.length) := by
  unfold chkE
  have := sorted_iff (srt_perm os) (srt_le os)
  by_cases h1 : os.length < 1 ∨ 8 < os.length
  · rw [if_pos h1]
    constructor
    · intro h
      exact absurd h (by decide)
    · rintro ⟨h2, h3, _⟩
      omega
  · rw [if_neg h1]
    by_cases h2 : srt os = upto os.length
    · rw [if_pos h2]
      exact ⟨fun _ => ⟨by omega, by omega, this.1 h2⟩, fun _ => rfl⟩
    · rw [if_neg h2]
      constructor
      · intro h
        exact absurd h (by decide)
      · rintro ⟨_, _, h3⟩
        exact absurd (this.2 h3) h2
set_option maxRecDepth 100000 in
set_option maxHeartbeats 1600000 in
theorem check_any (A : Option Addr) (n c : Nat) (os : List Int) (w : World) (h : Rd w 1 A n (vis os)) :
    Calls Try.prog 22 #[.slice A n c] w fun e w' => e = .returned (.int .i64 (chkE os)) ∧ Below w.heap.size w w' := by
  have hlen := h.ints_len
  obtain ⟨E, hE⟩ : ∃ E, E = chkE os := ⟨_, rfl⟩
  rw [← hE]
  by_cases hs : os.length < 1 ∨ 8 < os.length
  · rw [chk_size hs] at hE
    subst hE
    rw [hlen] at hs
    rcases hs with hs | hs
    all_goals
      go_enter Try.func22, Try.ntmps22
      go_wp2_with fail
      go_ret
      exact ⟨rfl, Below.refl _ _⟩
  · obtain ⟨b, off, hA⟩ := h.addr (by omega)
    subst hA
    have hb : b < w.heap.size := by
      have := h.at_fn (k := 0) (by omega)
      exact World.block_lt_of_cell? w _ this
    have cS : ∀ (w1 : World), w1 = w.alloc (.cells #[.slice (some ⟨b, off, none⟩) n c] 22) → Calls Try.prog 35 #[.func (.func 47) #[] #[.pointer (some ⟨w.heap.size, 0, none⟩)]] w1 fun e w' => ∃ v, e = .returned v ∧ w'.ownsRow w1.heap.size 3 1 v n (vis (srt os)) ∧ Below w1.heap.size w1 w' := by
      rintro w1 rfl
      refine (callsIn_wide (n := 5)).1 (sorted_in 5 w.heap.size b off n c os _ (by decide) (h.alloc _) (by simp; omega) (by omega) (by omega) (by simp) ?_)
      rw [cell_of_blk (new_blk _ rfl) 0]
      rfl
    have cV := (callsIn_wide (n := 5)).1 (values_in Fence.wide 5 trivial rfl (some ⟨b, off, none⟩) n c w)
    have HE := Lib.hid hE
    have CS := Lib.hid cS
    have CV := Lib.hid cV
    have hs8 : n ≤ 8 := by omega
    have hs1 : 1 ≤ n := by omega
    have HS := Lib.hid hs
    have HL := Lib.hid hlen
    clear hE cS cV hs hlen h
    go_enter Try.func22, Try.ntmps22
    go_wp2_with (first
      | (go_at_call 36; refine CV.out.mono ?_; rintro e w1 ⟨rfl, rfl⟩)
      | (go_at_call 35; refine (CS.out _ rfl).mono ?_; rintro e w2 ⟨v, rfl, hown, hb2⟩; obtain ⟨g, c2, cur, rfl, _, _, _, _⟩ := own_addr hown (by omega)))
    have hrd := Rd.of_own hown
    have hbw : Below w.heap.size w w2 := (below_new w (.cells #[.slice (some ⟨b, off, none⟩) n c] 22)).trans (hb2.mono (by simp))
    have HRD := Lib.hid hrd
    clear hown hrd hb2
    go_loopw [17] (fun i wr => ∃ k : Nat, k ≤ n ∧ i = .int .i64 k ∧ (∀ j, j < k → (srt os)[j]? = some ((j : Int) + 1)) ∧ wr = w2) (fun i _ => n - (intOf i).toNat)
    case atStart => exact ⟨0, by omega, rfl, fun j hj => by omega, rfl⟩
    case round =>
      obtain ⟨k, hk, rfl, hall, rfl⟩ := hrel
      have HA := Lib.hid hall
      clear hall
      by_cases hkn : k < n
      · have c1 := HRD.out.at_fn hkn
        rw [Nat.zero_add] at c1
        have hz : (srt os)[k]? = some (fn (srt os) k) := by
          obtain ⟨z, hz⟩ : ∃ z, (srt os)[k]? = some z := ⟨_, List.getElem?_eq_getElem (by rw [srt_len, HL.out]; exact hkn)⟩
          rw [fn_at hz]; exact hz
        have HZ := Lib.hid hz
        clear hz
        obtain ⟨z, hzz⟩ : ∃ z, z = fn (srt os) k := ⟨_, rfl⟩
        rw [← hzz] at c1 HZ
        clear hzz
        by_cases hzk : z = (k : Int) + 1
        · subst hzk
          go_wp2_with fail
          go_roundw
          case rel =>
            refine ⟨k + 1, by omega, by go_num, fun j hj => ?_, trivial⟩
            by_cases hjk : j = k
            · subst hjk
              exact HZ.out
            · exact HA.out j (by omega)
          case measure => simp [intOf]; omega
        · have HE1 := HE.out.trans (chk_form HS.out HZ.out hzk)
          subst HE1
          go_wp2_with fail
          go_ret
          exact ⟨rfl, hbw⟩
      · obtain rfl : k = n := by omega
        have HE1 := HE.out.trans (chk_ok HS.out (by rw [HL.out]; exact HA.out))
        subst HE1
        go_wp2_with fail
        go_ret
        exact ⟨rfl, hbw⟩
end Go.Proofs.Ytjikhdnlcoohbaa
