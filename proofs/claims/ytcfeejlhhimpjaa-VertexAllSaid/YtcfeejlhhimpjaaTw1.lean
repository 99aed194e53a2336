/- Flat: whether all kinds are kinds; what it answers. -/
import Derived.Test.YtcfeejlhhimpjaaCr14
namespace Go.Proofs.Ytcfeejlhhimpjaa
set_option linter.unusedSimpArgs false
set_option linter.unusedVariables false
open Go.RowKit Vx

def isK (z : Int) : Bool := decide (z = 1 ∨ z = 2)
theorem flatK_any (x : Int) (w : World) :
    Calls Try.prog 17 #[.int .i64 x] w fun e w' => e = .returned (.bool (!isK x)) ∧ w = w' := by
  go_enter Try.func17, Try.ntmps17
  by_cases h1 : x = 1
  · subst h1
    go_wp2
    go_ret
    exact ⟨rfl, rfl⟩
  · have e1 : (x == 1) = false := by simp [h1]
    by_cases h2 : x = 2
    · subst h2
      go_wp2
      go_ret
      exact ⟨rfl, rfl⟩
    · have e2 : (x == 2) = false := by simp [h2]
      have hk : isK x = false := by simp [isK, h1, h2]
      go_wp2
      go_ret
      exact ⟨by rw [hk]; simp only [bne, e1, e2]; rfl, rfl⟩
theorem flatK_enter (args : Array Value) (wx : World) : (callFunc 17 args).run Try.prog wx = .ok (.enter 17 args) wx := by kernel_rfl
set_option maxHeartbeats 800000 in
theorem indexK_any (A : Option Addr) (n c : Nat) (ys : List Int) (w : World) (h : Rd w 1 A n (vis ys)) (hn : n ≤ 100) :
    Calls Try.prog 22 #[.slice A n c, .func (.func 17) #[] #[]] w fun e w' => (∃ r : Int, e = .returned (.int .i64 r) ∧ decide (0 ≤ r) = !ys.all isK) ∧ w = w' := by
  have HL := Lib.hid h.ints_len
  have CF := Lib.hid (fun x => flatK_any x w)
  have EF := Lib.hid flatK_enter
  go_enter Try.func22, Try.ntmps22
  go_wp2
  go_loopw [8] (fun i wr => ∃ k : Nat, k ≤ n ∧ i = .int .i64 k ∧ (ys.take k).all isK = true ∧ w = wr) (fun i _ => n - (intOf i).toNat)
  case atStart => exact ⟨0, by omega, rfl, rfl, rfl⟩
  case round =>
    obtain ⟨k, hk, rfl, hall, rfl⟩ := hrel
    have HA := Lib.hid hall
    clear hall
    by_cases hkn : k < n
    · obtain ⟨b, off, z, hA, hb, hz, hcz⟩ := h.int hkn
      subst hA
      have hent := EF.out
      have HZ := Lib.hid hz
      clear hz
      go_wp2_with fail
      refine (CF.out z).mono ?_
      rintro e w1 ⟨rfl, rfl⟩
      cases hzk : isK z with
      | true =>
        have HK := Lib.hid hzk
        clear hzk
        go_wp2
        go_roundw
        case rel => exact ⟨k + 1, by omega, by go_num, by rw [take_succ HZ.out, List.all_append, HA.out]; simp [HK.out], by simp⟩
        case measure => simp [intOf]; omega
      | false =>
        have HK := Lib.hid hzk
        clear hzk
        go_wp2
        go_ret
        refine ⟨⟨k, rfl, ?_⟩, rfl⟩
        have hm := List.mem_of_getElem? HZ.out
        have : ys.all isK = false := by
          rw [List.all_eq_false]
          exact ⟨z, hm, by simp [HK.out]⟩
        rw [this]
        simp
    · obtain rfl : k = n := by omega
      have hta : ys.all isK = true := by
        have := HA.out
        rwa [List.take_of_length_le (by rw [HL.out]; exact Nat.le_refl _)] at this
      have HT := Lib.hid hta
      clear hta
      go_wp2
      go_ret
      exact ⟨⟨-1, rfl, by rw [HT.out]; rfl⟩, rfl⟩
theorem containsK_any (A : Option Addr) (n c : Nat) (ys : List Int) (w : World) (h : Rd w 1 A n (vis ys)) (hn : n ≤ 100) :
    Calls Try.prog 16 #[.slice A n c, .func (.func 17) #[] #[]] w fun e w' => e = .returned (.bool (!ys.all isK)) ∧ w = w' := by
  have CI := Lib.hid (indexK_any A n c ys w h hn)
  clear h
  go_enter Try.func16, Try.ntmps16
  go_wp2_with fail
  refine (CI.out).mono ?_
  rintro e w1 ⟨⟨r, rfl, hr⟩, rfl⟩
  have HR := Lib.hid hr
  clear hr
  go_wp2
  go_ret
  exact ⟨by rw [← HR.out]; rfl, rfl⟩
end Go.Proofs.Ytcfeejlhhimpjaa
