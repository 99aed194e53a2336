/- Kinds of creases. -/
import Derived.Test.YtjikhdnlcoohbaaSt3
namespace Go.Proofs.Ytjikhdnlcoohbaa
set_option linter.unusedSimpArgs false
set_option linter.unusedVariables false
open Go.RowKit St

def kAt (h : Nat → Int) (i : Nat) : Int := if decide (h i < h (i + 1)) = decide ((i + 1) % 2 = 1) then 2 else 1
def ksOf (h : Nat → Int) (k : Nat) : List Int := (List.range k).map (kAt h)
theorem ksOf_succ (h : Nat → Int) (k : Nat) : ksOf h (k + 1) = ksOf h k ++ [kAt h k] := by simp [ksOf, List.range_succ]
theorem ksOf_len (h : Nat → Int) (k : Nat) : (ksOf h k).length = k := by simp [ksOf]
set_option maxRecDepth 100000 in
set_option maxHeartbeats 1600000 in
theorem kinds_any (A : Option Addr) (n c : Nat) (hl : List Int) (w : World) (h : Rd w 1 A n (vis hl)) (hn : n ≤ 100) (hn0 : 0 < n) :
    Calls Try.prog 25 #[.slice A n c] w fun e w' => ∃ v, e = .returned v ∧ w'.ownsRow w.heap.size 3 1 v (n - 1) (vis (ksOf (fn hl) (n - 1))) ∧ Below w.heap.size w w' := by
  obtain ⟨b, off, hA⟩ := h.addr hn0
  subst hA
  have HR := Lib.hid h
  clear h
  go_enter Try.func25, Try.ntmps25
  go_wp2_with fail
  go_loopw [3, 4] (fun v i wr => ∃ k : Nat, k + 1 ≤ n ∧ i = .int .i64 ((k + 1 : Nat) : Int) ∧ wr.ownsRow w.heap.size 3 1 v k (vis (ksOf (fn hl) k)) ∧ Below w.heap.size w wr) (fun _ i _ => n - (intOf i).toNat)
  case atStart => exact ⟨0, by omega, rfl, World.ownsRow_nil _ _ _ _, Below.refl _ _⟩
  case round =>
    obtain ⟨k, hk, rfl, hown, hbel⟩ := hrel
    obtain ⟨i, hi⟩ : ∃ i, i = k + 1 := ⟨_, rfl⟩
    have HI := Lib.hid hi
    rw [← hi] at hk ⊢
    have HOW := Lib.hid hown
    have hk1 : k + 1 ≤ i := by omega
    have hi1 : i ≤ k + 1 := by omega
    clear hi hown
    by_cases hin : i < n
    · have c1 := (HR.out.below hbel).at_fn hin
      have c2 := (HR.out.below hbel).at_fn (show k < n by omega)
      have hsn := ksOf_succ (fn hl) k
      have hka : kAt (fn hl) k = if decide (fn hl k < fn hl i) = decide (i % 2 = 1) then 2 else 1 := by rw [HI.out]; rfl
      generalize fn hl i = y1 at c1 hka
      generalize fn hl k = y0 at c2 hka
      generalize kAt (fn hl) k = kk at hsn hka
      have w1 : IntKind.i64.wrap ((i : Int) - 1) = (k : Int) := by rw [IntWalk.i64_in _ (by omega)]; omega
      have w2 : (i : Int) - 1 = (k : Int) := by omega
      have wq : IntKind.i64.wrap (k : Int) = (k : Int) := IntWalk.i64_in _ (by omega)
      have HSN := Lib.hid hsn
      have HKA := Lib.hid hka
      clear hsn hka
      have fin : ∀ z : Int, kk = z → ∀ (v' : Value) (w' : World), w'.ownsRow w.heap.size 3 1 v' (k + 1) (vis (ksOf (fn hl) k ++ [z])) → w'.ownsRow w.heap.size 3 1 v' (k + 1) (vis (ksOf (fn hl) (k + 1))) := fun z hz v' w' ho => by rw [HSN.out, hz]; exact ho
      have FIN := Lib.hid fin
      clear fin
      by_cases d : y0 < y1
      · by_cases par : i % 2 = 1
        · have dd : decide (y0 < y1) = true := decide_eq_true d
          have ha : bits .and .i64 (i : Int) 1 = 1 := by rw [and1]; omega
          have hz : kk = 2 := by rw [HKA.out, dd]; simp [par]
          have HZ := Lib.hid hz
          clear hz par dd
          go_wp2_with fail
          go_quiet (fail)
          go_wp2_with (at_builtin; refine app_ints rfl (.tmp 25) (.tmp 26) rfl w.heap.size _ k (ksOf (fn hl) k) [2] rfl (by exact HOW.out) hbel.size 1 _ rfl rfl rfl (by omega) ?_; intro v' w' hown' hb' _)
          have hw' : Below w.heap.size w w' := hbel.trans (((below_drewN (Below.refl wr.heap.size wr) _).mono hbel.size).trans hb')
          have HO' := Lib.hid hown'
          clear hown'
          go_roundw
          case rel => exact ⟨k + 1, by omega, by rw [← HI.out]; go_num, FIN.out _ HZ.out _ _ HO'.out, hw'⟩
          case measure => simp [intOf]; omega
        · have dd : decide (y0 < y1) = true := decide_eq_true d
          have ha : bits .and .i64 (i : Int) 1 = 0 := by rw [and1]; omega
          have hz : kk = 1 := by rw [HKA.out, dd]; simp [par]
          have HZ := Lib.hid hz
          clear hz par dd
          go_wp2_with fail
          go_quiet (fail)
          go_wp2_with (at_builtin; refine app_ints rfl (.tmp 28) (.tmp 29) rfl w.heap.size _ k (ksOf (fn hl) k) [1] rfl (by exact HOW.out) hbel.size 1 _ rfl rfl rfl (by omega) ?_; intro v' w' hown' hb' _)
          have hw' : Below w.heap.size w w' := hbel.trans (((below_drewN (Below.refl wr.heap.size wr) _).mono hbel.size).trans hb')
          have HO' := Lib.hid hown'
          clear hown'
          go_roundw
          case rel => exact ⟨k + 1, by omega, by rw [← HI.out]; go_num, FIN.out _ HZ.out _ _ HO'.out, hw'⟩
          case measure => simp [intOf]; omega
      · by_cases par : i % 2 = 1
        · have dd : decide (y0 < y1) = false := decide_eq_false d
          have ha : bits .and .i64 (i : Int) 1 = 1 := by rw [and1]; omega
          have hz : kk = 1 := by rw [HKA.out, dd]; simp [par]
          have HZ := Lib.hid hz
          clear hz par dd
          go_wp2_with fail
          go_quiet (fail)
          go_wp2_with (at_builtin; refine app_ints rfl (.tmp 28) (.tmp 29) rfl w.heap.size _ k (ksOf (fn hl) k) [1] rfl (by exact HOW.out) hbel.size 1 _ rfl rfl rfl (by omega) ?_; intro v' w' hown' hb' _)
          have hw' : Below w.heap.size w w' := hbel.trans (((below_drewN (Below.refl wr.heap.size wr) _).mono hbel.size).trans hb')
          have HO' := Lib.hid hown'
          clear hown'
          go_roundw
          case rel => exact ⟨k + 1, by omega, by rw [← HI.out]; go_num, FIN.out _ HZ.out _ _ HO'.out, hw'⟩
          case measure => simp [intOf]; omega
        · have dd : decide (y0 < y1) = false := decide_eq_false d
          have ha : bits .and .i64 (i : Int) 1 = 0 := by rw [and1]; omega
          have hz : kk = 2 := by rw [HKA.out, dd]; simp [par]
          have e2 : y1 ≤ y0 := by omega
          have HZ := Lib.hid hz
          clear hz par
          go_wp2_with fail
          go_quiet (fail)
          go_wp2_with (at_builtin; refine app_ints rfl (.tmp 25) (.tmp 26) rfl w.heap.size _ k (ksOf (fn hl) k) [2] rfl (by exact HOW.out) hbel.size 1 _ rfl rfl rfl (by omega) ?_; intro v' w' hown' hb' _)
          have hw' : Below w.heap.size w w' := hbel.trans (((below_drewN (Below.refl wr.heap.size wr) _).mono hbel.size).trans hb')
          have HO' := Lib.hid hown'
          clear hown'
          go_roundw
          case rel => exact ⟨k + 1, by omega, by rw [← HI.out]; go_num, FIN.out _ HZ.out _ _ HO'.out, hw'⟩
          case measure => simp [intOf]; omega
    · obtain rfl : i = n := by omega
      go_wp2_with fail
      go_ret
      exact ⟨_, rfl, by rw [show i - 1 = k by omega]; exact HOW.out, hbel⟩
end Go.Proofs.Ytjikhdnlcoohbaa
