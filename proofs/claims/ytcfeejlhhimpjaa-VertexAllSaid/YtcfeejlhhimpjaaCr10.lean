/- All, where the angles may not be. -/
import Derived.Test.YtcfeejlhhimpjaaCr9
namespace Go.Proofs.Ytcfeejlhhimpjaa
set_option linter.unusedSimpArgs false
set_option linter.unusedVariables false
open Go.RowKit Vx

theorem all_err (A : Option Addr) (n c : Nat) (xs : List Int) (w : World) (h : Rd w 1 A n (vis xs)) (hn : n ≤ 9223372036854775807) (he : chkE xs ≠ 0) :
    Calls Try.prog 12 #[.slice A n c] w fun e w' => e = .returned (.tuple #[.slice none 0 0, .int .i64 (chkE xs)]) ∧ Below w.heap.size w w' := by
  have cC := fun (w : World) (h : Rd w 1 A n (vis xs)) => check_any A n c xs w h hn
  obtain ⟨E, hE⟩ : ∃ E, E = chkE xs := ⟨_, rfl⟩
  simp only [← hE] at cC
  rw [← hE] at he ⊢
  have hE0 : (E == 0) = false := by simp [he]
  have CC := Lib.hid cC
  have HR := Lib.hid h
  clear cC h hE
  go_enter Try.func12, Try.ntmps12
  go_wp2_with fail
  refine (CC.out _ (HR.out.alloc _)).mono ?_
  rintro e w1 ⟨rfl, rfl⟩
  go_wp2
  exact bodyPost_ret (v := .tuple #[.slice none 0 0, .int .i64 E]) (by simp [results, Try.results12, go_sem]) rfl ⟨rfl, below_new w _⟩
theorem count_err (A : Option Addr) (n c : Nat) (xs : List Int) (w : World) (h : Rd w 1 A n (vis xs)) (hn : n ≤ 9223372036854775807) (he : chkE xs ≠ 0) :
    Calls Try.prog 13 #[.slice A n c] w fun e w' => e = .returned (.tuple #[.int .i64 0, .int .i64 (chkE xs)]) ∧ Below w.heap.size w w' := by
  have CA := Lib.hid (all_err A n c xs w h hn he)
  clear h
  go_enter Try.func13, Try.ntmps13
  go_wp2_with fail
  refine (CA.out).mono ?_
  rintro e w1 ⟨rfl, hb⟩
  go_wp2
  exact bodyPost_ret (v := .tuple #[.int .i64 0, .int .i64 (chkE xs)]) (by simp [results, Try.results13, go_sem]) rfl ⟨rfl, hb⟩
end Go.Proofs.Ytcfeejlhhimpjaa
