/- Flat: what it answers. -/
import Derived.Test.YtcfeejlhhimpjaaTw1
namespace Go.Proofs.Ytcfeejlhhimpjaa
set_option linter.unusedSimpArgs false
set_option linter.unusedVariables false
open Go.RowKit Vx

theorem kinds_of {ys : List Int} (h : ys.all isK = true) : ∀ z ∈ ys, z = 1 ∨ z = 2 := fun z hz => by
  have := List.all_eq_true.1 h z hz
  simpa [isK] using this
/-- what Flat answers: may it be, and the trouble. -/
noncomputable def flatR (xs ys : List Int) : Bool × Int :=
  if chkE xs = 2 ∨ ys.length ≠ xs.length then (false, 2) else if chkE xs ≠ 0 then (false, chkE xs) else if ys.all isK = false then (false, 4) else (Fb (xs.zip ys), 0)

set_option maxHeartbeats 1600000 in
theorem flatF_any (A A' : Option Addr) (n c n' c' : Nat) (xs ys : List Int) (w : World) (h : Rd w 1 A n (vis xs)) (h' : Rd w 1 A' n' (vis ys)) (hnc : n ≤ c) (hcc : c ≤ maxLen) (hnc' : n' ≤ c') (hcc' : c' ≤ maxLen) :
    Calls Try.prog 7 #[.slice A n c, .slice A' n' c'] w fun e w' => e = .returned (.tuple #[.bool (flatR xs ys).1, .int .i64 (flatR xs ys).2]) ∧ Below w.heap.size w w' := by
  have hn : n ≤ 9223372036854775807 := by unfold maxLen at hcc; omega
  have hn' : n' ≤ 9223372036854775807 := by unfold maxLen at hcc'; omega
  have HL := Lib.hid h.ints_len
  have HL' := Lib.hid h'.ints_len
  have cC := check_any A n c xs w h hn
  obtain ⟨E, hE⟩ : ∃ E, E = chkE xs := ⟨_, rfl⟩
  rw [← hE] at cC
  have CC := Lib.hid cC
  have HE := Lib.hid hE
  have HR := Lib.hid h
  have HR' := Lib.hid h'
  clear cC hE h h'
  by_cases h2 : E = 2
  · have e : flatR xs ys = (false, 2) := by unfold flatR; rw [if_pos (.inl (by rw [← HE.out]; exact h2))]
    rw [e]
    clear e
    subst h2
    go_enter Try.func7, Try.ntmps7
    go_wp2_with fail
    refine (CC.out).mono ?_
    rintro e w1 ⟨rfl, rfl⟩
    go_wp2
    exact bodyPost_ret (v := .tuple #[.bool false, .int .i64 2]) (by simp [results, Try.results7, go_sem]) rfl ⟨rfl, Below.refl _ _⟩
  have e2 : (E == 2) = false := by simp [h2]
  by_cases hl : n' = n
  · by_cases h0 : E = 0
    · subst h0
      subst hl
      have hok := chk_ok HE.out.symm
      have hl8 : n' ≤ 8 := by have := hok.2.1; rw [HL.out] at this; exact this
      have hl2 : 0 < n' := by have := hok.1; rw [HL.out] at this; omega
      have CK := Lib.hid (containsK_any A' n' c' ys w HR'.out (by omega))
      cases hk : ys.all isK with
      | false =>
        have e : flatR xs ys = (false, 4) := by
          unfold flatR
          rw [if_neg (by rw [← HE.out, HL.out, HL'.out]; simp), if_neg (by rw [← HE.out]; simp), if_pos hk]
        have CK2 := Lib.hid (by have := CK.out; rwa [hk] at this)
        rw [e]
        clear e hk hok CK
        go_enter Try.func7, Try.ntmps7
        go_wp2_with fail
        refine (CC.out).mono ?_
        rintro e w1 ⟨rfl, rfl⟩
        go_wp2_with fail
        refine (CK2.out).mono ?_
        rintro e w1 ⟨rfl, rfl⟩
        go_wp2
        exact bodyPost_ret (v := .tuple #[.bool false, .int .i64 4]) (by simp [results, Try.results7, go_sem]) rfl ⟨rfl, Below.refl _ _⟩
      | true =>
        have e : flatR xs ys = (Fb (xs.zip ys), 0) := by
          unfold flatR
          rw [if_neg (by rw [← HE.out, HL.out, HL'.out]; simp), if_neg (by rw [← HE.out]; simp), if_neg (by rw [hk]; simp)]
        have CK2 := Lib.hid (by have := CK.out; rwa [hk] at this)
        rw [e]
        obtain ⟨b, off, hA⟩ := HR.out.addr hl2
        subst hA
        obtain ⟨b', off', hA'⟩ := HR'.out.addr hl2
        subst hA'
        have cF := flat_any (n' + 1) b off n' c xs b' off' c' ys w (Nat.lt_succ_self _) hl8 HR.out HR'.out hnc hcc hnc' hcc' hok.2.2.1
          (fun y hy => by have := hok.2.2.2 y hy; have := Kb_le n'; omega) (kinds_of hk)
        obtain ⟨fb, hfb⟩ : ∃ fb, fb = Fb (xs.zip ys) := ⟨_, rfl⟩
        rw [← hfb] at cF ⊢
        have CF := Lib.hid cF
        clear e hk hok CK cF hfb
        go_enter Try.func7, Try.ntmps7
        go_wp2_with fail
        refine (CC.out).mono ?_
        rintro e w1 ⟨rfl, rfl⟩
        go_wp2_with fail
        refine (CK2.out).mono ?_
        rintro e w1 ⟨rfl, rfl⟩
        go_wp2_with fail
        refine (CF.out).mono ?_
        rintro e w1 ⟨rfl, hb⟩
        go_wp2
        exact bodyPost_ret (v := .tuple #[.bool fb, .int .i64 0]) (by simp [results, Try.results7, go_sem]) rfl ⟨rfl, hb⟩
    · have e0 : (E == 0) = false := by simp [h0]
      subst hl
      have e : flatR xs ys = (false, E) := by
        unfold flatR
        rw [if_neg (by rw [← HE.out, HL.out, HL'.out]; simp [h2]), if_pos (by rw [← HE.out]; exact h0), ← HE.out]
      rw [e]
      clear e
      go_enter Try.func7, Try.ntmps7
      go_wp2_with fail
      refine (CC.out).mono ?_
      rintro e w1 ⟨rfl, rfl⟩
      go_wp2
      exact bodyPost_ret (v := .tuple #[.bool false, .int .i64 E]) (by simp [results, Try.results7, go_sem]) rfl ⟨rfl, Below.refl _ _⟩
  · have el : ((n' : Int) == (n : Int)) = false := by simp; omega
    have e : flatR xs ys = (false, 2) := by unfold flatR; rw [if_pos (.inr (by rw [HL.out, HL'.out]; exact hl))]
    rw [e]
    clear e
    go_enter Try.func7, Try.ntmps7
    go_wp2_with fail
    refine (CC.out).mono ?_
    rintro e w1 ⟨rfl, rfl⟩
    go_wp2
    exact bodyPost_ret (v := .tuple #[.bool false, .int .i64 2]) (by simp [results, Try.results7, go_sem]) rfl ⟨rfl, Below.refl _ _⟩
end Go.Proofs.Ytcfeejlhhimpjaa
