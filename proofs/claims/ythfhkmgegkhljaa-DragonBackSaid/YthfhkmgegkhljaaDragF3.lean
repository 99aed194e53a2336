/- The walks of DragonFolds and DragonBack. -/
import Derived.Test.YthfhkmgegkhljaaDragF2
import Derived.Test.YthfhkmgegkhljaaDragT3
namespace Go.Proofs.Ythfhkmgegkhljaa
open Go.RowKit

set_option maxRecDepth 100000 in
set_option maxHeartbeats 1600000 in
theorem dfolds_walk (A : Option Addr) (n c : Nat) (zs : List Int) (w : World) (h : Rd w 1 A n (vis zs)) (hn : n * 8 ≤ 140737488351232) (hA : A = none → c = 0) :
    Calls Try.prog 8 #[.slice A n c] w fun e w' => e = .returned (.bool true) ∧ Below w.heap.size w w' := by
  obtain ⟨q, hq⟩ : ∃ q, q = (foldsR zs).1.length := ⟨_, rfl⟩
  have hqb : q ≤ 10 ∧ Hid ((foldsR zs).2 = 0 ∨ (foldsR zs).2 ≠ 0) := by
    refine ⟨?_, Lib.hid (by omega)⟩
    rw [hq]
    unfold foldsR
    split
    · decide
    · split
      · decide
      · rename_i h1 _
        split
        · simp only [List.length_reverse, backF_len]
          exact (powB_log (by simpa using h1)).2.1
        · decide
  obtain ⟨hqb, _⟩ := hqb
  generalize hE : (foldsR zs).2 = E at *
  go_enter Try.func8, Try.ntmps8
  go_wp2_with fail
  refine (ints_any A n c zs w h hn hA).mono ?_
  rintro e w1 ⟨v1, rfl, hown1, hbel1⟩
  obtain ⟨A1, c1, rfl, hc1', hc1''⟩ := own_slice hown1
  go_wp2_with fail
  refine (folds_any A1 n c1 zs w1 (Rd.of_own hown1) hn).mono ?_
  rintro e w2 ⟨v2, rfl, hown2, hbel2⟩
  rw [← hq] at hown2
  obtain ⟨A2, c2, rfl, hc2', hc2''⟩ := own_slice hown2
  have hb2 := hbel1.trans (hbel2.mono hbel1.size)
  rw [hE]
  have HE := Lib.hid hE
  have HQ := Lib.hid hq
  clear hE hq
  go_wp2_with fail
  refine (foldsOf_any A n c zs w2 (h.below hb2) hn).mono ?_
  rintro e w3 ⟨v3, rfl, hown3, hbel3⟩
  rw [← HQ.out] at hown3
  obtain ⟨A3, c3, rfl, hc3', hc3''⟩ := own_slice hown3
  have hb3 := hb2.trans (hbel3.mono hb2.size)
  rw [HE.out]
  go_wp2_with fail
  refine (sameInts_any A2 A3 q q c2 c3 _ _ w3 ((Rd.of_own hown2).below hbel3) (Rd.of_own hown3) (by omega) (by omega)).mono ?_
  rintro e w4 ⟨rfl, hbel4⟩
  have ht : decide ((foldsR zs).1 = (foldsR zs).1) = true := by simp
  rw [ht]
  clear ht
  go_wp2
  go_ret
  exact ⟨rfl, hb3.trans (hbel4.mono hb3.size)⟩

/-! A word that is read from its end, all kinds changed. -/
def revc (l : List Int) : List Int := (l.reverse).map fun z => 3 - z
theorem revc_snoc (l : List Int) (x : Int) : revc (l ++ [x]) = (3 - x) :: revc l := by simp [revc]
theorem revc_weave (m : List Int) : ∀ k, revc (weave k m.reverse) = weave (3 - altK k m.length) (revc m.reverse) := by
  induction m with
  | nil => intro k; simp [revc, weave, altK]
  | cons x m ih =>
    intro k
    rw [List.reverse_cons, weave_snoc, revc_snoc, show weave k m.reverse ++ [x, altK k (m.reverse.length + 1)] = (weave k m.reverse ++ [x]) ++ [altK k (m.reverse.length + 1)] by simp, revc_snoc, revc_snoc, ih k]
    simp only [weave, List.length_reverse, List.length_cons, altK_succ]
    rw [show (3 : Int) - (3 - (3 - altK k m.length)) = 3 - altK k m.length by omega]
theorem revc_dw (r : List Int) : Kinded r → ∃ s, s.length = r.length ∧ Kinded s ∧ revc (dw r) = dw s := by
  induction r with
  | nil => intro _; exact ⟨[], rfl, (fun z hz => by simp at hz), rfl⟩
  | cons k r ih =>
    intro h
    obtain ⟨s, h1, h2, h3⟩ := ih fun z hz => h z (by simp [hz])
    refine ⟨(3 - altK k (dw r).length) :: s, by simp [h1], ?_, ?_⟩
    · intro z hz
      rcases List.mem_cons.1 hz with rfl | hz
      · have := altK_kind (dw r).length (h k (by simp)); omega
      · exact h2 z hz
    · have := revc_weave (dw r).reverse k
      rw [List.reverse_reverse, List.length_reverse] at this
      simp only [dw]
      rw [this, h3]
theorem foldsR_dw {r : List Int} (h : Kinded r) (hl : r.length ≤ 10) : foldsR (dw r) = (r.reverse, 0) := by
  have h1 := dw_len r
  have h2 : (dw r).any strangeB = false := by
    rw [List.any_eq_false]
    intro z hz
    have := kinded_dw h z hz
    rcases this with rfl | rfl <;> decide
  have h3 : backF (dw r) r.length = r := dw_back rfl
  unfold foldsR
  rw [h1, powB_pow hl, Nat.log2_two_pow, h2, h3]
  simp
end Go.Proofs.Ythfhkmgegkhljaa
