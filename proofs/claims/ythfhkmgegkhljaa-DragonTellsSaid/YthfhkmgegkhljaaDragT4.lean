/- The walk of DragonTells. -/
import Derived.Test.YthfhkmgegkhljaaDragT3
namespace Go.Proofs.Ythfhkmgegkhljaa
open Go.RowKit

theorem checkE_cases (zs : List Int) : checkE zs = 0 ∨ (checkE zs ≠ 0 ∧ 1 ≤ checkE zs ∧ checkE zs ≤ 4) := by
  unfold checkE; split <;> (try split) <;> omega
theorem checkE_zero {zs : List Int} (h : checkE zs = 0) : zs.length ≤ 10 ∧ Kinded zs := by
  unfold checkE at h
  split at h
  · cases h
  · split at h
    · cases h
    · rename_i h1 h2
      refine ⟨by omega, fun z hz => ?_⟩
      have h3 : zs.any strangeB = false := by simpa using h2
      rw [List.any_eq_false] at h3
      have := h3 z hz
      simp [strangeB] at this
      omega
theorem own_none {w : World} {base : Nat} {e : TypeId} {sz n c : Nat} {xs : List Value} {A : Option Addr} (h : w.ownsRow base e sz (.slice A n c) n xs) (hA : A = none) : c = 0 := by
  subst hA
  rcases h.2 with ⟨h1, _⟩ | ⟨g, cap, cur, h1, _⟩
  · injection h1
  · cases h1

set_option maxRecDepth 100000 in
set_option maxHeartbeats 1600000 in
theorem tells_no (A : Option Addr) (n c : Nat) (zs : List Int) (w : World) (h : Rd w 1 A n (vis zs)) (hn : n * 8 ≤ 140737488351232) (hA : A = none → c = 0) (hc : checkE zs ≠ 0) (hc1 : 1 ≤ checkE zs) (hc2 : checkE zs ≤ 4) :
    Calls Try.prog 4 #[.slice A n c] w fun e w' => e = .returned (.bool true) ∧ Below w.heap.size w w' := by
  go_enter Try.func4, Try.ntmps4
  go_wp2_with fail
  refine (ints_any A n c zs w h hn hA).mono ?_
  rintro e w1 ⟨v1, rfl, hown1, hbel1⟩
  obtain ⟨A1, c1, rfl, hc1', hc1''⟩ := own_slice hown1
  go_wp2_with fail
  refine (Word_no A1 n c1 zs w1 (Rd.of_own hown1) (by omega) hc).mono ?_
  rintro e w2 ⟨rfl, rfl⟩
  go_wp2_with fail
  refine (ints_any A n c zs w1 (h.below hbel1) hn hA).mono ?_
  rintro e w2 ⟨v2, rfl, hown2, hbel2⟩
  obtain ⟨A2, c2, rfl, hc2', hc2''⟩ := own_slice hown2
  go_wp2_with fail
  refine (path_no A2 n c2 zs w2 (Rd.of_own hown2) (by omega) hc).mono ?_
  rintro e w3 ⟨rfl, hbel3⟩
  have hb3 := (hbel1.trans (hbel2.mono hbel1.size)).trans (hbel3.mono (by have := hbel1.size; have := hbel2.size; omega))
  go_wp2_with fail
  refine (foldsMay_any A n c zs w3 (h.below hb3) (by omega)).mono ?_
  rintro e w4 ⟨rfl, rfl⟩
  have hb : (checkE zs != 0) = true := by simpa using hc
  go_wp2
  go_ret
  exact ⟨rfl, hb3⟩

set_option maxRecDepth 100000 in
set_option maxHeartbeats 3200000 in
theorem tells_yes (r : List Int) (A : Option Addr) (n c : Nat) (w : World) (h : Rd w 1 A n (vis r.reverse)) (hn : n ≤ 10) (hA : A = none → c = 0) (hk : Kinded r) (hchk : checkE r.reverse = 0) :
    Calls Try.prog 4 #[.slice A n c] w fun e w' => e = .returned (.bool true) ∧ Below w.heap.size w w' := by
  have hds := dw_small r (by have := h.ints_len; simp at this; omega)
  obtain ⟨q, hq⟩ : ∃ q, q = (dw r).length := ⟨_, rfl⟩
  have HC := Lib.hid hchk
  clear hchk
  go_enter Try.func4, Try.ntmps4
  go_wp2_with fail
  refine (ints_any A n c _ w h (by omega) hA).mono ?_
  rintro e w1 ⟨v1, rfl, hown1, hbel1⟩
  obtain ⟨A1, c1, rfl, hc1', hc1''⟩ := own_slice hown1
  rw [← hq] at hds
  go_wp2_with fail
  refine (Word_yes r A1 n c1 w1 (Rd.of_own hown1) hn hc1' hk HC.out).mono ?_
  rintro e w2 ⟨v2, rfl, hown2, hbel2⟩
  obtain ⟨A2, c2, rfl, hc2', hc2''⟩ := own_slice hown2
  rw [← hq] at hown2 ⊢
  have hb2 := hbel1.trans (hbel2.mono hbel1.size)
  go_wp2_with fail
  refine (ints_any A n c _ w2 (h.below hb2) (by omega) hA).mono ?_
  rintro e w3 ⟨v3, rfl, hown3, hbel3⟩
  obtain ⟨A3, c3, rfl, hc3', hc3''⟩ := own_slice hown3
  go_wp2_with fail
  refine (path_yes r A3 n c3 w3 (Rd.of_own hown3) hn hc3' hk HC.out).mono ?_
  rintro e w4 ⟨v4, rfl, hown4, hbel4⟩
  rw [← hq] at hown4
  obtain ⟨A4, c4, rfl, hc4', hc4''⟩ := own_slice hown4
  have hb3 := hb2.trans (hbel3.mono hb2.size)
  have hb4 := hb3.trans (hbel4.mono hb3.size)
  go_wp2_with fail
  refine (foldsMay_any A n c _ w4 (h.below hb4) (by omega)).mono ?_
  rintro e w5 ⟨rfl, rfl⟩
  rw [HC.out]
  go_wp2_with fail
  refine (pathOf_any r A n c w4 (h.below hb4) hn hk).mono ?_
  rintro e w5 ⟨v5, rfl, hown5, hbel5⟩
  rw [← hq] at hown5
  obtain ⟨A5, c5, rfl, hc5', hc5''⟩ := own_slice hown5
  have hb5 := hb4.trans (hbel5.mono hb4.size)
  go_wp2_with fail
  refine (wordOf_any r A n c w5 (h.below hb5) hn hk).mono ?_
  rintro e w6 ⟨v6, rfl, hown6, hbel6⟩
  obtain ⟨A6, c6, rfl, hc6', hc6''⟩ := own_slice hown6
  rw [← hq] at hown6 ⊢
  have hb6 := hb5.trans (hbel6.mono hb5.size)
  have r2 : Rd w6 1 A2 q (vis (dw r)) := ((((Rd.of_own hown2).below hbel3).below hbel4).below hbel5).below hbel6
  have r4 : Rd w6 2 A4 (q + 2) (vps (pathS r)) := ((Rd.of_own hown4).below hbel5).below hbel6
  have r5 : Rd w6 2 A5 (q + 2) (vps (pathS r)) := (Rd.of_own hown5).below hbel6
  have HQ := Lib.hid hq
  clear hq
  go_wp2_with fail
  refine (sameInts_any A2 A6 q q c2 c6 (dw r) (dw r) w6 r2 (Rd.of_own hown6) (by omega) (by omega)).mono ?_
  rintro e w7 ⟨rfl, hbel7⟩
  have ht : decide (dw r = dw r) = true := by simp
  rw [ht]
  have hb7 := hb6.trans (hbel7.mono hb6.size)
  have r4' := r4.below hbel7
  have r5' := r5.below hbel7
  clear ht
  go_wp2
  go_loopw [9] (fun i wr => ∃ k : Nat, k ≤ q + 2 ∧ i = .int .i64 k ∧ Below w7.heap.size w7 wr) (fun i _ => q + 2 - (intOf i).toNat)
  case atStart => exact ⟨0, Nat.zero_le _, rfl, Below.refl _ _⟩
  case round =>
    obtain ⟨k, hkq, rfl, hb⟩ := hrel
    by_cases hlt : k < q + 2
    · obtain ⟨b4, o4, hA4, hl4, hc4⟩ := (r4'.below hb).at_ (by omega)
      obtain ⟨b5, o5, hA5, hl5, hc5⟩ := (r5'.below hb).at_ (by omega)
      have hlen := r4.len
      obtain ⟨p, hp⟩ : ∃ p, (pathS r)[k]? = some p := ⟨_, List.getElem?_eq_getElem (by simp only [pathS, List.length_cons, pts_len]; have := HQ.out; omega)⟩
      have e40 := hc4 (k * 2) _ (by rw [vps_at, hp]; rfl)
      have e41 := hc4 (k * 2 + 1) _ (by rw [vps_at1, hp]; rfl)
      have e50 := hc5 (k * 2) _ (by rw [vps_at, hp]; rfl)
      have e51 := hc5 (k * 2 + 1) _ (by rw [vps_at1, hp]; rfl)
      rw [← Nat.add_assoc] at e41 e51
      obtain ⟨px, py⟩ := p
      simp only at e40 e41 e50 e51
      have hki : (k : Int) < (q : Int) + 2 := by omega
      subst hA4
      subst hA5
      clear hlen hp hc4 hc5
      go_wp2
      go_quiet (fail)
      go_wp2
      go_roundw
      case rel => exact ⟨k + 1, by omega, by go_num, below_drewN hb _⟩
      case measure => simp [intOf]; omega
    · go_wp2
      go_ret
      exact ⟨rfl, hb7.trans (hb.mono hb7.size)⟩
end Go.Proofs.Ythfhkmgegkhljaa
