/- The walk of StampsAlways. -/
import Derived.Test.YtjikhdnlcoohbaaRd2
namespace Go.Proofs.Ytjikhdnlcoohbaa
set_option linter.unusedSimpArgs false
set_option linter.unusedVariables false
open Go.RowKit St
attribute [local go_sem] Oper.semAt_some

theorem raw_kinds {zs : List Int} {m : Nat} : ((zs.take m).map kindOfRaw).all isK = true := by
  rw [List.all_eq_true]
  intro x hx
  obtain ⟨z, _, rfl⟩ := List.mem_map.1 hx
  have h1 := pick_lo z 2 (by omega)
  have h2 := pick_hi z 2 (by omega)
  unfold isK kindOfRaw
  rw [decide_eq_true_eq]
  omega
theorem byL_mem {ks L : List Int} (h : L ∈ byL ks) : L.Perm (upto (ks.length + 1)) ∧ ordG L = true ∧ kOf L = ks := by
  unfold byL at h
  rw [List.mem_filter] at h
  obtain ⟨h1, h2⟩ := h
  obtain ⟨h3, h4⟩ := orders_perm h1
  exact ⟨h3, h4, of_decide_eq_true h2⟩
set_option maxRecDepth 100000 in
set_option maxHeartbeats 6400000 in
theorem always_walk (A : Option Addr) (n c : Nat) (zs : List Int) (w : World) (h : Rd w 1 A n (vis zs)) (hn : n ≤ 9223372036854775807)
    (hz : ∀ z ∈ zs, -9223372036854775808 ≤ z ∧ z ≤ 9223372036854775807) :
    Calls Try.prog 7 #[.slice A n c] w fun e w' => e = .returned (.bool true) ∧ Below w.heap.size w w' := by
  have CK := Lib.hid (rkinds_any A n c zs 7 w h hn (by decide) hz)
  have hall := raw_kinds (zs := zs) (m := 7)
  have hkl : ((zs.take 7).map kindOfRaw).length = min n 7 := by rw [List.length_map, List.length_take, h.ints_len, Nat.min_comm]
  obtain ⟨ks, hks⟩ : ∃ ks, ks = (zs.take 7).map kindOfRaw := ⟨_, rfl⟩
  obtain ⟨m, hm⟩ : ∃ m, m = min n 7 := ⟨_, rfl⟩
  rw [← hks, ← hm] at CK hkl
  rw [← hks] at hall
  have hm7 : m < 8 := by omega
  have hsome := by_some hall
  have cB := fun (w1 : World) (A1 : Option Addr) (c1 : Nat) (h1 : Rd w1 1 A1 m (vis ks)) => by_ok A1 m c1 ks w1 h1 hm7 hall
  have hmem := fun L (hL : L ∈ byL ks) => byL_mem hL
  have hFb : (byL ks).length ≤ 1392 := by
    unfold byL
    refine Nat.le_trans (List.length_filter_le _ _) ?_
    rw [(orders_grow (n := ks.length + 1) (by omega)).length_eq]
    exact (orders_len (ks.length + 1) (by omega) (by omega)).2
  rw [hkl] at hmem
  obtain ⟨F, hF⟩ : ∃ F, F = byL ks := ⟨_, rfl⟩
  simp only [← hF] at cB
  rw [← hF] at hsome hFb hmem
  have hlz : ((F.length : Int) == 0) = false := beq_eq_false_iff_ne.2 (by omega)
  have CB := Lib.hid cB
  have HM := Lib.hid hmem
  have HKL := Lib.hid hkl
  clear h hz hall hks hm cB hmem hF hkl
  go_enter Try.func7, Try.ntmps7
  go_wp2_with (first
    | (go_at_call 20; refine CK.out.mono ?_; rintro e w1 ⟨v1, rfl, ho1, hb1⟩; obtain ⟨A1, c1, hv1⟩ := own_sl ho1; subst hv1)
    | (go_at_call 18; refine (CB.out _ _ _ (Rd.of_own ho1)).mono ?_; rintro e w2 ⟨v2, vals2, rfl, ho2, hr2, hb2⟩; obtain ⟨g2, c2, cur2, hv2, _, _, _, hg2⟩ := own_addr ho2 hsome; subst hv2))
  have hbb := stay_b hb1 hb2
  have HK := Lib.hid ((Rd.of_own ho1).below hb2)
  have HF := Lib.hid (Rd.of_own ho2)
  have HR := Lib.hid hr2
  clear ho1 ho2 hr2 hg2 hb1 hb2
  go_loopw [6] (fun i wr => ∃ j : Nat, j ≤ F.length ∧ i = .int .i64 j ∧ Below w2.heap.size w2 wr) (fun i _ => F.length - (intOf i).toNat)
  case atStart => exact ⟨0, by omega, rfl, Below.refl _ _⟩
  case round =>
    obtain ⟨j, hj, rfl, hbr⟩ := hrel
    by_cases hjn : j < F.length
    · obtain ⟨L, hL⟩ : ∃ z, F[j]? = some z := ⟨_, List.getElem?_eq_getElem hjn⟩
      obtain ⟨hp, hg, hko⟩ := HM.out L (List.mem_of_getElem? hL)
      obtain ⟨g, cg, e1, e2, _⟩ := (rows_keep HR.out hbr).2 j L hL
      obtain ⟨b4, o4, e5, _, hc4⟩ := (HF.out.below hbr).2 (by omega)
      cases e5
      have hcL := hc4 j _ e1
      rw [Nat.zero_add] at hcL
      have cKi := kinds_ok (some ⟨g, 0, none⟩) (m + 1) cg L wr e2.rd (chkE_of hp (by omega) (by omega)) (gdO_of hp hg)
      rw [hko] at cKi
      have cE := fun (w4 : World) (hb4 : Below wr.heap.size wr w4) (A4 : Option Addr) (c4 : Nat) (h4 : Rd w4 1 A4 (m + 1 - 1) (vis ks)) => kequal_any A4 A1 (m + 1 - 1) m c4 c1 ks ks w4 h4 ((HK.out.below hbr).below hb4) (by omega) (by omega)
      have hdt : decide (ks = ks) = true := by simp
      simp only [hdt] at cE
      have CKI := Lib.hid cKi
      have CE := Lib.hid cE
      clear hdt cKi cE hp hg hko e1 e2 hc4 hL
      go_wp2_with (first
        | (go_at_call 10; refine CKI.out.mono ?_; rintro e w4 ⟨v4, rfl, ho4, hb4⟩; obtain ⟨A4, c4, hv4⟩ := own_sl ho4; subst hv4)
        | (go_at_call 21; refine (CE.out _ hb4 _ _ (Rd.of_own ho4)).mono ?_; rintro e w5 ⟨rfl, hb5⟩))
      go_roundw
      case rel => exact ⟨j + 1, by omega, by go_num, stay_b (stay_b hbr hb4) hb5⟩
      case measure => simp [intOf]; omega
    · obtain rfl : j = F.length := by omega
      go_wp2
      go_ret
      exact ⟨rfl, stay_b hbb hbr⟩
end Go.Proofs.Ytjikhdnlcoohbaa
