/- The walk of StampsBy. -/
import Derived.Test.YtjikhdnlcoohbaaBy4
namespace Go.Proofs.Ytjikhdnlcoohbaa
set_option linter.unusedSimpArgs false
set_option linter.unusedVariables false
open Go.RowKit St
attribute [local go_sem] Oper.semAt_some

theorem filter_at {α : Type} {q : α → Bool} : ∀ {l : List α} {i : Nat} {x : α}, l[i]? = some x → q x = true → (l.filter q)[((l.take i).filter q).length]? = some x
  | [], i, x, h, _ => by simp at h
  | a :: l, 0, x, h, hq => by
    simp at h
    subst h
    simp [hq]
  | a :: l, i + 1, x, h, hq => by
    rw [List.getElem?_cons_succ] at h
    have ih := filter_at (q := q) h hq
    rw [List.take_succ_cons, List.filter_cons, List.filter_cons]
    split
    · rw [List.length_cons, List.getElem?_cons_succ]
      exact ih
    · exact ih
theorem filter_next {α : Type} {q : α → Bool} {l : List α} {i : Nat} {x : α} (h : l[i]? = some x) : ((l.take (i + 1)).filter q).length = ((l.take i).filter q).length + (if q x = true then 1 else 0) := by
  rw [take_succ h, List.filter_append, List.length_append]
  congr 1
  by_cases hq : q x = true
  · simp [hq]
  · simp [hq]
set_option maxRecDepth 100000 in
set_option maxHeartbeats 1600000 in
theorem byw_size (A : Option Addr) (n c : Nat) (ks : List Int) (w : World) (h : Rd w 1 A n (vis ks)) (hn : n * 8 ≤ 140737488351232) (hA : A = none → c = 0) (h8 : 8 ≤ n) :
    Calls Try.prog 5 #[.slice A n c] w fun e w' => e = .returned (.bool true) ∧ Below w.heap.size w w' := by
  have CI := Lib.hid (ints_any A n c ks w h hn hA)
  have CB := Lib.hid (fun (A1 : Option Addr) (c1 : Nat) (w1 : World) => by_size A1 n c1 ks w1 h8 (by omega))
  have h1 : (8 : Int) ≤ n := by omega
  clear h
  go_enter Try.func5, Try.ntmps5
  go_wp2_with (first
    | (go_at_call 9; refine CI.out.mono ?_; rintro e w1 ⟨v, rfl, ho1, hb1⟩; obtain ⟨A1, c1, hv1⟩ := own_sl ho1; subst hv1)
    | (go_at_call 18; refine (CB.out _ _ _).mono ?_; rintro e w2 ⟨rfl, hb2⟩))
  go_ret
  exact ⟨rfl, stay_b hb1 hb2⟩
set_option maxRecDepth 100000 in
set_option maxHeartbeats 1600000 in
theorem byw_kind (A : Option Addr) (n c : Nat) (ks : List Int) (w : World) (h : Rd w 1 A n (vis ks)) (hn : n * 8 ≤ 140737488351232) (hA : A = none → c = 0) (h8 : n < 8) (hbad : ks.all isK = false) :
    Calls Try.prog 5 #[.slice A n c] w fun e w' => e = .returned (.bool true) ∧ Below w.heap.size w w' := by
  have CI := Lib.hid (ints_any A n c ks w h hn hA)
  have CB := Lib.hid (fun (A1 : Option Addr) (c1 : Nat) (w1 : World) (h1 : Rd w1 1 A1 n (vis ks)) => by_kind A1 n c1 ks w1 h1 h8 hbad)
  have h1 : ¬ (8 : Int) ≤ n := by omega
  have HL := Lib.hid h.ints_len
  have HR := Lib.hid h
  have HB := Lib.hid hbad
  clear h hbad
  go_enter Try.func5, Try.ntmps5
  go_wp2_with (first
    | (go_at_call 9; refine CI.out.mono ?_; rintro e w1 ⟨v, rfl, ho1, hb1⟩; obtain ⟨A1, c1, hv1⟩ := own_sl ho1; subst hv1)
    | (go_at_call 18; refine (CB.out _ _ _ (Rd.of_own ho1)).mono ?_; rintro e w2 ⟨rfl, hb2⟩))
  have hbb := stay_b hb1 hb2
  clear ho1 hb1 hb2
  go_loopw [5] (fun i wr => ∃ k : Nat, k ≤ n ∧ i = .int .i64 k ∧ Hid ((ks.take k).all isK = true) ∧ wr = w2) (fun i _ => n - (intOf i).toNat)
  case atStart => exact ⟨0, by omega, rfl, Lib.hid rfl, rfl⟩
  case round =>
    obtain ⟨k, hk, rfl, hall, rfl⟩ := hrel
    by_cases hkn : k < n
    · obtain ⟨b, off, z, hA, hb, hz, hcz⟩ := (HR.out.below hbb).int hkn
      subst hA
      have HZ := Lib.hid hz
      clear hz
      cases hzk : isK z with
      | true =>
        have hnx : (ks.take (k + 1)).all isK = true := by rw [take_succ HZ.out, List.all_append, hall.out]; simp [hzk]
        have HX := Lib.hid hnx
        clear hnx
        rcases isK_split hzk with rfl | rfl
        all_goals
          go_wp2
          go_roundw
          case rel => exact ⟨k + 1, by omega, by go_num, HX, trivial⟩
          case measure => simp [intOf]; omega
      | false =>
        obtain ⟨z1, z2⟩ := isK_no hzk
        go_wp2
        go_ret
        exact ⟨rfl, hbb⟩
    · obtain rfl : k = n := by omega
      have h2 := hall.out
      rw [List.take_of_length_le (by rw [HL.out]; exact Nat.le_refl _), HB.out] at h2
      cases h2
set_option maxRecDepth 100000 in
set_option maxHeartbeats 6400000 in
theorem byw_ok (A : Option Addr) (n c : Nat) (ks : List Int) (w : World) (h : Rd w 1 A n (vis ks)) (hn : n * 8 ≤ 140737488351232) (hA : A = none → c = 0) (h8 : n < 8) (hgood : ks.all isK = true) :
    Calls Try.prog 5 #[.slice A n c] w fun e w' => e = .returned (.bool true) ∧ Below w.heap.size w w' := by
  have hl := h.ints_len
  have CI := Lib.hid (ints_any A n c ks w h hn hA)
  have cB := fun (A1 : Option Addr) (c1 : Nat) (w1 : World) (h1 : Rd w1 1 A1 n (vis ks)) => by_ok A1 n c1 ks w1 h1 h8 hgood
  have cO := fun (w1 : World) => ordersOf_any (n + 1) (by omega) (by omega) (n + 1) 0 (by omega) none 0 [] w1 Rd.nil (fun _ => rfl) (by simp) (by simp)
  have hLs : (ordersOf (n + 1) (n + 1) []).length ≤ 16777216 := Nat.le_trans (partO_len (by omega) (n + 1) []).1 (Nat.le_trans (Nat.pow_le_pow_right (by decide) (show n + 1 ≤ 8 by omega)) (by decide))
  have hop := fun L (hL : L ∈ ordersOf (n + 1) (n + 1) []) => (orders_perm hL).1
  have hby : byL ks = (ordersOf (n + 1) (n + 1) []).filter fun L => decide (kOf L = ks) := by unfold byL; rw [hl]
  obtain ⟨O, hO⟩ : ∃ O, O = ordersOf (n + 1) (n + 1) [] := ⟨_, rfl⟩
  obtain ⟨F, hF⟩ : ∃ F, F = byL ks := ⟨_, rfl⟩
  rw [← hO] at cO hLs hop hby
  rw [← hF] at hby
  simp only [← hF] at cB
  have hFl : F.length ≤ O.length := by rw [hby]; exact List.length_filter_le _ _
  have CB := Lib.hid cB
  have CO := Lib.hid cO
  have HOP := Lib.hid hop
  have HBY := Lib.hid hby
  have HL := Lib.hid hl
  have HR := Lib.hid h
  have HG := Lib.hid hgood
  have h1 : ¬ (8 : Int) ≤ n := by omega
  have hw1 : IntKind.i64.wrap ((n : Int) + 1) = ((n + 1 : Nat) : Int) := by rw [IntWalk.i64_in _ (by omega)]; rfl
  clear h hgood hl cB cO hop hby hO hF
  go_enter Try.func5, Try.ntmps5
  go_wp2_with (first
    | (go_at_call 9; refine CI.out.mono ?_; rintro e w1 ⟨v, rfl, ho1, hb1⟩; obtain ⟨A1, c1, hv1⟩ := own_sl ho1; subst hv1)
    | (go_at_call 18; refine (CB.out _ _ _ (Rd.of_own ho1)).mono ?_; rintro e w2 ⟨v2, vals2, rfl, ho2, hr2, hb2⟩; obtain ⟨A2, c2, hv2⟩ := own_sl ho2; subst hv2))
  have hbb := stay_b hb1 hb2
  have HO2 := Lib.hid ho2
  have HR2 := Lib.hid hr2
  clear ho1 hb1 hb2 ho2 hr2
  go_loopw [5] (fun i wr => ∃ k : Nat, k ≤ n ∧ i = .int .i64 k ∧ wr = w2) (fun i _ => n - (intOf i).toNat)
  case atStart => exact ⟨0, by omega, rfl, rfl⟩
  case round =>
    obtain ⟨k, hk, rfl, rfl⟩ := hrel
    by_cases hkn : k < n
    · obtain ⟨b, off, z, hA, hb, hz, hcz⟩ := (HR.out.below hbb).int hkn
      subst hA
      have hzk : isK z = true := List.all_eq_true.1 HG.out z (List.mem_of_getElem? hz)
      clear hz
      rcases isK_split hzk with rfl | rfl
      all_goals
        go_wp2
        go_roundw
        case rel => exact ⟨k + 1, by omega, by go_num, trivial⟩
        case measure => simp [intOf]; omega
    · obtain rfl : k = n := by omega
      go_wp2_with (go_at_call 17; refine (CO.out _).mono ?_; rintro e w3 ⟨v3, vals3, rfl, ho3, hr3, hb3⟩; obtain ⟨A3, c3, hv3⟩ := own_sl ho3; subst hv3)
      have hbb3 := stay_b hbb hb3
      have HO3 := Lib.hid ho3
      have HR3 := Lib.hid hr3
      have HO23 := Lib.hid ((Rd.of_own HO2.out).below hb3)
      have HR23 := Lib.hid (rows_keep HR2.out hb3)
      clear ho3 hr3
      go_loopw [7, 8] (fun kk i wr => ∃ (q j : Nat), j ≤ O.length ∧ i = .int .i64 j ∧ kk = .int .i64 q ∧ Hid (q = ((O.take j).filter fun L => decide (kOf L = ks)).length) ∧ Below w3.heap.size w3 wr) (fun _ i _ => O.length - (intOf i).toNat)
      case atStart => exact ⟨0, 0, by omega, rfl, rfl, Lib.hid rfl, Below.refl _ _⟩
      case round =>
        obtain ⟨q, j, hj, rfl, rfl, hq, hbr⟩ := hrel
        by_cases hjn : j < O.length
        · obtain ⟨L, hL⟩ : ∃ z, O[j]? = some z := ⟨_, List.getElem?_eq_getElem hjn⟩
          obtain ⟨g, cg, e1, e2, _⟩ := (rows_keep HR3.out hbr).2 j L hL
          obtain ⟨b3, o3, rfl, hb3l, hc3⟩ := ((Rd.of_own HO3.out).below hbr).2 (by omega)
          have hcL := hc3 j _ e1
          have hLp := HOP.out L (List.mem_of_getElem? hL)
          have cK := fun (w4 : World) (hb4 : Below wr.heap.size wr w4) => stampKinds_any (some ⟨g, 0, none⟩) (k + 1) cg L w4 (e2.rd.below hb4) (by omega) (by omega) (perm_self hLp).2
          have cS := fun (A5 : Option Addr) (c5 : Nat) (w4 : World) (hb4 : Below wr.heap.size wr w4) (h5 : Rd w4 1 A5 (k + 1 - 1) (vis (kOf L))) => sameInts_any A5 A (k + 1 - 1) k c5 c (kOf L) ks w4 h5 (((HR.out.below hbb3).below hbr).below hb4) (by omega) (by omega)
          have hqn := filter_next (q := fun L => decide (kOf L = ks)) hL
          have hqa := fun h => filter_at (q := fun L => decide (kOf L = ks)) hL h
          rw [← hq.out] at hqn hqa
          obtain ⟨E, hE⟩ : ∃ E, E = decide (kOf L = ks) := ⟨_, rfl⟩
          simp only [← hE] at cS hqn hqa
          rw [← HBY.out] at hqa
          have CK := Lib.hid cK
          have CS := Lib.hid cS
          have HQN := Lib.hid hqn
          have HQA := Lib.hid hqa
          have HLL := Lib.hid hL
          have E2 := Lib.hid e2
          have HLP := Lib.hid hLp
          have w1' : IntKind.i64.wrap ((j : Int) + 1) = ((j + 1 : Nat) : Int) := by rw [IntWalk.i64_in _ (by omega)]; rfl
          clear cK cS hqn hqa hL e1 e2 hc3 hLp hE
          go_wp2_with (go_at_call 14; refine (CK.out _ (Below.refl _ _)).mono ?_; rintro e w4 ⟨v4, rfl, ho4, hb4⟩; obtain ⟨A4, c4, hv4⟩ := own_sl ho4; subst hv4)
          refine (CS.out A4 c4 _ hb4 (Rd.of_own ho4)).mono ?_
          rintro e w5 ⟨rfl, hb5⟩
          have hb45 := stay_b hb4 hb5
          have hbn := stay_b hbr hb45
          have HBN := Lib.hid hbn
          cases E with
          | false =>
            have hq2 : q = ((O.take (j + 1)).filter fun L => decide (kOf L = ks)).length := by rw [HQN.out]; simp
            have HQ2 := Lib.hid hq2
            clear hq2 hbn
            go_wp2
            go_roundw
            case rel => exact ⟨q, j + 1, by omega, by go_num, rfl, HQ2, HBN.out⟩
            case measure => simp [intOf]; omega
          | true =>
            have hfq := HQA.out rfl
            have hql := (List.getElem?_eq_some_iff.1 hfq).1
            have hq2 : q + 1 = ((O.take (j + 1)).filter fun L => decide (kOf L = ks)).length := by rw [HQN.out]; simp
            have HQ2 := Lib.hid hq2
            obtain ⟨g2, cg2, e3, e4, _⟩ := (rows_keep (rows_keep HR23.out hbr) hb45).2 q L hfq
            obtain ⟨b4, o4, rfl, hb4l, hc4⟩ := ((HO23.out.below hbr).below hb45).2 (by omega)
            have hcF := hc4 q _ e3
            have hcL5 := stay_c hcL hb45 (Nat.le_refl _)
            have E5 := E2.out.keep (KpI.of_below hb45)
            have cS2 := fun (w6 : World) (hb6 : Below w5.heap.size w5 w6) => sameInts_any (some ⟨g2, 0, none⟩) (some ⟨g, 0, none⟩) (k + 1) (k + 1) cg2 cg L L w6 (e4.rd.below hb6) (E5.rd.below hb6) (by omega) (by omega)
            have CS2 := Lib.hid cS2
            have w2' : IntKind.i64.wrap ((q : Int) + 1) = ((q + 1 : Nat) : Int) := by rw [IntWalk.i64_in _ (by omega)]; rfl
            have hqz : ¬ ((F.length : Int) ≤ (q : Int)) := by omega
            clear hq2 hfq e3 e4 hc4 cS2 E5 hbn
            go_wp2_with fail
            have hd : decide (F.length ≤ q) = false := by simp; omega
            have hS : w5.drew.cell? ⟨b4, o4 + q, none⟩ = some (.slice (some ⟨g2, 0, none⟩) (k + 1) cg2) ∧ w5.drew.cell? ⟨b3, o3 + j, none⟩ = some (.slice (some ⟨g, 0, none⟩) (k + 1) cg) ∧ Below w5.heap.size w5 w5.drew := ⟨hcF, hcL5, (Below.refl _ _).drew⟩
            go_region_held3 (fun w' => w'.cell? ⟨b4, o4 + q, none⟩ = some (.slice (some ⟨g2, 0, none⟩) (k + 1) cg2) ∧ w'.cell? ⟨b3, o3 + j, none⟩ = some (.slice (some ⟨g, 0, none⟩) (k + 1) cg) ∧ Below w5.heap.size w5 w')
              (first
                | with_reducible exact hS
                | (go_split_ands; with_reducible exact ⟨stay_c ‹_› hbc (Nat.le_refl _), stay_c ‹_› hbc (Nat.le_refl _), stay_b ‹_› hbc⟩))
              (first | ((with_reducible refine (CS2.out _ hS.2.2).mono ?_); rintro e wc ⟨he, hbc⟩; subst he))
            rename_i hH
            obtain ⟨_, _, hBx⟩ := hH
            have hbx := stay_b HBN.out hBx
            go_wp2
            go_roundw
            case rel => exact ⟨q + 1, j + 1, by omega, by go_num, by go_num, HQ2, hbx⟩
            case measure => simp [intOf]; omega
        · obtain rfl : j = O.length := by omega
          have hqf : q = F.length := by
            have h2 := hq.out
            rw [List.take_of_length_le (Nat.le_refl _), ← HBY.out] at h2
            exact h2
          subst hqf
          go_wp2
          go_ret
          exact ⟨rfl, stay_b hbb3 hbr⟩
theorem by_walk (A : Option Addr) (n c : Nat) (ks : List Int) (w : World) (h : Rd w 1 A n (vis ks)) (hn : n * 8 ≤ 140737488351232) (hA : A = none → c = 0) :
    Calls Try.prog 5 #[.slice A n c] w fun e w' => e = .returned (.bool true) ∧ Below w.heap.size w w' := by
  by_cases h8 : 8 ≤ n
  · exact byw_size A n c ks w h hn hA h8
  · cases hk : ks.all isK with
    | true => exact byw_ok A n c ks w h hn hA (by omega) hk
    | false => exact byw_kind A n c ks w h hn hA (by omega) hk
end Go.Proofs.Ytjikhdnlcoohbaa
