/- The walk of VertexFlat. -/
import Derived.Test.YtcfeejlhhimpjaaOr6
import Derived.Test.YtcfeejlhhimpjaaTw2
import Derived.Laws.AppendOwnNone
namespace Go.Proofs.Ytcfeejlhhimpjaa
set_option linter.unusedSimpArgs false
set_option linter.unusedVariables false
open Go.RowKit Vx Vo

/-- 'append(nil, l...)': a copy. -/
theorem ints_any (A : Option Addr) (n c : Nat) (zs : List Int) (w : World) (h : Rd w 1 A n (vis zs)) (hn : n * 8 ≤ 140737488351232) (hA : A = none → c = 0) :
    Calls Try.prog 8 #[.slice A n c] w fun e w' => ∃ v, e = .returned v ∧ w'.ownsRow w.heap.size 3 1 v n (vis zs) ∧ Below w.heap.size w w' := by
  obtain ⟨i0, hi, hz0, hz1, hz2⟩ := info_parts int_info
  have hl := h.ints_len
  cases A with
  | none =>
    have h0 : n = 0 := by
      rcases Nat.eq_zero_or_pos n with h0 | h0
      · exact h0
      · obtain ⟨_, _, e, _⟩ := h.2 h0; cases e
    obtain rfl := hA rfl
    subst h0
    have hz : zs = [] := List.eq_nil_of_length_eq_zero hl
    subst hz
    clear hl
    go_enter Try.func8, Try.ntmps8
    go_wp2_with (at_builtin; refine wpList_append_own_none rfl _ _ 22 rfl w.heap.size 3 i0 1 Try.underlying22 hi (.slice none 0 0) 0 [] rfl (World.ownsRow_nil _ _ _ _) rfl ?_)
    go_ret
    exact ⟨_, rfl, World.ownsRow_nil _ _ _ _, Below.refl _ _⟩
  | some ad =>
    have hc : ∀ j u, (vis zs)[j]? = some u → w.cell? (ad.add j) = some u := by
      intro j u hu
      rcases Nat.eq_zero_or_pos n with h0 | h0
      · subst h0
        have hz : zs = [] := List.eq_nil_of_length_eq_zero hl
        subst hz
        simp at hu
      · obtain ⟨b, off, e, _, hc⟩ := h.2 h0
        injection e with e
        subst e
        rw [addr_add]
        exact hc j u hu
    have HC := Lib.hid hc
    have HL := Lib.hid hl
    clear hc hl
    go_enter Try.func8, Try.ntmps8
    go_wp2_with (at_builtin; refine wpList_append_own _ rfl _ _ 22 rfl w.heap.size 3 i0 (.int .i64 0) 1 8 Try.underlying22 hi hz0 hz1 hz2 rfl (by decide) (.slice none 0 0) 0 [] rfl (World.ownsRow_nil _ _ _ _) ad n c (vis zs) rfl ?c0 HC.out ?c1 ?c2 ?c3 (Nat.le_refl _) ?_; (case c0 => simp [HL.out]); (case c1 => intro u hu; obtain ⟨z, _, rfl⟩ := List.mem_map.1 hu; rfl); (case c2 => simp only [maxLen]; omega); (case c3 => omega); intro v' w' h1 h2 _)
    go_ret
    exact ⟨_, rfl, by simpa using h1, (Below.refl _ _).grown h2 (Nat.le_refl _) (fun k hk => by cases hk)⟩

theorem found_F {xs ys : List Int} (he : chkE xs = 0) (hl : xs.length = ys.length) (hk : ∀ z ∈ ys, z = 1 ∨ z = 2) : (found xs)[numK (fn ys) xs.length]? = some (Fb (xs.zip ys)) := by
  have hok := chk_ok he
  unfold found
  rw [List.getElem?_map, List.getElem?_range (numK_lt _ _)]
  simp only [Option.map_some, Option.some.injEq]
  rw [Bool.eq_iff_iff, Fb_iff]
  exact reach_F hok.2.2.1 (fun x hx => by have := hok.2.2.2 x hx; omega) hl hk
/-- the two copies, and what Flat and AnglesMay say -/
theorem vflat_bad (A A' : Option Addr) (n c n' c' : Nat) (xs ys : List Int) (w : World) (h : Rd w 1 A n (vis xs)) (h' : Rd w 1 A' n' (vis ys)) (hn : n * 8 ≤ 140737488351232) (hn' : n' * 8 ≤ 140737488351232) (hA : A = none → c = 0) (hA' : A' = none → c' = 0)
    (hbad : chkE xs = 2 ∨ n' ≠ n) :
    Calls Try.prog 3 #[.slice A n c, .slice A' n' c'] w fun e w' => e = .returned (.bool true) ∧ Below w.heap.size w w' := by
  have hl := h.ints_len
  have hl' := h'.ints_len
  have hfl : flatR xs ys = (false, 2) := by
    unfold flatR
    rw [if_pos (by rw [hl, hl']; exact hbad)]
  have cI := ints_any A n c xs w h hn hA
  have cJ := fun w1 (hb : Below w.heap.size w w1) => ints_any A' n' c' ys w1 (h'.below hb) hn' hA'
  have cF := fun (a a' : Option Addr) (d d' : Nat) (w1 : World) (r : Rd w1 1 a n (vis xs)) (r' : Rd w1 1 a' n' (vis ys)) (q1 : n ≤ d) (q2 : d ≤ maxLen) (q3 : n' ≤ d') (q4 : d' ≤ maxLen) => flatF_any a a' n d n' d' xs ys w1 r r' q1 q2 q3 q4
  simp only [hfl] at cF
  have cM := fun w1 (hb : Below w.heap.size w w1) => anglesMay_any A n c xs w1 (h.below hb) (by omega)
  obtain ⟨E, hE⟩ : ∃ E, E = chkE xs := ⟨_, rfl⟩
  simp only [← hE] at cM hbad
  have CI := Lib.hid cI
  have CJ := Lib.hid cJ
  have CF := Lib.hid cF
  have CM := Lib.hid cM
  clear cI cJ cF cM hE hfl hl hl' h h'
  have go : ∀ (p : Bool), (E == 2) = p → (p = true ∨ ((n' : Int) == (n : Int)) = false ∧ ((n' : Int) != (n : Int)) = true) → Calls Try.prog 3 #[.slice A n c, .slice A' n' c'] w fun e w' => e = .returned (.bool true) ∧ Below w.heap.size w w' := by
    intro p hp hq
    cases p with
    | true =>
      clear hq
      go_enter Try.func3, Try.ntmps3
      go_wp2_with fail
      refine (CI.out).mono ?_
      rintro e w1 ⟨v1, rfl, ho1, hb1⟩
      go_wp2_with fail
      refine (CJ.out _ hb1).mono ?_
      rintro e w2 ⟨v2, rfl, ho2, hb2⟩
      obtain ⟨a1, d1, rfl, q1, q2⟩ := own_slice ho1
      obtain ⟨a2, d2, rfl, q3, q4⟩ := own_slice ho2
      have CF2 := Lib.hid (CF.out a1 a2 d1 d2 w2 (Rd.of_own (own_below ho1 hb2 (Nat.le_refl _))) (Rd.of_own ho2) q1 q2 q3 q4)
      have hb12 := stay_b hb1 hb2
      clear ho1 ho2 hb1 hb2
      go_wp2_with fail
      refine (CF2.out).mono ?_
      rintro e w3 ⟨rfl, hb3⟩
      have hb13 := stay_b hb12 hb3
      clear hb3 hb12
      go_wp2_with fail
      refine (CM.out _ hb13).mono ?_
      rintro e w4 ⟨rfl, rfl⟩
      go_wp2
      go_ret
      exact ⟨rfl, hb13⟩
    | false =>
      obtain ⟨h1, h2⟩ := hq.resolve_left (by simp)
      clear hq
      go_enter Try.func3, Try.ntmps3
      go_wp2_with fail
      refine (CI.out).mono ?_
      rintro e w1 ⟨v1, rfl, ho1, hb1⟩
      go_wp2_with fail
      refine (CJ.out _ hb1).mono ?_
      rintro e w2 ⟨v2, rfl, ho2, hb2⟩
      obtain ⟨a1, d1, rfl, q1, q2⟩ := own_slice ho1
      obtain ⟨a2, d2, rfl, q3, q4⟩ := own_slice ho2
      have CF2 := Lib.hid (CF.out a1 a2 d1 d2 w2 (Rd.of_own (own_below ho1 hb2 (Nat.le_refl _))) (Rd.of_own ho2) q1 q2 q3 q4)
      have hb12 := stay_b hb1 hb2
      clear ho1 ho2 hb1 hb2
      go_wp2_with fail
      refine (CF2.out).mono ?_
      rintro e w3 ⟨rfl, hb3⟩
      have hb13 := stay_b hb12 hb3
      clear hb3 hb12
      go_wp2_with fail
      refine (CM.out _ hb13).mono ?_
      rintro e w4 ⟨rfl, rfl⟩
      go_wp2
      go_ret
      exact ⟨rfl, hb13⟩
  by_cases h2 : E = 2
  · exact go true (by simp [h2]) (.inl rfl)
  · refine go false (by simp [h2]) (.inr ?_)
    have := hbad.resolve_left h2
    constructor <;> simp <;> omega
theorem vflat_err (A A' : Option Addr) (n c c' : Nat) (xs ys : List Int) (w : World) (h : Rd w 1 A n (vis xs)) (h' : Rd w 1 A' n (vis ys)) (hn : n * 8 ≤ 140737488351232) (hA : A = none → c = 0) (hA' : A' = none → c' = 0)
    (h2 : chkE xs ≠ 2) (h0 : chkE xs ≠ 0) :
    Calls Try.prog 3 #[.slice A n c, .slice A' n c'] w fun e w' => e = .returned (.bool true) ∧ Below w.heap.size w w' := by
  have hl := h.ints_len
  have hl' := h'.ints_len
  have hfl : flatR xs ys = (false, chkE xs) := by
    unfold flatR
    rw [if_neg (by rw [hl, hl']; simp [h2]), if_pos h0]
  have cI := ints_any A n c xs w h hn hA
  have cJ := fun w1 (hb : Below w.heap.size w w1) => ints_any A' n c' ys w1 (h'.below hb) hn hA'
  have cF := fun (a a' : Option Addr) (d d' : Nat) (w1 : World) (r : Rd w1 1 a n (vis xs)) (r' : Rd w1 1 a' n (vis ys)) (q1 : n ≤ d) (q2 : d ≤ maxLen) (q3 : n ≤ d') (q4 : d' ≤ maxLen) => flatF_any a a' n d n d' xs ys w1 r r' q1 q2 q3 q4
  simp only [hfl] at cF
  have cM := fun w1 (hb : Below w.heap.size w w1) => anglesMay_any A n c xs w1 (h.below hb) (by omega)
  obtain ⟨E, hE⟩ : ∃ E, E = chkE xs := ⟨_, rfl⟩
  simp only [← hE] at cM cF h2 h0
  have CI := Lib.hid cI
  have CJ := Lib.hid cJ
  have CF := Lib.hid cF
  have CM := Lib.hid cM
  have e2 : (E == 2) = false := by simp [h2]
  have e0 : (E == 0) = false := by simp [h0]
  have f0 : (E != 0) = true := by simp [h0]
  clear cI cJ cF cM hE hfl hl hl' h h' h2 h0
  have hnn : ((n : Int) == (n : Int)) = true := by simp
  have hnm : ((n : Int) != (n : Int)) = false := by simp
  have hEE : (E == E) = true := by simp
  have hE0 : decide ((0 : Int) < (n : Int)) = decide (0 < n) := by simp
  go_enter Try.func3, Try.ntmps3
  go_wp2_with fail
  refine (CI.out).mono ?_
  rintro e w1 ⟨v1, rfl, ho1, hb1⟩
  go_wp2_with fail
  refine (CJ.out _ hb1).mono ?_
  rintro e w2 ⟨v2, rfl, ho2, hb2⟩
  obtain ⟨a1, d1, rfl, q1, q2⟩ := own_slice ho1
  obtain ⟨a2, d2, rfl, q3, q4⟩ := own_slice ho2
  have CF2 := Lib.hid (CF.out a1 a2 d1 d2 w2 (Rd.of_own (own_below ho1 hb2 (Nat.le_refl _))) (Rd.of_own ho2) q1 q2 q3 q4)
  have hb12 := stay_b hb1 hb2
  clear ho1 ho2 hb1 hb2
  go_wp2_with fail
  refine (CF2.out).mono ?_
  rintro e w3 ⟨rfl, hb3⟩
  have hb13 := stay_b hb12 hb3
  clear hb3 hb12
  go_wp2_with fail
  refine (CM.out _ hb13).mono ?_
  rintro e w4 ⟨rfl, rfl⟩
  go_wp2_with fail
  go_loopw [7, 8] (fun q v wr => q = .int .i64 E ∧ v = .int .i64 0 ∧ w3 = wr) (fun _ _ _ => 0)
  case atStart => exact ⟨rfl, rfl, rfl⟩
  case round =>
    obtain ⟨rfl, rfl, rfl⟩ := hrel
    go_wp2
    all_goals
      go_ret
      exact ⟨rfl, hb13⟩
set_option maxRecDepth 100000 in
set_option maxHeartbeats 3200000 in
theorem vflat_ok (b off : Nat) (A' : Option Addr) (n c c' : Nat) (xs ys : List Int) (w : World) (h : Rd w 1 (some ⟨b, off, none⟩) n (vis xs)) (h' : Rd w 1 A' n (vis ys)) (hn : n * 8 ≤ 140737488351232) (hA' : A' = none → c' = 0)
    (h0 : chkE xs = 0) :
    Calls Try.prog 3 #[.slice (some ⟨b, off, none⟩) n c, .slice A' n c'] w fun e w' => e = .returned (.bool true) ∧ Below w.heap.size w w' := by
  have hl := h.ints_len
  have hl' := h'.ints_len
  have hok := chk_ok h0
  have hn8 : n ≤ 8 := by have := hok.2.1; omega
  have cI := ints_any (some ⟨b, off, none⟩) n c xs w h hn (by simp)
  have cJ := fun w1 (hb : Below w.heap.size w w1) => ints_any A' n c' ys w1 (h'.below hb) hn hA'
  have cF := fun (a a' : Option Addr) (d d' : Nat) (w1 : World) (r : Rd w1 1 a n (vis xs)) (r' : Rd w1 1 a' n (vis ys)) (q1 : n ≤ d) (q2 : d ≤ maxLen) (q3 : n ≤ d') (q4 : d' ≤ maxLen) => flatF_any a a' n d n d' xs ys w1 r r' q1 q2 q3 q4
  have cM := fun w1 (hb : Below w.heap.size w w1) => anglesMay_any (some ⟨b, off, none⟩) n c xs w1 (h.below hb) (by omega)
  have cO := fun w1 (hb : Below w.heap.size w w1) => orders_any b off n c xs w1 (h.below hb) h0
  simp only [h0] at cM
  have hnn : ((n : Int) == (n : Int)) = true := by simp
  have hnm : ((n : Int) != (n : Int)) = false := by simp
  have CI := Lib.hid cI
  have CJ := Lib.hid cJ
  have CM := Lib.hid cM
  have CO := Lib.hid cO
  have HR := Lib.hid h'
  have HL := Lib.hid hl
  have HL' := Lib.hid hl'
  have H0 := Lib.hid h0
  cases hk : ys.all isK with
  | false =>
    have hfl : flatR xs ys = (false, 4) := by
      unfold flatR
      rw [if_neg (by rw [hl, hl', h0]; simp), if_neg (by rw [h0]; simp), if_pos hk]
    simp only [hfl] at cF
    have CF := Lib.hid cF
    have HK := Lib.hid hk
    clear cI cJ cF cM cO hfl hl hl' h h' hok h0 hk
    go_enter Try.func3, Try.ntmps3
    go_wp2_with fail
    refine (CI.out).mono ?_
    rintro e w1 ⟨v1, rfl, ho1, hb1⟩
    go_wp2_with fail
    refine (CJ.out _ hb1).mono ?_
    rintro e w2 ⟨v2, rfl, ho2, hb2⟩
    obtain ⟨a1, d1, rfl, q1, q2⟩ := own_slice ho1
    obtain ⟨a2, d2, rfl, q3, q4⟩ := own_slice ho2
    have CF2 := Lib.hid (CF.out a1 a2 d1 d2 w2 (Rd.of_own (own_below ho1 hb2 (Nat.le_refl _))) (Rd.of_own ho2) q1 q2 q3 q4)
    have hb12 := stay_b hb1 hb2
    clear ho1 ho2 hb1 hb2
    go_wp2_with fail
    refine (CF2.out).mono ?_
    rintro e w3 ⟨rfl, hb3⟩
    have hb13 := stay_b hb12 hb3
    clear hb3 hb12
    go_wp2_with fail
    refine (CM.out _ hb13).mono ?_
    rintro e w4 ⟨rfl, rfl⟩
    go_wp2_with fail
    have HR3 := Lib.hid (HR.out.below hb13)
    go_loopw [7, 8] (fun q v wr => ∃ i : Nat, i ≤ n ∧ v = .int .i64 i ∧ (q = .int .i64 4 ∨ q = .int .i64 0 ∧ (ys.take i).all isK = true) ∧ w3 = wr) (fun q v _ => 2 * (n - (intOf v).toNat) + 1)
    case atStart => exact ⟨0, by omega, rfl, .inr ⟨rfl, rfl⟩, rfl⟩
    case round =>
      obtain ⟨i, hi, rfl, hq, rfl⟩ := hrel
      rcases hq with rfl | ⟨rfl, hall⟩
      · by_cases hin : i < n
        all_goals
          go_wp2
          go_ret
          exact ⟨rfl, hb13⟩
      · have HA := Lib.hid hall
        clear hall
        by_cases hin : i < n
        · obtain ⟨b2, o2, z, hA2, _, hz, hcz⟩ := HR3.out.int hin
          subst hA2
          have hzk : isK z = true → (ys.take (i + 1)).all isK = true := fun hz1 => by rw [take_succ hz, List.all_append, HA.out]; simp [hz1]
          have HZ := Lib.hid hzk
          clear hzk hz
          by_cases z1 : z = 1
          · subst z1
            go_wp2
            go_roundw
            case rel => exact ⟨i + 1, by omega, by go_num, .inr ⟨rfl, HZ.out rfl⟩, by simp⟩
            case measure => simp [intOf]; omega
          · have e1 : (z == 1) = false := by simp [z1]
            have f1 : (z != 1) = true := by simp [z1]
            by_cases z2 : z = 2
            · subst z2
              go_wp2
              go_roundw
              case rel => exact ⟨i + 1, by omega, by go_num, .inr ⟨rfl, HZ.out rfl⟩, by simp⟩
              case measure => simp [intOf]; omega
            · have e2 : (z == 2) = false := by simp [z2]
              have f2 : (z != 2) = true := by simp [z2]
              go_wp2
              go_roundw
              case rel => exact ⟨i + 1, by omega, by go_num, .inl rfl, by simp⟩
              case measure => simp [intOf]; omega
        · exfalso
          have : ys.take i = ys := List.take_of_length_le (by rw [HL'.out]; omega)
          have h1 := HA.out
          rw [this, HK.out] at h1
          cases h1
  | true =>
    have hfl : flatR xs ys = (Fb (xs.zip ys), 0) := by
      unfold flatR
      rw [if_neg (by rw [hl, hl', h0]; simp), if_neg (by rw [h0]; simp), if_neg (by rw [hk]; simp)]
    have hkk := kinds_of hk
    have hF := found_F h0 (by rw [hl, hl']) hkk
    have cN := fun w1 (hb : Below w.heap.size w w1) => kindsNumber_any A' n c' ys w1 (h'.below hb) hn8 hkk
    have hlt := numK_lt (fn ys) n
    have hp := pow_le8 (Nat.le_refl n) hn8
    rw [hl] at hF
    obtain ⟨M, hM⟩ : ∃ M, M = numK (fn ys) n := ⟨_, rfl⟩
    obtain ⟨N, hN⟩ : ∃ N, N = 2 ^ n := ⟨_, rfl⟩
    obtain ⟨fb, hfb⟩ : ∃ fb, fb = Fb (xs.zip ys) := ⟨_, rfl⟩
    simp only [hfl, ← hfb] at cF
    simp only [← hN] at CO
    rw [← hfb, ← hM] at hF
    simp only [← hM] at cN
    rw [← hM, ← hN] at hlt
    rw [← hN] at hp
    have CF := Lib.hid cF
    have CN := Lib.hid cN
    have HF := Lib.hid hF
    have HK := Lib.hid hkk
    have hbb : (fb == fb) = true := by simp
    clear cI cJ cF cM cO cN hfl hl hl' h h' hok h0 hk hM hN hfb hF hkk
    go_enter Try.func3, Try.ntmps3
    go_wp2_with fail
    refine (CI.out).mono ?_
    rintro e w1 ⟨v1, rfl, ho1, hb1⟩
    go_wp2_with fail
    refine (CJ.out _ hb1).mono ?_
    rintro e w2 ⟨v2, rfl, ho2, hb2⟩
    obtain ⟨a1, d1, rfl, q1, q2⟩ := own_slice ho1
    obtain ⟨a2, d2, rfl, q3, q4⟩ := own_slice ho2
    have CF2 := Lib.hid (CF.out a1 a2 d1 d2 w2 (Rd.of_own (own_below ho1 hb2 (Nat.le_refl _))) (Rd.of_own ho2) q1 q2 q3 q4)
    have hb12 := stay_b hb1 hb2
    clear ho1 ho2 hb1 hb2
    go_wp2_with fail
    refine (CF2.out).mono ?_
    rintro e w3 ⟨rfl, hb3⟩
    have hb13 := stay_b hb12 hb3
    clear hb3 hb12
    go_wp2_with fail
    refine (CM.out _ hb13).mono ?_
    rintro e w4 ⟨rfl, rfl⟩
    go_wp2_with fail
    have HR3 := Lib.hid (HR.out.below hb13)
    go_loopw [7, 8] (fun q v wr => ∃ i : Nat, i ≤ n ∧ v = .int .i64 i ∧ q = .int .i64 0 ∧ w3 = wr) (fun _ v _ => n - (intOf v).toNat)
    case atStart => exact ⟨0, by omega, rfl, rfl, rfl⟩
    case round =>
      obtain ⟨i, hi, rfl, rfl, rfl⟩ := hrel
      by_cases hin : i < n
      · obtain ⟨b2, o2, z, hA2, _, hz, hcz⟩ := HR3.out.int hin
        subst hA2
        have hz12 := HK.out z (List.mem_of_getElem? hz)
        clear hz
        rcases hz12 with rfl | rfl
        all_goals
          go_wp2
          go_roundw
          case rel => exact ⟨i + 1, by omega, by go_num, rfl, by simp⟩
          case measure => simp [intOf]; omega
      · obtain rfl : i = n := by omega
        go_wp2_with fail
        refine (CO.out _ hb13).mono ?_
        rintro e w5 ⟨g, rfl, hg, hgl, hb5⟩
        have hb15 := stay_b hb13 hb5
        have hcg := cell_of_blk hg M
        simp only [List.getElem?_toArray, List.getElem?_map, HF.out, Option.map_some] at hcg
        clear hg hb5
        go_wp2_with fail
        refine (CN.out _ hb15).mono ?_
        rintro e w6 ⟨rfl, rfl⟩
        go_wp2
        go_ret
        exact ⟨rfl, hb15⟩
theorem vflat_walk (A A' : Option Addr) (n c n' c' : Nat) (xs ys : List Int) (w : World) (h : Rd w 1 A n (vis xs)) (h' : Rd w 1 A' n' (vis ys)) (hn : n * 8 ≤ 140737488351232) (hn' : n' * 8 ≤ 140737488351232) (hA : A = none → c = 0) (hA' : A' = none → c' = 0) :
    Calls Try.prog 3 #[.slice A n c, .slice A' n' c'] w fun e w' => e = .returned (.bool true) ∧ Below w.heap.size w w' := by
  by_cases h2 : chkE xs = 2
  · exact vflat_bad A A' n c n' c' xs ys w h h' hn hn' hA hA' (.inl h2)
  by_cases hl : n' = n
  · subst hl
    by_cases h0 : chkE xs = 0
    · have hok := chk_ok h0
      obtain ⟨b, off, hb⟩ := h.addr (show 0 < n' by have := h.ints_len; have := hok.1; omega)
      subst hb
      exact vflat_ok b off A' n' c c' xs ys w h h' hn hA' h0
    · exact vflat_err A A' n' c c' xs ys w h h' hn hA hA' h2 h0
  · exact vflat_bad A A' n c n' c' xs ys w h h' hn hn' hA hA' (.inr hl)
end Go.Proofs.Ytcfeejlhhimpjaa
