/- The document's goodOrder: what it answers. -/
import Derived.Test.YtcfeejlhhimpjaaOr2
namespace Go.Proofs.Ytcfeejlhhimpjaa
set_option linter.unusedSimpArgs false
set_option linter.unusedVariables false
open Go.RowKit Vx Vo

theorem all_succ {p : Nat → Bool} {k : Nat} (h : (List.range k).all p = true) (hk : p k = true) : (List.range (k + 1)).all p = true := by
  rw [List.range_succ, List.all_append, h]; simp [hk]
theorem all_no {p : Nat → Bool} {k n : Nat} (h : k < n) (hk : p k = false) : (List.range n).all p = false := by
  rw [List.all_eq_false]; exact ⟨k, List.mem_range.2 h, by simp [hk]⟩
theorem good_no {X H : Nat → Int} {n j : Nat} (h : j < n) (hj : okJ X H n j = false) : goodB X H n = false := all_no h hj
theorem ok1_no {X H : Nat → Int} {n j c : Nat} (h : c < n) (hj : ok1 X H n j c = false) : okJ X H n j = false := by
  unfold okJ; rw [all_no h hj]; rfl
theorem ok2_no {X H : Nat → Int} {n j k : Nat} (h : k < j) (hj : ok2 X H n j k = false) : okJ X H n j = false := by
  unfold okJ; rw [all_no h hj, Bool.and_false]
theorem okJ_yes {X H : Nat → Int} {n j : Nat} (h1 : (List.range n).all (ok1 X H n j) = true) (h2 : (List.range j).all (ok2 X H n j) = true) : okJ X H n j = true := by
  unfold okJ; rw [h1, h2]; rfl
set_option maxRecDepth 100000 in
set_option maxHeartbeats 12800000 in
theorem goodOrder_any (b off c : Nat) (b' off' n c' : Nat) (xl hl : List Int) (w : World) (h : Rd w 1 (some ⟨b, off, none⟩) (n + 1) (vis xl)) (h' : Rd w 1 (some ⟨b', off', none⟩) n (vis hl)) (hn : n ≤ 8) :
    Calls Try.prog 30 #[.slice (some ⟨b, off, none⟩) (n + 1 : Nat) c, .slice (some ⟨b', off', none⟩) n c'] w fun e w' => e = .returned (.bool (goodB (fn xl) (fn hl) n)) ∧ ∃ q, w' = w.drewN q := by
  have HX := Lib.hid h
  have HH := Lib.hid h'
  have hnn : ((n + 1 : Nat) : Int) = (n : Int) + 1 := by omega
  clear h h'
  obtain ⟨G, hG⟩ : ∃ G, G = goodB (fn xl) (fn hl) n := ⟨_, rfl⟩
  rw [← hG]
  have HG := Lib.hid hG
  clear hG hnn
  go_enter Try.func30, Try.ntmps30
  go_wp2
  go_loopw [6] (fun i wr => ∃ j q : Nat, j ≤ n ∧ i = .int .i64 j ∧ (List.range j).all (okJ (fn xl) (fn hl) n) = true ∧ wr = w.drewN q) (fun i _ => n - (intOf i).toNat)
  case atStart => exact ⟨0, 0, by omega, rfl, rfl, rfl⟩
  case round =>
    obtain ⟨j, q, hj, rfl, hall, rfl⟩ := hrel
    have HA := Lib.hid hall
    clear hall
    by_cases hjn : j < n
    · obtain ⟨v1, v2, v3, v4, v5⟩ := pv_int hn hjn
      have a1 := HH.out.at_fn hjn
      have a2 := HH.out.at_fn v5
      have b1 := HX.out.at_fn (show j < n + 1 by omega)
      have b2 := HX.out.at_fn (show j + 1 < n + 1 by omega)
      have hnz : ((n : Int) == 0) = false := by simp; omega
      have hn0 : ¬ (n = 0) := by omega
      have e1 : (fun i => ok1 (fn xl) (fn hl) n j i) = fun i => !(decide ((fn xl i < fn xl j ∧ fn xl j < fn xl (i + 1)) ∨ (fn xl (i + 1) < fn xl j ∧ fn xl j < fn xl i)) && btwB (fn hl i) (fn hl (pv n j)) (fn hl j)) := rfl
      have w1 : IntKind.i64.wrap ((j : Int) + 1) = ((j + 1 : Nat) : Int) := by rw [IntWalk.i64_in _ (by omega)]; rfl
      have w2 : (0 : Int) ≤ (j : Int) + 1 := by omega
      have w3 : ((j : Int) + 1).toNat = j + 1 := by omega
      have N1 : ∀ c, c < n → ok1 (fn xl) (fn hl) n j c = false → G = false := fun c hc h => by rw [HG.out]; exact good_no hjn (ok1_no hc h)
      have N2 : ∀ k, k < j → ok2 (fn xl) (fn hl) n j k = false → G = false := fun k hk h => by rw [HG.out]; exact good_no hjn (ok2_no hk h)
      have O1 : ∀ c, ok1 (fn xl) (fn hl) n j c = !(pastB (fn xl) j c && btwB (fn hl c) (fn hl (pv n j)) (fn hl j)) := fun c => rfl
      have O2 : ∀ k, ok2 (fn xl) (fn hl) n j k = (!(decide (fn xl k = fn xl j) && (decide (fn xl k < fn xl (k + 1)) == decide (fn xl j < fn xl (j + 1))) && decide (fn hl (pv n k) ≠ fn hl (pv n j) ∧ fn hl (pv n k) ≠ fn hl j ∧ fn hl k ≠ fn hl (pv n j) ∧ fn hl k ≠ fn hl j) && (btwB (fn hl (pv n k)) (fn hl (pv n j)) (fn hl j) != btwB (fn hl k) (fn hl (pv n j)) (fn hl j)))) := fun k => rfl
      have PB : ∀ c, pastB (fn xl) j c = decide ((fn xl c < fn xl j ∧ fn xl j < fn xl (c + 1)) ∨ (fn xl (c + 1) < fn xl j ∧ fn xl j < fn xl c)) := fun c => rfl
      have HN1 := Lib.hid N1
      have HN2 := Lib.hid N2
      have HO1 := Lib.hid O1
      have HO2 := Lib.hid O2
      have HPB := Lib.hid PB
      clear N1 N2 O1 O2 PB e1
      obtain ⟨ya, hya⟩ : ∃ y, y = fn hl (pv n j) := ⟨_, rfl⟩
      obtain ⟨yb, hyb⟩ : ∃ y, y = fn hl j := ⟨_, rfl⟩
      obtain ⟨xj, hxj⟩ : ∃ y, y = fn xl j := ⟨_, rfl⟩
      obtain ⟨xj1, hxj1⟩ : ∃ y, y = fn xl (j + 1) := ⟨_, rfl⟩
      obtain ⟨p, hp⟩ : ∃ p, p = pv n j := ⟨_, rfl⟩
      rw [← hya] at a2
      rw [← hyb] at a1
      rw [← hxj] at b1
      rw [← hxj1] at b2
      rw [← hp] at v3 v4 v5 a2
      have HYA := Lib.hid hya
      have HYB := Lib.hid hyb
      have HXJ := Lib.hid hxj
      have HXJ1 := Lib.hid hxj1
      clear hya hyb hxj hxj1 hp
      go_wp2_with fail
      go_quiet (fail)
      clear v1 v2 v3 v4
      obtain ⟨R, hR⟩ : ∃ R, R = decide (xj < xj1) := ⟨_, rfl⟩
      go_wp2_with fail
      go_quiet (fail)
      rw [← hR]
      have HRR := Lib.hid hR
      clear hR a1 a2 b2 v5 w1 w2 w3
      go_wp2_with fail
      simp only [World.drewN_drewN]
      go_loopw [11] (fun i wr => ∃ c q : Nat, c ≤ n ∧ i = .int .i64 c ∧ (List.range c).all (ok1 (fn xl) (fn hl) n j) = true ∧ wr = w.drewN q) (fun i _ => n - (intOf i).toNat)
      case atStart => exact ⟨0, _, by omega, rfl, rfl, rfl⟩
      case round =>
        obtain ⟨i, q1, hi, rfl, hall1, rfl⟩ := hrel
        have HA1 := Lib.hid hall1
        clear hall1
        by_cases hin : i < n
        · have c1 := HX.out.at_fn (show i < n + 1 by omega)
          have c2 := HX.out.at_fn (show i + 1 < n + 1 by omega)
          have c3 := HH.out.at_fn hin
          have o1 := HO1.out i
          have pb := HPB.out i
          obtain ⟨xi, hxi⟩ : ∃ y, y = fn xl i := ⟨_, rfl⟩
          obtain ⟨xi1, hxi1⟩ : ∃ y, y = fn xl (i + 1) := ⟨_, rfl⟩
          obtain ⟨yi, hyi⟩ : ∃ y, y = fn hl i := ⟨_, rfl⟩
          rw [← hxi, ← hxi1, ← HXJ.out] at pb
          rw [← hyi, ← HYA.out, ← HYB.out] at o1
          rw [← hxi] at c1
          rw [← hxi1] at c2
          rw [← hyi] at c3
          have w1 : IntKind.i64.wrap ((i : Int) + 1) = ((i + 1 : Nat) : Int) := by rw [IntWalk.i64_in _ (by omega)]; rfl
          have w2 : (0 : Int) ≤ (i : Int) + 1 := by omega
          have w3 : ((i : Int) + 1).toNat = i + 1 := by omega
          obtain ⟨T, hT⟩ : ∃ T, T = btwB yi ya yb := ⟨_, rfl⟩
          have cB := fun w => between_any yi ya yb w
          simp only [← hT] at cB o1
          have CB := Lib.hid cB
          have HPB1 := Lib.hid pb
          have HO11 := Lib.hid o1
          clear hxi hxi1 hyi hT cB pb o1
          have NN := Lib.hid (HN1.out i hin)
          by_cases p1 : xi < xj
          · by_cases p2 : xj < xi1
            · have d1 : decide (xi < xj) = true := decide_eq_true (by omega)
              have d2 : decide (xj < xi1) = true := decide_eq_true (by omega)
              have hpf : pastB (fn xl) j i = true := by rw [HPB1.out]; exact decide_eq_true (by omega)
              have ho : ok1 (fn xl) (fn hl) n j i = !T := by rw [HO11.out, hpf, Bool.true_and]
              have HOK := Lib.hid ho
              clear hpf ho
              cases T with
              | false =>
                go_wp2_with fail
                go_quiet (fail)
                go_wp2_with fail
                refine (CB.out _).mono ?_
                rintro e w1 ⟨rfl, rfl⟩
                go_wp2
                go_roundw
                case rel => exact ⟨i + 1, _, by omega, by go_num, all_succ HA1.out HOK.out, rfl⟩
                case measure => simp [intOf]; omega
              | true =>
                have hG := NN.out HOK.out
                have HGG := Lib.hid hG
                clear hG
                go_wp2_with fail
                go_quiet (fail)
                go_wp2_with fail
                refine (CB.out _).mono ?_
                rintro e w1 ⟨rfl, rfl⟩
                go_wp2
                go_ret
                exact ⟨by rw [HGG.out]; rfl, _, rfl⟩
            · by_cases p3 : xi1 < xj
              · have d1 : decide (xi < xj) = true := decide_eq_true (by omega)
                have d2 : decide (xj < xi1) = false := decide_eq_false (by omega)
                have d3 : decide (xi1 < xj) = true := decide_eq_true (by omega)
                have d4 : decide (xj < xi) = false := decide_eq_false (by omega)
                have hpf : pastB (fn xl) j i = false := by rw [HPB1.out]; exact decide_eq_false (by omega)
                have ho : ok1 (fn xl) (fn hl) n j i = true := by rw [HO11.out, hpf]; rfl
                have HOK := Lib.hid ho
                clear hpf ho
                go_wp2_with fail
                go_quiet (fail)
                go_wp2
                go_roundw
                case rel => exact ⟨i + 1, _, by omega, by go_num, all_succ HA1.out HOK.out, rfl⟩
                case measure => simp [intOf]; omega
              · have d1 : decide (xi < xj) = true := decide_eq_true (by omega)
                have d2 : decide (xj < xi1) = false := decide_eq_false (by omega)
                have d3 : decide (xi1 < xj) = false := decide_eq_false (by omega)
                have hpf : pastB (fn xl) j i = false := by rw [HPB1.out]; exact decide_eq_false (by omega)
                have ho : ok1 (fn xl) (fn hl) n j i = true := by rw [HO11.out, hpf]; rfl
                have HOK := Lib.hid ho
                clear hpf ho
                go_wp2_with fail
                go_quiet (fail)
                go_wp2
                go_roundw
                case rel => exact ⟨i + 1, _, by omega, by go_num, all_succ HA1.out HOK.out, rfl⟩
                case measure => simp [intOf]; omega
          · by_cases p3 : xi1 < xj
            · by_cases p4 : xj < xi
              · have d1 : decide (xi < xj) = false := decide_eq_false (by omega)
                have d3 : decide (xi1 < xj) = true := decide_eq_true (by omega)
                have d4 : decide (xj < xi) = true := decide_eq_true (by omega)
                have hpf : pastB (fn xl) j i = true := by rw [HPB1.out]; exact decide_eq_true (by omega)
                have ho : ok1 (fn xl) (fn hl) n j i = !T := by rw [HO11.out, hpf, Bool.true_and]
                have HOK := Lib.hid ho
                clear hpf ho
                cases T with
                | false =>
                  go_wp2_with fail
                  go_quiet (fail)
                  go_wp2_with fail
                  refine (CB.out _).mono ?_
                  rintro e w1 ⟨rfl, rfl⟩
                  go_wp2
                  go_roundw
                  case rel => exact ⟨i + 1, _, by omega, by go_num, all_succ HA1.out HOK.out, rfl⟩
                  case measure => simp [intOf]; omega
                | true =>
                  have hG := NN.out HOK.out
                  have HGG := Lib.hid hG
                  clear hG
                  go_wp2_with fail
                  go_quiet (fail)
                  go_wp2_with fail
                  refine (CB.out _).mono ?_
                  rintro e w1 ⟨rfl, rfl⟩
                  go_wp2
                  go_ret
                  exact ⟨by rw [HGG.out]; rfl, _, rfl⟩
              · have d1 : decide (xi < xj) = false := decide_eq_false (by omega)
                have d3 : decide (xi1 < xj) = true := decide_eq_true (by omega)
                have d4 : decide (xj < xi) = false := decide_eq_false (by omega)
                have hpf : pastB (fn xl) j i = false := by rw [HPB1.out]; exact decide_eq_false (by omega)
                have ho : ok1 (fn xl) (fn hl) n j i = true := by rw [HO11.out, hpf]; rfl
                have HOK := Lib.hid ho
                clear hpf ho
                go_wp2_with fail
                go_quiet (fail)
                go_wp2
                go_roundw
                case rel => exact ⟨i + 1, _, by omega, by go_num, all_succ HA1.out HOK.out, rfl⟩
                case measure => simp [intOf]; omega
            · have d1 : decide (xi < xj) = false := decide_eq_false (by omega)
              have d3 : decide (xi1 < xj) = false := decide_eq_false (by omega)
              have hpf : pastB (fn xl) j i = false := by rw [HPB1.out]; exact decide_eq_false (by omega)
              have ho : ok1 (fn xl) (fn hl) n j i = true := by rw [HO11.out, hpf]; rfl
              have HOK := Lib.hid ho
              clear hpf ho
              go_wp2_with fail
              go_quiet (fail)
              go_wp2
              go_roundw
              case rel => exact ⟨i + 1, _, by omega, by go_num, all_succ HA1.out HOK.out, rfl⟩
              case measure => simp [intOf]; omega
        · obtain rfl : i = n := by omega
          go_wp2_with fail
          go_loopw [13] (fun v wr => ∃ k q : Nat, k ≤ j ∧ v = .int .i64 k ∧ (List.range k).all (ok2 (fn xl) (fn hl) i j) = true ∧ wr = w.drewN q) (fun v _ => j - (intOf v).toNat)
          case atStart => exact ⟨0, _, by omega, rfl, rfl, rfl⟩
          case round =>
            obtain ⟨k, q2, hk, rfl, hall2, rfl⟩ := hrel
            have HA2 := Lib.hid hall2
            clear hall2
            by_cases hkj : k < j
            · obtain ⟨v1, v2, v3, v4, v5⟩ := pv_int hn (show k < i by omega)
              have c1 := HX.out.at_fn (show k < i + 1 by omega)
              have c2 := HX.out.at_fn (show k + 1 < i + 1 by omega)
              have c3 := HH.out.at_fn (show k < i by omega)
              have c4 := HH.out.at_fn v5
              have o2 := HO2.out k
              obtain ⟨xk, hxk⟩ : ∃ y, y = fn xl k := ⟨_, rfl⟩
              obtain ⟨xk1, hxk1⟩ : ∃ y, y = fn xl (k + 1) := ⟨_, rfl⟩
              obtain ⟨yd, hyd⟩ : ∃ y, y = fn hl k := ⟨_, rfl⟩
              obtain ⟨yc, hyc⟩ : ∃ y, y = fn hl (pv i k) := ⟨_, rfl⟩
              obtain ⟨p', hp'⟩ : ∃ p, p = pv i k := ⟨_, rfl⟩
              rw [← hxk, ← hxk1, ← HXJ.out, ← HXJ1.out, ← hyc, ← hyd, ← HYA.out, ← HYB.out, ← HRR.out] at o2
              rw [← hxk] at c1
              rw [← hxk1] at c2
              rw [← hyd] at c3
              rw [← hyc] at c4
              rw [← hp'] at v3 v4 v5 c4
              have w1 : IntKind.i64.wrap ((k : Int) + 1) = ((k + 1 : Nat) : Int) := by rw [IntWalk.i64_in _ (by omega)]; rfl
              have w2 : (0 : Int) ≤ (k : Int) + 1 := by omega
              have w3 : ((k : Int) + 1).toNat = k + 1 := by omega
              obtain ⟨T1, hT1⟩ : ∃ T, T = btwB yc ya yb := ⟨_, rfl⟩
              obtain ⟨T2, hT2⟩ : ∃ T, T = btwB yd ya yb := ⟨_, rfl⟩
              have cB1 := fun w => between_any yc ya yb w
              have cB2 := fun w => between_any yd ya yb w
              simp only [← hT1, ← hT2] at cB1 cB2 o2
              have CB1 := Lib.hid cB1
              have CB2 := Lib.hid cB2
              have HO22 := Lib.hid o2
              clear hxk hxk1 hyd hyc hp' hT1 hT2 cB1 cB2 o2
              have NN := Lib.hid (HN2.out k hkj)
              by_cases q0 : xk = xj
              · subst q0
                by_cases hs : decide (xk < xk1) = R
                · have hsn : (decide (xk < xk1) != R) = false := by rw [hs]; simp
                  by_cases nca : yc = ya
                  · subst nca
                    have ho : ok2 (fn xl) (fn hl) i j k = true := by rw [HO22.out]; simp [hs]
                    have HOK := Lib.hid ho
                    clear ho
                    go_wp2_with fail
                    go_quiet (fail)
                    go_wp2_with fail
                    go_quiet (fail)
                    go_wp2
                    go_roundw
                    case rel => exact ⟨k + 1, _, by omega, by go_num, all_succ HA2.out HOK.out, rfl⟩
                    case measure => simp [intOf]; omega
                  · have eca : (yc == ya) = false := by simp [nca]
                    have fca : (yc != ya) = true := by simp [nca]
                    by_cases ncb : yc = yb
                    · subst ncb
                      have ho : ok2 (fn xl) (fn hl) i j k = true := by rw [HO22.out]; simp [hs]
                      have HOK := Lib.hid ho
                      clear ho
                      go_wp2_with fail
                      go_quiet (fail)
                      go_wp2_with fail
                      go_quiet (fail)
                      go_wp2
                      go_roundw
                      case rel => exact ⟨k + 1, _, by omega, by go_num, all_succ HA2.out HOK.out, rfl⟩
                      case measure => simp [intOf]; omega
                    · have ecb : (yc == yb) = false := by simp [ncb]
                      have fcb : (yc != yb) = true := by simp [ncb]
                      by_cases nda : yd = ya
                      · subst nda
                        have ho : ok2 (fn xl) (fn hl) i j k = true := by rw [HO22.out]; simp [hs]
                        have HOK := Lib.hid ho
                        clear ho
                        go_wp2_with fail
                        go_quiet (fail)
                        go_wp2_with fail
                        go_quiet (fail)
                        go_wp2
                        go_roundw
                        case rel => exact ⟨k + 1, _, by omega, by go_num, all_succ HA2.out HOK.out, rfl⟩
                        case measure => simp [intOf]; omega
                      · have eda : (yd == ya) = false := by simp [nda]
                        have fda : (yd != ya) = true := by simp [nda]
                        by_cases ndb : yd = yb
                        · subst ndb
                          have ho : ok2 (fn xl) (fn hl) i j k = true := by rw [HO22.out]; simp [hs]
                          have HOK := Lib.hid ho
                          clear ho
                          go_wp2_with fail
                          go_quiet (fail)
                          go_wp2_with fail
                          go_quiet (fail)
                          go_wp2
                          go_roundw
                          case rel => exact ⟨k + 1, _, by omega, by go_num, all_succ HA2.out HOK.out, rfl⟩
                          case measure => simp [intOf]; omega
                        · have edb : (yd == yb) = false := by simp [ndb]
                          have fdb : (yd != yb) = true := by simp [ndb]
                          have ho : ok2 (fn xl) (fn hl) i j k = !(T1 != T2) := by rw [HO22.out]; simp [nca, ncb, nda, ndb, hs]
                          have HOK2 := Lib.hid ho
                          clear ho
                          cases T1 <;> cases T2
                          · have HOK := Lib.hid (show ok2 (fn xl) (fn hl) i j k = true from HOK2.out)
                            clear HOK2
                            go_wp2_with fail
                            go_quiet (fail)
                            go_wp2_with fail
                            go_quiet (fail)
                            go_wp2_with fail
                            refine (CB1.out _).mono ?_
                            rintro e w1 ⟨rfl, rfl⟩
                            go_wp2_with fail
                            refine (CB2.out _).mono ?_
                            rintro e w1 ⟨rfl, rfl⟩
                            go_wp2
                            go_roundw
                            case rel => exact ⟨k + 1, _, by omega, by go_num, all_succ HA2.out HOK.out, rfl⟩
                            case measure => simp [intOf]; omega
                          · have hG := NN.out (show ok2 (fn xl) (fn hl) i j k = false from HOK2.out)
                            have HGG := Lib.hid hG
                            clear hG HOK2
                            go_wp2_with fail
                            go_quiet (fail)
                            go_wp2_with fail
                            go_quiet (fail)
                            go_wp2_with fail
                            refine (CB1.out _).mono ?_
                            rintro e w1 ⟨rfl, rfl⟩
                            go_wp2_with fail
                            refine (CB2.out _).mono ?_
                            rintro e w1 ⟨rfl, rfl⟩
                            go_wp2
                            go_ret
                            exact ⟨by rw [HGG.out]; rfl, _, rfl⟩
                          · have hG := NN.out (show ok2 (fn xl) (fn hl) i j k = false from HOK2.out)
                            have HGG := Lib.hid hG
                            clear hG HOK2
                            go_wp2_with fail
                            go_quiet (fail)
                            go_wp2_with fail
                            go_quiet (fail)
                            go_wp2_with fail
                            refine (CB1.out _).mono ?_
                            rintro e w1 ⟨rfl, rfl⟩
                            go_wp2_with fail
                            refine (CB2.out _).mono ?_
                            rintro e w1 ⟨rfl, rfl⟩
                            go_wp2
                            go_ret
                            exact ⟨by rw [HGG.out]; rfl, _, rfl⟩
                          · have HOK := Lib.hid (show ok2 (fn xl) (fn hl) i j k = true from HOK2.out)
                            clear HOK2
                            go_wp2_with fail
                            go_quiet (fail)
                            go_wp2_with fail
                            go_quiet (fail)
                            go_wp2_with fail
                            refine (CB1.out _).mono ?_
                            rintro e w1 ⟨rfl, rfl⟩
                            go_wp2_with fail
                            refine (CB2.out _).mono ?_
                            rintro e w1 ⟨rfl, rfl⟩
                            go_wp2
                            go_roundw
                            case rel => exact ⟨k + 1, _, by omega, by go_num, all_succ HA2.out HOK.out, rfl⟩
                            case measure => simp [intOf]; omega
                · have hs : decide (xk < xk1) = !R := by cases R <;> simp at hs ⊢ <;> omega
                  have ho : ok2 (fn xl) (fn hl) i j k = true := by rw [HO22.out]; rw [hs]; cases R <;> simp
                  have HOK := Lib.hid ho
                  clear ho
                  go_wp2_with fail
                  go_quiet (fail)
                  go_wp2
                  go_roundw
                  case rel => exact ⟨k + 1, _, by omega, by go_num, all_succ HA2.out HOK.out, rfl⟩
                  case measure => simp [intOf]; omega
              · have e0 : (xk == xj) = false := by simp [q0]
                have f0 : (xk != xj) = true := by simp [q0]
                have ho : ok2 (fn xl) (fn hl) i j k = true := by rw [HO22.out]; simp [q0]
                have HOK := Lib.hid ho
                clear ho
                go_wp2_with fail
                go_quiet (fail)
                go_wp2
                go_roundw
                case rel => exact ⟨k + 1, _, by omega, by go_num, all_succ HA2.out HOK.out, rfl⟩
                case measure => simp [intOf]; omega
            · obtain rfl : k = j := by omega
              have HJ := Lib.hid (okJ_yes HA1.out HA2.out)
              go_wp2
              go_roundw
              case rel => exact ⟨k + 1, _, by omega, by go_num, all_succ HA.out HJ.out, rfl⟩
              case measure => simp [intOf]; omega
    · obtain rfl : j = n := by omega
      have hG : G = true := by rw [HG.out]; exact HA.out
      have HGG := Lib.hid hG
      clear hG
      go_wp2
      go_ret
      exact ⟨by rw [HGG.out]; rfl, _, rfl⟩
end Go.Proofs.Ytcfeejlhhimpjaa
