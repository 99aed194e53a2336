/- The walk of VertexCrimps. -/
import Derived.Test.YtcfeejlhhimpjaaCr13
import Derived.Test.YtcfeejlhhimpjaaPick
namespace Go.Proofs.Ytcfeejlhhimpjaa
set_option linter.unusedSimpArgs false
set_option linter.unusedVariables false
open Go.RowKit Vx

def wantP (K : Nat) : Nat → Int
  | 0 => 2
  | i + 1 => (wantP K i * ((K : Int) - i)).tdiv ((i : Int) + 1)
theorem want_end {K : Nat} (hK : K = 2 ∨ K = 4 ∨ K = 6 ∨ K = 8) : wantP K (K / 2 - 1) = wantOf K := by
  rcases hK with rfl | rfl | rfl | rfl <;> decide
theorem chk_alike {K : Nat} (hK : K = 2 ∨ K = 4 ∨ K = 6 ∨ K = 8) : chkE (List.replicate K 7) = 0 := by
  rcases hK with rfl | rfl | rfl | rfl <;> decide
set_option maxRecDepth 100000 in
set_option maxHeartbeats 6400000 in
theorem crimps_walk (A : Option Addr) (n c : Nat) (xs : List Int) (q : Int) (w : World) (h : Rd w 1 A n (vis xs)) (hnc : n ≤ c) (hcc : c ≤ maxLen) (q1 : -9223372036854775808 ≤ q) (q2 : q ≤ 9223372036854775807) :
    Calls Try.prog 5 #[.slice A n c, .int .i64 q] w fun e w' => e = .returned (.bool true) ∧ Below w.heap.size w w' := by
  have p1 := pick_lo q 4 (by decide)
  have p2 := pick_hi q 4 (by decide)
  have cP := fun w => picked_any q 4 w q1 q2 (by decide)
  obtain ⟨P, hP⟩ : ∃ P, P = pick q 4 := ⟨_, rfl⟩
  rw [← hP] at p1 p2
  simp only [← hP] at cP
  obtain ⟨K, hK⟩ : ∃ K : Nat, (K : Int) = 2 * (1 + P) := ⟨(2 * (1 + P)).toNat, by omega⟩
  have hK4 : K = 2 ∨ K = 4 ∨ K = 6 ∨ K = 8 := by omega
  have hw1 : IntKind.i64.wrap (1 + P) = 1 + P := IntWalk.i64_in _ (by omega)
  have hw2 : IntKind.i64.wrap (2 * (1 + P)) = (K : Int) := by rw [IntWalk.i64_in _ (by omega), hK]
  have CP := Lib.hid cP
  have HK := Lib.hid hK
  have HR := Lib.hid h
  have HK4 := Lib.hid hK4
  have hK8 : K ≤ 8 := by omega
  clear cP hK h hP hK4
  go_enter Try.func5, Try.ntmps5
  go_wp2_with fail
  refine (CP.out _).mono ?_
  rintro e w1 ⟨rfl, rfl⟩
  go_wp2_with fail
  go_loopw [6, 8] (fun v i wr => ∃ j : Nat, j ≤ K ∧ i = .int .i64 j ∧ wr.ownsRow w.heap.size 3 1 v j (vis (List.replicate j 7)) ∧ Below w.heap.size w wr) (fun _ i _ => K - (intOf i).toNat)
  case atStart => exact ⟨0, Nat.zero_le _, rfl, World.ownsRow_nil _ _ _ _, Below.refl _ _⟩
  case round =>
    obtain ⟨j, hj, rfl, hown, hbel⟩ := hrel
    by_cases hlt : j < K
    · go_wp2_with (at_builtin; refine app_ints rfl (.tmp 27) (.tmp 28) rfl w.heap.size _ j (List.replicate j 7) [7] rfl hown hbel.size 1 _ rfl rfl rfl (by omega) ?_; intro v' w' hown' hb' _)
      go_roundw
      case rel => exact ⟨j + 1, by omega, by go_num, by rw [List.replicate_succ']; exact hown', hbel.trans hb'⟩
      case measure => simp [intOf]; omega
    · obtain rfl : j = K := by omega
      obtain ⟨g, c6, cur, rfl, hc61, hc62, hg6, _⟩ := own_addr hown (by have := HK4.out; omega)
      go_wp2_with fail
      go_loopw [7, 9] (fun v i w2 => ∃ t : Nat, t ≤ j / 2 - 1 ∧ i = .int .i64 t ∧ v = .int .i64 (wantP j t) ∧ wr = w2) (fun _ i _ => j - (intOf i).toNat)
      case atStart => exact ⟨0, Nat.zero_le _, rfl, rfl, rfl⟩
      case round =>
        obtain ⟨t, ht, rfl, rfl, rfl⟩ := hrel
        by_cases htl : t < j / 2 - 1
        · have ht3 : t = 0 ∨ t = 1 ∨ t = 2 := by omega
          rcases HK4.out with rfl | rfl | rfl | rfl <;> rcases ht3 with rfl | rfl | rfl <;> first
            | (exfalso; omega)
            | (go_wp2
               go_roundw
               case rel => first | exact ⟨1, by decide, rfl, congrArg (Value.int IntKind.i64) (by kernel_rfl), by simp⟩ | exact ⟨2, by decide, rfl, congrArg (Value.int IntKind.i64) (by kernel_rfl), by simp⟩ | exact ⟨3, by decide, rfl, congrArg (Value.int IntKind.i64) (by kernel_rfl), by simp⟩
               case measure => simp [intOf])
        · obtain rfl : t = j / 2 - 1 := by omega
          have hwe := want_end HK4.out
          have hown7 := Rd.of_own hown
          have cCt := count_ok g 0 j c6 (List.replicate j 7) wr hown7 hc61 hc62 (chk_alike HK4.out)
          have hgm := goods_many HK4.out
          rw [hgm] at cCt
          have CCt := Lib.hid cCt
          have HWE := Lib.hid hwe
          have hjq : ((j : Int).tdiv 2) = ((j / 2 : Nat) : Int) := by rw [Int.ofNat_tdiv]; rfl
          have hjw : IntKind.i64.wrap ((j / 2 : Nat) : Int) = ((j / 2 : Nat) : Int) := IntWalk.i64_in _ (by omega)
          have hjw2 : IntKind.i64.wrap (((j / 2 : Nat) : Int) - 1) = ((j / 2 - 1 : Nat) : Int) := by rw [IntWalk.i64_in _ (by omega)]; have := HK4.out; omega
          clear cCt hgm hwe
          simp only [HWE.out]
          have CCt2 := Lib.hid CCt.out
          clear CCt HWE
          generalize hWt : wantOf j = Wt at CCt2 ⊢
          have hwt := Lib.hid hWt
          clear hWt
          have hnb : n ≤ 9223372036854775807 := by unfold maxLen at hcc; omega
          go_wp2_with fail
          refine (CCt2.out).mono ?_
          rintro e w5 ⟨rfl, hb5⟩
          have hw5 := stay_b hbel hb5
          have hR5 := HR.out.below hw5
          by_cases hce : chkE xs = 0
          · have hok := chk_ok hce
            have hlx := HR.out.ints_len
            have hn0 : 0 < n := by have := hok.1; omega
            have hn8 : n ≤ 8 := by have := hok.2.1; omega
            obtain ⟨b, off, hA⟩ := HR.out.addr hn0
            subst hA
            have CA := Lib.hid (all_ok b off n c xs w5 hR5 hnc hcc hce)
            have HOK := Lib.hid hok
            have HLX := Lib.hid hlx
            clear hce hok hlx hR5
            go_wp2_with fail
            refine (CA.out).mono ?_
            rintro e w6 ⟨v, vals, rfl, hrow, hrows, hb6⟩
            obtain ⟨A7, c7, rfl, _, _⟩ := own_slice hrow
            obtain ⟨N, hN⟩ : ∃ N, N = (goods xs n (2 ^ n)).length := ⟨_, rfl⟩
            rw [← hN] at hrow ⊢
            have HN := Lib.hid hN
            have hN256 : N ≤ 256 := by rw [hN]; exact Nat.le_trans (goods_le _ _ _) (Nat.pow_le_pow_right (by decide) hn8)
            have hw6 := stay_b hw5 hb6
            have HR6 := Lib.hid (HR.out.below hw6)
            obtain ⟨bb, oo, z0, hA0, _, hz0, hc0⟩ := HR6.out.int hn0
            simp only [Option.some.injEq, Addr.mk.injEq, and_true] at hA0
            obtain ⟨rfl, rfl⟩ := hA0
            have hc00 : w6.cell? ⟨b, off, none⟩ = some (.int .i64 z0) := hc0
            have HZ0 := Lib.hid hz0
            have HRW := Lib.hid hrow
            have HRS := Lib.hid hrows
            clear hc0 hz0 hN hrow hrows hb6 hb5 hbel hown
            go_wp2_with fail
            go_loopw [14, 15] (fun v i w2 => ∃ (t : Nat) (lv : Int), t ≤ n ∧ i = .int .i64 t ∧ v = .int .i64 lv ∧ lv ∈ xs ∧ (∀ (j : Nat) z, j < t → xs[j]? = some z → lv ≤ z) ∧ w6 = w2) (fun _ i _ => n - (intOf i).toNat)
            case atStart => exact ⟨0, z0, Nat.zero_le _, rfl, rfl, List.mem_of_getElem? HZ0.out, fun j z hj => by omega, rfl⟩
            case round =>
              obtain ⟨t, lv, ht, rfl, rfl, hmem, hle, rfl⟩ := hrel
              have HLE := Lib.hid hle
              have HME := Lib.hid hmem
              clear hle hmem
              by_cases htn : t < n
              · obtain ⟨bb, oo, z, hA, _, hz, hcz⟩ := HR6.out.int htn
                simp only [Option.some.injEq, Addr.mk.injEq, and_true] at hA
                obtain ⟨rfl, rfl⟩ := hA
                have HZ := Lib.hid hz
                clear hz
                by_cases hzl : z < lv
                · go_wp2
                  go_roundw
                  case rel => exact ⟨t + 1, z, by omega, by go_num, rfl, List.mem_of_getElem? HZ.out, fun j y hj hy => by
                    by_cases hjt : j < t
                    · have := HLE.out j y hjt hy; omega
                    · obtain rfl : j = t := by omega
                      rw [HZ.out] at hy
                      have := Option.some.inj hy
                      omega, by simp⟩
                  case measure => simp [intOf]; omega
                · go_wp2
                  go_roundw
                  case rel => exact ⟨t + 1, lv, by omega, by go_num, rfl, HME.out, fun j y hj hy => by
                    by_cases hjt : j < t
                    · exact HLE.out j y hjt hy
                    · obtain rfl : j = t := by omega
                      rw [HZ.out] at hy
                      have := Option.some.inj hy
                      omega, by simp⟩
                  case measure => simp [intOf]; omega
              · have hmin : ∀ x ∈ xs, lv ≤ x := fun x hx => by
                  obtain ⟨j, hj, hjx⟩ := List.getElem_of_mem hx
                  exact HLE.out j x (by have := HLX.out; omega) (by rw [List.getElem?_eq_getElem hj, hjx])
                have HMI := Lib.hid hmin
                clear hmin
                have HLV := Lib.hid HME.out
                clear HLE HME
                go_wp2_with fail
                go_loopw [16] (fun v w7 => ∃ i : Nat, i ≤ n ∧ v = .int .i64 i ∧ Below w6.heap.size w6 w7) (fun v _ => n - (intOf v).toNat)
                case atStart => exact ⟨0, Nat.zero_le _, rfl, Below.refl _ _⟩
                case round =>
                  obtain ⟨i, hi, rfl, hb7⟩ := hrel
                  by_cases hin : i < n
                  · have hR7 := HR6.out.below hb7
                    obtain ⟨p, hp⟩ : ∃ p, p = (i + 1) % n := ⟨_, rfl⟩
                    obtain ⟨p', hp'⟩ : ∃ p', p' = (i + n - 1) % n := ⟨_, rfl⟩
                    have hpn : p < n := by rw [hp]; exact Nat.mod_lt _ hn0
                    have hpn' : p' < n := by rw [hp']; exact Nat.mod_lt _ hn0
                    obtain ⟨bb, oo, y0, hA, _, hy0, hd0⟩ := hR7.int hin
                    simp only [Option.some.injEq, Addr.mk.injEq, and_true] at hA
                    obtain ⟨rfl, rfl⟩ := hA
                    obtain ⟨bb, oo, y1, hA, _, hy1, hd1⟩ := hR7.int hpn
                    simp only [Option.some.injEq, Addr.mk.injEq, and_true] at hA
                    obtain ⟨rfl, rfl⟩ := hA
                    obtain ⟨bb, oo, y2, hA, _, hy2, hd2⟩ := hR7.int hpn'
                    simp only [Option.some.injEq, Addr.mk.injEq, and_true] at hA
                    obtain ⟨rfl, rfl⟩ := hA
                    have hv1 : IntKind.i64.wrap ((i : Int) + 1) = i + 1 := IntWalk.i64_in _ (by omega)
                    have hv2 : IntKind.i64.wrap ((i : Int) + n) = i + n := IntWalk.i64_in _ (by omega)
                    have hv3 : IntKind.i64.wrap ((i : Int) + n - 1) = i + n - 1 := IntWalk.i64_in _ (by omega)
                    have ht1 : ((i : Int) + 1).tmod n = p := by rw [show ((i : Int) + 1) = ((i + 1 : Nat) : Int) by omega, ← Int.ofNat_tmod, ← hp]
                    have ht2 : ((i : Int) + n - 1).tmod n = p' := by rw [show ((i : Int) + n - 1) = ((i + n - 1 : Nat) : Int) by omega, ← Int.ofNat_tmod, ← hp']
                    have hv4 : IntKind.i64.wrap (p : Int) = p := IntWalk.i64_in _ (by omega)
                    have hv5 : IntKind.i64.wrap (p' : Int) = p' := IntWalk.i64_in _ (by omega)
                    have hnz : ((n : Int) == 0) = false := by simp; omega
                    have HP0 := Lib.hid hp
                    have HP1 := Lib.hid hp'
                    have HY0 := Lib.hid hy0
                    have HY1 := Lib.hid hy1
                    have HY2 := Lib.hid hy2
                    clear hp hp' hy0 hy1 hy2 hR7
                    by_cases c0 : y0 = lv
                    · subst c0
                      by_cases c1 : y1 = y0
                      · subst c1
                        go_wp2
                        go_roundw
                        case rel => exact ⟨i + 1, by omega, by go_num, hb7⟩
                        case measure => simp [intOf]; omega
                      · have e1 : (y1 == y0) = false := by simp [c1]
                        by_cases c2 : y2 = y0
                        · subst c2
                          go_wp2
                          go_roundw
                          case rel => exact ⟨i + 1, by omega, by go_num, hb7⟩
                          case measure => simp [intOf]; omega
                        · have e2 : (y2 == y0) = false := by simp [c2]
                          go_wp2_with fail
                          clear hd0 hd1 hd2 hv2 hv3 ht2 hv5
                          go_loopw [17] (fun v w8 => ∃ t : Nat, t ≤ N ∧ v = .int .i64 t ∧ Below w6.heap.size w6 w8) (fun v _ => N - (intOf v).toNat)
                          case atStart => exact ⟨0, Nat.zero_le _, rfl, hb7⟩
                          case round =>
                            obtain ⟨t, ht, rfl, hb8⟩ := hrel
                            by_cases htN : t < N
                            · obtain ⟨b7, o7, hA7, _, hv7⟩ := ((Rd.of_own HRW.out).below hb8).2 (by omega)
                              subst hA7
                              obtain ⟨K, hKt⟩ : ∃ K, (goods xs n (2 ^ n))[t]? = some K := ⟨_, List.getElem?_eq_getElem (by rw [← HN.out]; exact htN)⟩
                              obtain ⟨g7, hg1, hg2⟩ := HRS.out.2 t K hKt
                              have hKm := List.mem_of_getElem? hKt
                              unfold goods at hKm
                              obtain ⟨hKm1, hKF⟩ := List.mem_filter.1 hKm
                              obtain ⟨mm, _, hKe⟩ := List.mem_map.1 hKm1
                              have hKl : K.length = n := by rw [← hKe, kindsOf_len]
                              have hg8 := blk_below hg2 hb8 (blk_lt hg2)
                              have hcv := hv7 t _ hg1
                              obtain ⟨k1, hk1⟩ : ∃ k1, K[i]? = some k1 := ⟨_, List.getElem?_eq_getElem (by omega)⟩
                              obtain ⟨k2, hk2⟩ : ∃ k2, K[p]? = some k2 := ⟨_, List.getElem?_eq_getElem (by omega)⟩
                              have hc1 := cell_of_blk hg8 i
                              have hc2 := cell_of_blk hg8 p
                              simp only [List.getElem?_toArray, List.getElem?_map, hk1, hk2, Option.map_some] at hc1 hc2
                              have hlaw := crimp_law (z := 0) HLX.out hKl hin HOK.out.2.2.1 HMI.out HY0.out (by rw [← HP0.out]; exact HY1.out) (by rw [← HP1.out]; exact HY2.out) c1 c2 hk1 (by rw [← HP0.out]; exact hk2) hKF
                              have hne : (k1 == k2) = false := by simp; omega
                              clear hKm hKm1 hKF hKe hKl hg1 hg2 hg8 hk1 hk2 hKt hv7 hlaw
                              go_wp2_with fail
                              go_quiet (fail)
                              go_wp2
                              go_roundw
                              case rel => exact ⟨t + 1, by omega, by go_num, below_drewN hb8 _⟩
                              case measure => simp [intOf]; omega
                            · go_wp2
                              go_roundw
                              case rel => exact ⟨i + 1, by omega, by go_num, hb8⟩
                              case measure => simp [intOf]; omega
                    · have e0 : (y0 == lv) = false := by simp [c0]
                      go_wp2
                      go_roundw
                      case rel => exact ⟨i + 1, by omega, by go_num, hb7⟩
                      case measure => simp [intOf]; omega
                  · go_wp2
                    go_ret
                    exact ⟨rfl, hw6.trans (hb7.mono hw6.size)⟩
          · have cE := Lib.hid (all_err A n c xs w5 hR5 hnb hce)
            obtain ⟨E, hE⟩ : ∃ E, E = chkE xs := ⟨_, rfl⟩
            have cE2 := cE.out
            rw [← hE] at cE2 hce
            have CE := Lib.hid cE2
            have hE0 : (E == 0) = false := by simp [hce]
            clear cE cE2 hE hR5
            go_wp2_with fail
            refine (CE.out).mono ?_
            rintro e w6 ⟨rfl, hb6⟩
            go_wp2
            go_ret
            exact ⟨rfl, stay_b hw5 hb6⟩
end Go.Proofs.Ytcfeejlhhimpjaa
