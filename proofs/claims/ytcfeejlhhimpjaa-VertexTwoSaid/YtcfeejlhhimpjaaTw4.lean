/- The walk of VertexTwo. -/
import Derived.Test.YtcfeejlhhimpjaaTw3
namespace Go.Proofs.Ytcfeejlhhimpjaa
set_option linter.unusedSimpArgs false
set_option linter.unusedVariables false
open Go.RowKit Vx

theorem sg_le {z : Int} (h : z = 1 ∨ z = 2) : 3 - 2 * z = sg z := by rcases h with rfl | rfl <;> rfl
theorem ks_take {K : List Int} {k : Nat} {z : Int} (h : K[k]? = some z) (hz : z = 1 ∨ z = 2) : ks (K.take (k + 1)) = ks (K.take k) + (3 - 2 * z) := by
  rw [take_succ h, ks_app, sg_le hz]
  simp [ks]
theorem other_take {K : List Int} {k : Nat} {z : Int} (h : K[k]? = some z) : otherK (K.take (k + 1)) = otherK (K.take k) ++ [3 - z] := by
  rw [take_succ h]
  simp [otherK]
theorem rev_take {xs : List Int} {n q : Nat} {z : Int} (hl : xs.length = n) (hq : q < n) (h : xs[q]? = some z) : xs.reverse.take (n - q) = xs.reverse.take (n - (q + 1)) ++ [z] := by
  have e : n - q = n - (q + 1) + 1 := by omega
  rw [e]
  apply take_succ
  rw [List.getElem?_reverse (by omega), ← h]
  congr 1
  omega
theorem turnK_take {K : List Int} {n q : Nat} {z : Int} (hl : K.length = n) (hq : q < n) (h : K[(q + 1) % n]? = some z) : (turnK K).take (n - q) = (turnK K).take (n - (q + 1)) ++ [z] := by
  have e : n - q = n - (q + 1) + 1 := by omega
  rw [e]
  apply take_succ
  refine turnK_at hl (by omega) ?_
  rw [show n - (n - (q + 1)) = q + 1 by omega]
  exact h
/-- Two slices of the call's own that share no block. -/
def Apart (v u : Value) : Prop := v.ownBlock = none ∨ v.ownBlock ≠ u.ownBlock
theorem Apart.symm {v u : Value} (h : Apart v u) : Apart u v := by
  unfold Apart at *
  rcases h with h | h
  · cases hu : u.ownBlock with
    | none => exact .inl rfl
    | some k => rw [h]; exact .inr (by simp)
  · exact .inr fun e => h e.symm
theorem Apart.grow {w w' : World} {v v' u : Value} {base n : Nat} {xs : List Value} (h : Apart v u) (hg : GrowOf w w' v v') (hu : w.ownsRow base 3 1 u n xs) : Apart v' u := by
  rcases hg.at_ with e | ⟨g, e, hge⟩
  · unfold Apart at *
    rw [e]
    exact h
  · refine .inr fun e2 => ?_
    rw [e] at e2
    have := (hu.lt g e2.symm).2
    omega
theorem step_app_i {w : World} {ops : Array Oper} {o : Oper} {a : Act} {K : Act → World → Prop} {Q : Exit → Act → World → Prop} {Z : Prop} (hgd : o.guard = none) (s x : Operand)
    (ho : o.op = .call { callee := .builtin .append, args := #[s, x], argTypes := #[22, 22] })
    (base : Nat) (v : Value) (n : Nat) (zs news : List Int) (hs : a.eval s = v) (hown : w.ownsRow base 3 1 v n (vis zs)) (hbase : base ≤ w.heap.size)
    (m g : Nat) (hx : a.eval x = .slice (some ⟨g, 0, none⟩) m m) (hblk : w.heap[g]? = some (.cells (vis news).toArray 3 (0, 0))) (hm : news.length = m) (hn : n + m ≤ 2147483648)
    (h : ∀ v' w', w'.ownsRow base 3 1 v' (n + m) (vis (zs ++ news)) → Below base w w' → GrowOf w w' v v' → K (a.put o.dst v') w') :
    if Region.wanted o (yielded ops a.tmps) = true then Oper.wp Try.prog o a w K Q else Z :=
  step_app Try.underlying22 int_info rfl (by decide) (by decide) hgd s x ho base v n (vis zs) (vis news) hs hown hbase m g hx hblk (by simp [hm])
    (fun u hu => by obtain ⟨z, _, rfl⟩ := List.mem_map.1 hu; rfl) hn (fun v' w' h1 h2 h3 => h v' w' (by simpa [vis] using h1) h2 h3)
theorem own_app {w w' : World} {u v v' : Value} {base n : Nat} {xs : List Value} (h : w.ownsRow base 3 1 u n xs) (hg : GrowOf w w' v v') (ha : Apart u v) : w'.ownsRow base 3 1 u n xs := own_grow h hg ha
set_option maxRecDepth 100000 in
set_option maxHeartbeats 6400000 in
theorem two_walk (A : Option Addr) (n c : Nat) (xs : List Int) (w : World) (h : Rd w 1 A n (vis xs)) (hnc : n ≤ c) (hcc : c ≤ maxLen) :
    Calls Try.prog 6 #[.slice A n c] w fun e w' => e = .returned (.bool true) ∧ Below w.heap.size w w' := by
  have hnb : n ≤ 9223372036854775807 := by unfold maxLen at hcc; omega
  have hr4 : Rd (w.alloc (.cells #[.int .i64 1, .int .i64 1, .int .i64 1, .int .i64 1] 3)) 1 (some ⟨w.heap.size, 0, none⟩) 4 (vis [1, 1, 1, 1]) := by
    refine ⟨rfl, fun _ => ⟨_, _, rfl, by simp, fun j u hu => ?_⟩⟩
    rw [Nat.zero_add, cell_of_blk (new_blk _ rfl)]
    rw [← List.getElem?_toArray] at hu
    exact hu
  have cC4 := count_ok w.heap.size 0 4 4 [1, 1, 1, 1] _ hr4 (Nat.le_refl _) (by unfold maxLen; decide) chk_four
  rw [goods_four] at cC4
  have CC4 := Lib.hid cC4
  have HR := Lib.hid h
  clear cC4 h hr4
  go_enter Try.func6, Try.ntmps6
  go_wp2_with fail
  refine (CC4.out).mono ?_
  rintro e w5 ⟨rfl, hb5⟩
  have hw5 := stay_b (below_new w _) hb5
  have hR5 := HR.out.below hw5
  clear hb5 CC4
  by_cases hce : chkE xs = 0
  · have hok := chk_ok hce
    have hlx := HR.out.ints_len
    have hn0 : 0 < n := by have := hok.1; omega
    have hn8 : n ≤ 8 := by have := hok.2.1; omega
    obtain ⟨b, off, hA⟩ := HR.out.addr hn0
    subst hA
    have CA := Lib.hid (all_ok b off n c xs w5 hR5 hnc hcc hce)
    have HOK := Lib.hid hok
    have HLX := Lib.hid hlx
    have HCE := Lib.hid hce
    clear hce hok hlx
    go_wp2_with fail
    refine (CA.out).mono ?_
    rintro e w6 ⟨v, vals, rfl, hrow, hrows, hb6⟩
    obtain ⟨A7, c7, rfl, _, _⟩ := own_slice hrow
    have hw6 := stay_b hw5 hb6
    have hR6 := HR.out.below hw6
    have cCt := count_ok b off n c xs w6 hR6 hnc hcc HCE.out
    have hne : (goods xs n (2 ^ n)).length ≠ 0 := by
      have := goods_ne HOK.out.2.2.1
      rw [HLX.out] at this
      exact fun h0 => this (List.length_eq_zero_iff.1 h0)
    obtain ⟨N, hN⟩ : ∃ N, N = (goods xs n (2 ^ n)).length := ⟨_, rfl⟩
    rw [← hN] at hrow cCt hne ⊢
    have CCt := Lib.hid cCt
    have HN := Lib.hid hN
    have hN256 : N ≤ 256 := by rw [hN]; exact Nat.le_trans (goods_le _ _ _) (Nat.pow_le_pow_right (by decide) hn8)
    have hN0 : ((N : Int) == 0) = false := by simp; omega
    have hNn : ((N : Int) != (N : Int)) = false := by simp
    clear hN cCt
    go_wp2_with fail
    refine (CCt.out).mono ?_
    rintro e w7 ⟨rfl, hb7⟩
    have hw7 := stay_b hw6 hb7
    have HR7 := Lib.hid (HR.out.below hw7)
    have HRW := Lib.hid (own_below hrow hb7 (Nat.le_refl _))
    have HRS := Lib.hid (hrows.below hb7)
    clear hb6 hb7 hR5 hR6 hrow hrows hw5 hw6
    go_wp2_with fail
    go_loopw [8] (fun v w2 => ∃ i : Nat, i ≤ N ∧ v = .int .i64 i ∧ Below w7.heap.size w7 w2) (fun v _ => N - (intOf v).toNat)
    case atStart => exact ⟨0, Nat.zero_le _, rfl, Below.refl _ _⟩
    case round =>
      obtain ⟨i, hi, rfl, hb8⟩ := hrel
      by_cases hin : i < N
      · obtain ⟨w8, hw8⟩ : ∃ w8 : World, w8 = wr := ⟨_, rfl⟩
        subst hw8
        obtain ⟨K, hKt⟩ : ∃ K, (goods xs n (2 ^ n))[i]? = some K := ⟨_, List.getElem?_eq_getElem (by rw [← HN.out]; exact hin)⟩
        obtain ⟨b7, o7, hA7, hbl7, hv7⟩ := ((Rd.of_own HRW.out).below hb8).2 (by omega)
        subst hA7
        obtain ⟨g7, hg1, hg2⟩ := HRS.out.2 i K hKt
        have hKm := List.mem_of_getElem? hKt
        unfold goods at hKm
        obtain ⟨hKm1, hKF⟩ := List.mem_filter.1 hKm
        obtain ⟨mm, _, hKe⟩ := List.mem_map.1 hKm1
        have hKl : K.length = n := by rw [← hKe, kindsOf_len]
        have hK12 : ∀ z ∈ K, z = 1 ∨ z = 2 := by rw [← hKe]; exact kindsOf_12 n mm
        have hlaw := two_law (xs := xs) (K := K) (by rw [HLX.out, hKl]) HCE.out hK12 hKF
        have hg8 := blk_below hg2 hb8 (blk_lt hg2)
        have hcv := hv7 i _ hg1
        have hgw : g7 < w8.heap.size := blk_lt hg8
        have HLW := Lib.hid hlaw
        have HKL := Lib.hid hKl
        have HK12 := Lib.hid hK12
        have HG := Lib.hid hg8
        have hbs := ks_bd hK12
        clear hKm hKm1 hKF hKe hKt hg1 hg2 hg8 hv7 hlaw hK12
        rw [hKl] at hbs
        clear hKl
        go_wp2_with fail
        go_loopw [9, 10, 13] (fun m v t w9 => ∃ k : Nat, k ≤ n ∧ t = .int .i64 k ∧ m = .int .i64 (ks (K.take k)) ∧ w9.ownsRow w8.heap.size 3 1 v k (vis (otherK (K.take k))) ∧ Below w8.heap.size w8 w9) (fun _ _ t _ => n - (intOf t).toNat)
        case atStart => exact ⟨0, Nat.zero_le _, rfl, rfl, World.ownsRow_nil _ _ _ _, Below.refl _ _⟩
        case round =>
          obtain ⟨k, hk, rfl, rfl, hown, hb9⟩ := hrel
          have hcv9 := stay_c hcv hb9 (Nat.le_refl _)
          by_cases hkn : k < n
          · obtain ⟨z, hz⟩ : ∃ z, K[k]? = some z := ⟨_, List.getElem?_eq_getElem (by rw [HKL.out]; exact hkn)⟩
            have hz12 := HK12.out z (List.mem_of_getElem? hz)
            have hc9 := cell_of_blk (blk_below HG.out hb9 hgw) k
            simp only [List.getElem?_toArray, List.getElem?_map, hz, Option.map_some] at hc9
            have hks := ks_take hz hz12
            have hot := other_take hz
            have hkb := ks_bd (l := K.take k) (fun y hy => HK12.out y (List.mem_of_mem_take hy))
            rw [List.length_take, HKL.out, Nat.min_eq_left (by omega)] at hkb
            obtain ⟨M, hM⟩ : ∃ M, M = ks (K.take k) := ⟨_, rfl⟩
            rw [← hM] at hkb hks ⊢
            have HKS := Lib.hid hks
            have HOT := Lib.hid hot
            clear hks hot hM hz
            have hz1 : 1 ≤ z := by omega
            have hz2 : z ≤ 2 := by omega
            clear hz12
            go_wp2_with (at_builtin; refine app_ints rfl (.tmp 92) (.tmp 101) rfl w8.heap.size _ k (otherK (K.take k)) [3 - z] rfl hown hb9.size 1 _ rfl rfl rfl (by omega) ?_; intro v' w' hown' hb' _)
            go_roundw
            case rel => exact ⟨k + 1, by omega, by go_num, by rw [HKS.out], by rw [HOT.out]; exact hown', hb9.trans hb'⟩
            case measure => simp [intOf]; omega
          · obtain rfl : k = n := by omega
            have hKt : K.take k = K := List.take_of_length_le (by rw [HKL.out]; exact Nat.le_refl _)
            rw [hKt] at hown ⊢
            clear hKt
            obtain ⟨A10, c10, rfl, hk10, hc10⟩ := own_slice hown
            obtain ⟨M, hM⟩ : ∃ M, M = ks K := ⟨_, rfl⟩
            rw [← hM] at hbs ⊢
            have HM := Lib.hid hM
            clear hM
            obtain ⟨wA, hwA⟩ : ∃ wA : World, wA = wr := ⟨_, rfl⟩
            subst hwA
            have HOW := Lib.hid hown
            have HB9 := Lib.hid hb9
            have hz8 := hb9.size
            have HCV := Lib.hid hcv
            clear hown hb9 hcv
            go_wp2_with fail
            go_loopw [11, 12, 14] (fun v u t wB => ∃ p : Nat, p ≤ k ∧ t = .int .i64 ((p : Int) - 1) ∧ wB.ownsRow wA.heap.size 3 1 v (k - p) (vis (xs.reverse.take (k - p))) ∧ wB.ownsRow wA.heap.size 3 1 u (k - p) (vis ((turnK K).take (k - p))) ∧ Apart v u ∧ Below wA.heap.size wA wB) (fun _ _ t _ => (intOf t + 1).toNat)
            case atStart => exact ⟨k, Nat.le_refl _, rfl, by rw [Nat.sub_self]; exact World.ownsRow_nil _ _ _ _, by rw [Nat.sub_self]; exact World.ownsRow_nil _ _ _ _, .inl rfl, Below.refl _ _⟩
            case round =>
              obtain ⟨p, hp, rfl, hownB, hownT, hne, hbB⟩ := hrel
              cases p with
              | zero =>
                have hz0 : (((0 : Nat) : Int) - 1) = -1 := rfl
                rw [hz0]
                clear hz0
                have hl1 : xs.reverse.take (k - 0) = xs.reverse := List.take_of_length_le (by rw [List.length_reverse, HLX.out]; omega)
                have hl2 : (turnK K).take (k - 0) = turnK K := List.take_of_length_le (by rw [turnK_len, HKL.out]; omega)
                rw [hl1, Nat.sub_zero] at hownB
                rw [hl2, Nat.sub_zero] at hownT
                clear hl1 hl2 hne
                obtain ⟨A11, c11, rfl, hk11, hc11⟩ := own_slice hownB
                obtain ⟨A12, c12, rfl, hk12, hc12⟩ := own_slice hownT
                have hwB : Below w7.heap.size w7 wr := stay_b (stay_b hb8 HB9.out) hbB
                have RX := Lib.hid (HR7.out.below hwB)
                have cF1 := flatF_any (some ⟨b, off, none⟩) A10 k c k c10 xs (otherK K) wr RX.out (Rd.of_own (own_below HOW.out hbB (Nat.le_refl _))) hnc hcc hk10 hc10
                have cF2 := fun (wx : World) (hx : Below wr.heap.size wr wx) => flatF_any A11 A12 k c11 k c12 xs.reverse (turnK K) wx (Rd.of_own (own_below hownB hx (Nat.le_refl _))) (Rd.of_own (own_below hownT hx (Nat.le_refl _))) hk11 hc11 hk12 hc12
                rw [HLW.out.2.1] at cF1
                simp only [HLW.out.2.2] at cF2
                have CF1 := Lib.hid cF1
                have CF2 := Lib.hid cF2
                have hM2 : M = 2 ∨ M = -2 := by rw [HM.out]; exact HLW.out.1
                clear cF1 cF2 hownB hownT
                have hfin : Below w.heap.size w wr := hw7.trans (hwB.mono hw7.size)
                have HWB := Lib.hid hwB
                clear hfin hbB hb8 hwB HB9
                rcases hM2 with rfl | rfl
                all_goals
                  go_wp2_with fail
                  refine (CF1.out).mono ?_
                  rintro e wC ⟨rfl, hbC⟩
                  have CF3 := Lib.hid (CF2.out wC hbC)
                  go_wp2_with fail
                  refine (CF3.out).mono ?_
                  rintro e wD ⟨rfl, hbD⟩
                  go_wp2
                  go_roundw
                  case rel => exact ⟨i + 1, by omega, by go_num, stay_b (stay_b HWB.out hbC) hbD⟩
                  case measure => simp [intOf]; omega
              | succ q =>
                have hz0 : (((q + 1 : Nat) : Int) - 1) = q := by omega
                rw [hz0]
                clear hz0
                have hqk : q < k := by omega
                obtain ⟨y, hy⟩ : ∃ y, xs[q]? = some y := ⟨_, List.getElem?_eq_getElem (by rw [HLX.out]; exact hqk)⟩
                obtain ⟨p', hp'⟩ : ∃ p', p' = (q + 1) % k := ⟨_, rfl⟩
                have hpk : p' < k := by rw [hp']; exact Nat.mod_lt _ hn0
                obtain ⟨z, hz⟩ : ∃ z, K[p']? = some z := ⟨_, List.getElem?_eq_getElem (by rw [HKL.out]; exact hpk)⟩
                have hrv := rev_take HLX.out hqk hy
                have htk := turnK_take HKL.out hqk (by rw [← hp']; exact hz)
                obtain ⟨bb, oo, y', hA, _, hy', hcy⟩ := (HR7.out.below (stay_b (stay_b hb8 HB9.out) hbB)).int hqk
                simp only [Option.some.injEq, Addr.mk.injEq, and_true] at hA
                obtain ⟨rfl, rfl⟩ := hA
                obtain rfl : y' = y := by rw [hy] at hy'; exact (Option.some.inj hy').symm
                have hbA : Below w8.heap.size w8 wr := HB9.out.trans (hbB.mono hz8)
                have hlA := keep_c HCV.out hbA hbl7
                have hlZ := cell_of_blk (blk_below HG.out hbA hgw) p'
                simp only [List.getElem?_toArray, List.getElem?_map, hz, Option.map_some] at hlZ
                have hv1 : IntKind.i64.wrap ((q : Int) + 1) = q + 1 := IntWalk.i64_in _ (by omega)
                have ht1 : ((q : Int) + 1).tmod k = p' := by rw [show ((q : Int) + 1) = ((q + 1 : Nat) : Int) by omega, ← Int.ofNat_tmod, ← hp']
                have ht2 : ((q : Int) + 1) % k = p' := by rw [show ((q : Int) + 1) = ((q + 1 : Nat) : Int) by omega, ← Int.natCast_emod, ← hp']
                have hv4 : IntKind.i64.wrap (p' : Int) = p' := IntWalk.i64_in _ (by omega)
                have hk0 : ¬ (k = 0) := by omega
                have hnz : ((k : Int) == 0) = false := by simp; omega
                have HRV := Lib.hid hrv
                have HTK := Lib.hid htk
                have hg7 : g7 < wA.heap.size := Nat.lt_of_lt_of_le hgw hz8
                have hl7 : b7 < wA.heap.size := Nat.lt_of_lt_of_le hbl7 hz8
                clear hrv htk hp' hz hy hy'
                obtain ⟨j, hj⟩ : ∃ j, j = k - (q + 1) := ⟨_, rfl⟩
                have hjk : k - q = j + 1 := by omega
                rw [← hj] at hownB hownT
                have HJ := Lib.hid hj
                have HJK := Lib.hid hjk
                have hj8 : j ≤ 8 := by omega
                clear hj hjk
                go_wp2_with (at_builtin; refine app_ints rfl (.tmp 110) (.tmp 115) rfl wA.heap.size _ j (xs.reverse.take j) [y'] rfl hownB hbB.size 1 _ rfl rfl rfl (by omega) ?_; intro v1 w1 hown1 hb1 hgr1)
                have hl1 := keep_c hlA hb1 hl7
                have hl2 := keep_c hlZ hb1 hg7
                have hs1 := hb1.size
                have hap := hgr1
                have hown2 := own_app hownT hgr1 hne.symm
                have hne1 := hne.grow hgr1 hownT
                have HN1 := Lib.hid hne1
                have HB1 := Lib.hid hb1
                have HO1 := Lib.hid hown1
                have HO2 := Lib.hid hown2
                clear hlA hlZ hownT hownB hne hne1 hap hgr1 hcy hown1 hown2 hb1
                have hsA : wA.heap.size ≤ w1.heap.size := Nat.le_trans hbB.size hs1
                have hS : w1.drew.cell? ⟨b7, o7 + i, none⟩ = some (.slice (some ⟨g7, 0, none⟩) k k) ∧ w1.drew.cell? ⟨g7, p', none⟩ = some (.int .i64 z) := ⟨hl1, hl2⟩
                go_region_held3 (fun w' => w'.cell? ⟨b7, o7 + i, none⟩ = some (.slice (some ⟨g7, 0, none⟩) k k) ∧ w'.cell? ⟨g7, p', none⟩ = some (.int .i64 z))
                  (first
                    | with_reducible exact hS
                    | (go_split_ands; with_reducible exact ⟨al_d ‹_› _, al_d ‹_› _⟩)
                    | (go_split_ands; with_reducible exact ⟨keep_c ‹_› hb2 hl7, keep_c ‹_› hb2 hg7⟩))
                  ((refine step_app_i rfl (.tmp 117) (.tmp 129) rfl wA.heap.size u12 j ((turnK K).take j) [z] rfl (HO2.out.alloc _) (by have := hsA; simp; omega) 1 w1.heap.size rfl (new_blk _ rfl) rfl (by omega) ?_; intro v2 w2 hown3 hb2 hgr2))
                have HOW2 := Lib.hid hown3
                have HB2 := Lib.hid hb2
                have HG2 := Lib.hid hgr2
                clear hown3 hb2 hgr2
                go_wp2
                go_roundw
                case rel =>
                  have e1 : k - q = j + 1 := HJK.out
                  have o1 := HO1.out
                  have hnd : Below w1.heap.size w1 (w1.alloc (.cells #[.int .i64 z] 3)).drew := (below_new w1 _).drew
                  have o1d := own_below o1 hnd (Nat.le_refl _)
                  have t2 := HTK.out
                  have r1 := HRV.out
                  rw [e1, ← HJ.out] at t2 r1
                  refine ⟨q, by omega, rfl, ?_, ?_, ?_, ?_⟩
                  · rw [e1, r1]
                    exact own_app o1d HG2.out HN1.out
                  · rw [e1, t2]
                    exact HOW2.out
                  · exact ((HN1.out.symm).grow HG2.out o1d).symm
                  · exact (hbB.trans HB1.out).trans ((hnd.mono hsA).trans HB2.out)
                case measure => simp [intOf]
      · go_wp2
        go_ret
        exact ⟨rfl, hw7.trans (hb8.mono hw7.size)⟩
  · have cE := all_err A n c xs w5 hR5 hnb hce
    have cF := fun w (h : Rd w 1 A n (vis xs)) => count_err A n c xs w h hnb hce
    obtain ⟨E, hE⟩ : ∃ E, E = chkE xs := ⟨_, rfl⟩
    simp only [← hE] at cE cF hce
    have CE := Lib.hid cE
    have CF := Lib.hid cF
    have hE0 : (E == 0) = false := by simp [hce]
    have hE1 : (E == E) = true := by simp
    clear cE cF hE hR5
    go_wp2_with fail
    refine (CE.out).mono ?_
    rintro e w6 ⟨rfl, hb6⟩
    have hw6 := stay_b hw5 hb6
    have CF6 := Lib.hid (CF.out w6 (HR.out.below hw6))
    go_wp2_with fail
    refine (CF6.out).mono ?_
    rintro e w7 ⟨rfl, hb7⟩
    have hw7 := stay_b hw6 hb7
    go_wp2
    go_ret
    exact ⟨rfl, hw7⟩
end Go.Proofs.Ytcfeejlhhimpjaa
