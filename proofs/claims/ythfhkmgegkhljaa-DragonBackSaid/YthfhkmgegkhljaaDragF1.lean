/- Folds of a word: the program's way. -/
import Derived.Test.YthfhkmgegkhljaaDragF0
import Derived.Test.YthfhkmgegkhljaaDragT2
namespace Go.Proofs.Ythfhkmgegkhljaa
open Go.RowKit

set_option maxHeartbeats 800000 in
theorem slicesEqual_any (A B : Option Addr) (n m c d : Nat) (xs ys : List Int) (w : World) (hx : Rd w 1 A n (vis xs)) (hy : Rd w 1 B m (vis ys)) (hn : n ≤ 9223372036854775807) (hm : m ≤ 9223372036854775807) :
    Calls Try.prog 44 #[.slice A n c, .slice B m d] w fun e w' => e = .returned (.bool (decide (xs = ys))) ∧ Below w.heap.size w w' := by
  have hxl := hx.ints_len
  have hyl := hy.ints_len
  by_cases hnm : n = m
  · subst hnm
    have HX := Lib.hid hxl
    have HY := Lib.hid hyl
    clear hxl hyl
    go_enter Try.func44, Try.ntmps44
    go_wp2
    go_loopw [13] (fun i wr => ∃ k : Nat, k ≤ n ∧ i = .int .i64 k ∧ Hid (xs.take k = ys.take k) ∧ Below w.heap.size w wr) (fun i _ => n - (intOf i).toNat)
    case atStart => exact ⟨0, Nat.zero_le _, rfl, Lib.hid rfl, Below.refl _ _⟩
    case round =>
      obtain ⟨k, hk, rfl, heq, hb⟩ := hrel
      by_cases hlt : k < n
      · obtain ⟨b1, o1, x, hA, hb1, hx1, hc1⟩ := (hx.below hb).int hlt
        obtain ⟨b2, o2, y, hB, hb2, hy1, hc2⟩ := (hy.below hb).int hlt
        have HX1 := Lib.hid hx1
        have HY1 := Lib.hid hy1
        have hki : (k : Int) < (n : Int) := by omega
        clear hx1 hy1
        subst hA
        subst hB
        by_cases hxy : x = y
        · subst hxy
          go_wp2
          go_quiet (fail)
          go_wp2
          go_roundw
          case rel => exact ⟨k + 1, by omega, by go_num, Lib.hid (by rw [List.take_add_one, List.take_add_one, HX1.out, HY1.out, heq.out]), below_drewN hb _⟩
          case measure => simp [intOf]; omega
        · have hne : (x != y) = true := by simpa using hxy
          go_wp2
          go_quiet (fail)
          go_wp2
          go_ret
          refine ⟨ret_bool ?_, below_drewN hb _⟩
          have : ¬ xs = ys := by
            rintro rfl
            have h1 := HX1.out.symm.trans HY1.out
            injection h1 with h1
            exact hxy h1
          simp [this]
      · have hfin : xs = ys := by
          have h1 := heq.out
          rw [List.take_of_length_le (by rw [HX.out]; omega), List.take_of_length_le (by rw [HY.out]; omega)] at h1
          exact h1
        have HF := Lib.hid hfin
        clear hfin
        go_wp2
        go_ret
        exact ⟨ret_bool (by simp [HF.out]), hb⟩
  · have hne : ((n : Int) != (m : Int)) = true := by simp; omega
    have hxy : ¬ xs = ys := by rintro rfl; omega
    have HXY := Lib.hid hxy
    clear hxl hyl hnm hxy
    go_enter Try.func44, Try.ntmps44
    go_wp2
    go_ret
    exact ⟨ret_bool (by simp [HXY.out]), Below.refl _ _⟩

/-- The kinds at the places 1, 2, 4, ..: the last fold's first. -/
def backF (zs : List Int) (k : Nat) : List Int := (List.range k).map fun v => zs.getD (2 ^ v - 1) 0
/-- From the v-th on, the greatest first. -/
def backV (zs : List Int) (k v : Nat) : List Int := ((List.range' v (k - v)).map fun v => zs.getD (2 ^ v - 1) 0).reverse
theorem backV_zero (zs : List Int) (k : Nat) : backV zs k 0 = (backF zs k).reverse := by simp [backV, backF, List.range_eq_range']
theorem backV_top (zs : List Int) (k : Nat) : backV zs k k = [] := by simp [backV]
theorem backV_step (zs : List Int) {k v : Nat} (h : v < k) : backV zs k v = backV zs k (v + 1) ++ [zs.getD (2 ^ v - 1) 0] := by
  unfold backV
  obtain ⟨m, hm⟩ : ∃ m, k - v = m + 1 := ⟨k - v - 1, by omega⟩
  rw [hm, show k - (v + 1) = m from by omega, List.range'_succ]
  simp
theorem backF_len (zs : List Int) (k : Nat) : (backF zs k).length = k := by simp [backF]
theorem backF_kinded {zs : List Int} {k : Nat} (h : Kinded zs) (hl : zs.length + 1 = 2 ^ k) : Kinded (backF zs k) := by
  intro z hz
  unfold backF at hz
  rw [List.mem_map] at hz
  obtain ⟨v, hv, rfl⟩ := hz
  have hv' : v < k := by simpa using hv
  have : 2 ^ (v + 1) ≤ 2 ^ k := Nat.pow_le_pow_right (by decide) hv'
  rw [Nat.pow_succ] at this
  have h2 : 0 < 2 ^ v := Nat.pow_pos (by decide)
  have hlt : 2 ^ v - 1 < zs.length := by omega
  rw [List.getD_eq_getElem?_getD, List.getElem?_eq_getElem hlt]
  exact h _ (List.getElem_mem hlt)
/-- What the folds of a word are. -/
def foldsR (zs : List Int) : List Int × Int :=
  if powB (zs.length + 1) = false then ([], 2) else if zs.any strangeB then ([], 4)
  else if dw (backF zs (Nat.log2 (zs.length + 1))) = zs then ((backF zs (Nat.log2 (zs.length + 1))).reverse, 0) else ([], 9)
theorem powB_log {n : Nat} (h : powB n = true) : n = 2 ^ Nat.log2 n ∧ Nat.log2 n ≤ 10 ∧ n ≤ 1024 ∧ 1 ≤ n := by
  unfold powB at h
  simp only [Bool.or_eq_true, beq_iff_eq] at h
  rcases h with ((((((((((rfl | rfl) | rfl) | rfl) | rfl) | rfl) | rfl) | rfl) | rfl) | rfl) | rfl) <;> decide
theorem powB_big {n : Nat} (h : 1024 < n) : powB n = false := by
  unfold powB
  simp only [Bool.or_eq_false_iff, beq_eq_false_iff_ne]
  omega
theorem not_strange {zs : List Int} (h : zs.any strangeB = false) : Kinded zs := by
  intro z hz
  rw [List.any_eq_false] at h
  have := h z hz
  simp [strangeB] at this
  omega

set_option maxRecDepth 100000 in
set_option maxHeartbeats 1600000 in
theorem folds_any (A : Option Addr) (n c : Nat) (zs : List Int) (w : World) (h : Rd w 1 A n (vis zs)) (hn : n * 8 ≤ 140737488351232) :
    Calls Try.prog 29 #[.slice A n c] w fun e w' => ∃ v, e = .returned (.tuple #[v, .int .i64 (foldsR zs).2]) ∧
      w'.ownsRow w.heap.size 3 1 v (foldsR zs).1.length (vis (foldsR zs).1) ∧ Below w.heap.size w w' := by
  have hl := h.ints_len
  have hone : Hid ((n + 1 ≤ 1024) → (ones ((n : Int) + 1) == 1) = powB (n + 1)) := Lib.hid fun h1 => by
    have := ones_pow (n := n + 1) (by omega) h1
    push_cast at this
    exact this
  by_cases hp : powB (n + 1) = true
  · obtain ⟨p1, p2, p3, p4⟩ := powB_log hp
    have hne : (ones ((n : Int) + 1) != 1) = false := by
      have := hone.out p3
      rw [hp] at this
      simp only [bne, this]; rfl
    have HP := Lib.hid hp
    have HL := Lib.hid hl
    obtain ⟨k, hk⟩ : ∃ k, k = Nat.log2 (n + 1) := ⟨_, rfl⟩
    rw [← hk] at p1 p2
    have HK := Lib.hid hk
    have HP1 := Lib.hid p1
    cases hs : zs.any strangeB
    · have HS := Lib.hid hs
      have hkd := Lib.hid (not_strange hs)
      clear hp hl hs hk p1 hone
      go_enter Try.func29, Try.ntmps29
      go_wp2_with fail
      refine (ones_any _ w (by omega) (by omega)).mono ?_
      rintro e w1 ⟨rfl, rfl⟩
      go_wp2_with fail
      refine (containsFunc_any _ _ strange_pred A n c zs w h (by omega)).mono ?_
      rintro e w1 ⟨rfl, rfl⟩
      rw [HS.out]
      go_wp2_with fail
      go_loopw [5, 6] (fun u i wr => ∃ v I : Nat, v ≤ k ∧ i = .int .i64 I ∧ Hid (I = 2 ^ v / 2) ∧ I ≤ 512 ∧ wr.ownsRow w.heap.size 3 1 u (k - v) (vis (backV zs k v)) ∧ Below w.heap.size w wr) (fun _ i _ => (intOf i).toNat)
      case atStart =>
        refine ⟨k, (n + 1) / 2, Nat.le_refl _, by go_num, Lib.hid (by rw [HP1.out]), by omega, ?_, Below.refl _ _⟩
        rw [backV_top, Nat.sub_self]
        exact World.ownsRow_nil _ _ _ _
      case round =>
        obtain ⟨v, I, hv, rfl, hI, hI5, hown, hbel⟩ := hrel
        by_cases h0 : 1 ≤ I
        · have hv1 : 1 ≤ v := by
            rcases Nat.eq_zero_or_pos v with h1 | h1
            · have := hI.out; rw [h1] at this; omega
            · exact h1
          obtain ⟨u, rfl⟩ : ∃ u, v = u + 1 := ⟨v - 1, by omega⟩
          have hI' : I = 2 ^ u := by rw [hI.out, Nat.pow_succ]; omega
          have hle : 2 ^ (u + 1) ≤ 2 ^ k := Nat.pow_le_pow_right (by decide) hv
          rw [Nat.pow_succ, ← hI', ← HP1.out] at hle
          obtain ⟨J, rfl⟩ : ∃ J, I = J + 1 := ⟨I - 1, by omega⟩
          obtain ⟨b, off, z, hA, hb, hz, hc⟩ := (h.below hbel).int (k := J) (by omega)
          subst hA
          have hst := backV_step zs (k := k) (v := u) (by omega)
          have hzz : zs.getD (2 ^ u - 1) 0 = z := by
            rw [List.getD_eq_getElem?_getD, ← hI', Nat.add_sub_cancel, hz]; rfl
          rw [hzz] at hst
          have HST := Lib.hid hst
          have HI' := Lib.hid hI'
          clear hst hzz hz hI' hI
          go_wp2_with (at_builtin; refine app_ints rfl (.tmp 28) (.tmp 34) rfl w.heap.size _ (k - (u + 1)) (backV zs k (u + 1)) [z] rfl hown hbel.size 1 _ rfl rfl rfl (by omega) ?_; intro v' w' hown' hb' _)
          go_roundw
          case rel =>
            refine ⟨u, (J + 1) / 2, by omega, by go_num, Lib.hid (by rw [HI'.out]), by omega, ?_, hbel.trans hb'⟩
            rw [HST.out, show k - u = k - (u + 1) + 1 from by omega]
            exact hown'
          case measure => simp [intOf]; omega
        · have hI0 : I = 0 := by omega
          subst hI0
          have hv0 : v = 0 := by
            rcases Nat.eq_zero_or_pos v with h1 | h1
            · exact h1
            · obtain ⟨u, rfl⟩ : ∃ u, v = u + 1 := ⟨v - 1, by omega⟩
              have := hI.out
              rw [Nat.pow_succ] at this
              have h2 : 0 < 2 ^ u := Nat.pow_pos (by decide)
              omega
          subst hv0
          rw [backV_zero, Nat.sub_zero] at hown
          obtain ⟨A1, c1, rfl, hc1, hc1'⟩ := own_slice hown
          have hrd := Rd.of_own hown
          have hkb := backF_kinded (k := k) hkd.out (by rw [HL.out, HP1.out])
          have hbl := backF_len zs k
          have hdl := dw_small (backF zs k) (by omega)
          have hzn : n ≤ 1023 := by omega
          have HB := Lib.hid hbl
          clear hbl
          go_wp2_with fail
          refine (word_any (backF zs k) A1 k c1 _ hrd p2 hc1 hkb).mono ?_
          rintro e w2 ⟨v2, rfl, hown2, hbel2⟩
          obtain ⟨A2, c2, rfl, hc2, hc2'⟩ := own_slice hown2
          have hb2 := hbel.trans (hbel2.mono hbel.size)
          go_wp2_with fail
          refine (slicesEqual_any A2 A _ n c2 c _ zs w2 (Rd.of_own hown2) (h.below hb2) (by omega) (by omega)).mono ?_
          rintro e w3 ⟨rfl, hbel3⟩
          have hb3 := hb2.trans (hbel3.mono hb2.size)
          have hown3 := own_below (own_below hown hbel2 (Nat.le_refl _)) hbel3 (Nat.le_refl _)
          by_cases heq : dw (backF zs k) = zs
          · have hd : decide (dw (backF zs k) = zs) = true := by simp [heq]
            have HE := Lib.hid heq
            rw [hd]
            clear hd heq
            go_wp2
            go_ret2
            have : foldsR zs = ((backF zs k).reverse, 0) := by
              unfold foldsR; rw [HL.out, HP.out, HS.out, ← HK.out]; simp [HE.out]
            rw [this]
            exact ⟨_, rfl, by simp only [List.length_reverse, HB.out]; exact hown3, hb3⟩
          · have hd : decide (dw (backF zs k) = zs) = false := by simp [heq]
            have HE := Lib.hid heq
            rw [hd]
            clear hd heq
            go_wp2
            go_ret2
            have : foldsR zs = ([], 9) := by
              unfold foldsR; rw [HL.out, HP.out, HS.out, ← HK.out]; simp [HE.out]
            rw [this]
            exact ⟨_, rfl, World.ownsRow_nil _ _ _ _, hb3⟩
    · have HS := Lib.hid hs
      clear hp hl hs hk p1 hone
      go_enter Try.func29, Try.ntmps29
      go_wp2_with fail
      refine (ones_any _ w (by omega) (by omega)).mono ?_
      rintro e w1 ⟨rfl, rfl⟩
      go_wp2_with fail
      refine (containsFunc_any _ _ strange_pred A n c zs w h (by omega)).mono ?_
      rintro e w1 ⟨rfl, rfl⟩
      rw [HS.out]
      go_wp2
      go_ret2
      have : foldsR zs = ([], 4) := by unfold foldsR; rw [HL.out, HP.out, HS.out]; rfl
      rw [this]
      exact ⟨_, rfl, World.ownsRow_nil _ _ _ _, Below.refl _ _⟩
  · have hp' : powB (n + 1) = false := by simpa using hp
    have hfin : Hid (foldsR zs = ([], 2)) := Lib.hid (by unfold foldsR; rw [hl, hp']; rfl)
    have hdone : ∀ w : World, ∃ v, Ending.returned (.tuple #[.slice none 0 0, .int .i64 2]) = .returned (.tuple #[v, .int .i64 (foldsR zs).2]) ∧ w.ownsRow w.heap.size 3 1 v (foldsR zs).1.length (vis (foldsR zs).1) ∧ Below w.heap.size w w := by
      intro w
      rw [hfin.out]
      exact ⟨_, rfl, World.ownsRow_nil _ _ _ _, Below.refl _ _⟩
    have HD := Lib.hid hdone
    by_cases hbig : 1024 < n + 1
    · cases hb : (ones ((n : Int) + 1) != 1)
      all_goals
        have HP := Lib.hid hp'
        clear hp hp' hl hone hdone
        go_enter Try.func29, Try.ntmps29
        go_wp2_with fail
        refine (ones_any _ w (by omega) (by omega)).mono ?_
        rintro e w1 ⟨rfl, rfl⟩
        go_wp2
        go_ret2
        exact HD.out w
    · have hne : (ones ((n : Int) + 1) != 1) = true := by
        have := hone.out (by omega)
        rw [hp'] at this
        simp only [bne, this]; rfl
      clear hp hp' hl hone hdone
      go_enter Try.func29, Try.ntmps29
      go_wp2_with fail
      refine (ones_any _ w (by omega) (by omega)).mono ?_
      rintro e w1 ⟨rfl, rfl⟩
      go_wp2
      go_ret2
      exact HD.out w
end Go.Proofs.Ythfhkmgegkhljaa
