/- Folds of a word: the reference's way, by trying all. -/
import Derived.Test.YthfhkmgegkhljaaDragF1
namespace Go.Proofs.Ythfhkmgegkhljaa
open Go.RowKit

/-- The m-th list of k kinds. -/
def foldsM (k m : Nat) : List Int := (List.range k).map fun i => 1 + (((m / 2 ^ i) % 2 : Nat) : Int)
theorem foldsM_len (k m : Nat) : (foldsM k m).length = k := by simp [foldsM]
theorem foldsM_take (k m i : Nat) (h : i < k) : (foldsM k m).take (i + 1) = (foldsM k m).take i ++ [1 + (((m / 2 ^ i) % 2 : Nat) : Int)] := by
  rw [List.take_add_one]
  congr 1
  simp [foldsM, List.getElem?_range h]
theorem foldsM_kinded (k m : Nat) : Kinded (foldsM k m) := by
  intro z hz
  unfold foldsM at hz
  rw [List.mem_map] at hz
  obtain ⟨i, _, rfl⟩ := hz
  omega
theorem foldsM_cons (k m : Nat) (b : Nat) (hb : b < 2) : foldsM (k + 1) (b + 2 * m) = (1 + (b : Int)) :: foldsM k m := by
  unfold foldsM
  rw [List.range_succ_eq_map]
  simp only [List.map_cons, List.map_map, List.cons.injEq, Nat.pow_zero, Nat.div_one]
  refine ⟨by congr 1; omega, ?_⟩
  apply List.map_congr_left
  intro i _
  simp only [Function.comp, Nat.succ_eq_add_one, Nat.pow_succ]
  rw [Nat.mul_comm (2 ^ i) 2, ← Nat.div_div_eq_div_mul]
  congr 4
  omega
theorem foldsM_all (l : List Int) : Kinded l → ∃ m, m < 2 ^ l.length ∧ foldsM l.length m = l := by
  induction l with
  | nil => intro _; exact ⟨0, by decide, rfl⟩
  | cons x l ih =>
    intro h
    obtain ⟨m, hm, he⟩ := ih fun z hz => h z (by simp [hz])
    have hx := h x (by simp)
    obtain ⟨b, hb, hbx⟩ : ∃ b : Nat, b < 2 ∧ 1 + (b : Int) = x := by
      rcases hx with rfl | rfl
      · exact ⟨0, by decide, rfl⟩
      · exact ⟨1, by decide, rfl⟩
    refine ⟨b + 2 * m, ?_, ?_⟩
    · simp only [List.length_cons, Nat.pow_succ]; omega
    · rw [List.length_cons, foldsM_cons _ _ _ hb, he, hbx]
theorem refK_pow (r : List Int) : ∀ v z, r[v]? = some z → refK r (2 ^ v) = z := by
  induction r with
  | nil => intro v z h; simp at h
  | cons k r ih =>
    intro v z h
    cases v with
    | zero => simp at h; subst h; simp [refK]
    | succ v =>
      simp only [List.getElem?_cons_succ] at h
      have h2 : 2 ^ (v + 1) % 2 = 0 := by rw [Nat.pow_succ]; omega
      have h3 : 2 ^ (v + 1) / 2 = 2 ^ v := by rw [Nat.pow_succ]; omega
      simp only [refK, h2, if_true, h3]
      exact ih v z h
/-- What is folded is told by its word. -/
theorem dw_back {r zs : List Int} (h : dw r = zs) : backF zs r.length = r := by
  subst h
  apply List.ext_getElem?
  intro v
  by_cases hv : v < r.length
  · have h2 : 0 < 2 ^ v := Nat.pow_pos (by decide)
    have h3 : 2 ^ v < 2 ^ r.length := Nat.pow_lt_pow_right (by decide) hv
    have hat := dw_at r (2 ^ v - 1) (by omega)
    rw [show 2 ^ v - 1 + 1 = 2 ^ v from by omega, refK_pow r v _ (List.getElem?_eq_getElem hv)] at hat
    simp only [backF, List.getElem?_map, List.getElem?_range hv, Option.map_some, List.getD_eq_getElem?_getD, hat, Option.getD_some]
    exact (List.getElem?_eq_getElem hv).symm
  · rw [List.getElem?_eq_none (by simp [backF]; omega), List.getElem?_eq_none (by omega)]
theorem powB_pow {k : Nat} (h : k ≤ 10) : powB (2 ^ k) = true := by
  match k, h with
  | 0, _ => decide
  | 1, _ => decide
  | 2, _ => decide
  | 3, _ => decide
  | 4, _ => decide
  | 5, _ => decide
  | 6, _ => decide
  | 7, _ => decide
  | 8, _ => decide
  | 9, _ => decide
  | 10, _ => decide
/-- No list so far comes to the word. -/
def NoneTo (zs : List Int) (k m : Nat) : Prop := ∀ j, j < m → dw (foldsM k j).reverse ≠ zs
theorem noneTo_all {zs : List Int} {k : Nat} (h : NoneTo zs k (2 ^ k)) (hk : Kinded (backF zs k)) : dw (backF zs k) ≠ zs := by
  intro he
  have hl := backF_len zs k
  obtain ⟨m, hm, hf⟩ := foldsM_all (backF zs k).reverse fun z hz => hk z (by simpa using hz)
  rw [List.length_reverse, hl] at hm hf
  apply h m hm
  rw [hf, List.reverse_reverse]
  exact he

set_option maxRecDepth 100000 in
set_option maxHeartbeats 3200000 in
theorem foldsOf_any (A : Option Addr) (n c : Nat) (zs : List Int) (w : World) (h : Rd w 1 A n (vis zs)) (hn : n * 8 ≤ 140737488351232) :
    Calls Try.prog 30 #[.slice A n c] w fun e w' => ∃ v, e = .returned (.tuple #[v, .int .i64 (foldsR zs).2]) ∧
      w'.ownsRow w.heap.size 3 1 v (foldsR zs).1.length (vis (foldsR zs).1) ∧ Below w.heap.size w w' := by
  have hl := h.ints_len
  have HL := Lib.hid hl
  clear hl
  go_enter Try.func30, Try.ntmps30
  go_wp2
  go_loop [4] (fun i => ∃ k : Nat, i = .int .i64 k ∧ k ≤ 50 ∧ Hid (k = 0 ∨ 2 ^ k < 2 * (n + 1))) (fun i => 50 - (intOf i).toNat)
  case atStart => exact ⟨0, rfl, by omega, Lib.hid (.inl rfl)⟩
  case round =>
    obtain ⟨k, rfl, hk50, hk⟩ := hrel
    obtain ⟨P, hP⟩ : ∃ P, P = 2 ^ k := ⟨_, rfl⟩
    have hPb : 1 ≤ P ∧ P ≤ 2 * (n + 1) := by
      rcases hk.out with h1 | h1
      · subst h1; simp at hP; omega
      · have : 0 < 2 ^ k := Nat.pow_pos (by decide)
        omega
    obtain ⟨hP1, hP2⟩ := hPb
    have hpow : wrap64 (2 ^ k) = (P : Int) := by
      have : (2 : Int) ^ k = (P : Int) := by rw [hP]; push_cast; rfl
      rw [this]; exact IntWalk.wrap64_in _ ⟨by omega, by omega⟩
    have HP := Lib.hid hP
    clear hP
    by_cases hlt : P < n + 1
    · have hk49 : k < 50 := by
        rcases Nat.lt_or_ge k 50 with h1 | h1
        · exact h1
        · exfalso
          have : 2 ^ 50 ≤ 2 ^ k := Nat.pow_le_pow_right (by decide) h1
          have h2 := HP.out
          omega
      go_wp2
      go_round
      case rel => exact ⟨k + 1, by go_num, by omega, Lib.hid (.inr (by rw [Nat.pow_succ, ← HP.out]; omega))⟩
      case measure => simp [intOf]; omega
    · by_cases hPn : P = n + 1
      · by_cases hk10 : k ≤ 10
        · subst hPn
          have hpb : powB (n + 1) = true := by rw [HP.out]; exact powB_pow hk10
          have hlog : Nat.log2 (n + 1) = k := by rw [HP.out]; exact Nat.log2_two_pow
          have hpow' : wrap64 (2 ^ k) = (n : Int) + 1 := by rw [hpow]; push_cast; rfl
          have hn1024 : n + 1 ≤ 1024 := by
            rw [HP.out]
            exact Nat.pow_le_pow_right (n := 2) (by decide) hk10
          have hk10b : decide ((10 : Int) < (k : Int)) = false := by simp; omega
          have HPB := Lib.hid hpb
          have HLG := Lib.hid hlog
          clear hpow hpb hlog hlt
          go_wp2
          go_loop [5] (fun i => ∃ j : Nat, j ≤ n ∧ i = .int .i64 j ∧ NoneBefore strangeB zs j) (fun i => n - (intOf i).toNat)
          case atStart => exact ⟨0, Nat.zero_le _, rfl, by intro z hz; simp at hz⟩
          case round =>
            obtain ⟨j, hj, rfl, hnb⟩ := hrel
            by_cases hlt : j < n
            · obtain ⟨b, off, z, rfl, hb, hz, hc⟩ := h.int hlt
              have HZ := Lib.hid hz
              clear hz
              by_cases z1 : z = 1
              · subst z1
                go_wp2
                go_round
                case rel => exact ⟨j + 1, by omega, by go_num, noneBefore_succ hnb HZ.out (by decide)⟩
                case measure => simp [intOf]; omega
              · by_cases z2 : z = 2
                · subst z2
                  go_wp2
                  go_round
                  case rel => exact ⟨j + 1, by omega, by go_num, noneBefore_succ hnb HZ.out (by decide)⟩
                  case measure => simp [intOf]; omega
                · have e1 : (z != 1) = true := by simpa using z1
                  have e2 : (z != 2) = true := by simpa using z2
                  have hs : Hid (strangeB z = true) := Lib.hid (by simp [strangeB, e1, e2])
                  clear z1 z2
                  go_wp2
                  go_ret2
                  have : foldsR zs = ([], 4) := by
                    unfold foldsR; rw [HL.out, HPB.out, noneBefore_idx HZ.out hs.out]; rfl
                  rw [this]
                  exact ⟨_, rfl, World.ownsRow_nil _ _ _ _, Below.refl _ _⟩
            · have hjn : j = zs.length := by have := HL.out; omega
              have hs : zs.any strangeB = false := by rw [hjn] at hnb; exact noneBefore_all hnb
              have HS := Lib.hid hs
              have hkd := Lib.hid (not_strange hs)
              clear hs hjn
              go_wp2
              go_loopw [6] (fun i wr => ∃ m : Nat, m ≤ n + 1 ∧ i = .int .i64 m ∧ NoneTo zs k m ∧ Below w.heap.size w wr) (fun i _ => n + 1 - (intOf i).toNat)
              case atStart => exact ⟨0, Nat.zero_le _, rfl, (fun j hj => absurd hj (by omega)), Below.refl _ _⟩
              case round =>
                obtain ⟨m, hm, rfl, hnone, hbel⟩ := hrel
                by_cases hlt : m < n + 1
                · have hwr : ∃ wo : World, wo = wr := ⟨_, rfl⟩
                  obtain ⟨wo, hwo⟩ := hwr
                  subst hwo
                  have hmn : decide ((m : Int) < (n : Int) + 1) = true := by simp; omega
                  go_wp2
                  simp only [hpow']
                  go_loopw [7, 8] (fun u i wr => ∃ t : Nat, t ≤ k ∧ i = .int .i64 t ∧ wr.ownsRow w.heap.size 3 1 u t (vis ((foldsM k m).take t)) ∧ Below w.heap.size w wr) (fun _ i _ => k - (intOf i).toNat)
                  case atStart => exact ⟨0, Nat.zero_le _, rfl, World.ownsRow_nil _ _ _ _, hbel⟩
                  case round =>
                    obtain ⟨t, ht, rfl, hown, hbel2⟩ := hrel
                    by_cases htk : t < k
                    · obtain ⟨D, hD⟩ : ∃ D, D = m / 2 ^ t := ⟨_, rfl⟩
                      have hdv : (m : Int) / 2 ^ t = (D : Int) := by rw [hD]; push_cast; rfl
                      have hDb : D ≤ m := by rw [hD]; exact Nat.div_le_self _ _
                      have htk' := foldsM_take k m t htk
                      rw [← hD] at htk'
                      have HTK := Lib.hid htk'
                      clear hD htk'
                      go_wp2_with (at_builtin; refine app_ints rfl (.tmp 59) (.tmp 65) rfl w.heap.size _ t ((foldsM k m).take t) [1 + (D : Int) % 2] rfl hown hbel2.size 1 _ rfl rfl rfl (by omega) ?_; intro v' w' hown' hb' _)
                      go_roundw
                      case rel =>
                        refine ⟨t + 1, by omega, by go_num, ?_, hbel2.trans hb'⟩
                        rw [HTK.out]
                        push_cast
                        exact hown'
                      case measure => simp [intOf]; omega
                    · obtain rfl : t = k := by omega
                      have hft : (foldsM t m).take t = foldsM t m := List.take_of_length_le (by rw [foldsM_len]; omega)
                      rw [hft] at hown
                      obtain ⟨A1, c1, rfl, hc1, hc1'⟩ := own_slice hown
                      have hrd := Rd.of_own hown
                      have hrd' : Rd wr 1 A1 t (vis ((foldsM t m).reverse).reverse) := by rw [List.reverse_reverse]; exact hrd
                      have hkr : Kinded (foldsM t m).reverse := fun z hz => foldsM_kinded t m z (by simpa using hz)
                      have hdl := dw_len (foldsM t m).reverse
                      rw [List.length_reverse, foldsM_len, ← HP.out] at hdl
                      have hdn : (dw (foldsM t m).reverse).length = n := by omega
                      have HDN := Lib.hid hdn
                      clear hft hdl hdn
                      go_wp2_with fail
                      refine (wordOf_any (foldsM t m).reverse A1 t c1 wr hrd' hk10 hkr).mono ?_
                      rintro e w2 ⟨v2, rfl, hown2, hbelw⟩
                      rw [HDN.out] at hown2
                      obtain ⟨A2, c2, rfl, hc2, hc2'⟩ := own_slice hown2
                      have hb2 := hbel2.trans (hbelw.mono hbel2.size)
                      have hownf := own_below hown hbelw (Nat.le_refl _)
                      have hr2 := Rd.of_own hown2
                      have hrz := h.below hb2
                      go_wp2_with fail
                      go_loopw [10, 11] (fun s i wx => ∃ (q : Nat) (b : Bool), q ≤ n ∧ i = .int .i64 q ∧ s = .bool b ∧ Hid (b = true → (dw (foldsM t m).reverse).take q = zs.take q) ∧ Hid (b = false → dw (foldsM t m).reverse ≠ zs) ∧ Below w2.heap.size w2 wx) (fun _ i _ => n - (intOf i).toNat)
                      case atStart => exact ⟨0, true, Nat.zero_le _, rfl, rfl, Lib.hid (fun _ => rfl), Lib.hid (fun h => by cases h), Below.refl _ _⟩
                      case round =>
                        obtain ⟨q, b, hq, rfl, rfl, ht1, hf1, hbx⟩ := hrel
                        by_cases hqn : q < n
                        · cases b
                          · go_wp2
                            go_roundw
                            case rel =>
                              refine ⟨m + 1, by omega, by go_num, ?_, hb2.trans (hbx.mono hb2.size)⟩
                              intro j hj
                              rcases Nat.lt_or_ge j m with h1 | h1
                              · exact hnone j h1
                              · obtain rfl : j = m := by omega
                                exact hf1.out (by trivial)
                            case measure => simp [intOf]; omega
                          · obtain ⟨b1, o1, x, hA1, hl1, hx1, hcx⟩ := (hr2.below hbx).int hqn
                            obtain ⟨b2', o2, y, hA2, hl2, hy1, hcy⟩ := (hrz.below hbx).int hqn
                            have HX := Lib.hid hx1
                            have HY := Lib.hid hy1
                            have hqi : (q : Int) < (n : Int) := by omega
                            clear hx1 hy1
                            subst hA1
                            subst hA2
                            by_cases hxy : x = y
                            · subst hxy
                              go_wp2
                              go_quiet (fail)
                              go_wp2
                              go_roundw
                              case rel =>
                                refine ⟨q + 1, true, by omega, by go_num, rfl, Lib.hid (fun _ => ?_), Lib.hid (fun h => by cases h), below_drewN hbx _⟩
                                rw [List.take_add_one, List.take_add_one, HX.out, HY.out, ht1.out (by trivial)]
                              case measure => simp [intOf]; omega
                            · have hne : (x == y) = false := by simpa using hxy
                              go_wp2
                              go_quiet (fail)
                              go_wp2
                              go_roundw
                              case rel =>
                                refine ⟨q + 1, false, by omega, by go_num, rfl, Lib.hid (fun h => by cases h), Lib.hid (fun _ => ?_), below_drewN hbx _⟩
                                intro he
                                rw [he] at HX
                                have h1 := HX.out.symm.trans HY.out
                                injection h1 with h1
                                exact hxy h1
                              case measure => simp [intOf]; omega
                        · cases b
                          · go_wp2
                            go_roundw
                            case rel =>
                              refine ⟨m + 1, by omega, by go_num, ?_, hb2.trans (hbx.mono hb2.size)⟩
                              intro j hj
                              rcases Nat.lt_or_ge j m with h1 | h1
                              · exact hnone j h1
                              · obtain rfl : j = m := by omega
                                exact hf1.out (by trivial)
                            case measure => simp [intOf]; omega
                          · go_wp2
                            go_ret2
                            have he : dw (foldsM t m).reverse = zs := by
                              have h1 := ht1.out (by trivial)
                              rw [List.take_of_length_le (by rw [HDN.out]; omega), List.take_of_length_le (by rw [HL.out]; omega)] at h1
                              exact h1
                            have hbk := dw_back he
                            rw [List.length_reverse, foldsM_len] at hbk
                            have : foldsR zs = (foldsM t m, 0) := by
                              unfold foldsR; rw [HL.out, HPB.out, HS.out, HLG.out, hbk, he]; simp
                            rw [this]
                            exact ⟨_, rfl, by simp only [foldsM_len]; exact own_below hownf hbx (Nat.le_refl _), hb2.trans (hbx.mono hb2.size)⟩
                · obtain rfl : m = n + 1 := by omega
                  have hnn := noneTo_all (by rw [← HP.out]; exact hnone) (backF_kinded (k := k) hkd.out (by rw [HL.out, HP.out]))
                  have HNN := Lib.hid hnn
                  clear hnn hnone
                  go_wp2
                  go_ret2
                  have : foldsR zs = ([], 9) := by
                    unfold foldsR; rw [HL.out, HPB.out, HS.out, HLG.out]; simp [HNN.out]
                  rw [this]
                  exact ⟨_, rfl, World.ownsRow_nil _ _ _ _, hbel⟩
        · have hfin : Hid (foldsR zs = ([], 2)) := Lib.hid (by
            unfold foldsR
            rw [HL.out, powB_big (by rw [← hPn, HP.out]; have : 2 ^ 11 ≤ 2 ^ k := Nat.pow_le_pow_right (by decide) (by omega); omega)]; rfl)
          subst hPn
          have hpow' : wrap64 (2 ^ k) = (n : Int) + 1 := by rw [hpow]; push_cast; rfl
          clear hpow hlt
          go_wp2
          go_ret2
          rw [hfin.out]
          exact ⟨_, rfl, World.ownsRow_nil _ _ _ _, Below.refl _ _⟩
      · have hfin : Hid (foldsR zs = ([], 2)) := Lib.hid (by
          unfold foldsR
          rw [HL.out]
          cases hb : powB (n + 1)
          · rfl
          · exfalso
            obtain ⟨q1, q2, _, _⟩ := powB_log hb
            rcases hk.out with h1 | h1
            · subst h1; have := HP.out; simp at this; omega
            · rw [q1, ← Nat.pow_succ'] at h1
              have h2 := (Nat.pow_lt_pow_iff_right (a := 2) (by decide)).1 h1
              have h3 : 2 ^ k ≤ 2 ^ Nat.log2 (n + 1) := Nat.pow_le_pow_right (by decide) (by omega)
              have h4 := HP.out
              omega)
        have hne : ((P : Int) != (n : Int) + 1) = true := by
          rw [bne_iff_ne]; omega
        go_wp2
        go_ret2
        rw [hfin.out]
        exact ⟨_, rfl, World.ownsRow_nil _ _ _ _, Below.refl _ _⟩
end Go.Proofs.Ythfhkmgegkhljaa
