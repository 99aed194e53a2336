/- good: whether no tie is in another one's way. -/
import Derived.Test.YtjikhdnlcoohbaaSt2
namespace Go.Proofs.Ytjikhdnlcoohbaa
set_option linter.unusedSimpArgs false
set_option linter.unusedVariables false
open Go.RowKit St

theorem tcs_at {T : List (Int × Int)} {j : Nat} {t : Int × Int} (h : T[j]? = some t) : (tcs T)[j * 2]? = some (.int .i64 t.1) ∧ (tcs T)[j * 2 + 1]? = some (.int .i64 t.2) := by
  induction T generalizing j with
  | nil => simp at h
  | cons a T ih =>
    cases j with
    | zero =>
      simp at h
      subst h
      exact ⟨rfl, rfl⟩
    | succ j =>
      have := ih (by simpa using h)
      rw [show (j + 1) * 2 = j * 2 + 2 by omega]
      exact this
theorem own_tie {w : World} {base n c g : Nat} {T : List (Int × Int)} (h : w.ownsRow base 58 2 (.slice (some ⟨g, 0, none⟩) n c) n (tcs T)) {j : Nat} {t : Int × Int} (ht : T[j]? = some t) :
    w.cell? ⟨g, j * 2, none⟩ = some (.int .i64 t.1) ∧ w.cell? ⟨g, j * 2 + 1, none⟩ = some (.int .i64 t.2) := by
  obtain ⟨h1, h2⟩ := tcs_at ht
  have c1 := h.cells (g := g) rfl _ _ h1
  have c2 := h.cells (g := g) rfl _ _ h2
  rw [addr_add, Nat.zero_add] at c1 c2
  exact ⟨c1, c2⟩
theorem side_no {T : List (Int × Int)} {a b : Int × Int} (ha : a ∈ T) (hb : b ∈ T) (h : (holdsB a b.1 == holdsB a b.2) = false) : goodSide T = false := by
  unfold goodSide
  rw [List.all_eq_false]
  refine ⟨a, ha, ?_⟩
  rw [Bool.not_eq_true, List.all_eq_false]
  exact ⟨b, hb, by rw [h]; simp⟩
theorem good_both {h : Nat → Int} {n : Nat} (h0 : goodSide (tiesOf h n 0) = true) (h1 : goodSide (tiesOf h n 1) = true) : goodH h n = true := by unfold goodH; rw [h0, h1]; rfl
theorem good_none {h : Nat → Int} {n p : Nat} (hp : p < 2) (hs : goodSide (tiesOf h n p) = false) : goodH h n = false := by
  unfold goodH
  have : p = 0 ∨ p = 1 := by omega
  rcases this with rfl | rfl <;> rw [hs] <;> simp
theorem take_mem {α : Type} {l : List α} {j : Nat} {a : α} (h : l[j]? = some a) : a ∈ l := List.mem_of_getElem? h
set_option maxRecDepth 100000 in
set_option maxHeartbeats 6400000 in
theorem good_any (A : Option Addr) (n c : Nat) (hl : List Int) (w : World) (h : Rd w 1 A n (vis hl)) (hn : n ≤ 100) (hn0 : 0 < n) :
    Calls Try.prog 23 #[.slice A n c] w fun e w' => e = .returned (.bool (goodH (fn hl) n)) ∧ Below w.heap.size w w' := by
  have cT := ties_any A n c hl w h hn hn0
  obtain ⟨G, hG⟩ : ∃ G, G = goodH (fn hl) n := ⟨_, rfl⟩
  rw [← hG]
  have gB := fun h0 h1 => hG.trans (good_both (h := fn hl) (n := n) h0 h1)
  have gN := fun p (hp : p < 2) hs => hG.trans (good_none (h := fn hl) (n := n) (p := p) hp hs)
  have l0 := ties_le (fn hl) n 0
  have l1 := ties_le (fn hl) n 1
  obtain ⟨T0, hT0⟩ : ∃ T, T = tiesOf (fn hl) n 0 := ⟨_, rfl⟩
  obtain ⟨T1, hT1⟩ : ∃ T, T = tiesOf (fn hl) n 1 := ⟨_, rfl⟩
  rw [← hT0, ← hT1] at cT
  rw [← hT0] at l0
  rw [← hT1] at l1
  obtain ⟨TT, hTT⟩ : ∃ TT : Nat → List (Int × Int), TT = fun p => tiesOf (fn hl) n p := ⟨_, rfl⟩
  have e0 : TT 0 = T0 := by rw [hTT, hT0]
  have e1 : TT 1 = T1 := by rw [hTT, hT1]
  have gN2 : ∀ p, p < 2 → goodSide (TT p) = false → G = false := fun p hp hs => gN p hp (by rw [hTT] at hs; exact hs)
  have gB2 : goodSide (TT 0) = true → goodSide (TT 1) = true → G = true := fun h0 h1 => gB (by rw [hTT] at h0; exact h0) (by rw [hTT] at h1; exact h1)
  have CT := Lib.hid cT
  have GN := Lib.hid gN2
  have GB := Lib.hid gB2
  have E0 := Lib.hid e0
  have E1 := Lib.hid e1
  clear cT hG gB gN hT0 hT1 hTT e0 e1 gN2 gB2 h
  go_enter Try.func23, Try.ntmps23
  go_wp2_with fail
  refine (CT.out).mono ?_
  rintro e w1 ⟨v0, v1, rfl, ho0, ho1, hb1⟩
  obtain ⟨A0, c0, rfl, _, _⟩ := own_slice ho0
  obtain ⟨A1, c1, rfl, _, _⟩ := own_slice ho1
  have i0 : ∀ w, (Instr.index 55 (.agg #[.slice A0 T0.length c0, .slice A1 T1.length c1]) (.int .i64 0)).run Try.prog w = .ok (.slice A0 T0.length c0) w := fun _ => rfl
  have i1 : ∀ w, (Instr.index 55 (.agg #[.slice A0 T0.length c0, .slice A1 T1.length c1]) (.int .i64 1)).run Try.prog w = .ok (.slice A1 T1.length c1) w := fun _ => rfl
  have HO0 := Lib.hid ho0
  have HO1 := Lib.hid ho1
  have HB1 := Lib.hid hb1
  clear ho0 ho1 hb1
  go_wp2_with fail
  go_loopw [11] (fun i wr => ∃ p : Nat, p ≤ 2 ∧ i = .int .i64 p ∧ (∀ j, j < p → goodSide (TT j) = true) ∧ Below w1.heap.size w1 wr) (fun i _ => 2 - (intOf i).toNat)
  case atStart => exact ⟨0, by omega, rfl, fun j hj => by omega, Below.refl _ _⟩
  case round =>
    obtain ⟨p, hp2, rfl, hall, hbel⟩ := hrel
    have HALL := Lib.hid hall
    clear hall
    by_cases hp : p < 2
    · obtain ⟨T, A2, c2, hT, hrun, HO, hlen⟩ : ∃ (T : List (Int × Int)) (A2 : Option Addr) (c2 : Nat), TT p = T ∧ (∀ w, (Instr.index 55 (.agg #[.slice A0 T0.length c0, .slice A1 T1.length c1]) (.int .i64 (p : Int))).run Try.prog w = .ok (.slice A2 T.length c2) w) ∧ Hid (w1.ownsRow w.heap.size 58 2 (.slice A2 T.length c2) T.length (tcs T)) ∧ T.length ≤ n := by
        have : p = 0 ∨ p = 1 := by omega
        rcases this with rfl | rfl
        · exact ⟨T0, A0, c0, E0.out, i0, HO0, l0⟩
        · exact ⟨T1, A1, c1, E1.out, i1, HO1, l1⟩
      have HTT := Lib.hid hT
      obtain ⟨m, hm⟩ : ∃ m, m = T.length := ⟨_, rfl⟩
      have HM := Lib.hid hm
      rw [← hm] at hlen
      simp only [← hm] at hrun HO
      clear hT i0 i1 hm
      have hpi : ((p : Int) < 2) := by omega
      go_wp2_with fail
      clear hrun
      obtain ⟨wo, hwo⟩ : ∃ wo : World, wo = wr := ⟨_, rfl⟩
      subst hwo
      go_loopw [16] (fun i wr => ∃ k : Nat, k ≤ m ∧ i = .int .i64 k ∧ (∀ (j : Nat) (a : Int × Int), j < k → T[j]? = some a → T.all (fun b => holdsB a b.1 == holdsB a b.2) = true) ∧ Below wo.heap.size wo wr) (fun i _ => m - (intOf i).toNat)
      case atStart => exact ⟨0, by omega, rfl, fun j a hj => by omega, Below.refl _ _⟩
      case round =>
        obtain ⟨k, hk, rfl, halk, hbk⟩ := hrel
        have HALK := Lib.hid halk
        clear halk
        by_cases hkm : k < m
        · obtain ⟨a, ha⟩ : ∃ a, T[k]? = some a := ⟨_, List.getElem?_eq_getElem (by rw [← HM.out]; exact hkm)⟩
          have howr := own_below (own_below HO.out hbel (Nat.le_refl _)) hbk (Nat.le_refl _)
          obtain ⟨g2, _, _, hv2, _, _, _, _⟩ := own_addr howr (show 0 < m by omega)
          injection hv2 with hA2 _ hc2
          subst hA2
          subst hc2
          obtain ⟨x1, x2⟩ := own_tie howr ha
          obtain ⟨a0, a1⟩ := a
          have HA := Lib.hid ha
          clear ha
          go_wp2_with fail
          obtain ⟨wb, hwb⟩ : ∃ wb : World, wb = wr := ⟨_, rfl⟩
          subst hwb
          have HOR := Lib.hid howr
          clear x1 x2 howr
          go_loopw [22] (fun i wr => ∃ q : Nat, q ≤ m ∧ i = .int .i64 q ∧ (∀ (j : Nat) (b : Int × Int), j < q → T[j]? = some b → (holdsB (a0, a1) b.1 == holdsB (a0, a1) b.2) = true) ∧ wr.heap[wb.heap.size]? = some (.cells #[.int .i64 a0, .int .i64 a1] 58 (0, 0)) ∧ Below wb.heap.size wb wr) (fun i _ => m - (intOf i).toNat)
          case atStart => exact ⟨0, by omega, rfl, fun j b hj => by omega, new_blk _ rfl, below_new _ _⟩
          case round =>
            obtain ⟨q, hq, rfl, halq, hblk, hbq⟩ := hrel
            have HALQ := Lib.hid halq
            clear halq
            by_cases hqm : q < m
            · obtain ⟨d, hd⟩ : ∃ d, T[q]? = some d := ⟨_, List.getElem?_eq_getElem (by rw [← HM.out]; exact hqm)⟩
              obtain ⟨y1, y2⟩ := own_tie (own_below HOR.out hbq (Nat.le_refl _)) hd
              obtain ⟨d0, d1⟩ := d
              have HD := Lib.hid hd
              have ba0 := cell_of_blk hblk 0
              have ba1 := cell_of_blk hblk 1
              simp only [List.getElem?_toArray, List.getElem?_cons_zero, List.getElem?_cons_succ] at ba0 ba1
              have hbl := blk_lt hblk
              obtain ⟨R0, hR0⟩ : ∃ R, R = holdsB (a0, a1) d0 := ⟨_, rfl⟩
              obtain ⟨R1, hR1⟩ : ∃ R, R = holdsB (a0, a1) d1 := ⟨_, rfl⟩
              have cH0 := fun w => holds_any a0 a1 d0 w
              have cH1 := fun w => holds_any a0 a1 d1 w
              simp only [← hR0] at cH0
              simp only [← hR1] at cH1
              have CH0 := Lib.hid cH0
              have CH1 := Lib.hid cH1
              have HR0 := Lib.hid hR0
              have HR1 := Lib.hid hR1
              have HBK := Lib.hid hblk
              clear hd cH0 cH1 hR0 hR1 hblk
              go_wp2_with fail
              have ba0w := al_c ba0 (.cells #[.int .i64 d0, .int .i64 d1] 58)
              have ba1w := al_c ba1 (.cells #[.int .i64 d0, .int .i64 d1] 58)
              have kb := new_blk (W := wr) (.cells #[.int .i64 d0, .int .i64 d1] 58) rfl
              have bb0 := cell_of_blk kb 0
              have bb1 := cell_of_blk kb 1
              simp only [List.getElem?_toArray, List.getElem?_cons_zero, List.getElem?_cons_succ] at bb0 bb1
              have hwx : Below wr.heap.size wr (wr.alloc (.cells #[.int .i64 d0, .int .i64 d1] 58)) := below_new _ _
              generalize wr.alloc (.cells #[.int .i64 d0, .int .i64 d1] 58) = wx at ba0w ba1w bb0 bb1 hwx ⊢
              clear ba0 ba1 kb y1 y2
              have hS : wx.drew.cell? ⟨wb.heap.size, 0, none⟩ = some (.int .i64 a0) ∧ wx.drew.cell? ⟨wb.heap.size, 1, none⟩ = some (.int .i64 a1) ∧ wx.drew.cell? ⟨wr.heap.size, 0, none⟩ = some (.int .i64 d0) ∧ wx.drew.cell? ⟨wr.heap.size, 1, none⟩ = some (.int .i64 d1) ∧ Below wx.heap.size wx wx.drew := ⟨ba0w, ba1w, bb0, bb1, (Below.refl _ _).drew⟩
              go_region_held3 (fun w' => w'.cell? ⟨wb.heap.size, 0, none⟩ = some (.int .i64 a0) ∧ w'.cell? ⟨wb.heap.size, 1, none⟩ = some (.int .i64 a1) ∧ w'.cell? ⟨wr.heap.size, 0, none⟩ = some (.int .i64 d0) ∧ w'.cell? ⟨wr.heap.size, 1, none⟩ = some (.int .i64 d1) ∧ Below wx.heap.size wx w')
                (first
                  | with_reducible exact hS
                  | (go_split_ands; with_reducible exact ⟨stay_c ‹_› hbc (Nat.le_refl _), stay_c ‹_› hbc (Nat.le_refl _), stay_c ‹_› hbc (Nat.le_refl _), stay_c ‹_› hbc (Nat.le_refl _), stay_b ‹_› hbc⟩))
                (first
                  | ((with_reducible refine (CH0.out _).mono ?_); rintro e wc ⟨he, hbc⟩; subst he)
                  | ((with_reducible refine (CH1.out _).mono ?_); rintro e wc ⟨he, hbc⟩; subst he))
              rename_i hH
              obtain ⟨_, _, _, _, hBx⟩ := hH
              have hbn := stay_b (stay_b hbq hwx) hBx
              have hblk2 := blk_below (blk_below HBK.out hwx hbl) hBx (Nat.lt_of_lt_of_le hbl hwx.size)
              have HBN := Lib.hid hbn
              have HBK2 := Lib.hid hblk2
              clear hbn hblk2
              by_cases hRR : R0 = R1
              · have hnx : ∀ (j : Nat) (b : Int × Int), j < q + 1 → T[j]? = some b → (holdsB (a0, a1) b.1 == holdsB (a0, a1) b.2) = true := by
                  intro j b hj hjb
                  by_cases hjq : j < q
                  · exact HALQ.out j b hjq hjb
                  · obtain rfl : j = q := by omega
                    rw [HD.out] at hjb
                    obtain rfl := Option.some.inj hjb
                    rw [← HR0.out, ← HR1.out, hRR]
                    simp
                have HNX := Lib.hid hnx
                clear hnx
                subst hRR
                cases R0
                all_goals
                  go_wp2
                  go_roundw
                  case rel => exact ⟨q + 1, by omega, by go_num, HNX.out, HBK2.out, HBN.out⟩
                  case measure => simp [intOf]; omega
              · have hRR2 : (R0 == R1) = false := by simpa using hRR
                have hG : G = false := GN.out p hp (by
                  rw [HTT.out]
                  exact side_no (List.mem_of_getElem? HA.out) (List.mem_of_getElem? HD.out) (by rw [← HR0.out, ← HR1.out]; exact hRR2))
                have HG := Lib.hid hG
                clear hG
                cases R0 <;> cases R1
                all_goals first
                  | exact absurd rfl hRR
                  | (clear hRR hRR2
                     go_wp2
                     go_ret
                     exact ⟨by rw [HG.out]; rfl, stay_b HB1.out (stay_b hbel (stay_b hbk HBN.out))⟩)
            · have hside : T.all (fun b => holdsB (a0, a1) b.1 == holdsB (a0, a1) b.2) = true := by
                rw [List.all_eq_true]
                intro b hb
                obtain ⟨j, hj, hjb⟩ := List.getElem_of_mem hb
                exact HALQ.out j b (by have := HM.out; omega) (by rw [List.getElem?_eq_getElem hj, hjb])
              have HS := Lib.hid hside
              clear hside
              go_wp2
              go_roundw
              case rel => exact ⟨k + 1, by omega, by go_num, fun j a hj hja => by
                by_cases hjk : j < k
                · exact HALK.out j a hjk hja
                · obtain rfl : j = k := by omega
                  rw [HA.out] at hja
                  obtain rfl := Option.some.inj hja
                  exact HS.out, stay_b hbk hbq⟩
              case measure => simp [intOf]; omega
        · have hside : goodSide (TT p) = true := by
            rw [HTT.out]
            unfold goodSide
            rw [List.all_eq_true]
            intro a ha
            obtain ⟨j, hj, hja⟩ := List.getElem_of_mem ha
            exact HALK.out j a (by have := HM.out; omega) (by rw [List.getElem?_eq_getElem hj, hja])
          have HS := Lib.hid hside
          clear hside
          go_wp2
          go_roundw
          case rel => exact ⟨p + 1, by omega, by go_num, fun j hj => by
            by_cases hjp : j < p
            · exact HALL.out j hjp
            · obtain rfl : j = p := by omega
              exact HS.out, stay_b hbel hbk⟩
          case measure => simp [intOf]; omega
    · obtain rfl : p = 2 := by omega
      have hG : G = true := GB.out (HALL.out 0 (by omega)) (HALL.out 1 (by omega))
      have HG := Lib.hid hG
      clear hG
      go_wp2
      go_ret
      exact ⟨by rw [HG.out]; rfl, stay_b HB1.out hbel⟩
end Go.Proofs.Ytjikhdnlcoohbaa
