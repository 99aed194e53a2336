/- The walk of StampsRound. -/
import Derived.Test.YtjikhdnlcoohbaaRd2
namespace Go.Proofs.Ytjikhdnlcoohbaa
set_option linter.unusedSimpArgs false
set_option linter.unusedVariables false
open Go.RowKit St
attribute [local go_sem] Oper.semAt_some

def manyL : List Int := [1, 2, 6, 16, 50, 144, 462, 1392]
theorem many_at {N : Nat} (h1 : 1 ≤ N) (h8 : N ≤ 8) : (vis manyL)[N - 1]? = some (.int .i64 ((ordersOf N N []).length : Int)) := by
  rw [(orders_grow (n := N) (by omega)).length_eq, counts N (by omega) h8]
  have h : N = 1 ∨ N = 2 ∨ N = 3 ∨ N = 4 ∨ N = 5 ∨ N = 6 ∨ N = 7 ∨ N = 8 := by omega
  rcases h with rfl | rfl | rfl | rfl | rfl | rfl | rfl | rfl <;> rfl
theorem drop_rev {o : List Int} {m : Nat} {z : Int} (h : o[m]? = some z) : (o.drop m).reverse = (o.drop (m + 1)).reverse ++ [z] := by
  have hm := (List.getElem?_eq_some_iff.1 h).1
  have hz : o[m] = z := (List.getElem?_eq_some_iff.1 h).2
  rw [List.drop_eq_getElem_cons hm, List.reverse_cons, hz]
set_option maxRecDepth 100000 in
set_option maxHeartbeats 6400000 in
theorem round_walk (n which : Int) (w : World) (n1 : -9223372036854775808 ≤ n) (n2 : n ≤ 9223372036854775807) (m1 : -9223372036854775808 ≤ which) (m2 : which ≤ 9223372036854775807) :
    Calls Try.prog 6 #[.int .i64 n, .int .i64 which] w fun e w' => e = .returned (.bool true) ∧ Below w.heap.size w w' := by
  have p1 := pick_lo n 8 (by omega)
  have p2 := pick_hi n 8 (by omega)
  obtain ⟨N, hN⟩ : ∃ N : Nat, 1 + pick n 8 = (N : Int) := ⟨(1 + pick n 8).toNat, by omega⟩
  have hN1 : 1 ≤ N := by omega
  have hN8 : N ≤ 8 := by omega
  have cP := fun (w1 : World) => picked_any n 8 w1 n1 n2 (by omega)
  have hw1 : IntKind.i64.wrap (1 + pick n 8) = (N : Int) := by rw [IntWalk.i64_in _ (by omega)]; exact hN
  have cA := fun w1 : World => all_ok N hN1 hN8 w1
  have hcnt := orders_len N hN1 hN8
  rw [← (orders_grow (n := N) (by omega)).length_eq] at hcnt
  have hma := many_at hN1 hN8
  have hop := fun L (hL : L ∈ ordersOf N N []) => orders_perm hL
  obtain ⟨O, hO⟩ : ∃ O, O = ordersOf N N [] := ⟨_, rfl⟩
  rw [← hO] at cA hcnt hma hop
  have q1 := pick_lo which (O.length : Int) (by omega)
  have q2 := pick_hi which (O.length : Int) (by omega)
  have cQ := fun (w1 : World) => picked_any which (O.length : Int) w1 m1 m2 (by omega)
  obtain ⟨q, hq⟩ : ∃ q : Nat, pick which (O.length : Int) = (q : Int) := ⟨(pick which (O.length : Int)).toNat, by omega⟩
  rw [hq] at cQ
  have hqO : q < O.length := by omega
  obtain ⟨L, hL⟩ : ∃ z, O[q]? = some z := ⟨_, List.getElem?_eq_getElem hqO⟩
  obtain ⟨hLp, hLg⟩ := hop L (List.mem_of_getElem? hL)
  obtain ⟨P8, hP8⟩ : ∃ P8, P8 = pick n 8 := ⟨_, rfl⟩
  rw [← hP8] at cP hw1
  have CP := Lib.hid cP
  have CA := Lib.hid cA
  have CQ := Lib.hid cQ
  have HMA := Lib.hid hma
  have HLL := Lib.hid hL
  have HLP := Lib.hid hLp
  have HLG := Lib.hid hLg
  clear p1 p2 hN cP cA hma hop hO q1 q2 cQ hq hL hLp hLg hP8
  have cM : ∀ w2, Below (w.alloc (.cells #[.int .i64 1, .int .i64 2, .int .i64 6, .int .i64 16, .int .i64 50, .int .i64 144, .int .i64 462, .int .i64 1392] 3)).heap.size (w.alloc (.cells #[.int .i64 1, .int .i64 2, .int .i64 6, .int .i64 16, .int .i64 50, .int .i64 144, .int .i64 462, .int .i64 1392] 3)) w2 → w2.cell? ⟨w.heap.size, N - 1, none⟩ = some (.int .i64 O.length) := by
    intro w2 hb
    have h0 := new_blk (W := w) (.cells (vis manyL).toArray 3) rfl
    have h2 := blk_below (w' := w2) h0 hb (blk_lt h0)
    rw [cell_of_blk h2 (N - 1)]
    have := HMA.out
    simpa using this
  have CM := Lib.hid cM
  have hw2 : IntKind.i64.wrap ((N : Int) - 1) = ((N - 1 : Nat) : Int) := by rw [IntWalk.i64_in _ (by omega)]; omega
  have hN1' : N - 1 < 8 := by omega
  clear cM
  go_enter Try.func6, Try.ntmps6
  go_wp2_with (first
    | (go_at_call 19; with_reducible refine (CP.out _).mono ?_; rintro e w1 ⟨rfl, rfl⟩)
    | (go_at_call 19; with_reducible refine (CQ.out _).mono ?_; rintro e w3 ⟨rfl, rfl⟩)
    | (go_at_call 15; refine (CA.out _).mono ?_; rintro e w2 ⟨v2, vals2, rfl, ho2, hr2, hb2⟩; obtain ⟨g2, c2, cur2, hv2, _, _, _, hg2⟩ := own_addr ho2 hcnt.1; subst hv2; have hmc := CM.out _ hb2; obtain ⟨g, c, e1, e2, e3⟩ := hr2.2 q L HLL.out; obtain ⟨b4, o4, e5, _, hc4⟩ := (Rd.of_own ho2).2 hcnt.1; cases e5; have hcL := hc4 q _ e1; rw [Nat.zero_add] at hcL))
  have hbw2 : Below w.heap.size w w2 := (below_new w _).trans (hb2.mono (by simp))
  have E2 := Lib.hid e2
  have hlen := e2.1
  have HLN := Lib.hid hlen
  clear hmc hcL hc4 ho2 hg2 e1 e2 hlen hr2
  go_loopw [10, 11] (fun v i wr => ∃ m : Nat, m ≤ N ∧ i = .int .i64 ((m : Int) - 1) ∧ wr.ownsRow w2.heap.size 3 1 v (N - m) (vis (L.drop m).reverse) ∧ Below w2.heap.size w2 wr) (fun _ i _ => (intOf i + 1).toNat)
  case atStart =>
    refine ⟨N, Nat.le_refl _, by go_num, ?_, Below.refl _ _⟩
    rw [List.drop_of_length_le (by rw [HLN.out]; exact Nat.le_refl _), Nat.sub_self]
    exact World.ownsRow_nil _ _ _ _
  case round =>
    obtain ⟨m, hm, rfl, hown, hbel⟩ := hrel
    rcases m with _ | m
    · rw [List.drop_zero, Nat.sub_zero] at hown
      obtain ⟨gb, cb, curb, rfl, _, _, _, _⟩ := own_addr hown (by omega)
      have hrb := Rd.of_own hown
      have E3 := E2.out.keep (KpI.of_below hbel)
      obtain ⟨z, hz⟩ : ∃ z, L[N - 1]? = some z := ⟨_, List.getElem?_eq_getElem (by rw [HLN.out]; omega)⟩
      have hcz : wr.cell? ⟨g, N - 1, none⟩ = some (.int .i64 z) := by
        have := E3.rd.at_fn (show N - 1 < N by omega)
        rw [Nat.zero_add, fn_at hz] at this
        exact this
      obtain ⟨_, _, e9, hb, _⟩ := E3.rd.2 (by omega)
      cases e9
      have hsub := E3.rd.sub (lo := 0) (hi := N - 1) (by omega) (by omega)
      simp only [Nat.add_zero, Nat.sub_zero, List.drop_zero] at hsub
      have hgl : g < wr.heap.size := hb
      have hcN : N - 1 ≤ c := by have := E2.out.2.1; omega
      have hN2 : N - 1 ≤ N := by omega
      obtain ⟨k1, k2⟩ := back_ok HLP.out HLG.out
      obtain ⟨u1, u2⟩ := under_ok HLP.out HLG.out hz
      have cM1 := fun (w4 : World) (h4 : Rd w4 1 (some ⟨gb, 0, none⟩) N (vis L.reverse)) => may_ok (some ⟨gb, 0, none⟩) N cb L.reverse w4 h4 (chkE_of k1 hN1 hN8)
      have cM2 := fun (w4 : World) (A4 : Option Addr) (c4 : Nat) (h4 : Rd w4 1 A4 N (vis ([z] ++ L.take (N - 1)))) => may_ok A4 N c4 ([z] ++ L.take (N - 1)) w4 h4 (chkE_of u1 hN1 hN8)
      rw [gdO_of k1 k2] at cM1
      rw [gdO_of u1 u2] at cM2
      have CM1 := Lib.hid cM1
      have CM2 := Lib.hid cM2
      have HSB := Lib.hid hsub
      have HRB := Lib.hid hrb
      clear cM1 cM2 k1 k2 u1 u2 hz E3 hown hrb hsub
      obtain ⟨M, hM⟩ : ∃ M, M = N - 1 := ⟨_, rfl⟩
      have hMN : M < N := by omega
      have hM1 : 1 + M = N := by omega
      rw [← hM] at hw2 hcz HSB hcN hN2 CM2 hN1' ⊢
      have HM := Lib.hid hM
      clear hM
      go_upto_region 12 with fail
      have hS : wr.drew.cell? ⟨g, M, none⟩ = some (.int .i64 z) ∧ Rd wr.drew 1 (some ⟨g, 0, none⟩) (M) (vis (L.take (M))) ∧ Below wr.heap.size wr wr.drew := ⟨hcz, HSB.out.drew, (Below.refl _ _).drew⟩
      go_region_held3 (fun w' => w'.cell? ⟨g, M, none⟩ = some (.int .i64 z) ∧ Rd w' 1 (some ⟨g, 0, none⟩) (M) (vis (L.take (M))) ∧ Below wr.heap.size wr w')
        (first
          | with_reducible exact hS
          | with_reducible exact ⟨al_c hcz _, (HSB.out.alloc _).drew, (below_new wr _).drew⟩
          | exact ⟨(al_c hcz _ : (wr.alloc _).cell? _ = _), (HSB.out.alloc _).drew, (below_new wr _).drew⟩
          | exact ⟨keep_c hcz hbp hgl, HSB.out.below hbp, hbp⟩)
        (first
          | ((refine step_app_rd rfl (.tmp 65) (.tmp 70) rfl wr.heap.size _ 1 [z] (L.take (M)) rfl (World.ownsRow_lit _ #[.int .i64 z] 1 (Nat.le_refl _) (by decide) rfl) (by simp) g 0 (M) c rfl (HSB.out.below (below_new wr _).drew) (by omega) ?_); intro v5 w5 hown5 hb5 hg5; have hbp := (below_new wr _).drew.trans hb5))
      all_goals
        rename_i hH
        clear hH
        rw [hM1] at hown5
        obtain ⟨A5, c5, hv5⟩ := own_sl hown5
        subst hv5
        have hrd5 := Rd.of_own hown5
        have hrb5 := HRB.out.below hbp
        have hbw5 : Below w.heap.size w w5 := (hbw2.trans (hbel.mono hbw2.size)).trans (hbp.mono (Nat.le_trans hbw2.size hbel.size))
        clear hown5 hg5 hb5
        go_wp2_with fail
        refine (CM1.out _ hrb5).mono ?_
        rintro e w6 ⟨rfl, hb6⟩
        go_wp2_with fail
        refine (CM2.out _ _ _ (hrd5.below hb6)).mono ?_
        rintro e w7 ⟨rfl, hb7⟩
        go_wp2
        go_ret
        exact ⟨rfl, stay_b (stay_b hbw5 hb6) hb7⟩
    · have e0 : (((m + 1 : Nat) : Int) - 1) = (m : Int) := by omega
      rw [e0]
      obtain ⟨b1, o1, z, hA, hb, hz, hcz⟩ := (E2.out.rd.below hbel).int (show m < N by omega)
      cases hA
      rw [Nat.zero_add] at hcz
      have hdr := drop_rev hz
      have HDR := Lib.hid hdr
      have hm0 : (0 : Int) ≤ (m : Int) := by omega
      have wm : IntKind.i64.wrap ((m : Int) - 1) = (m : Int) - 1 := IntWalk.i64_in _ (by omega)
      clear hdr hz
      go_wp2_with (at_builtin; refine app_ints rfl (.tmp 52) (.tmp 57) rfl w2.heap.size _ (N - (m + 1)) ((L.drop (m + 1)).reverse) [z] rfl hown hbel.size 1 _ rfl rfl rfl (by omega) ?_; intro v' w' hown' hb' _)
      go_roundw
      case rel => exact ⟨m, by omega, by go_num, by rw [HDR.out, show N - m = N - (m + 1) + 1 by omega]; exact hown', hbel.trans hb'⟩
      case measure => simp [intOf]
end Go.Proofs.Ytjikhdnlcoohbaa
