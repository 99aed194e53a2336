/- The document's PictureOf. -/
import Derived.Test.YtpkjekedgodccaaGreatDoorK36
import Derived.Test.YtpkjekedgodccaaGreatDoorK40
namespace Go.Proofs.YtpkjekedgodccaaGreatDoor
set_option linter.unusedSimpArgs false
set_option linter.unusedVariables false
section
open Go.RowKit Go.Maps
theorem wrap_sum {c p q : Int} (h : wrap64 q = p) (hc : 0 ≤ c ∧ c ≤ 15) (hp : 0 ≤ p ∧ p ≤ 8) : wrap64 (c + wrap64 q) = c + p := by
 rw [h]
 exact IntWalk.wrap64_in _ (by omega)
set_option maxRecDepth 100000 in
set_option maxHeartbeats 12800000 in
theorem picRef_any (W H : Nat) (Am Ac Ap As : Option Addr) (nm cm nc cc np cp ns cS : Nat) (mask : List Int) (cs : List C5) (L : List T3) (ms : List V6) (sts : List Stk) (w : World) (hS : ShM w W H Am nm mask Ac nc cs) (hL : trisL W mask = L) (hp : Rd w 6 Ap np (mcs ms)) (hst : StkR w As ns sts) (hv : VwP L ms sts) (hP : PicP (tops L ms sts)) :
    Calls Tryz.prog 11 #[.agg #[.int .i64 W, .int .i64 H, .slice Am nm cm, .slice Ac nc cc, .slice Ap np cp, .slice As ns cS]] w fun e w' => e = .returned (.string ⟨(picA (tops L ms sts)).toArray⟩) ∧ Below w.heap.size w w' := by
  have kb0 := heap_alloc_new w (.cells #[.int .i64 W, .int .i64 H, .slice Am nm cm, .slice Ac nc cc, .slice Ap np cp, .slice As ns cS] 29)
  have hb0 := below_new w (.cells #[.int .i64 W, .int .i64 H, .slice Am nm cm, .slice Ac nc cc, .slice Ap np cp, .slice As ns cS] 29)
  have a0 := cell_of_blk kb0 0
  have a1 := cell_of_blk kb0 1
  have a2 := cell_of_blk kb0 2
  have a3 := cell_of_blk kb0 3
  have a4 := cell_of_blk kb0 4
  have a5 := cell_of_blk kb0 5
  simp only [List.getElem?_toArray, List.getElem?_cons_zero, List.getElem?_cons_succ] at a0 a1 a2 a3 a4 a5
  have hsz0 : w.heap.size ≤ (w.alloc (.cells #[.int .i64 W, .int .i64 H, .slice Am nm cm, .slice Ac nc cc, .slice Ap np cp, .slice As ns cS] 29)).heap.size := hb0.size
  have cO := topRef_any W H Am Ac Ap As nm cm nc cc np cp ns cS mask cs L ms sts (w.alloc (.cells #[.int .i64 W, .int .i64 H, .slice Am nm cm, .slice Ac nc cc, .slice Ap np cp, .slice As ns cS] 29)) (hS.below hb0) hL (hp.below hb0) (hst.below hb0) hv
  have htl := tops_len L ms sts
  obtain ⟨l, hl⟩ : ∃ l, l = tops L ms sts := ⟨_, rfl⟩
  rw [← hl] at cO hP htl ⊢
  obtain ⟨RES, hRES⟩ : ∃ r, r = picA l := ⟨_, rfl⟩
  rw [← hRES]
  have HRES := Lib.hid hRES
  have CO := Lib.hid cO
  have HP := Lib.hid hP.2.2.1
  have HB := Lib.hid hP.2.2.2
  have h0 := hP.1
  have hl1 := hP.2.1
  have HB0 := Lib.hid hb0
  clear cO hS hp hst hv hb0 kb0 hP hRES
  go_enter Tryz.func11, Tryz.ntmps11
  go_wp2_with fail
  generalize w.alloc (.cells #[.int .i64 W, .int .i64 H, .slice Am nm cm, .slice Ac nc cc, .slice Ap np cp, .slice As ns cS] 29) = w0 at a0 a1 a2 a3 a4 a5 HB0 CO hsz0 ⊢
  refine CO.out.mono ?_
  rintro e w2 ⟨v, rfl, hrow, hb2⟩
  rw [← htl] at hrow
  obtain ⟨n, hn⟩ : ∃ n, n = l.length := ⟨_, rfl⟩
  obtain ⟨A, c, hv, _, _⟩ := own_slice hrow
  subst hv
  have hr := Rd.of_own hrow
  obtain ⟨bR, oR, hA, hbR, r0, r1, _⟩ := Rd.sn hr (i := 0) (s := l[0]) (List.getElem?_eq_getElem h0) rfl
  subst hA
  obtain ⟨q, hq⟩ : ∃ q, q = l[0] := ⟨_, rfl⟩
  rw [← hq] at r0 r1
  rw [Nat.zero_mul, Nat.add_zero] at r0 r1
  have h00 := lo0 h0
  rw [← hq] at h00
  have HR := Lib.hid hr
  have HB2 := Lib.hid (HB0.out.trans (hb2.mono hsz0))
  have hsz2 := HB2.out.size
  have H00 := Lib.hid h00
  have hln : (0 : Int) < (l.length : Int) := by omega
  clear hrow hb2 hr hq h00 CO a0 a1 a2 a3 a4 a5 hn n htl hl
  go_wp2_with fail
  refine rg_plain (fin := ?z1) [.slice (some ⟨bR, oR, none⟩) l.length c, .pointer (some ⟨bR, oR, none⟩), .pointer (some ⟨bR, oR, none⟩), .pointer (some ⟨bR, oR, none⟩), .int .i64 q.1.1, .slice (some ⟨bR, oR, none⟩) l.length c, .pointer (some ⟨bR, oR, none⟩), .pointer (some ⟨bR, oR, none⟩), .pointer (some ⟨bR, oR, none⟩), .int .i64 q.1.1, .slice (some ⟨bR, oR, none⟩) l.length c, .pointer (some ⟨bR, oR, none⟩), .pointer (some ⟨bR, oR, none⟩), .pointer (some ⟨bR, oR + 1, none⟩), .int .i64 q.1.2.1, .slice (some ⟨bR, oR, none⟩) l.length c, .pointer (some ⟨bR, oR, none⟩), .pointer (some ⟨bR, oR, none⟩), .pointer (some ⟨bR, oR + 1, none⟩), .int .i64 q.1.2.1, .int .i64 q.1.1, .int .i64 q.1.1, .int .i64 q.1.2.1, .int .i64 q.1.2.1] (fun WN => WN.cell? ⟨bR, oR, none⟩ = some (.int .i64 q.1.1) ∧ WN.cell? ⟨bR, oR + 1, none⟩ = some (.int .i64 q.1.2.1) ∧ Below w2.heap.size w2 WN) ?hf (by kernel_rfl) (by kernel_rfl) rfl ⟨r0, r1, (Below.refl _ _).drew⟩ (fun WN hst => ?hs) (fun WN hst => ?he)
  case hf => simp only [putOps, Act.put, List.setIfInBounds_toArray, List.set_cons_succ, List.set_cons_zero]; exact rfl
  case hs =>
    have HST := Lib.hid hst
    obtain ⟨r0, r1, hbl⟩ := hst
    iterate 24 refine ⟨?_, fun K hK => ?_⟩
    · trivial
    all_goals try (go_simp; exact hK _ HST.out; done)
  case he =>
    obtain ⟨r0, r1, hbl⟩ := hst
    have HBL := Lib.hid hbl
    clear r0 r1 hbl
    go_wp2_with fail
    go_loopw [4, 5, 6, 7, 8] (fun a b p d v wr => ∃ i : Nat, i ≤ l.length ∧ v = .int .i64 i ∧ a = .int .i64 (loX l i) ∧ b = .int .i64 (hiX l i) ∧ p = .int .i64 (loY l i) ∧ d = .int .i64 (hiY l i) ∧ Hid (Below w2.heap.size w2 wr)) (fun _ _ _ _ v _ => l.length - (intOf v).toNat)
    case atStart => exact ⟨0, by omega, rfl, by rw [H00.out.1], by rw [H00.out.2.2.1], by rw [H00.out.2.1], by rw [H00.out.2.2.2], HBL⟩
    case round =>
      clear HBL
      obtain ⟨i, hi, rfl, rfl, rfl, rfl, rfl, hB⟩ := hrel
      obtain ⟨wo, hwo⟩ : ∃ x, x = wr := ⟨_, rfl⟩
      subst hwo
      by_cases hin : i < l.length
      · obtain ⟨s, hs⟩ : ∃ s, l[i]? = some s := ⟨_, List.getElem?_eq_getElem hin⟩
        obtain ⟨bR', oR', hA, _, r0, r1, r2, _⟩ := Rd.sn HR.out hs rfl
        cases hA
        replace r0 := sd r0 hB.out
        replace r1 := sd r1 hB.out
        replace r2 := sd r2 hB.out
        have kS1 := heap_alloc_new wo (.cells #[.int .i64 s.1.1, .int .i64 s.1.2.1, .int .i64 s.1.2.2] 44)
        have y0 := cell_of_blk kS1 0
        have y1 := cell_of_blk kS1 1
        simp only [List.getElem?_toArray, List.getElem?_cons_zero, List.getElem?_cons_succ] at y0 y1
        have hii : (i : Int) < (l.length : Int) := by omega
        have hi0 : (0 : Int) ≤ (i : Int) := by omega
        have HBN := Lib.hid (hB.out.trans ((below_new wo (.cells #[.int .i64 s.1.1, .int .i64 s.1.2.1, .int .i64 s.1.2.2] 44)).mono hB.out.size))
        have e1 : loX l (i + 1) = if s.1.1 < loX l i then s.1.1 else loX l i := fold_step (fun (m : Int) (s : Sn) => if s.1.1 < m then s.1.1 else m) ((l.map (fun (s : Sn) => s.1.1)).headD 0) hs
        have e2 : loY l (i + 1) = if s.1.2.1 < loY l i then s.1.2.1 else loY l i := fold_step (fun (m : Int) (s : Sn) => if s.1.2.1 < m then s.1.2.1 else m) ((l.map (fun (s : Sn) => s.1.2.1)).headD 0) hs
        have e3 : hiX l (i + 1) = if hiX l i < s.1.1 then s.1.1 else hiX l i := fold_step (fun (m : Int) (s : Sn) => if m < s.1.1 then s.1.1 else m) ((l.map (fun (s : Sn) => s.1.1)).headD 0) hs
        have e4 : hiY l (i + 1) = if hiY l i < s.1.2.1 then s.1.2.1 else hiY l i := fold_step (fun (m : Int) (s : Sn) => if m < s.1.2.1 then s.1.2.1 else m) ((l.map (fun (s : Sn) => s.1.2.1)).headD 0) hs
        have E1 := Lib.hid e1
        have E2 := Lib.hid e2
        have E3 := Lib.hid e3
        have E4 := Lib.hid e4
        have hwi : IntKind.i64.wrap ((i : Int) + 1) = ((i + 1 : Nat) : Int) := by rw [IntWalk.i64_in _ (by omega)]; omega
        clear e1 e2 e3 e4 hs kS1
        by_cases g1 : s.1.1 < loX l i <;> by_cases g2 : hiX l i < s.1.1 <;> by_cases g3 : s.1.2.1 < loY l i <;> by_cases g4 : hiY l i < s.1.2.1
        all_goals
          go_wp2
          go_roundw
          case rel => exact ⟨i + 1, by omega, by first | rfl | go_num, by first | rw [E1.out, if_pos g1] | rw [E1.out, if_neg g1], by first | rw [E3.out, if_pos g2] | rw [E3.out, if_neg g2], by first | rw [E2.out, if_pos g3] | rw [E2.out, if_neg g3], by first | rw [E4.out, if_pos g4] | rw [E4.out, if_neg g4], HBN⟩
          case measure => simp [intOf]; omega
      · obtain rfl : i = l.length := by omega
        have hex := ext_bd h0 HB.out
        have hRES := HRES.out
        unfold picA at hRES
        obtain ⟨X0, hX0⟩ : ∃ x, x = loX l l.length := ⟨_, rfl⟩
        obtain ⟨X1, hX1⟩ : ∃ x, x = hiX l l.length := ⟨_, rfl⟩
        obtain ⟨Y0, hY0⟩ : ∃ x, x = loY l l.length := ⟨_, rfl⟩
        obtain ⟨Y1, hY1⟩ : ∃ x, x = hiY l l.length := ⟨_, rfl⟩
        rw [← hX0, ← hX1, ← hY0, ← hY1] at hex hRES ⊢
        obtain ⟨NX, hNX⟩ : ∃ x, x = (X1 - X0 + 1).toNat := ⟨_, rfl⟩
        obtain ⟨NY, hNY⟩ : ∃ x, x = (Y1 - Y0 + 1).toNat := ⟨_, rfl⟩
        have hNX1 : X0 + (NX : Int) = X1 + 1 := by omega
        have hNY1 : Y1 - (NY : Int) = Y0 - 1 := by omega
        have hNX2 : NX ≤ 2000001 := by omega
        have hNY2 : NY ≤ 2000001 := by omega
        rw [← hNX, ← hNY] at hRES
        replace HRES := Lib.hid hRES
        clear hRES hX0 hX1 hY0 hY1 hNX hNY
        go_wp2_with fail
        go_loopw [10, 11] (fun t v wr => ∃ (k : Nat) (y : Int) (s : ByteArray), k ≤ NY ∧ Hid (y = Y1 - (k : Int)) ∧ v = .int .i64 y ∧ t = .string s ∧ Hid (s = ⟨(picT l X0 Y1 NX k).toArray⟩) ∧ s.size ≤ 6000004 * k ∧ Hid (Below wo.heap.size wo wr)) (fun _ v _ => (intOf v - Y0 + 1).toNat)
        case atStart => exact ⟨0, Y1, ⟨#[]⟩, by omega, Lib.hid (by omega), rfl, rfl, Lib.hid rfl, by simp [ByteArray.size], Lib.hid (Below.refl _ _)⟩
        case round =>
          obtain ⟨k, y, S, hk, hy, rfl, rfl, hS, hSb, hZ⟩ := hrel
          obtain ⟨wq, hwq⟩ : ∃ x, x = wr := ⟨_, rfl⟩
          subst hwq
          by_cases hkN : k < NY
          · have hyy : Y0 ≤ y := by have := hy.out; omega
            have hyb : -1000001 ≤ y ∧ y ≤ 1000000 := by have := hy.out; omega
            go_wp2_with fail
            go_loopw [10, 12] (fun t v wz => ∃ (j : Nat) (x : Int) (s : ByteArray), j ≤ NX ∧ Hid (x = X0 + (j : Int)) ∧ v = .int .i64 x ∧ t = .string s ∧ Hid (s = ⟨(picT l X0 Y1 NX k ++ rowP l X0 y j).toArray⟩) ∧ s.size ≤ 6000004 * k + 3 * j ∧ Hid (Below wq.heap.size wq wz)) (fun _ v _ => (X1 + 1 - intOf v).toNat)
            case atStart => exact ⟨0, X0, S, by omega, Lib.hid (by omega), rfl, rfl, Lib.hid (by rw [hS.out]; simp [rowP, cellsT, Lib.join]), by omega, Lib.hid (Below.refl _ _)⟩
            case round =>
              clear hS hSb
              obtain ⟨j, x, s, hj, hx, rfl, rfl, hs, hsb, hZ2⟩ := hrel
              obtain ⟨wp, hwp⟩ : ∃ x, x = wr := ⟨_, rfl⟩
              subst hwp
              by_cases hjN : j < NX
              · have hxx : x ≤ X1 := by have := hx.out; omega
                have hxb : -1000000 ≤ x ∧ x ≤ 1000000 := by have := hx.out; omega
                go_wp2_with fail
                go_loopw [13, 14, 15] (fun c b v wv => ∃ i : Nat, i ≤ l.length ∧ v = .int .i64 i ∧ c = .int .i64 (cov (l.take i) x y) ∧ b = .int .i64 (bak (l.take i) x y) ∧ wv = wp) (fun _ _ v _ => l.length - (intOf v).toNat)
                case atStart => exact ⟨0, by omega, rfl, by rw [List.take_zero, (cov_none (l := []) (x := x) (y := y) rfl).1], by rw [List.take_zero, (cov_none (l := []) (x := x) (y := y) rfl).2], rfl⟩
                case round =>
                  obtain ⟨i, hi, rfl, rfl, rfl, rfl⟩ := hrel
                  by_cases hin : i < l.length
                  · obtain ⟨u, hu⟩ : ∃ s, l[i]? = some s := ⟨_, List.getElem?_eq_getElem hin⟩
                    obtain ⟨bR', oR', hA, _, r0, r1, r2, _, _, _, r6⟩ := Rd.sn HR.out hu rfl
                    cases hA
                    have hBB := stay_b hB.out (stay_b hZ.out hZ2.out)
                    replace r0 := sd r0 hBB
                    replace r1 := sd r1 hBB
                    replace r2 := sd r2 hBB
                    replace r6 := sd r6 hBB
                    have hii : (i : Int) < (l.length : Int) := by omega
                    have hi0 : (0 : Int) ≤ (i : Int) := by omega
                    have hwi : IntKind.i64.wrap ((i : Int) + 1) = ((i + 1 : Nat) : Int) := by rw [IntWalk.i64_in _ (by omega)]; omega
                    have hk3 := HP.out.2 u (List.mem_of_getElem? hu)
                    have hfr := fresh_at HP.out hu
                    have htk : l.take (i + 1) = l.take i ++ [u] := by rw [List.take_add_one, hu]; rfl
                    have hcb := sumK_bd (hasK (l.take i) x y)
                    have hbb := sumK_bd (bakK (l.take i) x y)
                    change 0 ≤ cov (l.take i) x y ∧ cov (l.take i) x y ≤ 15 at hcb
                    change 0 ≤ bak (l.take i) x y ∧ bak (l.take i) x y ≤ 15 at hbb
                    have HTK := Lib.hid htk
                    clear hu hBB htk
                    by_cases hat : u.1.1 = x ∧ u.1.2.1 = y
                    · obtain ⟨rfl, rfl⟩ := hat
                      have hn1 : (u.1.1 != u.1.1) = false := by simp
                      have hn2 : (u.1.2.1 != u.1.2.1) = false := by simp
                      have hnr := cov_near hk3 hfr
                      rw [← HTK.out] at hnr
                      have hpw : 0 ≤ pw u.1.2.2 ∧ pw u.1.2.2 ≤ 8 := by unfold pw; split <;> (try split) <;> (try split) <;> omega
                      have hpe := pw_wrap hk3
                      have hw1 : 0 = 0 := rfl
                      have hw2 : 0 = 0 := rfl
                      have HS1 := Lib.hid (wrap_sum (c := cov (l.take i) u.1.1 u.1.2.1) hpe hcb hpw)
                      have HS2 := Lib.hid (wrap_sum (c := bak (l.take i) u.1.1 u.1.2.1) hpe hbb hpw)
                      clear hpe hw1 hw2 hcb hbb hpw
                      obtain ⟨ub, hub⟩ : ∃ b, b = u.2.2 := ⟨_, rfl⟩
                      rw [← hub] at hnr r6
                      have HNR := Lib.hid hnr
                      clear hnr hfr hub
                      cases ub
                      · have e2 := HNR.out.2
                        rw [if_neg (by decide), Int.add_zero] at e2
                        have E2 := Lib.hid e2
                        clear e2
                        go_wp2
                        go_roundw
                        case rel => exact ⟨i + 1, by omega, by first | rfl | go_num, by rw [HNR.out.1]; exact congrArg _ HS1.out, by rw [E2.out], by first | trivial | rfl⟩
                        case measure => simp [intOf]; omega
                      · have e2 := HNR.out.2
                        rw [if_pos rfl] at e2
                        have E2 := Lib.hid e2
                        clear e2
                        go_wp2
                        go_roundw
                        case rel => exact ⟨i + 1, by omega, by first | rfl | go_num, by rw [HNR.out.1]; exact congrArg _ HS1.out, by rw [E2.out]; exact congrArg _ HS2.out, by first | trivial | rfl⟩
                        case measure => simp [intOf]; omega
                    · have hfa := cov_far (l := l.take i) (s := u) (x := x) (y := y) (by
                        rw [Bool.eq_false_iff]
                        intro hh
                        simp only [atB, Bool.and_eq_true, decide_eq_true_eq] at hh
                        exact hat hh)
                      rw [← HTK.out] at hfa
                      have HFA := Lib.hid hfa
                      clear hfa hfr hcb hbb
                      by_cases hx1 : u.1.1 = x
                      · have hn1 : (u.1.1 != x) = false := by simp [hx1]
                        have hn2 : (u.1.2.1 != y) = true := by simp; exact fun h => hat ⟨hx1, h⟩
                        clear hat hx1
                        go_wp2
                        go_roundw
                        case rel => exact ⟨i + 1, by omega, by first | rfl | go_num, by rw [HFA.out.1], by rw [HFA.out.2], by first | trivial | rfl⟩
                        case measure => simp [intOf]; omega
                      · have hn1 : (u.1.1 != x) = true := by simp [hx1]
                        clear hat hx1
                        go_wp2
                        go_roundw
                        case rel => exact ⟨i + 1, by omega, by first | rfl | go_num, by rw [HFA.out.1], by rw [HFA.out.2], by first | trivial | rfl⟩
                        case measure => simp [intOf]; omega
                  · obtain rfl : i = l.length := by omega
                    rw [List.take_length]
                    have hrs := rowP_succ l X0 y j
                    rw [← hx.out] at hrs
                    have hcb := sumK_bd (hasK l x y)
                    have hbb := sumK_bd (bakK l x y)
                    obtain ⟨cv, hcv⟩ : ∃ c, c = cov l x y := ⟨_, rfl⟩
                    obtain ⟨bv, hbv⟩ : ∃ c, c = bak l x y := ⟨_, rfl⟩
                    change 0 ≤ cov l x y ∧ cov l x y ≤ 15 at hcb
                    change 0 ≤ bak l x y ∧ bak l x y ≤ 15 at hbb
                    rw [← hcv, ← hbv] at hrs ⊢
                    rw [← hcv] at hcb
                    rw [← hbv] at hbb
                    have hnn : ¬ ((l.length : Int) < (l.length : Int)) := by omega
                    have w5 : IntKind.i64.wrap (x + 1) = x + 1 := IntWalk.i64_in _ (by omega)
                    have HRS := Lib.hid hrs
                    have CL1 := Lib.hid (fun W' : World => letter_any cv W' hcb.1 hcb.2)
                    have CL2 := Lib.hid (fun W' : World => letter_any bv W' hbb.1 hbb.2)
                    clear hrs hcv hbv
                    by_cases hj0 : j = 0
                    ·skip
                     have hx0 : ¬ x > X0 := by have := hx.out; omega
                     have hx0b : ¬ X0 < x := by omega
                     by_cases hc0 : cv = 0
                     ·skip
                      have hce : (cv == 0) = true := by simp [hc0]
                      have g2 : ¬ 9223372036854775807 < s.size + 2 := by omega
                      have hnew : s ++ ⟨#[46, 46]⟩ = ⟨(picT l X0 Y1 NX k ++ rowP l X0 y (j + 1)).toArray⟩ := by
                        rw [HRS.out, hs.out, if_pos hj0, show cellT cv bv = [46, 46] from by unfold cellT; rw [if_pos hc0]]
                        show (⟨(picT l X0 Y1 NX k ++ rowP l X0 y j).toArray⟩ : ByteArray) ++ ⟨([46, 46] : List UInt8).toArray⟩ = _
                        rw [txt_app]
                        simp [List.append_assoc]
                      have hns : (s ++ ⟨#[46, 46]⟩).size ≤ 6000004 * k + 3 * (j + 1) := by
                        simp only [ByteArray.size_append]
                        have e1 : ∀ a : UInt8, (⟨#[a]⟩ : ByteArray).size = 1 := fun _ => rfl
                        have e2 : ∀ a b : UInt8, (⟨#[a, b]⟩ : ByteArray).size = 2 := fun _ _ => rfl
                        simp only [e1, e2]
                        omega
                      have HN := Lib.hid hnew
                      clear hnew
                      go_wp2
                      go_roundw
                      case rel => exact ⟨j + 1, x + 1, _, by omega, Lib.hid (by have := hx.out; omega), by first | rfl | go_num, rfl, HN, hns, hZ2⟩
                      case measure => simp [intOf]; omega
                     ·skip
                      have hce : (cv == 0) = false := by simp [hc0]
                      have g2 : ¬ 9223372036854775807 < s.size + 1 := by omega
                      have g3 : ¬ 9223372036854775807 < s.size + 1 + 1 := by omega
                      have hnew : s ++ ⟨#[hexB cv]⟩ ++ ⟨#[hexB bv]⟩ = ⟨(picT l X0 Y1 NX k ++ rowP l X0 y (j + 1)).toArray⟩ := by
                        rw [HRS.out, hs.out, if_pos hj0, show cellT cv bv = [hexB cv, hexB bv] from by unfold cellT; rw [if_neg hc0]]
                        show (⟨(picT l X0 Y1 NX k ++ rowP l X0 y j).toArray⟩ : ByteArray) ++ ⟨([hexB cv] : List UInt8).toArray⟩ ++ ⟨([hexB bv] : List UInt8).toArray⟩ = _
                        rw [txt_app, txt_app]
                        simp [List.append_assoc]
                      have hns : (s ++ ⟨#[hexB cv]⟩ ++ ⟨#[hexB bv]⟩).size ≤ 6000004 * k + 3 * (j + 1) := by
                        simp only [ByteArray.size_append]
                        have e1 : ∀ a : UInt8, (⟨#[a]⟩ : ByteArray).size = 1 := fun _ => rfl
                        have e2 : ∀ a b : UInt8, (⟨#[a, b]⟩ : ByteArray).size = 2 := fun _ _ => rfl
                        simp only [e1, e2]
                        omega
                      have HN := Lib.hid hnew
                      clear hnew
                      go_wp2_with (first
                        | (go_at_call 23; with_reducible refine (CL1.out _).mono ?_; rintro e w5 ⟨rfl, hb5⟩; have HB5 := Lib.hid (stay_b hZ2.out hb5); clear hb5)
                        | (go_at_call 23; with_reducible refine (CL2.out _).mono ?_; rintro e w6 ⟨rfl, hb6⟩; have HB6 := Lib.hid (stay_b HB5.out hb6); clear hb6))
                      go_roundw
                      case rel => exact ⟨j + 1, x + 1, _, by omega, Lib.hid (by have := hx.out; omega), by first | rfl | go_num, rfl, HN, hns, HB6⟩
                      case measure => simp [intOf]; omega
                    ·skip
                     have hx0 : x > X0 := by have := hx.out; omega
                     have hx0b : X0 < x := by omega
                     by_cases hc0 : cv = 0
                     ·skip
                      have g1 : ¬ 9223372036854775807 < s.size + 1 := by omega
                      have hce : (cv == 0) = true := by simp [hc0]
                      have g2 : ¬ 9223372036854775807 < s.size + 1 + 2 := by omega
                      have hnew : (s ++ ⟨#[32]⟩) ++ ⟨#[46, 46]⟩ = ⟨(picT l X0 Y1 NX k ++ rowP l X0 y (j + 1)).toArray⟩ := by
                        rw [HRS.out, hs.out, if_neg hj0, show cellT cv bv = [46, 46] from by unfold cellT; rw [if_pos hc0]]
                        show (⟨(picT l X0 Y1 NX k ++ rowP l X0 y j).toArray⟩ : ByteArray) ++ ⟨([32] : List UInt8).toArray⟩ ++ ⟨([46, 46] : List UInt8).toArray⟩ = _
                        rw [txt_app, txt_app]
                        simp [List.append_assoc]
                      have hns : ((s ++ ⟨#[32]⟩) ++ ⟨#[46, 46]⟩).size ≤ 6000004 * k + 3 * (j + 1) := by
                        simp only [ByteArray.size_append]
                        have e1 : ∀ a : UInt8, (⟨#[a]⟩ : ByteArray).size = 1 := fun _ => rfl
                        have e2 : ∀ a b : UInt8, (⟨#[a, b]⟩ : ByteArray).size = 2 := fun _ _ => rfl
                        simp only [e1, e2]
                        omega
                      have HN := Lib.hid hnew
                      clear hnew
                      go_wp2
                      go_roundw
                      case rel => exact ⟨j + 1, x + 1, _, by omega, Lib.hid (by have := hx.out; omega), by first | rfl | go_num, rfl, HN, hns, hZ2⟩
                      case measure => simp [intOf]; omega
                     ·skip
                      have g1 : ¬ 9223372036854775807 < s.size + 1 := by omega
                      have hce : (cv == 0) = false := by simp [hc0]
                      have g2 : ¬ 9223372036854775807 < s.size + 1 + 1 := by omega
                      have g3 : ¬ 9223372036854775807 < s.size + 1 + 1 + 1 := by omega
                      have hnew : (s ++ ⟨#[32]⟩) ++ ⟨#[hexB cv]⟩ ++ ⟨#[hexB bv]⟩ = ⟨(picT l X0 Y1 NX k ++ rowP l X0 y (j + 1)).toArray⟩ := by
                        rw [HRS.out, hs.out, if_neg hj0, show cellT cv bv = [hexB cv, hexB bv] from by unfold cellT; rw [if_neg hc0]]
                        show (⟨(picT l X0 Y1 NX k ++ rowP l X0 y j).toArray⟩ : ByteArray) ++ ⟨([32] : List UInt8).toArray⟩ ++ ⟨([hexB cv] : List UInt8).toArray⟩ ++ ⟨([hexB bv] : List UInt8).toArray⟩ = _
                        rw [txt_app, txt_app, txt_app]
                        simp [List.append_assoc]
                      have hns : ((s ++ ⟨#[32]⟩) ++ ⟨#[hexB cv]⟩ ++ ⟨#[hexB bv]⟩).size ≤ 6000004 * k + 3 * (j + 1) := by
                        simp only [ByteArray.size_append]
                        have e1 : ∀ a : UInt8, (⟨#[a]⟩ : ByteArray).size = 1 := fun _ => rfl
                        have e2 : ∀ a b : UInt8, (⟨#[a, b]⟩ : ByteArray).size = 2 := fun _ _ => rfl
                        simp only [e1, e2]
                        omega
                      have HN := Lib.hid hnew
                      clear hnew
                      go_wp2_with (first
                        | (go_at_call 23; with_reducible refine (CL1.out _).mono ?_; rintro e w5 ⟨rfl, hb5⟩; have HB5 := Lib.hid (stay_b hZ2.out hb5); clear hb5)
                        | (go_at_call 23; with_reducible refine (CL2.out _).mono ?_; rintro e w6 ⟨rfl, hb6⟩; have HB6 := Lib.hid (stay_b HB5.out hb6); clear hb6))
                      go_roundw
                      case rel => exact ⟨j + 1, x + 1, _, by omega, Lib.hid (by have := hx.out; omega), by first | rfl | go_num, rfl, HN, hns, HB6⟩
                      case measure => simp [intOf]; omega
              · have hjj : j = NX := by omega
                subst hjj
                have hxx : ¬ x ≤ X1 := by have := hx.out; omega
                have g1 : ¬ 9223372036854775807 < s.size + 1 := by omega
                have w6 : IntKind.i64.wrap (y - 1) = y - 1 := IntWalk.i64_in _ (by omega)
                have hnew : s ++ ⟨#[10]⟩ = ⟨(picT l X0 Y1 j (k + 1)).toArray⟩ := by
                  rw [picT_succ, hs.out, ← hy.out, ← List.append_assoc]
                  exact txt_app _ [10]
                have hns : (s ++ ⟨#[10]⟩).size ≤ 6000004 * (k + 1) := by
                  rw [ByteArray.size_append]
                  have e1 : (⟨#[10]⟩ : ByteArray).size = 1 := rfl
                  omega
                have HN := Lib.hid hnew
                have HB3 := Lib.hid (stay_b hZ.out hZ2.out)
                clear hnew
                go_wp2
                go_roundw
                case rel => exact ⟨k + 1, y - 1, _, by omega, Lib.hid (by have := hy.out; omega), by first | rfl | go_num, rfl, HN, hns, HB3⟩
                case measure => simp [intOf]; omega
          · have hkk : k = NY := by omega
            subst hkk
            have hyy : ¬ Y0 ≤ y := by have := hy.out; omega
            have HBF := Lib.hid (HB2.out.trans ((stay_b hB.out hZ.out).mono hsz2))
            have hfin : S = ⟨RES.toArray⟩ := by rw [hS.out, HRES.out]
            have HF := Lib.hid hfin
            clear hfin hS
            go_wp2_with fail
            go_ret
            exact ⟨by rw [HF.out]; rfl, HBF.out⟩
end
end Go.Proofs.YtpkjekedgodccaaGreatDoor
