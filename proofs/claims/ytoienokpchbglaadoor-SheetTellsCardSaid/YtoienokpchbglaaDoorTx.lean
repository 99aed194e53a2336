/- The document's SheetText. -/
import Derived.Test.YtoienokpchbglaaDoorDc
namespace Go.Proofs.YtoienokpchbglaaDoor
set_option linter.unusedSimpArgs false
set_option linter.unusedVariables false
open Go.RowKit Go.Maps

def bA (l : List UInt8) : ByteArray := ⟨l.toArray⟩
theorem bA_app (a b : List UInt8) : bA a ++ bA b = bA (a ++ b) := ByteArray.mk_append_mk a b
theorem bA_size (l : List UInt8) : (bA l).size = l.length := by simp [bA, ByteArray.size]
theorem getD_mem {mask : List Int} {i : Nat} {m : Int} (h : mask[i]? = some m) : mask.getD i 0 = m := by simp [List.getD, h]
theorem rowT_take {W : Nat} {mask : List Int} {y x : Nat} (hx : x < W) {m : Int} (h : mask[y * W + x]? = some m) : (rowT W mask y).take (x + 1) = (rowT W mask y).take x ++ [hexU m] := by
  rw [List.take_add_one]
  congr 1
  simp [rowT, List.getElem?_range, hx, List.getD, h]
theorem hexU_lo {m : Int} (h0 : 0 ≤ m) (h1 : m < 10) : [hexU m] = decN m := by
  rw [decN_small h0 h1]
  unfold hexU
  rw [if_pos h1]
theorem hexU_hi {m : Int} (h1 : ¬ m < 10) (h0 : m ≤ 15) : hexU m = UInt8.ofNat (87 + m).toNat := by
  unfold hexU
  rw [if_neg h1, show (87 + m).toNat = 87 + m.toNat by omega]
structure SheetI (mask : List Int) (cs : List C5) : Prop where
  msk : ∀ m ∈ mask, 0 ≤ m ∧ m ≤ 15
  sm : ∀ c ∈ cs, SmC c
  kd : ∀ c ∈ cs, c.2 = 1 ∨ c.2 = 2
  few : cs.length ≤ 3000
set_option maxRecDepth 100000 in
set_option maxHeartbeats 6400000 in
theorem text_any (W H : Nat) (Am Ac : Option Addr) (nm cm nc cc : Nat) (mask : List Int) (cs : List C5) (w : World) (hS : ShM w W H Am nm mask Ac nc cs) (hI : SheetI mask cs) :
    Calls Tryd.prog 15 #[shV W H Am nm cm Ac nc cc] w fun r w' => r = .returned (.string (bA (sheetT W H mask cs))) ∧ Below w.heap.size w w' := by
  have hb0 := below_new w (.cells #[.int .i64 W, .int .i64 H, .slice Am nm cm, .slice Ac nc cc] 25)
  have kb0 := heap_alloc_new w (.cells #[.int .i64 W, .int .i64 H, .slice Am nm cm, .slice Ac nc cc] 25)
  have a0 := cell_of_blk kb0 0
  have a1 := cell_of_blk kb0 1
  have a2 := cell_of_blk kb0 2
  have a3 := cell_of_blk kb0 3
  simp only [List.getElem?_toArray, List.getElem?_cons_zero, List.getElem?_cons_succ] at a0 a1 a2 a3
  have hW8 := hS.dW
  have hH8 := hS.dH
  have HNM := Lib.hid hS.nm_eq
  have HCL := Lib.hid hS.rc.creases_len
  have HRM := Lib.hid (hS.rm.below hb0)
  have HRC := Lib.hid (hS.rc.below hb0)
  have HB0 := Lib.hid hb0
  have HI := Lib.hid hI
  have hnc : nc ≤ 3000 := by have := hI.few; have := HCL.out; omega
  have cW := fun (w1 : World) => dec_any (W : Int) w1 (by omega) (by omega)
  have cH := fun (w1 : World) => dec_any (H : Int) w1 (by omega) (by omega)
  have hl1 := decN_len (n := (W : Int)) (by omega) (by omega)
  have hl2 := decN_len (n := (H : Int)) (by omega) (by omega)
  obtain ⟨A, hA⟩ : ∃ A, A = (⟨(decN (W : Int)).toArray⟩ : ByteArray) := ⟨_, rfl⟩
  obtain ⟨B, hB⟩ : ∃ A, A = (⟨(decN (H : Int)).toArray⟩ : ByteArray) := ⟨_, rfl⟩
  have hAs : A.size = (decN (W : Int)).length := by rw [hA]; simp [ByteArray.size]
  have hBs : B.size = (decN (H : Int)).length := by rw [hB]; simp [ByteArray.size]
  have g1 : ¬ 9223372036854775807 < 6 + A.size := by omega
  have g2 : ¬ 9223372036854775807 < 6 + A.size + 1 := by omega
  have g3 : ¬ 9223372036854775807 < 6 + A.size + 1 + B.size := by omega
  have g4 : ¬ 9223372036854775807 < 6 + A.size + 1 + B.size + 1 := by omega
  have hhead : (⟨#[115, 104, 101, 101, 116, 32]⟩ : ByteArray) ++ A ++ ⟨#[32]⟩ ++ B ++ ⟨#[10]⟩ = bA (headT W H) := by
    rw [hA, hB]
    show bA [115, 104, 101, 101, 116, 32] ++ bA _ ++ bA [32] ++ bA _ ++ bA [10] = _
    rw [bA_app, bA_app, bA_app, bA_app]
    simp [headT]
  have hhl : (headT W H).length ≤ 20 := by simp only [headT, List.length_append, List.length_cons, List.length_nil]; omega
  rw [← hA] at cW
  rw [← hB] at cH
  have CW := Lib.hid cW
  have CH := Lib.hid cH
  have HH := Lib.hid hhead
  clear cW cH hA hB hAs hBs hhead hS kb0 hb0 hI hl1 hl2
  go_enter Tryd.func15, Tryd.ntmps15
  go_upto_region 1 with fail
  generalize w.alloc (.cells #[.int .i64 W, .int .i64 H, .slice Am nm cm, .slice Ac nc cc] 25) = w0 at a0 a1 a2 a3 HRM HRC HB0 ⊢
  have hS : w0.drew.cell? ⟨w.heap.size, 0, none⟩ = some (.int .i64 W) ∧ w0.drew.cell? ⟨w.heap.size, 1, none⟩ = some (.int .i64 H) ∧ Below w0.heap.size w0 w0.drew := ⟨a0, a1, (Below.refl _ _).drew⟩
  have A0 := Lib.hid a0
  have A1 := Lib.hid a1
  have A2 := Lib.hid a2
  have A3 := Lib.hid a3
  clear a0 a1 a2 a3
  go_region_held3 (fun w' => w'.cell? ⟨w.heap.size, 0, none⟩ = some (.int .i64 W) ∧ w'.cell? ⟨w.heap.size, 1, none⟩ = some (.int .i64 H) ∧ Below w0.heap.size w0 w')
    (first
      | with_reducible exact hS
      | with_reducible assumption
      | (go_split_ands; exact ⟨stay_c ‹_› hbc (Nat.le_refl _), stay_c ‹_› hbc (Nat.le_refl _), stay_b ‹_› hbc⟩))
    (first
      | ((with_reducible refine (CW.out _).mono ?_); rintro r wc ⟨rfl, hbc⟩)
      | ((with_reducible refine (CH.out _).mono ?_); rintro r wc ⟨rfl, hbc⟩))
  rename_i hSS
  have HBS := Lib.hid hSS.2.2
  have b1 := hSS.2.1
  clear hSS
  obtain ⟨T0, hT0⟩ : ∃ T, T = ({ data := #[115, 104, 101, 101, 116, 32] } ++ A ++ { data := #[32] } ++ B ++ { data := #[10] } : ByteArray) := ⟨_, rfl⟩
  rw [← hT0]
  have HT0 := Lib.hid (hT0.trans HH.out)
  have hT0b : T0.size ≤ 20 := by rw [HT0.out, bA_size]; exact hhl
  have w1 : IntKind.i64.wrap ((H : Int) - 1) = (H : Int) - 1 := IntWalk.i64_in _ (by omega)
  clear hT0 HH g1 g2 g3 g4 CW CH
  go_wp2_with fail
  clear b1
  go_loopw [3, 4] (fun t y wr => ∃ (k : Nat) (Y : Int) (s : ByteArray), k ≤ H ∧ Hid (Y = (H : Int) - 1 - k) ∧ y = .int .i64 Y ∧ t = .string s ∧ Hid (s = bA (headT W H ++ rowsT W mask H k)) ∧ s.size ≤ 20 + 10 * k ∧ Hid (Below w0.heap.size w0 wr)) (fun _ y _ => ((intOf y) + 1).toNat)
  case atStart => exact ⟨0, (H : Int) - 1, T0, by omega, Lib.hid (by omega), rfl, rfl, Lib.hid (by rw [HT0.out]; simp [rowsT]), by omega, HBS⟩
  case round =>
    obtain ⟨k, Y, s, hk, hY, rfl, rfl, hs, hsb, hB⟩ := hrel
    by_cases hkH : k < H
    · obtain ⟨yN, hyN⟩ : ∃ n : Nat, Y = n := ⟨H - 1 - k, by have := hY.out; omega⟩
      subst hyN
      have hyk : yN = H - 1 - k := by have := hY.out; omega
      have HYK := Lib.hid hyk
      have hyH : yN < H := by omega
      have hY0 : (0 : Int) ≤ (yN : Int) := by omega
      have w2 : IntKind.i64.wrap ((yN : Int) - 1) = (yN : Int) - 1 := IntWalk.i64_in _ (by omega)
      obtain ⟨p, hp⟩ : ∃ p : Nat, p = yN * W := ⟨_, rfl⟩
      have hpW : p + W ≤ W * H := by
        have h1 : p + W = (yN + 1) * W := by rw [hp, Nat.add_mul, Nat.one_mul]
        have h2 : (yN + 1) * W ≤ H * W := Nat.mul_le_mul (by omega) (Nat.le_refl _)
        rw [Nat.mul_comm H W] at h2
        omega
      have hp64 : p + W ≤ 64 := by
        have h2 : W * H ≤ 8 * 8 := Nat.mul_le_mul hW8.2 hH8.2
        omega
      have m1 : IntKind.i64.wrap ((yN : Int) * (W : Int)) = (p : Int) := by
        rw [show (yN : Int) * (W : Int) = (p : Int) by rw [hp]; simp]
        exact IntWalk.i64_in _ (by omega)
      have hpn : p + W ≤ nm := by rw [HNM.out]; exact hpW
      have HP := Lib.hid hp
      clear hyk hp hpW hY
      go_wp2_with fail
      go_loopw [3, 5] (fun t x wr => ∃ (j : Nat) (s : ByteArray), j ≤ W ∧ x = .int .i64 j ∧ t = .string s ∧ Hid (s = bA (headT W H ++ rowsT W mask H k ++ (rowT W mask yN).take j)) ∧ s.size ≤ 20 + 10 * k + j ∧ Hid (Below w0.heap.size w0 wr)) (fun _ x _ => W - (intOf x).toNat)
      case atStart => exact ⟨0, s, by omega, rfl, rfl, Lib.hid (by rw [hs.out]; simp), by omega, hB⟩
      case round =>
        obtain ⟨j, s, hj, rfl, rfl, hs, hsb, hB⟩ := hrel
        have b0 := stay_c A0.out hB.out (Nat.le_refl _)
        have b2 := stay_c A2.out hB.out (Nat.le_refl _)
        by_cases hjW : j < W
        · have hji : (j : Int) < (W : Int) := by omega
          obtain ⟨q, hq⟩ : ∃ q : Nat, q = p + j := ⟨_, rfl⟩
          have hqn : q < nm := by omega
          have hqi : (q : Int) < (nm : Int) := by omega
          have m2 : IntKind.i64.wrap ((p : Int) + (j : Int)) = (q : Int) := by rw [IntWalk.i64_in _ (by omega)]; omega
          obtain ⟨bk, ok, m, hAm, _, hmm, cm'⟩ := (HRM.out.below hB.out).int hqn
          subst hAm
          have g := HI.out.msk m (List.mem_of_getElem? hmm)
          have htk := rowT_take (W := W) (mask := mask) (y := yN) hjW (m := m) (by rw [← HP.out, ← hq]; exact hmm)
          have HTK := Lib.hid htk
          clear htk hmm hq
          by_cases hm10 : m < 10
          · have cD := fun (w1 : World) => dec_any m w1 (by omega) (by omega)
            have hdl := decN_len (n := m) (by omega) (by omega)
            have hhx := hexU_lo g.1 hm10
            obtain ⟨D, hD⟩ : ∃ D, D = bA (decN m) := ⟨_, rfl⟩
            have hDs : D.size = (decN m).length := by rw [hD, bA_size]
            have hd1 : (decN m).length = 1 := by rw [← hhx]; rfl
            have hnew : s ++ D = bA (headT W H ++ rowsT W mask H k ++ (rowT W mask yN).take (j + 1)) := by
              rw [HTK.out, hhx, hs.out, hD, bA_app]
              simp
            have g5 : ¬ 9223372036854775807 < s.size + D.size := by omega
            have g6 : D.size = 1 := by omega
            have hns : (s ++ D).size ≤ 20 + 10 * k + (j + 1) := by rw [ByteArray.size_append]; omega
            have cD : ∀ w1 : World, Calls Tryd.prog 38 #[.int .i64 m] w1 fun e w' => e = .returned (.string D) ∧ Below w1.heap.size w1 w' := by rw [hD]; exact cD
            have CD := Lib.hid cD
            have HN := Lib.hid hnew
            clear cD hnew hD hDs hd1 hhx hdl g6
            go_wp2_with (go_at_call 38; refine (CD.out _).mono ?_; rintro e w4 ⟨rfl, hb4⟩; have HB4 := Lib.hid (stay_b hB.out hb4); clear hb4)
            go_roundw
            case rel => exact ⟨j + 1, s ++ D, by omega, by go_num, rfl, HN, hns, HB4⟩
            case measure => simp [intOf]; omega
          · have m3 : IntKind.i64.wrap (97 + m) = 97 + m := IntWalk.i64_in _ (by omega)
            have m4 : IntKind.i64.wrap (97 + m - 10) = 87 + m := by rw [IntWalk.i64_in _ (by omega)]; omega
            have m5 : IntKind.u8.wrap (87 + m) = 87 + m := IntWalk.u8_in _ (by omega)
            have hcv := conv1 wr (87 + m)
            obtain ⟨D, hD⟩ : ∃ D, D = (⟨#[UInt8.ofNat (87 + m).toNat]⟩ : ByteArray) := ⟨_, rfl⟩
            rw [← hD] at hcv
            have hDs : D.size = 1 := by rw [hD]; rfl
            have hnew : s ++ D = bA (headT W H ++ rowsT W mask H k ++ (rowT W mask yN).take (j + 1)) := by
              rw [HTK.out, hexU_hi hm10 g.2, hs.out, hD]
              show bA _ ++ bA [_] = _
              rw [bA_app]
              simp
            have g5 : ¬ 9223372036854775807 < s.size + D.size := by omega
            have hns : (s ++ D).size ≤ 20 + 10 * k + (j + 1) := by rw [ByteArray.size_append]; omega
            have HN := Lib.hid hnew
            have HB4 := Lib.hid (ba hB.out (.cells #[.int .u8 (87 + m)] 5))
            clear hnew hD hDs
            go_wp2_with fail
            go_roundw
            case rel => exact ⟨j + 1, s ++ D, by omega, by go_num, rfl, HN, hns, HB4⟩
            case measure => simp [intOf]; omega
        · obtain rfl : j = W := by omega
          have hji : ¬ (j : Int) < (j : Int) := by omega
          have g5 : ¬ 9223372036854775807 < s.size + 1 := by omega
          have hns : (s ++ (⟨#[10]⟩ : ByteArray)).size ≤ 20 + 10 * (k + 1) := by rw [ByteArray.size_append]; show s.size + 1 ≤ _; omega
          have hnew : s ++ (⟨#[10]⟩ : ByteArray) = bA (headT j H ++ rowsT j mask H (k + 1)) := by
            rw [rowsT_succ, ← HYK.out, hs.out, List.take_of_length_le (by rw [rowT_len]; exact Nat.le_refl _)]
            show bA _ ++ bA [10] = _
            rw [bA_app]
            simp
          have HN := Lib.hid hnew
          have hyy : (yN : Int) - 1 = (H : Int) - 1 - ((k + 1 : Nat) : Int) := by have := HYK.out; omega
          have HYY := Lib.hid hyy
          clear hnew hyy
          go_wp2_with fail
          go_roundw
          case rel => exact ⟨k + 1, (yN : Int) - 1, _, by omega, HYY, rfl, rfl, HN, hns, hB⟩
          case measure => simp [intOf] <;> omega
    · obtain rfl : k = H := by omega
      obtain rfl : Y = -1 := by have := hY.out; omega
      have hYn : ¬ (0 : Int) ≤ -1 := by omega
      clear hY
      go_wp2_with fail
      go_loopw [3, 7] (fun t x wr => ∃ (i : Nat) (s : ByteArray), i ≤ nc ∧ x = .int .i64 i ∧ t = .string s ∧ Hid (s = bA (headT W k ++ rowsT W mask k k ++ creasT (cs.take i))) ∧ s.size ≤ 100 + 14 * i ∧ Hid (Below w0.heap.size w0 wr)) (fun _ x _ => nc - (intOf x).toNat)
      case atStart => exact ⟨0, s, by omega, rfl, rfl, Lib.hid (by rw [hs.out]; simp [creasT]), by omega, hB⟩
      case round =>
        obtain ⟨i, s, hi, rfl, rfl, hs, hsb, hB⟩ := hrel
        have b3 := stay_c A3.out hB.out (Nat.le_refl _)
        by_cases hin : i < nc
        · have hii : (i : Int) < (nc : Int) := by omega
          obtain ⟨c, hc⟩ : ∃ c, cs[i]? = some c := ⟨_, List.getElem?_eq_getElem (by rw [HCL.out]; exact hin)⟩
          have hsm := HI.out.sm c (List.mem_of_getElem? hc)
          have hkd := HI.out.kd c (List.mem_of_getElem? hc)
          have hlc := creaT_len hsm
          have htk : cs.take (i + 1) = cs.take i ++ [c] := by rw [List.take_add_one, hc]; rfl
          have hsn := creasT_snoc (cs.take i) c
          rw [← htk] at hsn
          obtain ⟨bC, oC, hAc, _, _⟩ := HRC.out.2 (by omega)
          subst hAc
          obtain ⟨y0, y1, y2, y3, y4⟩ := (HRC.out.below hB.out).crease hc
          obtain ⟨⟨a, b, e, f⟩, kd⟩ := c
          simp only at y0 y1 y2 y3 y4 hkd
          obtain ⟨ha, hb, he, hf⟩ := hsm
          simp only at ha hb he hf
          have k1 := decN_len ha.1 ha.2
          have k2 := decN_len hb.1 hb.2
          have k3 := decN_len he.1 he.2
          have k4 := decN_len hf.1 hf.2
          obtain ⟨K1, hK1⟩ : ∃ K : ByteArray, K = bA [if kd = 2 then 118 else 109, 32] := ⟨_, rfl⟩
          obtain ⟨D1, hD1⟩ : ∃ D, D = bA (decN a) := ⟨_, rfl⟩
          obtain ⟨D2, hD2⟩ : ∃ D, D = bA (decN b) := ⟨_, rfl⟩
          obtain ⟨D3, hD3⟩ : ∃ D, D = bA (decN e) := ⟨_, rfl⟩
          obtain ⟨D4, hD4⟩ : ∃ D, D = bA (decN f) := ⟨_, rfl⟩
          obtain ⟨S1, hS1⟩ : ∃ D, D = s ++ K1 := ⟨_, rfl⟩
          have z0 : K1.size = 2 := by rw [hK1, bA_size]; rfl
          have z1 : D1.size ≤ 2 := by rw [hD1, bA_size]; omega
          have z2 : D2.size ≤ 2 := by rw [hD2, bA_size]; omega
          have z3 : D3.size ≤ 2 := by rw [hD3, bA_size]; omega
          have z4 : D4.size ≤ 2 := by rw [hD4, bA_size]; omega
          have zS : S1.size = s.size + 2 := by rw [hS1, ByteArray.size_append]; omega
          have hfin : S1 ++ D1 ++ (⟨#[32]⟩ : ByteArray) ++ D2 ++ (⟨#[32]⟩ : ByteArray) ++ D3 ++ (⟨#[32]⟩ : ByteArray) ++ D4 ++ (⟨#[10]⟩ : ByteArray) = bA (headT W k ++ rowsT W mask k k ++ creasT (cs.take (i + 1))) := by
            rw [hsn, hS1, hK1, hD1, hD2, hD3, hD4, hs.out]
            show bA _ ++ bA _ ++ bA _ ++ bA [32] ++ bA _ ++ bA [32] ++ bA _ ++ bA [32] ++ bA _ ++ bA [10] = _
            simp only [bA_app, creaT, List.append_assoc, List.cons_append, List.nil_append]
          have hfs : (S1 ++ D1 ++ (⟨#[32]⟩ : ByteArray) ++ D2 ++ (⟨#[32]⟩ : ByteArray) ++ D3 ++ (⟨#[32]⟩ : ByteArray) ++ D4 ++ (⟨#[10]⟩ : ByteArray)).size ≤ 100 + 14 * (i + 1) := by
            simp only [ByteArray.size_append]
            have e1 : (⟨#[32]⟩ : ByteArray).size = 1 := rfl
            have e2 : (⟨#[10]⟩ : ByteArray).size = 1 := rfl
            omega
          have hs2 : ¬ 9223372036854775807 < s.size + 2 := by omega
          have hkk : kd = 1 ∧ s ++ (⟨#[109, 32]⟩ : ByteArray) = S1 ∨ kd = 2 ∧ s ++ (⟨#[118, 32]⟩ : ByteArray) = S1 := by
            rcases hkd with h | h
            · refine .inl ⟨h, ?_⟩
              rw [hS1, hK1, h]
              rfl
            · refine .inr ⟨h, ?_⟩
              rw [hS1, hK1, h]
              rfl
          have kb := heap_alloc_new wr (.cells #[.int .i64 a, .int .i64 b, .int .i64 e, .int .i64 f, .int .i64 kd] 88)
          have c0 := cell_of_blk kb 0
          have c1 := cell_of_blk kb 1
          have c2 := cell_of_blk kb 2
          have c3 := cell_of_blk kb 3
          have c4 := cell_of_blk kb 4
          simp only [List.getElem?_toArray, List.getElem?_cons_zero, List.getElem?_cons_succ] at c0 c1 c2 c3 c4
          have n1 : ¬ 9223372036854775807 < S1.size + D1.size := by omega
          have n2 : ¬ 9223372036854775807 < S1.size + D1.size + 1 := by omega
          have n3 : ¬ 9223372036854775807 < S1.size + D1.size + 1 + D2.size := by omega
          have n4 : ¬ 9223372036854775807 < S1.size + D1.size + 1 + D2.size + 1 := by omega
          have n5 : ¬ 9223372036854775807 < S1.size + D1.size + 1 + D2.size + 1 + D3.size := by omega
          have n6 : ¬ 9223372036854775807 < S1.size + D1.size + 1 + D2.size + 1 + D3.size + 1 := by omega
          have n7 : ¬ 9223372036854775807 < S1.size + D1.size + 1 + D2.size + 1 + D3.size + 1 + D4.size := by omega
          have n8 : ¬ 9223372036854775807 < S1.size + D1.size + 1 + D2.size + 1 + D3.size + 1 + D4.size + 1 := by omega
          have C1 : Hid (∀ w1 : World, Calls Tryd.prog 38 #[.int .i64 a] w1 fun e w' => e = .returned (.string D1) ∧ Below w1.heap.size w1 w') := Lib.hid (by rw [hD1]; exact fun w1 => dec_any a w1 ha.1 ha.2)
          have C2 : Hid (∀ w1 : World, Calls Tryd.prog 38 #[.int .i64 b] w1 fun e w' => e = .returned (.string D2) ∧ Below w1.heap.size w1 w') := Lib.hid (by rw [hD2]; exact fun w1 => dec_any b w1 hb.1 hb.2)
          have C3 : Hid (∀ w1 : World, Calls Tryd.prog 38 #[.int .i64 e] w1 fun e w' => e = .returned (.string D3) ∧ Below w1.heap.size w1 w') := Lib.hid (by rw [hD3]; exact fun w1 => dec_any e w1 he.1 he.2)
          have C4 : Hid (∀ w1 : World, Calls Tryd.prog 38 #[.int .i64 f] w1 fun e w' => e = .returned (.string D4) ∧ Below w1.heap.size w1 w') := Lib.hid (by rw [hD4]; exact fun w1 => dec_any f w1 hf.1 hf.2)
          have HF := Lib.hid hfin
          have HKK := Lib.hid hkk
          have HBA := Lib.hid (ba hB.out (.cells #[.int .i64 a, .int .i64 b, .int .i64 e, .int .i64 f, .int .i64 kd] 88))
          clear hfin hkk kb hK1 hD1 hD2 hD3 hD4 hS1 hc htk hsn hkd hlc k1 k2 k3 k4 z0 z1 z2 z3 z4 zS hs hB
          go_upto_if 72 with fail
          clear y0 y1 y2 y3 y4 b3
          go_cut [3] from 58 to 105 (fun v wx => v = .string S1 ∧ wx = wr.alloc (.cells #[.int .i64 a, .int .i64 b, .int .i64 e, .int .i64 f, .int .i64 kd] 88))
          case first =>
            rcases HKK.out with ⟨rfl, h⟩ | ⟨rfl, h⟩
            · have HH := Lib.hid h
              clear h
              go_wp2_with fail
              go_meet
              case rel => exact ⟨by rw [HH.out], rfl⟩
            · have HH := Lib.hid h
              clear h
              go_wp2_with fail
              go_meet
              case rel => exact ⟨by rw [HH.out], rfl⟩
          case rest =>
            obtain ⟨rfl, rfl⟩ := hcut
            go_upto_region 20 with fail
            have HSZ := Lib.hid (World.size_alloc wr (.cells #[.int .i64 a, .int .i64 b, .int .i64 e, .int .i64 f, .int .i64 kd] 88))
            obtain ⟨wa, hwa⟩ : ∃ x, x = wr.alloc (.cells #[.int .i64 a, .int .i64 b, .int .i64 e, .int .i64 f, .int .i64 kd] 88) := ⟨_, rfl⟩
            rw [← hwa] at c0 c1 c2 c3 c4 HBA ⊢
            clear hwa
            have hS : wa.drew.cell? ⟨wr.heap.size, 0, none⟩ = some (.int .i64 a) ∧ wa.drew.cell? ⟨wr.heap.size, 1, none⟩ = some (.int .i64 b) ∧ wa.drew.cell? ⟨wr.heap.size, 2, none⟩ = some (.int .i64 e) ∧ wa.drew.cell? ⟨wr.heap.size, 3, none⟩ = some (.int .i64 f) ∧ Below wa.heap.size wa wa.drew := ⟨c0, c1, c2, c3, (Below.refl _ _).drew⟩
            clear c0 c1 c2 c3 c4
            go_region_held3 (fun w' => w'.cell? ⟨wr.heap.size, 0, none⟩ = some (.int .i64 a) ∧ w'.cell? ⟨wr.heap.size, 1, none⟩ = some (.int .i64 b) ∧ w'.cell? ⟨wr.heap.size, 2, none⟩ = some (.int .i64 e) ∧ w'.cell? ⟨wr.heap.size, 3, none⟩ = some (.int .i64 f) ∧ Below wa.heap.size wa w')
              (first
                | with_reducible exact hS
                | with_reducible assumption
                | (go_split_ands; exact ⟨stay_c ‹_› hbc (Nat.le_refl _), stay_c ‹_› hbc (Nat.le_refl _), stay_c ‹_› hbc (Nat.le_refl _), stay_c ‹_› hbc (Nat.le_refl _), stay_b ‹_› hbc⟩))
              (first
                | ((with_reducible refine (C1.out _).mono ?_); rintro r wc ⟨rfl, hbc⟩)
                | ((with_reducible refine (C2.out _).mono ?_); rintro r wc ⟨rfl, hbc⟩)
                | ((with_reducible refine (C3.out _).mono ?_); rintro r wc ⟨rfl, hbc⟩)
                | ((with_reducible refine (C4.out _).mono ?_); rintro r wc ⟨rfl, hbc⟩))
            rename_i hSS
            have HB9 := Lib.hid (stay_b HBA.out hSS.2.2.2.2)
            clear hSS
            go_wp2_with fail
            go_roundw
            case rel => exact ⟨i + 1, _, by omega, by go_num, rfl, HF, hfs, HB9⟩
            case measure => simp [intOf]; omega
        · obtain rfl : i = nc := by omega
          have hii : ¬ (i : Int) < (i : Int) := by omega
          have hres : s = bA (sheetT W k mask cs) := by
            rw [hs.out, ← HCL.out, List.take_length]
            rfl
          have HR := Lib.hid hres
          have HBF := Lib.hid (stay_b HB0.out hB.out)
          clear hres
          go_wp2
          go_ret
          exact ⟨congrArg (fun x => Ending.returned (Value.string x)) HR.out, HBF.out⟩
end Go.Proofs.YtoienokpchbglaaDoor
