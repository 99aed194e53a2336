/- The document's trying of all orders: the recursion; Orders. -/
import Derived.Test.YtcfeejlhhimpjaaOr4
namespace Go.Proofs.Ytcfeejlhhimpjaa
set_option linter.unusedSimpArgs false
set_option linter.unusedVariables false
open Go.RowKit Vx Vo

theorem ctake_zero (hl : List Int) (h : Int) : (hl.take 0).contains h = false := rfl
theorem fn_take {hl hl' : List Int} {k i : Nat} (h : hl'.take k = hl.take k) (hi : i < k) : hl'[i]? = hl[i]? := by
  rw [← List.getElem?_take_of_lt hi, h, List.getElem?_take_of_lt hi]
set_option maxRecDepth 100000 in
set_option maxHeartbeats 3200000 in
theorem order_any (b off c gh go B n : Nat) (xl : List Int) (hn : n ≤ 8) (hn0 : 0 < n) (hne : gh ≠ go) (hB1 : B ≤ gh) (hB2 : B ≤ go) (hb : b < B) : ∀ (r k : Nat), k + r = n → ∀ (hl : List Int) (O : List Bool) (w : World),
    Rd w 1 (some ⟨b, off, none⟩) (n + 1) (vis xl) → Tab n gh go w hl O →
    Calls Try.prog 20 #[.slice (some ⟨b, off, none⟩) (n + 1) c, .slice (some ⟨gh, 0, none⟩) n n, .int .i64 k, .slice (some ⟨go, 0, none⟩) (2 ^ n) (2 ^ n)] w fun e w' => e = .returned (.tuple #[]) ∧
      ∃ hl', hl'.take k = hl.take k ∧ Tab n gh go w' hl' (setAll O (reachB (fn xl) n r (hl.take k))) ∧ Below B w w' := by
  intro r
  induction r with
  | zero =>
    intro k hk hl O w h ht
    obtain rfl : k = n := by omega
    exact order_base b off c gh go B k xl hn hn0 hne hB1 hB2 hb hl O w h ht
  | succ r ih =>
    intro k hk hl O w h ht
    have hkn : k < n := by omega
    have hkn0 : ((k : Int) == (n : Int)) = false := by simp; omega
    have IH := Lib.hid (ih (k + 1) (by omega))
    have HR := Lib.hid h
    have HT := Lib.hid ht
    have hpre : (hl.take k).length = k := by rw [List.length_take, ht.l1]; omega
    obtain ⟨pre, hpe⟩ : ∃ pre, pre = hl.take k := ⟨_, rfl⟩
    rw [← hpe] at hpre ⊢
    have hre : ∀ m, reachB (fn xl) n (r + 1) pre m = (List.range n).any fun (h : Nat) => !(pre.contains (h : Int)) && reachB (fn xl) n r (pre ++ [(h : Int)]) m := fun m => rfl
    have HRE := Lib.hid hre
    have HPE := Lib.hid hpe
    have HPL := Lib.hid hpre
    obtain ⟨N, hN⟩ : ∃ N, N = 2 ^ n := ⟨_, rfl⟩
    rw [← hN]
    simp only [← hN] at IH
    have HN := Lib.hid hN
    clear hN hpe hre hpre h ht ih hk
    go_enter Try.func20, Try.ntmps20
    go_wp2_with fail
    go_loopw [9] (fun v wr => ∃ (t : Nat) (hl1 : List Int) (O1 : List Bool), t ≤ n ∧ v = .int .i64 t ∧ hl1.take k = pre ∧ Tab n gh go wr hl1 O1 ∧ O1 = setAll O (fun m => (List.range t).any fun (h : Nat) => !(pre.contains (h : Int)) && reachB (fn xl) n r (pre ++ [(h : Int)]) m) ∧ Below B w wr) (fun v _ => n - (intOf v).toNat)
    case atStart => exact ⟨0, hl, O, by omega, rfl, HPE.out.symm, HT.out, (setAll_no O).symm, Below.refl _ _⟩
    case round =>
      obtain ⟨t, hl1, O1, ht, rfl, hp1, hT1, hO1, hb1⟩ := hrel
      have HP1 := Lib.hid hp1
      have HT1 := Lib.hid hT1
      have HO1 := Lib.hid hO1
      clear hp1 hT1 hO1
      by_cases htn : t < n
      · obtain ⟨wo, hwo⟩ : ∃ wo : World, wo = wr := ⟨_, rfl⟩
        subst hwo
        go_wp2_with fail
        go_loopw [10, 11] (fun f v w2 => ∃ i : Nat, i ≤ k ∧ v = .int .i64 i ∧ f = .bool (!((pre.take i).contains (t : Int))) ∧ wo = w2) (fun _ v _ => k - (intOf v).toNat)
        case atStart => exact ⟨0, by omega, rfl, rfl, rfl⟩
        case round =>
          obtain ⟨i, hi, rfl, rfl, rfl⟩ := hrel
          by_cases hik : i < k
          · obtain ⟨z, hz⟩ : ∃ z, pre[i]? = some z := ⟨_, List.getElem?_eq_getElem (by rw [HPL.out]; exact hik)⟩
            have hcz := HT1.out.rd.at_fn (show i < n by omega)
            rw [Nat.zero_add] at hcz
            have hfz : fn hl1 i = z := by
              apply fn_at
              have := fn_take (k := k) (i := i) (show hl1.take k = (pre ++ []).take k by rw [HP1.out, List.append_nil, List.take_of_length_le (by rw [HPL.out]; exact Nat.le_refl _)]) hik
              rw [this, List.append_nil, hz]
            rw [hfz] at hcz
            have hct := contains_take (h := (t : Int)) hz
            have HCT := Lib.hid hct
            obtain ⟨F, hF⟩ : ∃ F, F = (pre.take i).contains (t : Int) := ⟨_, rfl⟩
            rw [← hF] at HCT ⊢
            clear hct hF hfz hz
            have rel : ∀ F' : Bool, (F || ((t : Int) == z)) = F' → (Value.bool (!F')) = .bool (!((pre.take (i + 1)).contains (t : Int))) := fun F' h => by rw [HCT.out, h]
            have REL := Lib.hid rel
            clear rel
            cases F with
            | true =>
              go_wp2
              go_roundw
              case rel => exact ⟨i + 1, by omega, by go_num, REL.out true rfl, by simp⟩
              case measure => simp [intOf]; omega
            | false =>
              by_cases hzt : z = t
              · subst hzt
                go_wp2
                go_roundw
                case rel => exact ⟨i + 1, by omega, by go_num, REL.out true (by simp), by simp⟩
                case measure => simp [intOf]; omega
              · have hz1 : (z == (t : Int)) = false := by simp [hzt]
                have hz2 : (z != (t : Int)) = true := by simp [hzt]
                go_wp2
                go_roundw
                case rel => exact ⟨i + 1, by omega, by go_num, REL.out false (by simp; exact fun e => hzt e.symm), by simp⟩
                case measure => simp [intOf]; omega
          · obtain rfl : i = k := by omega
            have htk : pre.take i = pre := List.take_of_length_le (by rw [HPL.out]; exact Nat.le_refl _)
            rw [htk]
            clear htk
            have hst : ∀ p : Nat → Bool, setAll (setAll O (fun m => (List.range t).any fun (h : Nat) => !(pre.contains (h : Int)) && reachB (fn xl) n r (pre ++ [(h : Int)]) m)) (fun m => !(pre.contains (t : Int)) && reachB (fn xl) n r (pre ++ [(t : Int)]) m) = setAll O (fun m => (List.range (t + 1)).any fun (h : Nat) => !(pre.contains (h : Int)) && reachB (fn xl) n r (pre ++ [(h : Int)]) m) := fun _ => by
              rw [setAll_two]
              apply setAll_congr
              intro m
              rw [any_succ]
            have HST := Lib.hid (hst fun _ => true)
            clear hst
            obtain ⟨F, hF⟩ : ∃ F, F = pre.contains (t : Int) := ⟨_, rfl⟩
            rw [← hF]
            have HF := Lib.hid hF
            clear hF
            cases F with
            | true =>
              go_wp2
              go_roundw
              case rel =>
                refine ⟨t + 1, hl1, O1, by omega, by go_num, HP1.out, HT1.out, ?_, hb1⟩
                rw [← HST.out, ← HO1.out, ← HF.out]
                simp only [Bool.not_true, Bool.false_and]
                rw [setAll_no]
              case measure => simp [intOf]; omega
            | false =>
              have hf := frozen_of_blk HT1.out.b1 i
              have hcl := HT1.out.rd.at_fn hkn
              rw [Nat.zero_add] at hcl
              have T2 := HT1.out.setH (k := i) hne (t : Int)
              have R2 : Rd (wo.setCell ⟨gh, i, none⟩ (.int .i64 t)) 1 (some ⟨b, off, none⟩) (n + 1) (vis xl) := by
                have h1 := HR.out
                refine ⟨h1.1, fun hp => ?_⟩
                obtain ⟨b2, o2, e, hlt, hc⟩ := h1.2 hp
                simp only [Option.some.injEq, Addr.mk.injEq, and_true] at e
                obtain ⟨rfl, rfl⟩ := e
                have hbel : Below B w (wo.setCell ⟨gh, i, none⟩ (.int .i64 t)) := hb1.setCell hB1 _
                exact ⟨b, off, rfl, Nat.lt_of_lt_of_le hlt hbel.size, fun j u hu => keep_c (hc j u hu) hbel hb⟩
              have cO := IH.out (hl1.set i (t : Int)) O1 _ R2 T2
              have htk : (hl1.set i (t : Int)).take (i + 1) = pre ++ [(t : Int)] := by rw [set_take (by rw [HT1.out.l1]; exact hkn), HP1.out]
              rw [htk] at cO
              have CO := Lib.hid cO
              have HTK := Lib.hid htk
              have w1 : IntKind.i64.wrap ((i : Int) + 1) = ((i + 1 : Nat) : Int) := by rw [IntWalk.i64_in _ (by omega)]; rfl
              clear cO htk T2 R2
              go_wp2_with fail
              refine (CO.out).mono ?_
              rintro e w3 ⟨rfl, hl3, hp3, hT3, hb3⟩
              have HP3 := Lib.hid hp3
              have HT3 := Lib.hid hT3
              clear hp3 hT3
              go_wp2
              go_roundw
              case rel =>
                refine ⟨t + 1, hl3, _, by omega, by go_num, ?_, HT3.out, ?_, (hb1.setCell hB1 _).trans hb3⟩
                · have := congrArg (List.take i) HP3.out
                  rw [List.take_take, Nat.min_eq_left (by omega)] at this
                  rw [this, List.take_append_of_le_length (by rw [HPL.out]; exact Nat.le_refl _), List.take_of_length_le (by rw [HPL.out]; exact Nat.le_refl _)]
                · rw [← HST.out, ← HO1.out, ← HF.out]
                  simp only [Bool.not_false, Bool.true_and]
              case measure => simp [intOf]; omega
      · obtain rfl : t = n := by omega
        go_wp2
        go_end0
        refine ⟨rfl, hl1, HP1.out, ?_, hb1⟩
        rw [setAll_congr HRE.out, ← HO1.out]
        exact HT1.out
end Go.Proofs.Ytcfeejlhhimpjaa
