/- slices.Equal; the predicate of By. -/
import Derived.Test.YtjikhdnlcoohbaaBy2
namespace Go.Proofs.Ytjikhdnlcoohbaa
set_option linter.unusedSimpArgs false
set_option linter.unusedVariables false
open Go.RowKit St
attribute [local go_sem] Oper.semAt_some

set_option maxRecDepth 100000 in
set_option maxHeartbeats 1600000 in
theorem equal_any (A B : Option Addr) (n m c d : Nat) (xs ys : List Int) (w : World) (hx : Rd w 1 A n (vis xs)) (hy : Rd w 1 B m (vis ys)) (hn : n ≤ 9223372036854775807) (hm : m ≤ 9223372036854775807) :
    Calls Try.prog 34 #[.slice A n c, .slice B m d] w fun e w' => e = .returned (.bool (decide (xs = ys))) ∧ Below w.heap.size w w' := by
  have hxl := hx.ints_len
  have hyl := hy.ints_len
  by_cases hnm : n = m
  · subst hnm
    have HX := Lib.hid hxl
    have HY := Lib.hid hyl
    clear hxl hyl
    go_enter Try.func34, Try.ntmps34
    go_wp2
    go_loopw [13] (fun i wr => ∃ k : Nat, k ≤ n ∧ i = .int .i64 k ∧ Hid (xs.take k = ys.take k) ∧ Below w.heap.size w wr) (fun i _ => n - (intOf i).toNat)
    case atStart => exact ⟨0, Nat.zero_le _, rfl, Lib.hid rfl, Below.refl _ _⟩
    case round =>
      obtain ⟨k, hk, rfl, heq, hb⟩ := hrel
      by_cases hlt : k < n
      · obtain ⟨b1, o1, x, hA, hb1, hx1, hc1⟩ := (hx.below hb).int hlt
        obtain ⟨b2, o2, y, hB, hb2, hy1, hc2⟩ := (hy.below hb).int hlt
        have HX1 := Lib.hid hx1
        have HY1 := Lib.hid hy1
        have hki : (k : Int) < (n : Int) := by omega
        clear hx1 hy1
        subst hA
        subst hB
        by_cases hxy : x = y
        · subst hxy
          go_wp2
          go_quiet (fail)
          go_wp2
          go_roundw
          case rel => exact ⟨k + 1, by omega, by go_num, Lib.hid (by rw [List.take_add_one, List.take_add_one, HX1.out, HY1.out, heq.out]), below_drewN hb _⟩
          case measure => simp [intOf]; omega
        · have hne : (x != y) = true := by simpa using hxy
          go_wp2
          go_quiet (fail)
          go_wp2
          go_ret
          refine ⟨ret_bool ?_, below_drewN hb _⟩
          have : ¬ xs = ys := by
            rintro rfl
            have h1 := HX1.out.symm.trans HY1.out
            injection h1 with h1
            exact hxy h1
          simp [this]
      · have hfin : xs = ys := by
          have h1 := heq.out
          rw [List.take_of_length_le (by rw [HX.out]; omega), List.take_of_length_le (by rw [HY.out]; omega)] at h1
          exact h1
        have HF := Lib.hid hfin
        obtain rfl : k = n := by omega
        clear hfin
        go_wp2
        go_ret
        exact ⟨ret_bool (by simp [HF.out]), hb⟩
  · have hne : ((n : Int) != (m : Int)) = true := by simp; omega
    have hxy : ¬ xs = ys := by rintro rfl; omega
    have HXY := Lib.hid hxy
    clear hxl hyl hnm hxy
    go_enter Try.func34, Try.ntmps34
    go_wp2
    go_ret
    exact ⟨ret_bool (by simp [HXY.out]), Below.refl _ _⟩
set_option maxRecDepth 100000 in
set_option maxHeartbeats 1600000 in
theorem by1_any (Bw m cA N g c : Nat) (A : Option Addr) (ks L : List Int) (w : World) (hc : w.cell? ⟨Bw, 0, none⟩ = some (.slice A m cA)) (hk : Rd w 1 A m (vis ks)) (hm : m ≤ 1000) (hI : IRow w g N c L) (hp : L.Perm (upto L.length)) (h1 : 1 ≤ N) (h8 : N ≤ 8) :
    Calls Try.prog 33 #[.slice (some ⟨g, 0, none⟩) N c, .pointer (some ⟨Bw, 0, none⟩)] w fun e w' => e = .returned (.bool (!decide (kOf L = ks))) ∧ Below w.heap.size w w' := by
  have hl := hI.1
  have cH := fun (w1 : World) (hb : Below w.heap.size w w1) => heights_any (some ⟨g, 0, none⟩) N c L w1 (hI.rd.below hb) (by omega) hp
  have cK : ∀ (w1 : World) (g : Nat), w1.heap[g]? = some (.cells (vis (hsOf L)).toArray 3 (0, 0)) → Calls Try.prog 25 #[.slice (some ⟨g, 0, none⟩) N N] w1 fun e w' => ∃ v, e = .returned v ∧ w'.ownsRow w1.heap.size 3 1 v (N - 1) (vis (kOf L)) ∧ Below w1.heap.size w1 w' := by
    intro w1 g hg
    have := kinds_any (some ⟨g, 0, none⟩) N N (hsOf L) w1 ⟨by simp [hs_len, hl], fun _ => ⟨g, 0, rfl, blk_lt hg, fun j u hu => by rw [Nat.zero_add, cell_of_blk hg j]; simpa using hu⟩⟩ (by omega) (by omega)
    unfold kOf
    rw [hl]
    exact this
  have cE := fun (w1 : World) (hb : Below w.heap.size w w1) (A1 : Option Addr) (n1 c1 : Nat) (h1 : Rd w1 1 A1 (N - 1) (vis (kOf L))) => equal_any A1 A (N - 1) m c1 cA (kOf L) ks w1 h1 (hk.below hb) (by omega) (by omega)
  obtain ⟨K, hK⟩ : ∃ K, K = kOf L := ⟨_, rfl⟩
  rw [← hK] at cK cE ⊢
  have CH := Lib.hid cH
  have CK := Lib.hid cK
  have CE := Lib.hid cE
  clear cH cK cE hI hp hk hK hl
  go_enter Try.func33, Try.ntmps33
  go_wp2_with fail
  have hS : w.drew.cell? ⟨Bw, 0, none⟩ = some (.slice A m cA) ∧ Below w.heap.size w w.drew := ⟨hc, (Below.refl _ _).drew⟩
  go_region_held3 (fun w' => w'.cell? ⟨Bw, 0, none⟩ = some (.slice A m cA) ∧ Below w.heap.size w w')
    (first
      | with_reducible exact hS
      | (go_split_ands; with_reducible exact ⟨stay_c ‹_› hbc (Nat.le_refl _), stay_b ‹_› hbc⟩))
    (first
      | (go_split_ands; (with_reducible refine (CH.out _ ‹Below w.heap.size w _›).mono ?_); rintro e wA ⟨gh, he, hgh, _, hbc⟩; subst he)
      | (go_split_ands; (with_reducible refine (CK.out _ _ hgh).mono ?_); rintro e wB ⟨v, he, hown, hbc⟩; subst he; obtain ⟨A1, c1, hv⟩ := own_sl hown; subst hv)
      | (go_split_ands; (with_reducible refine (CE.out _ ‹Below w.heap.size w _› _ 0 _ (Rd.of_own hown)).mono ?_); rintro e wC ⟨he, hbc⟩; subst he))
  rename_i hH
  go_wp2
  go_ret
  exact ⟨rfl, hH.2⟩
end Go.Proofs.Ytjikhdnlcoohbaa
