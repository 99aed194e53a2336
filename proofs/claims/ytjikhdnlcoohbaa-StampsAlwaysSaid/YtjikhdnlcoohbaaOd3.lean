/- sameRows; stamps.All. -/
import Derived.Test.YtjikhdnlcoohbaaOd2
namespace Go.Proofs.Ytjikhdnlcoohbaa
set_option linter.unusedSimpArgs false
set_option linter.unusedVariables false
open Go.RowKit St
attribute [local go_sem] Oper.semAt_some

theorem rows_keep {W W' : World} {B N : Nat} {vals : List Value} {Ls : List (List Int)} (h : RowsG W B N vals Ls) (hb : Below W.heap.size W W') : RowsG W' B N vals Ls := h.keep (KpI.of_below hb).2
theorem ne_at {L M : List (List Int)} {k : Nat} {x y : List Int} (hx : L[k]? = some x) (hy : M[k]? = some y) (hne : x ≠ y) : ¬ L = M := by
  rintro rfl
  rw [hx] at hy
  exact hne (Option.some.inj hy)
theorem ne_len {L M : List (List Int)} (h : L.length ≠ M.length) : ¬ L = M := fun e => h (by rw [e])
set_option maxRecDepth 100000 in
set_option maxHeartbeats 1600000 in
theorem sameRows_any (A C : Option Addr) (n m c d N Ba Bb : Nat) (hN : N ≤ 8) (Ls Ms : List (List Int)) (va vb : List Value) (w : World) (hx : Rd w 1 A n va) (hy : Rd w 1 C m vb) (ra : RowsG w Ba N va Ls) (rb : RowsG w Bb N vb Ms) (hn : n ≤ 9223372036854775807) (hm : m ≤ 9223372036854775807) :
    Calls Try.prog 16 #[.slice A n c, .slice C m d] w fun e w' => e = .returned (.bool (decide (Ls = Ms))) ∧ Below w.heap.size w w' := by
  have hla : Ls.length = n := by rw [← ra.1]; simpa using hx.1
  have hlb : Ms.length = m := by rw [← rb.1]; simpa using hy.1
  by_cases hnm : n = m
  · subst hnm
    have HLA := Lib.hid hla
    have HLB := Lib.hid hlb
    have HX := Lib.hid hx
    have HY := Lib.hid hy
    have RA := Lib.hid ra
    have RB := Lib.hid rb
    clear hla hlb hx hy ra rb
    go_enter Try.func16, Try.ntmps16
    go_wp2
    go_loopw [5] (fun i wr => ∃ k : Nat, k ≤ n ∧ i = .int .i64 k ∧ Hid (Ls.take k = Ms.take k) ∧ Below w.heap.size w wr) (fun i _ => n - (intOf i).toNat)
    case atStart => exact ⟨0, Nat.zero_le _, rfl, Lib.hid rfl, Below.refl _ _⟩
    case round =>
      obtain ⟨k, hk, rfl, heq, hb⟩ := hrel
      by_cases hlt : k < n
      · have hki : (k : Int) < (n : Int) := by omega
        obtain ⟨L, hL⟩ : ∃ z, Ls[k]? = some z := ⟨_, List.getElem?_eq_getElem (by rw [HLA.out]; exact hlt)⟩
        obtain ⟨M, hM⟩ : ∃ z, Ms[k]? = some z := ⟨_, List.getElem?_eq_getElem (by rw [HLB.out]; exact hlt)⟩
        obtain ⟨ga, ca, q1, q2, _⟩ := (rows_keep RA.out hb).2 k L hL
        obtain ⟨gb, cb, q3, q4, _⟩ := (rows_keep RB.out hb).2 k M hM
        obtain ⟨b1, o1, rfl, hb1, hc1⟩ := (HX.out.below hb).2 (by omega)
        obtain ⟨b2, o2, rfl, hb2, hc2⟩ := (HY.out.below hb).2 (by omega)
        have e1 := hc1 k _ q1
        have e2 := hc2 k _ q3
        have cS := fun (w1 : World) (h : Below wr.heap.size wr w1) => sameInts_any (some ⟨ga, 0, none⟩) (some ⟨gb, 0, none⟩) N N ca cb L M w1 (q2.rd.below h) (q4.rd.below h) (by omega) (by omega)
        have HLK := Lib.hid hL
        have HMK := Lib.hid hM
        have hfin := fun h : ¬ L = M => ne_at hL hM h
        obtain ⟨E, hE⟩ : ∃ E, E = decide (L = M) := ⟨_, rfl⟩
        rw [← hE] at cS
        have HE := Lib.hid hE
        have CS := Lib.hid cS
        have HF := Lib.hid hfin
        clear hL hM q1 q2 q3 q4 hc1 hc2 cS hE hfin
        go_wp2_with fail
        have hS : wr.drew.cell? ⟨b1, o1 + k, none⟩ = some (.slice (some ⟨ga, 0, none⟩) N ca) ∧ wr.drew.cell? ⟨b2, o2 + k, none⟩ = some (.slice (some ⟨gb, 0, none⟩) N cb) ∧ Below wr.heap.size wr wr.drew := ⟨e1, e2, (Below.refl _ _).drew⟩
        go_region_held3 (fun w' => w'.cell? ⟨b1, o1 + k, none⟩ = some (.slice (some ⟨ga, 0, none⟩) N ca) ∧ w'.cell? ⟨b2, o2 + k, none⟩ = some (.slice (some ⟨gb, 0, none⟩) N cb) ∧ Below wr.heap.size wr w')
          (first
            | with_reducible exact hS
            | (go_split_ands; with_reducible exact ⟨stay_c ‹_› hbc (Nat.le_refl _), stay_c ‹_› hbc (Nat.le_refl _), stay_b ‹_› hbc⟩))
          (first | ((with_reducible refine (CS.out _ hS.2.2).mono ?_); rintro e wc ⟨he, hbc⟩; subst he))
        rename_i hH
        obtain ⟨_, _, hBx⟩ := hH
        have hbn := stay_b hb hBx
        cases E with
        | true =>
          have hLM : L = M := of_decide_eq_true HE.out.symm
          have hnx : Ls.take (k + 1) = Ms.take (k + 1) := by rw [take_succ HLK.out, take_succ HMK.out, heq.out, hLM]
          have HNX := Lib.hid hnx
          clear hLM hnx
          go_wp2
          go_roundw
          case rel => exact ⟨k + 1, by omega, by go_num, HNX, hbn⟩
          case measure => simp [intOf]; omega
        | false =>
          have hLM := HF.out (of_decide_eq_false HE.out.symm)
          have HLM := Lib.hid hLM
          clear hLM
          go_wp2
          go_ret
          exact ⟨ret_bool (by simp [HLM.out]), hbn⟩
      · have hfin : Ls = Ms := by
          have h1 := heq.out
          rw [List.take_of_length_le (by rw [HLA.out]; omega), List.take_of_length_le (by rw [HLB.out]; omega)] at h1
          exact h1
        have HF := Lib.hid hfin
        obtain rfl : k = n := by omega
        clear hfin
        go_wp2
        go_ret
        exact ⟨ret_bool (by simp [HF.out]), hb⟩
  · have hne : ((n : Int) != (m : Int)) = true := by simp; omega
    have hxy : ¬ Ls = Ms := ne_len (by omega)
    have HXY := Lib.hid hxy
    clear hla hlb hnm hxy ra rb
    go_enter Try.func16, Try.ntmps16
    go_wp2
    go_ret
    exact ⟨ret_bool (by simp [HXY.out]), Below.refl _ _⟩
theorem orders_len (N : Nat) (h1 : 1 ≤ N) (hN : N ≤ 8) : 0 < (growL (N - 1) [1]).length ∧ (growL (N - 1) [1]).length ≤ 1392 := by
  rw [counts N (by omega) hN]
  have h : N = 1 ∨ N = 2 ∨ N = 3 ∨ N = 4 ∨ N = 5 ∨ N = 6 ∨ N = 7 ∨ N = 8 := by omega
  rcases h with rfl | rfl | rfl | rfl | rfl | rfl | rfl | rfl <;> decide
set_option maxHeartbeats 1600000 in
theorem all_err (n : Int) (hn : n < 1 ∨ 8 < n) (w : World) :
    Calls Try.prog 15 #[.int .i64 n] w fun e w' => e = .returned (.tuple #[.slice none 0 0, .int .i64 2]) ∧ w = w' := by
  rcases hn with hn | hn
  · go_enter Try.func15, Try.ntmps15
    go_wp2
    go_ret2
    exact ⟨rfl, rfl⟩
  · have h1 : ¬ n < 1 := by omega
    go_enter Try.func15, Try.ntmps15
    go_wp2
    go_ret2
    exact ⟨rfl, rfl⟩
set_option maxHeartbeats 1600000 in
theorem ordersF_any (N : Nat) (w : World) :
    Calls Try.prog 30 #[.int .i64 N] w fun e w' => e = .returned (.func (.func 41) #[] #[.pointer (some ⟨w.heap.size, 0, none⟩)]) ∧ w' = w.alloc (.cells #[.int .i64 N] 3) := by
  go_enter Try.func30, Try.ntmps30
  go_wp2
  go_ret
  exact ⟨rfl, rfl⟩
set_option maxRecDepth 100000 in
set_option maxHeartbeats 1600000 in
theorem all_ok (N : Nat) (h1 : 1 ≤ N) (hN : N ≤ 8) (w : World) :
    Calls Try.prog 15 #[.int .i64 N] w fun e w' => ∃ v vals, e = .returned (.tuple #[v, .int .i64 0]) ∧ w'.ownsRow w.heap.size 22 1 v (ordersOf N N []).length vals ∧ RowsG w' w.heap.size N vals (ordersOf N N []) ∧ Below w.heap.size w w' := by
  have hlen := orders_len N h1 hN
  have cS := (callsIn_wide (n := 5)).1 (sortedF_in 5 w.heap.size N hN h1 (w.alloc (.cells #[.int .i64 N] 3)) (by decide) (by simp) (by rw [cell_of_blk (new_blk _ rfl) 0]; rfl) (growL (N - 1) [1]) rfl (by omega) (by omega))
  have CO := Lib.hid (ordersF_any N w)
  have CS := Lib.hid cS
  have g1 : ¬ ((N : Int) < 1) := by omega
  have g2 : ¬ (8 < (N : Int)) := by omega
  clear cS hlen
  go_enter Try.func15, Try.ntmps15
  go_wp2_with (first | (go_at_call 30; refine CO.out.mono ?_; rintro e w1 ⟨rfl, rfl⟩) | (go_at_call 29; refine CS.out.mono ?_; rintro e w2 ⟨v, vals, rfl, hown, hrow, hb⟩))
  go_ret2
  have hsz : w.heap.size ≤ (w.alloc (.cells #[.int .i64 N] 3)).heap.size := by simp
  exact ⟨v, vals, rfl, own_mono hown hsz, hrow.mono hsz, (below_new w _).trans (hb.mono hsz)⟩
end Go.Proofs.Ytjikhdnlcoohbaa
