/- grow, one step. -/
import Derived.Test.YtjikhdnlcoohbaaGw2
namespace Go.Proofs.Ytjikhdnlcoohbaa
set_option linter.unusedSimpArgs false
set_option linter.unusedVariables false
open Go.RowKit St
attribute [local go_sem] Oper.semAt_some

theorem IRow.alloc {w : World} {g n c : Nat} {o : List Int} (h : IRow w g n c o) (x : Obj) : IRow (w.alloc x) g n c o := h.keep (KpI.of_below (below_new w x))
theorem IRow.lt {w : World} {g n c : Nat} {o : List Int} (h : IRow w g n c o) : g < w.heap.size := by
  obtain ⟨_, _, _, cur, h4, _⟩ := h
  exact blk_lt h4
set_option maxRecDepth 100000 in
set_option maxHeartbeats 3200000 in
theorem grow_step (N l B r : Nat) (hN : N ≤ 8) (Ls : List (List Int)) (J : List (Nat × Nat) → World → Prop) (hJ : ∀ s A C, J s A → Below A.heap.size A C → J s C) (ih : GrowOk N l B Ls J r) : GrowOk N l B Ls J (r + 1) := by
  intro k g c o before after pre W hk h0 hI hB hBW hp hLs hpre hJ0
  have hlen := hI.1
  have hkN : k < N := by omega
  have hne : ((k : Int) == (N : Int)) = false := by simp; omega
  have HI := Lib.hid hI
  have HL := Lib.hid hlen
  have HLs := Lib.hid hLs
  have HP := Lib.hid hp
  have HPR := Lib.hid hpre
  have IH := Lib.hid ih
  have HJ := Lib.hid hJ
  clear hI hlen hLs hp hpre ih hJ
  refine callsIn_of_wp Try.func42 rfl trivial ?_ rfl
  simp only [Try.ntmps42, List.size_toArray, List.length_cons, List.length_nil, Nat.reduceAdd, Nat.reduceSub, Array.replicate_succ, Array.replicate_zero, List.push_toArray, List.append_toArray, List.nil_append, List.cons_append]
  gi_wp2
  gi_loopw [19] (fun p wr => ∃ (u : Nat) (xs : List (Nat × Nat)), u ≤ k + 1 ∧ p = .int .i64 u ∧ xs.length = (gParts r o u).length ∧ J (pre ++ xs) wr ∧ KpI W wr) (fun p _ => k + 1 - (intOf p).toNat)
  case atStart => exact ⟨0, [], by omega, rfl, rfl, by simpa using hJ0, KpI.refl _⟩
  case round =>
    obtain ⟨u, xs, hu, rfl, hxl, hJs, hkp⟩ := hrel
    have HX := Lib.hid hxl
    clear hxl
    by_cases hlt : u < k + 1
    · have hIr := HI.out.keep hkp
      have cC := clone_any g 0 k c o wr hIr.rd (by omega)
      have hgl := hIr.lt
      have CC := Lib.hid cC
      have hBr : B ≤ wr.heap.size := Nat.le_trans hBW hkp.1
      clear cC hIr
      have hx : (o.insertIdx u ((k : Int) + 1)).Perm (upto (k + 1)) := insert_perm HP.out (by omega)
      have hpt : gPart r o u = if goodO (o.insertIdx u ((k : Int) + 1)) = true then growL r (o.insertIdx u ((k : Int) + 1)) else [] := by unfold gPart; rw [HL.out]
      have hxx : (o.insertIdx u ((k : Int) + 1)).length = k + 1 := by rw [List.length_insertIdx_of_le_length (by rw [HL.out]; omega), HL.out]
      generalize hX : o.insertIdx u ((k : Int) + 1) = X at hx hpt hxx
      have HXP := Lib.hid hx
      have HPT := Lib.hid hpt
      have HXX := Lib.hid hxx
      have HXD := Lib.hid hX
      clear hx hpt hxx hX
      rcases hgd : goodO X with _ | _
      · gi_wp2_with (first
          | (refine ⟨trivial, ?_⟩; gi_at_call 52; refine (callsIn_wide.2 CC.out).mono ?_; rintro e w1 ⟨v, rfl, ho, hb1⟩; obtain ⟨g1, c1, rfl, hg1, hI1⟩ := IRow.of_own ho h0; have hl1 := hI1.lt)
          | (refine ⟨trivial, ?_⟩; gi_at_call 51; refine (callsIn_wide.2 (insert_any wr.heap.size g1 k c1 u _ o ((k : Int) + 1) _ (hI1.alloc _) (new_blk _ rfl) (by omega) (by omega) h0 (by omega) hg1)).mono ?_; rintro e w2 ⟨g2, c2, rfl, hg2, hI2, hb2⟩; rw [HXD.out] at hI2; have hB2 : Below wr.heap.size wr w2 := (ba hb1 _).trans hb2)
          | (refine ⟨trivial, ?_⟩; gi_at_call 24; refine (callsIn_wide.2 (hgood_any g2 (k + 1) c2 X w2 hI2 (by omega) (by omega) (by rw [HXX.out]; exact HXP.out))).mono ?_; rintro e w3 ⟨gh, rfl, hb3, hgC⟩; rw [hgd] at hgC; have hB3 := stay_b hB2 hb3)
          | (refine ⟨trivial, ?_⟩; gi_at_call 23; refine (callsIn_wide.2 hgC).mono ?_; rintro e w4 ⟨rfl, hb4⟩; have hB4 := stay_b hB3 hb4))
        refine ⟨trivial, ?_⟩
        gi_wp2
        go_roundw
        case rel =>
          refine ⟨u + 1, xs, by omega, by go_num, ?_, HJ.out _ _ _ hJs hB4, hkp.trans (KpI.of_below hB4)⟩
          rw [gParts_succ, HPT.out, hgd, HX.out]
          simp
        case measure => simp [intOf]; omega
      · obtain ⟨rest, hrest⟩ := gParts_split r o (p := u) (by rw [HL.out]; exact hlt)
        rw [HPT.out, hgd, if_pos rfl] at hrest
        have HRS := Lib.hid hrest
        clear hrest
        gi_wp2_with (first
          | (refine ⟨trivial, ?_⟩; gi_at_call 52; refine (callsIn_wide.2 CC.out).mono ?_; rintro e w1 ⟨v, rfl, ho, hb1⟩; obtain ⟨g1, c1, rfl, hg1, hI1⟩ := IRow.of_own ho h0; have hl1 := hI1.lt)
          | (refine ⟨trivial, ?_⟩; gi_at_call 51; refine (callsIn_wide.2 (insert_any wr.heap.size g1 k c1 u _ o ((k : Int) + 1) _ (hI1.alloc _) (new_blk _ rfl) (by omega) (by omega) h0 (by omega) hg1)).mono ?_; rintro e w2 ⟨g2, c2, rfl, hg2, hI2, hb2⟩; rw [HXD.out] at hI2; have hB2 : Below wr.heap.size wr w2 := (ba hb1 _).trans hb2)
          | (refine ⟨trivial, ?_⟩; gi_at_call 24; refine (callsIn_wide.2 (hgood_any g2 (k + 1) c2 X w2 hI2 (by omega) (by omega) (by rw [HXX.out]; exact HXP.out))).mono ?_; rintro e w3 ⟨gh, rfl, hb3, hgC⟩; rw [hgd] at hgC; have hB3 := stay_b hB2 hb3)
          | (refine ⟨trivial, ?_⟩; gi_at_call 23; refine (callsIn_wide.2 hgC).mono ?_; rintro e w4 ⟨rfl, hb4⟩; have hB4 := stay_b hB3 hb4)
          | (refine ⟨trivial, ?_⟩; gi_at_call 42; refine (callsIn_wide.2 (callsIn_wide.1 (IH.out (k + 1) g2 c2 X (before ++ gParts r o u) (rest ++ after) (pre ++ xs) w4 (by omega) (by omega) (hI2.keep (KpI.of_below (hb3.trans (hb4.mono hb3.size)))) (by omega) (by have := hB4.size; omega) HXP.out (by rw [HLs.out, HRS.out]; simp only [List.append_assoc]) (by rw [List.length_append, List.length_append, HPR.out, HX.out]) (HJ.out _ _ _ hJs hB4)))).mono ?_; rintro e w5 ⟨rfl, ⟨ys, hyl, hJy⟩, hk5⟩))
        go_roundw
        case rel =>
          refine ⟨u + 1, xs ++ ys, by omega, by go_num, ?_, by rw [← List.append_assoc]; exact hJy, (hkp.trans (KpI.of_below hB4)).trans hk5⟩
          rw [gParts_succ, HPT.out, hgd, if_pos rfl, List.length_append, List.length_append, HX.out, hyl]
        case measure => simp [intOf]; omega
    · obtain rfl : u = k + 1 := by omega
      gi_wp2
      go_ret
      exact ⟨rfl, ⟨xs, by rw [HX.out, growL_succ, HL.out], hJs⟩, hkp⟩
end Go.Proofs.Ytjikhdnlcoohbaa
