/- beside at a neighbour. Printed by gen_gr46.py. -/
import Derived.Test.YthfhkmgegkhljaaDoorGr45
namespace Go.Proofs.YthfhkmgegkhljaaDoor
set_option linter.unusedSimpArgs false
set_option linter.unusedVariables false
open Go.RowKit

theorem eqT3_iff (a b : T3) : eqT3 a b = true ↔ a = b := by
  obtain ⟨a1, a2, a3⟩ := a
  obtain ⟨b1, b2, b3⟩ := b
  simp [eqT3, eqL]
theorem stepd {w : World} (h : Steps w.drew) (o : Obj) : Steps (w.alloc o).drew := ⟨al_d h.a0 o, al_d h.a1 o, al_d h.b0 o, al_d h.b1 o, al_d h.c0 o, al_d h.c1 o, al_d h.d0 o, al_d h.d1 o⟩
theorem Steps.set3' {w : World} (h : Steps w) {g : Nat} (hg : g ≠ 0) (x y z : Value) : Steps (((w.setCell ⟨g, 0, none⟩ x).setCell ⟨g, 1, none⟩ y).setCell ⟨g, 2, none⟩ z) :=
  ⟨far3 h.a0 hg _ _ _, far3 h.a1 hg _ _ _, far3 h.b0 hg _ _ _, far3 h.b1 hg _ _ _, far3 h.c0 hg _ _ _, far3 h.c1 hg _ _ _, far3 h.d0 hg _ _ _, far3 h.d1 hg _ _ _⟩

set_option maxRecDepth 100000 in
set_option maxHeartbeats 6400000 in
theorem beside_at (x y k : Int) (i0 : Nat) (w : World) (hs : Steps w) (ht : triMayB x y k = true) (hi : i0 < 3) :
    Calls Tryd.prog 30 #[aggT x y k, aggT3 (nextT x y k i0)] w fun e w' => e = .returned (.bool true) ∧ Below w.heap.size w w' := by
  obtain ⟨⟨x1, x2⟩, ⟨y1, y2⟩, k1, k2⟩ := triMayB_bd ht
  have hge := fun w hs => gedges_ok x y k w hs ht
  have hc0 := fun w hs => across_edge x y k 0 w (by omega) hs ht
  have hc1 := fun w hs => across_edge x y k 1 w (by omega) hs ht
  have hc2 := fun w hs => across_edge x y k 2 w (by omega) hs ht
  obtain ⟨E0, hE0⟩ : ∃ a : E4, a = edgeT x y k 0 := ⟨_, rfl⟩
  obtain ⟨V0, hV0⟩ : ∃ a : T3, a = nextT x y k 0 := ⟨_, rfl⟩
  obtain ⟨E1, hE1⟩ : ∃ a : E4, a = edgeT x y k 1 := ⟨_, rfl⟩
  obtain ⟨V1, hV1⟩ : ∃ a : T3, a = nextT x y k 1 := ⟨_, rfl⟩
  obtain ⟨E2, hE2⟩ : ∃ a : E4, a = edgeT x y k 2 := ⟨_, rfl⟩
  obtain ⟨V2, hV2⟩ : ∃ a : T3, a = nextT x y k 2 := ⟨_, rfl⟩
  simp only [← hE0, ← hE1, ← hE2] at hge
  have HGE := Lib.hid hge
  simp only [← hE0, ← hV0] at hc0
  have HC0 := Lib.hid hc0
  simp only [← hE1, ← hV1] at hc1
  have HC1 := Lib.hid hc1
  simp only [← hE2, ← hV2] at hc2
  have HC2 := Lib.hid hc2
  obtain ⟨U, hU⟩ : ∃ a : T3, a = nextT x y k i0 := ⟨_, rfl⟩
  rw [← hU]
  have heq : (i0 = 0 → V0 = U) ∧ (i0 = 1 → V1 = U) ∧ (i0 = 2 → V2 = U) := ⟨fun h => by rw [hV0, hU, h], fun h => by rw [hV1, hU, h], fun h => by rw [hV2, hU, h]⟩
  have HEQ := Lib.hid heq
  clear hge hc0 hc1 hc2 heq hU hV0 hV1 hV2 hE0 hE1 hE2 ht
  go_enter Tryd.func30, Tryd.ntmps30
  go_wp2_with fail
  refine (HGE.out _ ((hs.alloc _).alloc _)).mono ?_
  rintro e w1 ⟨rfl, hb1⟩
  have k_t_1 : w1.heap[w.heap.size]? = some (.cells #[.int .i64 x, .int .i64 y, .int .i64 k] 23 (0, 0)) := blk_below (blk_alloc (new_blk (.cells #[.int .i64 x, .int .i64 y, .int .i64 k] 23) (by first | rfl | (simp; done) | (simp; omega))) _) hb1 (by first | (simp; done) | (simp; omega))
  have k_u_1 : w1.heap[w.heap.size + 1]? = some (.cells #[.int .i64 (U.1), .int .i64 (U.2.1), .int .i64 (U.2.2)] 23 (0, 0)) := blk_below (new_blk (.cells #[.int .i64 (U.1), .int .i64 (U.2.1), .int .i64 (U.2.2)] 23) (by first | rfl | (simp; done) | (simp; omega))) hb1 (by first | (simp; done) | (simp; omega))
  have hw_1 : Below w.heap.size w w1 := stay_b (ba (ba (Below.refl _ _) _) _) hb1
  have hs_1 := ((hs.alloc _).alloc _).below hb1
  clear hb1
  have c_t_0 := cell_of_blk k_t_1 0
  have c_t_1 := cell_of_blk k_t_1 1
  have c_t_2 := cell_of_blk k_t_1 2
  simp only [List.getElem?_toArray, List.getElem?_cons_zero, List.getElem?_cons_succ] at c_t_0 c_t_1 c_t_2
  have f_t := frozen_of_blk k_t_1
  have s_t := blk_lt k_t_1
  have c_u_0 := cell_of_blk k_u_1 0
  have c_u_1 := cell_of_blk k_u_1 1
  have c_u_2 := cell_of_blk k_u_1 2
  simp only [List.getElem?_toArray, List.getElem?_cons_zero, List.getElem?_cons_succ] at c_u_0 c_u_1 c_u_2
  have f_u := frozen_of_blk k_u_1
  have s_u := blk_lt k_u_1
  go_upto_region 2 with fail
  have k_t_2 : ((w1.alloc (.cells #[.int .i64 (E0.1), .int .i64 (E0.2.1), .int .i64 (E0.2.2.1), .int .i64 (E0.2.2.2), .int .i64 (E1.1), .int .i64 (E1.2.1), .int .i64 (E1.2.2.1), .int .i64 (E1.2.2.2), .int .i64 (E2.1), .int .i64 (E2.2.1), .int .i64 (E2.2.2.1), .int .i64 (E2.2.2.2)] 32))).heap[w.heap.size]? = some (.cells #[.int .i64 x, .int .i64 y, .int .i64 k] 23 (0, 0)) := (blk_alloc k_t_1 _)
  have k_u_2 : ((w1.alloc (.cells #[.int .i64 (E0.1), .int .i64 (E0.2.1), .int .i64 (E0.2.2.1), .int .i64 (E0.2.2.2), .int .i64 (E1.1), .int .i64 (E1.2.1), .int .i64 (E1.2.2.1), .int .i64 (E1.2.2.2), .int .i64 (E2.1), .int .i64 (E2.2.1), .int .i64 (E2.2.2.1), .int .i64 (E2.2.2.2)] 32))).heap[w.heap.size + 1]? = some (.cells #[.int .i64 (U.1), .int .i64 (U.2.1), .int .i64 (U.2.2)] 23 (0, 0)) := (blk_alloc k_u_1 _)
  have k_l_2 : ((w1.alloc (.cells #[.int .i64 (E0.1), .int .i64 (E0.2.1), .int .i64 (E0.2.2.1), .int .i64 (E0.2.2.2), .int .i64 (E1.1), .int .i64 (E1.2.1), .int .i64 (E1.2.2.1), .int .i64 (E1.2.2.2), .int .i64 (E2.1), .int .i64 (E2.2.1), .int .i64 (E2.2.2.1), .int .i64 (E2.2.2.2)] 32))).heap[w1.heap.size]? = some (.cells #[.int .i64 (E0.1), .int .i64 (E0.2.1), .int .i64 (E0.2.2.1), .int .i64 (E0.2.2.2), .int .i64 (E1.1), .int .i64 (E1.2.1), .int .i64 (E1.2.2.1), .int .i64 (E1.2.2.2), .int .i64 (E2.1), .int .i64 (E2.2.1), .int .i64 (E2.2.2.1), .int .i64 (E2.2.2.2)] 32 (0, 0)) := (new_blk (.cells #[.int .i64 (E0.1), .int .i64 (E0.2.1), .int .i64 (E0.2.2.1), .int .i64 (E0.2.2.2), .int .i64 (E1.1), .int .i64 (E1.2.1), .int .i64 (E1.2.2.1), .int .i64 (E1.2.2.2), .int .i64 (E2.1), .int .i64 (E2.2.1), .int .i64 (E2.2.2.1), .int .i64 (E2.2.2.2)] 32) (by first | rfl | (simp; done) | (simp; omega)))
  have hw_2 : Below w.heap.size w ((w1.alloc (.cells #[.int .i64 (E0.1), .int .i64 (E0.2.1), .int .i64 (E0.2.2.1), .int .i64 (E0.2.2.2), .int .i64 (E1.1), .int .i64 (E1.2.1), .int .i64 (E1.2.2.1), .int .i64 (E1.2.2.2), .int .i64 (E2.1), .int .i64 (E2.2.1), .int .i64 (E2.2.2.1), .int .i64 (E2.2.2.2)] 32))) := (ba hw_1 _)
  have hs_2 : Steps ((w1.alloc (.cells #[.int .i64 (E0.1), .int .i64 (E0.2.1), .int .i64 (E0.2.2.1), .int .i64 (E0.2.2.2), .int .i64 (E1.1), .int .i64 (E1.2.1), .int .i64 (E1.2.2.1), .int .i64 (E1.2.2.2), .int .i64 (E2.1), .int .i64 (E2.2.1), .int .i64 (E2.2.2.1), .int .i64 (E2.2.2.2)] 32))) := (hs_1.alloc _)
  clear c_t_0 c_t_1 c_t_2 f_t s_t c_u_0 c_u_1 c_u_2 f_u s_u k_t_1 k_u_1 hw_1
  generalize ((w1.alloc (.cells #[.int .i64 (E0.1), .int .i64 (E0.2.1), .int .i64 (E0.2.2.1), .int .i64 (E0.2.2.2), .int .i64 (E1.1), .int .i64 (E1.2.1), .int .i64 (E1.2.2.1), .int .i64 (E1.2.2.2), .int .i64 (E2.1), .int .i64 (E2.2.1), .int .i64 (E2.2.2.1), .int .i64 (E2.2.2.2)] 32))) = w0 at k_t_2 k_u_2 k_l_2 hs_2 hw_2 ⊢
  have hl0 := blk_lt k_l_2
  have hu0 := blk_lt k_u_2
  have hsz := hw_2.size
  have hlt : w1.heap.size < w0.heap.size := hl0
  go_wp2
  go_loopw [7] (fun i wr => ∃ n : Nat, n ≤ i0 ∧ i = .int .i64 n ∧ Below w0.heap.size w0 wr) (fun i _ => 3 - (intOf i).toNat)
  case atStart => exact ⟨0, by omega, rfl, Below.refl _ _⟩
  case round =>
    obtain ⟨n, hn, rfl, hbel⟩ := hrel
    have k_t_50 := blk_below k_t_2 hbel (blk_lt k_t_2)
    have k_u_50 := blk_below k_u_2 hbel (blk_lt k_u_2)
    have k_l_50 := blk_below k_l_2 hbel (blk_lt k_l_2)
    have hs_50 := hs_2.below hbel
    have hw_50 : Below w.heap.size w wr := hw_2.trans (hbel.mono hw_2.size)
    have hszr := hbel.size
    clear k_t_2 k_u_2 k_l_2 hs_1 hs_2
    have hn4 : n = 0 ∨ n = 1 ∨ n = 2 := by omega
    rcases hn4 with rfl | rfl | rfl
    · rcases Bool.eq_false_or_eq_true (eqT3 V0 U) with q | q
      · have r : ∀ w : World, (binOp .eql 23 (aggT3 V0) (aggT3 U)).run Tryd.prog w = .ok (.bool true) w := fun w => by rw [eqT]; have := q; simp only [eqT3] at this; rw [this]
        clear q
        go_wp2_with fail
        have kt : wr.drew.heap[w.heap.size]? = some (.cells #[.int .i64 x, .int .i64 y, .int .i64 k] 23 (0, 0)) := k_t_50
        have ku : wr.drew.heap[w.heap.size + 1]? = some (.cells #[.int .i64 (U.1), .int .i64 (U.2.1), .int .i64 (U.2.2)] 23 (0, 0)) := k_u_50
        have kl : wr.drew.heap[w1.heap.size]? = some (.cells #[.int .i64 (E0.1), .int .i64 (E0.2.1), .int .i64 (E0.2.2.1), .int .i64 (E0.2.2.2), .int .i64 (E1.1), .int .i64 (E1.2.1), .int .i64 (E1.2.2.1), .int .i64 (E1.2.2.2), .int .i64 (E2.1), .int .i64 (E2.2.1), .int .i64 (E2.2.2.1), .int .i64 (E2.2.2.2)] 32 (0, 0)) := k_l_50
        have ct0 := cell_of_blk kt 0
        have ct1 := cell_of_blk kt 1
        have ct2 := cell_of_blk kt 2
        simp only [List.getElem?_toArray, List.getElem?_cons_zero, List.getElem?_cons_succ] at ct0 ct1 ct2
        have cl0 := cell_of_blk kl 0
        have cl1 := cell_of_blk kl 1
        have cl2 := cell_of_blk kl 2
        have cl3 := cell_of_blk kl 3
        have cl4 := cell_of_blk kl 4
        have cl5 := cell_of_blk kl 5
        have cl6 := cell_of_blk kl 6
        have cl7 := cell_of_blk kl 7
        have cl8 := cell_of_blk kl 8
        have cl9 := cell_of_blk kl 9
        have cl10 := cell_of_blk kl 10
        have cl11 := cell_of_blk kl 11
        simp only [List.getElem?_toArray, List.getElem?_cons_zero, List.getElem?_cons_succ] at cl0 cl1 cl2 cl3 cl4 cl5 cl6 cl7 cl8 cl9 cl10 cl11
        have nt : wr.heap.size ≠ w.heap.size := by omega
        have nl : wr.heap.size ≠ w1.heap.size := by omega
        have n0 : wr.heap.size ≠ 0 := by omega
        have hbw : Below w0.heap.size w0 wr.drew := hbel.drew
        have hlw : w0.heap.size ≤ wr.heap.size := hszr
        have hsd : Steps wr.drew := hs_50.below (Below.refl _ _).drew
        have hS0 := And.intro ct0 (And.intro ct1 (And.intro ct2 (And.intro cl0 (And.intro cl1 (And.intro cl2 (And.intro cl3 (And.intro cl4 (And.intro cl5 (And.intro cl6 (And.intro cl7 (And.intro cl8 (And.intro cl9 (And.intro cl10 (And.intro cl11 (And.intro hbw hsd)))))))))))))))
        clear ct0 ct1 ct2 cl0 cl1 cl2 cl3 cl4 cl5 cl6 cl7 cl8 cl9 cl10 cl11
        go_region_held3 (fun w' => w'.cell? ⟨w.heap.size, 0, none⟩ = some (.int .i64 x) ∧ w'.cell? ⟨w.heap.size, 1, none⟩ = some (.int .i64 y) ∧ w'.cell? ⟨w.heap.size, 2, none⟩ = some (.int .i64 k) ∧ w'.cell? ⟨w1.heap.size, 0, none⟩ = some (.int .i64 E0.1) ∧ w'.cell? ⟨w1.heap.size, 1, none⟩ = some (.int .i64 E0.2.1) ∧ w'.cell? ⟨w1.heap.size, 2, none⟩ = some (.int .i64 E0.2.2.1) ∧ w'.cell? ⟨w1.heap.size, 3, none⟩ = some (.int .i64 E0.2.2.2) ∧ w'.cell? ⟨w1.heap.size, 4, none⟩ = some (.int .i64 E1.1) ∧ w'.cell? ⟨w1.heap.size, 5, none⟩ = some (.int .i64 E1.2.1) ∧ w'.cell? ⟨w1.heap.size, 6, none⟩ = some (.int .i64 E1.2.2.1) ∧ w'.cell? ⟨w1.heap.size, 7, none⟩ = some (.int .i64 E1.2.2.2) ∧ w'.cell? ⟨w1.heap.size, 8, none⟩ = some (.int .i64 E2.1) ∧ w'.cell? ⟨w1.heap.size, 9, none⟩ = some (.int .i64 E2.2.1) ∧ w'.cell? ⟨w1.heap.size, 10, none⟩ = some (.int .i64 E2.2.2.1) ∧ w'.cell? ⟨w1.heap.size, 11, none⟩ = some (.int .i64 E2.2.2.2) ∧ Below w0.heap.size w0 w' ∧ Steps w')
          (first
            | with_reducible exact hS0
            | (go_split_ands; with_reducible exact ⟨al_c ‹_› _, al_c ‹_› _, al_c ‹_› _, al_c ‹_› _, al_c ‹_› _, al_c ‹_› _, al_c ‹_› _, al_c ‹_› _, al_c ‹_› _, al_c ‹_› _, al_c ‹_› _, al_c ‹_› _, al_c ‹_› _, al_c ‹_› _, al_c ‹_› _, ba ‹_› _, Steps.alloc ‹_› _⟩)
            | (go_split_ands; with_reducible exact ⟨al_d ‹_› _, al_d ‹_› _, al_d ‹_› _, al_d ‹_› _, al_d ‹_› _, al_d ‹_› _, al_d ‹_› _, al_d ‹_› _, al_d ‹_› _, al_d ‹_› _, al_d ‹_› _, al_d ‹_› _, al_d ‹_› _, al_d ‹_› _, al_d ‹_› _, bd ‹_› hlw _, stepd ‹_› _⟩)
            | (go_split_ands; with_reducible exact ⟨re_c ‹_› gt, re_c ‹_› gt, re_c ‹_› gt, re_c ‹_› gk, re_c ‹_› gk, re_c ‹_› gk, re_c ‹_› gk, re_c ‹_› gk, re_c ‹_› gk, re_c ‹_› gk, re_c ‹_› gk, re_c ‹_› gk, re_c ‹_› gk, re_c ‹_› gk, re_c ‹_› gk, ba hbw _, Steps.alloc hsq _⟩)
            | (go_split_ands; with_reducible exact ⟨far3 ‹_› nt _ _ _, far3 ‹_› nt _ _ _, far3 ‹_› nt _ _ _, far3 ‹_› nl _ _ _, far3 ‹_› nl _ _ _, far3 ‹_› nl _ _ _, far3 ‹_› nl _ _ _, far3 ‹_› nl _ _ _, far3 ‹_› nl _ _ _, far3 ‹_› nl _ _ _, far3 ‹_› nl _ _ _, far3 ‹_› nl _ _ _, far3 ‹_› nl _ _ _, far3 ‹_› nl _ _ _, far3 ‹_› nl _ _ _, set3_below ‹_› _ hlw _ _ _, Steps.set3' ‹_› n0 _ _ _⟩)
            | (go_split_ands; with_reducible exact ⟨stay_c ‹_› hbc (Nat.le_refl _), stay_c ‹_› hbc (Nat.le_refl _), stay_c ‹_› hbc (Nat.le_refl _), stay_c ‹_› hbc (Nat.le_refl _), stay_c ‹_› hbc (Nat.le_refl _), stay_c ‹_› hbc (Nat.le_refl _), stay_c ‹_› hbc (Nat.le_refl _), stay_c ‹_› hbc (Nat.le_refl _), stay_c ‹_› hbc (Nat.le_refl _), stay_c ‹_› hbc (Nat.le_refl _), stay_c ‹_› hbc (Nat.le_refl _), stay_c ‹_› hbc (Nat.le_refl _), stay_c ‹_› hbc (Nat.le_refl _), stay_c ‹_› hbc (Nat.le_refl _), stay_c ‹_› hbc (Nat.le_refl _), stay_b ‹_› hbc, Steps.below ‹_› hbc⟩))
          (((with_reducible refine (HC0.out _ (by first | exact hsd | exact stepd hsd _)).mono ?_); rintro e' wc ⟨he, hbc⟩; subst he; have hsq := Steps.below (by first | exact hsd | exact stepd hsd _) hbc; (first | (have kt := blk_below kt hbc (blk_lt kt)) | (have kt := blk_below (blk_ad kt _) hbc (blk_lt (blk_ad kt _)))); (first | (have ku := blk_below ku hbc (blk_lt ku)) | (have ku := blk_below (blk_ad ku _) hbc (blk_lt (blk_ad ku _)))); (first | (have kl := blk_below kl hbc (blk_lt kl)) | (have kl := blk_below (blk_ad kl _) hbc (blk_lt (blk_ad kl _)))); (first | (have hbw := stay_b hbw hbc) | (have hbw := stay_b (bd hbw hlw _) hbc)); (first | (have qn := blk_below (new_d _ _) hbc (by simp); (try simp only [World.size_alloc] at qn); have z0 := cell_of_blk qn 0; have z1 := cell_of_blk qn 1; have z2 := cell_of_blk qn 2; simp only [List.getElem?_toArray, List.getElem?_cons_zero, List.getElem?_cons_succ] at z0 z1 z2; have zf := frozen_of_blk qn; have zl := blk_lt qn) | skip); have g0 := cell_of_blk ku 0; have g1 := cell_of_blk ku 1; have g2 := cell_of_blk ku 2; simp only [List.getElem?_toArray, List.getElem?_cons_zero, List.getElem?_cons_succ] at g0 g1 g2; have gl := blk_lt ku; have gt := blk_lt kt; have gk := blk_lt kl))
        all_goals (rename_i hH; clear hH)
        all_goals (go_wp2; go_ret; first | exact ⟨rfl, ba (hw_2.trans (hbw.mono hw_2.size)) _⟩ | exact ⟨rfl, set3_below (hw_2.trans (hbw.mono hw_2.size)) _ (by omega) _ _ _⟩)
      · have r : ∀ w : World, (binOp .eql 23 (aggT3 V0) (aggT3 U)).run Tryd.prog w = .ok (.bool false) w := fun w => by rw [eqT]; have := q; simp only [eqT3] at this; rw [this]
        have HN : Hid (i0 ≠ 0) := Lib.hid (fun h => by
          have := (eqT3_iff V0 U).2 (HEQ.out.1 h)
          rw [q] at this
          cases this)
        clear q
        go_wp2_with fail
        have kt : wr.drew.heap[w.heap.size]? = some (.cells #[.int .i64 x, .int .i64 y, .int .i64 k] 23 (0, 0)) := k_t_50
        have ku : wr.drew.heap[w.heap.size + 1]? = some (.cells #[.int .i64 (U.1), .int .i64 (U.2.1), .int .i64 (U.2.2)] 23 (0, 0)) := k_u_50
        have kl : wr.drew.heap[w1.heap.size]? = some (.cells #[.int .i64 (E0.1), .int .i64 (E0.2.1), .int .i64 (E0.2.2.1), .int .i64 (E0.2.2.2), .int .i64 (E1.1), .int .i64 (E1.2.1), .int .i64 (E1.2.2.1), .int .i64 (E1.2.2.2), .int .i64 (E2.1), .int .i64 (E2.2.1), .int .i64 (E2.2.2.1), .int .i64 (E2.2.2.2)] 32 (0, 0)) := k_l_50
        have ct0 := cell_of_blk kt 0
        have ct1 := cell_of_blk kt 1
        have ct2 := cell_of_blk kt 2
        simp only [List.getElem?_toArray, List.getElem?_cons_zero, List.getElem?_cons_succ] at ct0 ct1 ct2
        have cl0 := cell_of_blk kl 0
        have cl1 := cell_of_blk kl 1
        have cl2 := cell_of_blk kl 2
        have cl3 := cell_of_blk kl 3
        have cl4 := cell_of_blk kl 4
        have cl5 := cell_of_blk kl 5
        have cl6 := cell_of_blk kl 6
        have cl7 := cell_of_blk kl 7
        have cl8 := cell_of_blk kl 8
        have cl9 := cell_of_blk kl 9
        have cl10 := cell_of_blk kl 10
        have cl11 := cell_of_blk kl 11
        simp only [List.getElem?_toArray, List.getElem?_cons_zero, List.getElem?_cons_succ] at cl0 cl1 cl2 cl3 cl4 cl5 cl6 cl7 cl8 cl9 cl10 cl11
        have nt : wr.heap.size ≠ w.heap.size := by omega
        have nl : wr.heap.size ≠ w1.heap.size := by omega
        have n0 : wr.heap.size ≠ 0 := by omega
        have hbw : Below w0.heap.size w0 wr.drew := hbel.drew
        have hlw : w0.heap.size ≤ wr.heap.size := hszr
        have hsd : Steps wr.drew := hs_50.below (Below.refl _ _).drew
        have hS0 := And.intro ct0 (And.intro ct1 (And.intro ct2 (And.intro cl0 (And.intro cl1 (And.intro cl2 (And.intro cl3 (And.intro cl4 (And.intro cl5 (And.intro cl6 (And.intro cl7 (And.intro cl8 (And.intro cl9 (And.intro cl10 (And.intro cl11 (And.intro hbw hsd)))))))))))))))
        clear ct0 ct1 ct2 cl0 cl1 cl2 cl3 cl4 cl5 cl6 cl7 cl8 cl9 cl10 cl11
        go_region_held3 (fun w' => w'.cell? ⟨w.heap.size, 0, none⟩ = some (.int .i64 x) ∧ w'.cell? ⟨w.heap.size, 1, none⟩ = some (.int .i64 y) ∧ w'.cell? ⟨w.heap.size, 2, none⟩ = some (.int .i64 k) ∧ w'.cell? ⟨w1.heap.size, 0, none⟩ = some (.int .i64 E0.1) ∧ w'.cell? ⟨w1.heap.size, 1, none⟩ = some (.int .i64 E0.2.1) ∧ w'.cell? ⟨w1.heap.size, 2, none⟩ = some (.int .i64 E0.2.2.1) ∧ w'.cell? ⟨w1.heap.size, 3, none⟩ = some (.int .i64 E0.2.2.2) ∧ w'.cell? ⟨w1.heap.size, 4, none⟩ = some (.int .i64 E1.1) ∧ w'.cell? ⟨w1.heap.size, 5, none⟩ = some (.int .i64 E1.2.1) ∧ w'.cell? ⟨w1.heap.size, 6, none⟩ = some (.int .i64 E1.2.2.1) ∧ w'.cell? ⟨w1.heap.size, 7, none⟩ = some (.int .i64 E1.2.2.2) ∧ w'.cell? ⟨w1.heap.size, 8, none⟩ = some (.int .i64 E2.1) ∧ w'.cell? ⟨w1.heap.size, 9, none⟩ = some (.int .i64 E2.2.1) ∧ w'.cell? ⟨w1.heap.size, 10, none⟩ = some (.int .i64 E2.2.2.1) ∧ w'.cell? ⟨w1.heap.size, 11, none⟩ = some (.int .i64 E2.2.2.2) ∧ Below w0.heap.size w0 w' ∧ Steps w')
          (first
            | with_reducible exact hS0
            | (go_split_ands; with_reducible exact ⟨al_c ‹_› _, al_c ‹_› _, al_c ‹_› _, al_c ‹_› _, al_c ‹_› _, al_c ‹_› _, al_c ‹_› _, al_c ‹_› _, al_c ‹_› _, al_c ‹_› _, al_c ‹_› _, al_c ‹_› _, al_c ‹_› _, al_c ‹_› _, al_c ‹_› _, ba ‹_› _, Steps.alloc ‹_› _⟩)
            | (go_split_ands; with_reducible exact ⟨al_d ‹_› _, al_d ‹_› _, al_d ‹_› _, al_d ‹_› _, al_d ‹_› _, al_d ‹_› _, al_d ‹_› _, al_d ‹_› _, al_d ‹_› _, al_d ‹_› _, al_d ‹_› _, al_d ‹_› _, al_d ‹_› _, al_d ‹_› _, al_d ‹_› _, bd ‹_› hlw _, stepd ‹_› _⟩)
            | (go_split_ands; with_reducible exact ⟨re_c ‹_› gt, re_c ‹_› gt, re_c ‹_› gt, re_c ‹_› gk, re_c ‹_› gk, re_c ‹_› gk, re_c ‹_› gk, re_c ‹_› gk, re_c ‹_› gk, re_c ‹_› gk, re_c ‹_› gk, re_c ‹_› gk, re_c ‹_› gk, re_c ‹_› gk, re_c ‹_› gk, ba hbw _, Steps.alloc hsq _⟩)
            | (go_split_ands; with_reducible exact ⟨far3 ‹_› nt _ _ _, far3 ‹_› nt _ _ _, far3 ‹_› nt _ _ _, far3 ‹_› nl _ _ _, far3 ‹_› nl _ _ _, far3 ‹_› nl _ _ _, far3 ‹_› nl _ _ _, far3 ‹_› nl _ _ _, far3 ‹_› nl _ _ _, far3 ‹_› nl _ _ _, far3 ‹_› nl _ _ _, far3 ‹_› nl _ _ _, far3 ‹_› nl _ _ _, far3 ‹_› nl _ _ _, far3 ‹_› nl _ _ _, set3_below ‹_› _ hlw _ _ _, Steps.set3' ‹_› n0 _ _ _⟩)
            | (go_split_ands; with_reducible exact ⟨stay_c ‹_› hbc (Nat.le_refl _), stay_c ‹_› hbc (Nat.le_refl _), stay_c ‹_› hbc (Nat.le_refl _), stay_c ‹_› hbc (Nat.le_refl _), stay_c ‹_› hbc (Nat.le_refl _), stay_c ‹_› hbc (Nat.le_refl _), stay_c ‹_› hbc (Nat.le_refl _), stay_c ‹_› hbc (Nat.le_refl _), stay_c ‹_› hbc (Nat.le_refl _), stay_c ‹_› hbc (Nat.le_refl _), stay_c ‹_› hbc (Nat.le_refl _), stay_c ‹_› hbc (Nat.le_refl _), stay_c ‹_› hbc (Nat.le_refl _), stay_c ‹_› hbc (Nat.le_refl _), stay_c ‹_› hbc (Nat.le_refl _), stay_b ‹_› hbc, Steps.below ‹_› hbc⟩))
          (((with_reducible refine (HC0.out _ (by first | exact hsd | exact stepd hsd _)).mono ?_); rintro e' wc ⟨he, hbc⟩; subst he; have hsq := Steps.below (by first | exact hsd | exact stepd hsd _) hbc; (first | (have kt := blk_below kt hbc (blk_lt kt)) | (have kt := blk_below (blk_ad kt _) hbc (blk_lt (blk_ad kt _)))); (first | (have ku := blk_below ku hbc (blk_lt ku)) | (have ku := blk_below (blk_ad ku _) hbc (blk_lt (blk_ad ku _)))); (first | (have kl := blk_below kl hbc (blk_lt kl)) | (have kl := blk_below (blk_ad kl _) hbc (blk_lt (blk_ad kl _)))); (first | (have hbw := stay_b hbw hbc) | (have hbw := stay_b (bd hbw hlw _) hbc)); (first | (have qn := blk_below (new_d _ _) hbc (by simp); (try simp only [World.size_alloc] at qn); have z0 := cell_of_blk qn 0; have z1 := cell_of_blk qn 1; have z2 := cell_of_blk qn 2; simp only [List.getElem?_toArray, List.getElem?_cons_zero, List.getElem?_cons_succ] at z0 z1 z2; have zf := frozen_of_blk qn; have zl := blk_lt qn) | skip); have g0 := cell_of_blk ku 0; have g1 := cell_of_blk ku 1; have g2 := cell_of_blk ku 2; simp only [List.getElem?_toArray, List.getElem?_cons_zero, List.getElem?_cons_succ] at g0 g1 g2; have gl := blk_lt ku; have gt := blk_lt kt; have gk := blk_lt kl))
        all_goals (rename_i hH; clear hH)
        all_goals (go_wp2; go_roundw)
        all_goals first
          | (exact ⟨1, by have := HN.out; omega, rfl, ba hbw _⟩)
          | (exact ⟨1, by have := HN.out; omega, rfl, set3_below hbw _ (by omega) _ _ _⟩)
          | (simp [intOf])
    · rcases Bool.eq_false_or_eq_true (eqT3 V1 U) with q | q
      · have r : ∀ w : World, (binOp .eql 23 (aggT3 V1) (aggT3 U)).run Tryd.prog w = .ok (.bool true) w := fun w => by rw [eqT]; have := q; simp only [eqT3] at this; rw [this]
        clear q
        go_wp2_with fail
        have kt : wr.drew.heap[w.heap.size]? = some (.cells #[.int .i64 x, .int .i64 y, .int .i64 k] 23 (0, 0)) := k_t_50
        have ku : wr.drew.heap[w.heap.size + 1]? = some (.cells #[.int .i64 (U.1), .int .i64 (U.2.1), .int .i64 (U.2.2)] 23 (0, 0)) := k_u_50
        have kl : wr.drew.heap[w1.heap.size]? = some (.cells #[.int .i64 (E0.1), .int .i64 (E0.2.1), .int .i64 (E0.2.2.1), .int .i64 (E0.2.2.2), .int .i64 (E1.1), .int .i64 (E1.2.1), .int .i64 (E1.2.2.1), .int .i64 (E1.2.2.2), .int .i64 (E2.1), .int .i64 (E2.2.1), .int .i64 (E2.2.2.1), .int .i64 (E2.2.2.2)] 32 (0, 0)) := k_l_50
        have ct0 := cell_of_blk kt 0
        have ct1 := cell_of_blk kt 1
        have ct2 := cell_of_blk kt 2
        simp only [List.getElem?_toArray, List.getElem?_cons_zero, List.getElem?_cons_succ] at ct0 ct1 ct2
        have cl0 := cell_of_blk kl 0
        have cl1 := cell_of_blk kl 1
        have cl2 := cell_of_blk kl 2
        have cl3 := cell_of_blk kl 3
        have cl4 := cell_of_blk kl 4
        have cl5 := cell_of_blk kl 5
        have cl6 := cell_of_blk kl 6
        have cl7 := cell_of_blk kl 7
        have cl8 := cell_of_blk kl 8
        have cl9 := cell_of_blk kl 9
        have cl10 := cell_of_blk kl 10
        have cl11 := cell_of_blk kl 11
        simp only [List.getElem?_toArray, List.getElem?_cons_zero, List.getElem?_cons_succ] at cl0 cl1 cl2 cl3 cl4 cl5 cl6 cl7 cl8 cl9 cl10 cl11
        have nt : wr.heap.size ≠ w.heap.size := by omega
        have nl : wr.heap.size ≠ w1.heap.size := by omega
        have n0 : wr.heap.size ≠ 0 := by omega
        have hbw : Below w0.heap.size w0 wr.drew := hbel.drew
        have hlw : w0.heap.size ≤ wr.heap.size := hszr
        have hsd : Steps wr.drew := hs_50.below (Below.refl _ _).drew
        have hS0 := And.intro ct0 (And.intro ct1 (And.intro ct2 (And.intro cl0 (And.intro cl1 (And.intro cl2 (And.intro cl3 (And.intro cl4 (And.intro cl5 (And.intro cl6 (And.intro cl7 (And.intro cl8 (And.intro cl9 (And.intro cl10 (And.intro cl11 (And.intro hbw hsd)))))))))))))))
        clear ct0 ct1 ct2 cl0 cl1 cl2 cl3 cl4 cl5 cl6 cl7 cl8 cl9 cl10 cl11
        go_region_held3 (fun w' => w'.cell? ⟨w.heap.size, 0, none⟩ = some (.int .i64 x) ∧ w'.cell? ⟨w.heap.size, 1, none⟩ = some (.int .i64 y) ∧ w'.cell? ⟨w.heap.size, 2, none⟩ = some (.int .i64 k) ∧ w'.cell? ⟨w1.heap.size, 0, none⟩ = some (.int .i64 E0.1) ∧ w'.cell? ⟨w1.heap.size, 1, none⟩ = some (.int .i64 E0.2.1) ∧ w'.cell? ⟨w1.heap.size, 2, none⟩ = some (.int .i64 E0.2.2.1) ∧ w'.cell? ⟨w1.heap.size, 3, none⟩ = some (.int .i64 E0.2.2.2) ∧ w'.cell? ⟨w1.heap.size, 4, none⟩ = some (.int .i64 E1.1) ∧ w'.cell? ⟨w1.heap.size, 5, none⟩ = some (.int .i64 E1.2.1) ∧ w'.cell? ⟨w1.heap.size, 6, none⟩ = some (.int .i64 E1.2.2.1) ∧ w'.cell? ⟨w1.heap.size, 7, none⟩ = some (.int .i64 E1.2.2.2) ∧ w'.cell? ⟨w1.heap.size, 8, none⟩ = some (.int .i64 E2.1) ∧ w'.cell? ⟨w1.heap.size, 9, none⟩ = some (.int .i64 E2.2.1) ∧ w'.cell? ⟨w1.heap.size, 10, none⟩ = some (.int .i64 E2.2.2.1) ∧ w'.cell? ⟨w1.heap.size, 11, none⟩ = some (.int .i64 E2.2.2.2) ∧ Below w0.heap.size w0 w' ∧ Steps w')
          (first
            | with_reducible exact hS0
            | (go_split_ands; with_reducible exact ⟨al_c ‹_› _, al_c ‹_› _, al_c ‹_› _, al_c ‹_› _, al_c ‹_› _, al_c ‹_› _, al_c ‹_› _, al_c ‹_› _, al_c ‹_› _, al_c ‹_› _, al_c ‹_› _, al_c ‹_› _, al_c ‹_› _, al_c ‹_› _, al_c ‹_› _, ba ‹_› _, Steps.alloc ‹_› _⟩)
            | (go_split_ands; with_reducible exact ⟨al_d ‹_› _, al_d ‹_› _, al_d ‹_› _, al_d ‹_› _, al_d ‹_› _, al_d ‹_› _, al_d ‹_› _, al_d ‹_› _, al_d ‹_› _, al_d ‹_› _, al_d ‹_› _, al_d ‹_› _, al_d ‹_› _, al_d ‹_› _, al_d ‹_› _, bd ‹_› hlw _, stepd ‹_› _⟩)
            | (go_split_ands; with_reducible exact ⟨re_c ‹_› gt, re_c ‹_› gt, re_c ‹_› gt, re_c ‹_› gk, re_c ‹_› gk, re_c ‹_› gk, re_c ‹_› gk, re_c ‹_› gk, re_c ‹_› gk, re_c ‹_› gk, re_c ‹_› gk, re_c ‹_› gk, re_c ‹_› gk, re_c ‹_› gk, re_c ‹_› gk, ba hbw _, Steps.alloc hsq _⟩)
            | (go_split_ands; with_reducible exact ⟨far3 ‹_› nt _ _ _, far3 ‹_› nt _ _ _, far3 ‹_› nt _ _ _, far3 ‹_› nl _ _ _, far3 ‹_› nl _ _ _, far3 ‹_› nl _ _ _, far3 ‹_› nl _ _ _, far3 ‹_› nl _ _ _, far3 ‹_› nl _ _ _, far3 ‹_› nl _ _ _, far3 ‹_› nl _ _ _, far3 ‹_› nl _ _ _, far3 ‹_› nl _ _ _, far3 ‹_› nl _ _ _, far3 ‹_› nl _ _ _, set3_below ‹_› _ hlw _ _ _, Steps.set3' ‹_› n0 _ _ _⟩)
            | (go_split_ands; with_reducible exact ⟨stay_c ‹_› hbc (Nat.le_refl _), stay_c ‹_› hbc (Nat.le_refl _), stay_c ‹_› hbc (Nat.le_refl _), stay_c ‹_› hbc (Nat.le_refl _), stay_c ‹_› hbc (Nat.le_refl _), stay_c ‹_› hbc (Nat.le_refl _), stay_c ‹_› hbc (Nat.le_refl _), stay_c ‹_› hbc (Nat.le_refl _), stay_c ‹_› hbc (Nat.le_refl _), stay_c ‹_› hbc (Nat.le_refl _), stay_c ‹_› hbc (Nat.le_refl _), stay_c ‹_› hbc (Nat.le_refl _), stay_c ‹_› hbc (Nat.le_refl _), stay_c ‹_› hbc (Nat.le_refl _), stay_c ‹_› hbc (Nat.le_refl _), stay_b ‹_› hbc, Steps.below ‹_› hbc⟩))
          (((with_reducible refine (HC1.out _ (by first | exact hsd | exact stepd hsd _)).mono ?_); rintro e' wc ⟨he, hbc⟩; subst he; have hsq := Steps.below (by first | exact hsd | exact stepd hsd _) hbc; (first | (have kt := blk_below kt hbc (blk_lt kt)) | (have kt := blk_below (blk_ad kt _) hbc (blk_lt (blk_ad kt _)))); (first | (have ku := blk_below ku hbc (blk_lt ku)) | (have ku := blk_below (blk_ad ku _) hbc (blk_lt (blk_ad ku _)))); (first | (have kl := blk_below kl hbc (blk_lt kl)) | (have kl := blk_below (blk_ad kl _) hbc (blk_lt (blk_ad kl _)))); (first | (have hbw := stay_b hbw hbc) | (have hbw := stay_b (bd hbw hlw _) hbc)); (first | (have qn := blk_below (new_d _ _) hbc (by simp); (try simp only [World.size_alloc] at qn); have z0 := cell_of_blk qn 0; have z1 := cell_of_blk qn 1; have z2 := cell_of_blk qn 2; simp only [List.getElem?_toArray, List.getElem?_cons_zero, List.getElem?_cons_succ] at z0 z1 z2; have zf := frozen_of_blk qn; have zl := blk_lt qn) | skip); have g0 := cell_of_blk ku 0; have g1 := cell_of_blk ku 1; have g2 := cell_of_blk ku 2; simp only [List.getElem?_toArray, List.getElem?_cons_zero, List.getElem?_cons_succ] at g0 g1 g2; have gl := blk_lt ku; have gt := blk_lt kt; have gk := blk_lt kl))
        all_goals (rename_i hH; clear hH)
        all_goals (go_wp2; go_ret; first | exact ⟨rfl, ba (hw_2.trans (hbw.mono hw_2.size)) _⟩ | exact ⟨rfl, set3_below (hw_2.trans (hbw.mono hw_2.size)) _ (by omega) _ _ _⟩)
      · have r : ∀ w : World, (binOp .eql 23 (aggT3 V1) (aggT3 U)).run Tryd.prog w = .ok (.bool false) w := fun w => by rw [eqT]; have := q; simp only [eqT3] at this; rw [this]
        have HN : Hid (i0 ≠ 1) := Lib.hid (fun h => by
          have := (eqT3_iff V1 U).2 (HEQ.out.2.1 h)
          rw [q] at this
          cases this)
        clear q
        go_wp2_with fail
        have kt : wr.drew.heap[w.heap.size]? = some (.cells #[.int .i64 x, .int .i64 y, .int .i64 k] 23 (0, 0)) := k_t_50
        have ku : wr.drew.heap[w.heap.size + 1]? = some (.cells #[.int .i64 (U.1), .int .i64 (U.2.1), .int .i64 (U.2.2)] 23 (0, 0)) := k_u_50
        have kl : wr.drew.heap[w1.heap.size]? = some (.cells #[.int .i64 (E0.1), .int .i64 (E0.2.1), .int .i64 (E0.2.2.1), .int .i64 (E0.2.2.2), .int .i64 (E1.1), .int .i64 (E1.2.1), .int .i64 (E1.2.2.1), .int .i64 (E1.2.2.2), .int .i64 (E2.1), .int .i64 (E2.2.1), .int .i64 (E2.2.2.1), .int .i64 (E2.2.2.2)] 32 (0, 0)) := k_l_50
        have ct0 := cell_of_blk kt 0
        have ct1 := cell_of_blk kt 1
        have ct2 := cell_of_blk kt 2
        simp only [List.getElem?_toArray, List.getElem?_cons_zero, List.getElem?_cons_succ] at ct0 ct1 ct2
        have cl0 := cell_of_blk kl 0
        have cl1 := cell_of_blk kl 1
        have cl2 := cell_of_blk kl 2
        have cl3 := cell_of_blk kl 3
        have cl4 := cell_of_blk kl 4
        have cl5 := cell_of_blk kl 5
        have cl6 := cell_of_blk kl 6
        have cl7 := cell_of_blk kl 7
        have cl8 := cell_of_blk kl 8
        have cl9 := cell_of_blk kl 9
        have cl10 := cell_of_blk kl 10
        have cl11 := cell_of_blk kl 11
        simp only [List.getElem?_toArray, List.getElem?_cons_zero, List.getElem?_cons_succ] at cl0 cl1 cl2 cl3 cl4 cl5 cl6 cl7 cl8 cl9 cl10 cl11
        have nt : wr.heap.size ≠ w.heap.size := by omega
        have nl : wr.heap.size ≠ w1.heap.size := by omega
        have n0 : wr.heap.size ≠ 0 := by omega
        have hbw : Below w0.heap.size w0 wr.drew := hbel.drew
        have hlw : w0.heap.size ≤ wr.heap.size := hszr
        have hsd : Steps wr.drew := hs_50.below (Below.refl _ _).drew
        have hS0 := And.intro ct0 (And.intro ct1 (And.intro ct2 (And.intro cl0 (And.intro cl1 (And.intro cl2 (And.intro cl3 (And.intro cl4 (And.intro cl5 (And.intro cl6 (And.intro cl7 (And.intro cl8 (And.intro cl9 (And.intro cl10 (And.intro cl11 (And.intro hbw hsd)))))))))))))))
        clear ct0 ct1 ct2 cl0 cl1 cl2 cl3 cl4 cl5 cl6 cl7 cl8 cl9 cl10 cl11
        go_region_held3 (fun w' => w'.cell? ⟨w.heap.size, 0, none⟩ = some (.int .i64 x) ∧ w'.cell? ⟨w.heap.size, 1, none⟩ = some (.int .i64 y) ∧ w'.cell? ⟨w.heap.size, 2, none⟩ = some (.int .i64 k) ∧ w'.cell? ⟨w1.heap.size, 0, none⟩ = some (.int .i64 E0.1) ∧ w'.cell? ⟨w1.heap.size, 1, none⟩ = some (.int .i64 E0.2.1) ∧ w'.cell? ⟨w1.heap.size, 2, none⟩ = some (.int .i64 E0.2.2.1) ∧ w'.cell? ⟨w1.heap.size, 3, none⟩ = some (.int .i64 E0.2.2.2) ∧ w'.cell? ⟨w1.heap.size, 4, none⟩ = some (.int .i64 E1.1) ∧ w'.cell? ⟨w1.heap.size, 5, none⟩ = some (.int .i64 E1.2.1) ∧ w'.cell? ⟨w1.heap.size, 6, none⟩ = some (.int .i64 E1.2.2.1) ∧ w'.cell? ⟨w1.heap.size, 7, none⟩ = some (.int .i64 E1.2.2.2) ∧ w'.cell? ⟨w1.heap.size, 8, none⟩ = some (.int .i64 E2.1) ∧ w'.cell? ⟨w1.heap.size, 9, none⟩ = some (.int .i64 E2.2.1) ∧ w'.cell? ⟨w1.heap.size, 10, none⟩ = some (.int .i64 E2.2.2.1) ∧ w'.cell? ⟨w1.heap.size, 11, none⟩ = some (.int .i64 E2.2.2.2) ∧ Below w0.heap.size w0 w' ∧ Steps w')
          (first
            | with_reducible exact hS0
            | (go_split_ands; with_reducible exact ⟨al_c ‹_› _, al_c ‹_› _, al_c ‹_› _, al_c ‹_› _, al_c ‹_› _, al_c ‹_› _, al_c ‹_› _, al_c ‹_› _, al_c ‹_› _, al_c ‹_› _, al_c ‹_› _, al_c ‹_› _, al_c ‹_› _, al_c ‹_› _, al_c ‹_› _, ba ‹_› _, Steps.alloc ‹_› _⟩)
            | (go_split_ands; with_reducible exact ⟨al_d ‹_› _, al_d ‹_› _, al_d ‹_› _, al_d ‹_› _, al_d ‹_› _, al_d ‹_› _, al_d ‹_› _, al_d ‹_› _, al_d ‹_› _, al_d ‹_› _, al_d ‹_› _, al_d ‹_› _, al_d ‹_› _, al_d ‹_› _, al_d ‹_› _, bd ‹_› hlw _, stepd ‹_› _⟩)
            | (go_split_ands; with_reducible exact ⟨re_c ‹_› gt, re_c ‹_› gt, re_c ‹_› gt, re_c ‹_› gk, re_c ‹_› gk, re_c ‹_› gk, re_c ‹_› gk, re_c ‹_› gk, re_c ‹_› gk, re_c ‹_› gk, re_c ‹_› gk, re_c ‹_› gk, re_c ‹_› gk, re_c ‹_› gk, re_c ‹_› gk, ba hbw _, Steps.alloc hsq _⟩)
            | (go_split_ands; with_reducible exact ⟨far3 ‹_› nt _ _ _, far3 ‹_› nt _ _ _, far3 ‹_› nt _ _ _, far3 ‹_› nl _ _ _, far3 ‹_› nl _ _ _, far3 ‹_› nl _ _ _, far3 ‹_› nl _ _ _, far3 ‹_› nl _ _ _, far3 ‹_› nl _ _ _, far3 ‹_› nl _ _ _, far3 ‹_› nl _ _ _, far3 ‹_› nl _ _ _, far3 ‹_› nl _ _ _, far3 ‹_› nl _ _ _, far3 ‹_› nl _ _ _, set3_below ‹_› _ hlw _ _ _, Steps.set3' ‹_› n0 _ _ _⟩)
            | (go_split_ands; with_reducible exact ⟨stay_c ‹_› hbc (Nat.le_refl _), stay_c ‹_› hbc (Nat.le_refl _), stay_c ‹_› hbc (Nat.le_refl _), stay_c ‹_› hbc (Nat.le_refl _), stay_c ‹_› hbc (Nat.le_refl _), stay_c ‹_› hbc (Nat.le_refl _), stay_c ‹_› hbc (Nat.le_refl _), stay_c ‹_› hbc (Nat.le_refl _), stay_c ‹_› hbc (Nat.le_refl _), stay_c ‹_› hbc (Nat.le_refl _), stay_c ‹_› hbc (Nat.le_refl _), stay_c ‹_› hbc (Nat.le_refl _), stay_c ‹_› hbc (Nat.le_refl _), stay_c ‹_› hbc (Nat.le_refl _), stay_c ‹_› hbc (Nat.le_refl _), stay_b ‹_› hbc, Steps.below ‹_› hbc⟩))
          (((with_reducible refine (HC1.out _ (by first | exact hsd | exact stepd hsd _)).mono ?_); rintro e' wc ⟨he, hbc⟩; subst he; have hsq := Steps.below (by first | exact hsd | exact stepd hsd _) hbc; (first | (have kt := blk_below kt hbc (blk_lt kt)) | (have kt := blk_below (blk_ad kt _) hbc (blk_lt (blk_ad kt _)))); (first | (have ku := blk_below ku hbc (blk_lt ku)) | (have ku := blk_below (blk_ad ku _) hbc (blk_lt (blk_ad ku _)))); (first | (have kl := blk_below kl hbc (blk_lt kl)) | (have kl := blk_below (blk_ad kl _) hbc (blk_lt (blk_ad kl _)))); (first | (have hbw := stay_b hbw hbc) | (have hbw := stay_b (bd hbw hlw _) hbc)); (first | (have qn := blk_below (new_d _ _) hbc (by simp); (try simp only [World.size_alloc] at qn); have z0 := cell_of_blk qn 0; have z1 := cell_of_blk qn 1; have z2 := cell_of_blk qn 2; simp only [List.getElem?_toArray, List.getElem?_cons_zero, List.getElem?_cons_succ] at z0 z1 z2; have zf := frozen_of_blk qn; have zl := blk_lt qn) | skip); have g0 := cell_of_blk ku 0; have g1 := cell_of_blk ku 1; have g2 := cell_of_blk ku 2; simp only [List.getElem?_toArray, List.getElem?_cons_zero, List.getElem?_cons_succ] at g0 g1 g2; have gl := blk_lt ku; have gt := blk_lt kt; have gk := blk_lt kl))
        all_goals (rename_i hH; clear hH)
        all_goals (go_wp2; go_roundw)
        all_goals first
          | (exact ⟨2, by have := HN.out; omega, rfl, ba hbw _⟩)
          | (exact ⟨2, by have := HN.out; omega, rfl, set3_below hbw _ (by omega) _ _ _⟩)
          | (simp [intOf])
    · rcases Bool.eq_false_or_eq_true (eqT3 V2 U) with q | q
      · have r : ∀ w : World, (binOp .eql 23 (aggT3 V2) (aggT3 U)).run Tryd.prog w = .ok (.bool true) w := fun w => by rw [eqT]; have := q; simp only [eqT3] at this; rw [this]
        clear q
        go_wp2_with fail
        have kt : wr.drew.heap[w.heap.size]? = some (.cells #[.int .i64 x, .int .i64 y, .int .i64 k] 23 (0, 0)) := k_t_50
        have ku : wr.drew.heap[w.heap.size + 1]? = some (.cells #[.int .i64 (U.1), .int .i64 (U.2.1), .int .i64 (U.2.2)] 23 (0, 0)) := k_u_50
        have kl : wr.drew.heap[w1.heap.size]? = some (.cells #[.int .i64 (E0.1), .int .i64 (E0.2.1), .int .i64 (E0.2.2.1), .int .i64 (E0.2.2.2), .int .i64 (E1.1), .int .i64 (E1.2.1), .int .i64 (E1.2.2.1), .int .i64 (E1.2.2.2), .int .i64 (E2.1), .int .i64 (E2.2.1), .int .i64 (E2.2.2.1), .int .i64 (E2.2.2.2)] 32 (0, 0)) := k_l_50
        have ct0 := cell_of_blk kt 0
        have ct1 := cell_of_blk kt 1
        have ct2 := cell_of_blk kt 2
        simp only [List.getElem?_toArray, List.getElem?_cons_zero, List.getElem?_cons_succ] at ct0 ct1 ct2
        have cl0 := cell_of_blk kl 0
        have cl1 := cell_of_blk kl 1
        have cl2 := cell_of_blk kl 2
        have cl3 := cell_of_blk kl 3
        have cl4 := cell_of_blk kl 4
        have cl5 := cell_of_blk kl 5
        have cl6 := cell_of_blk kl 6
        have cl7 := cell_of_blk kl 7
        have cl8 := cell_of_blk kl 8
        have cl9 := cell_of_blk kl 9
        have cl10 := cell_of_blk kl 10
        have cl11 := cell_of_blk kl 11
        simp only [List.getElem?_toArray, List.getElem?_cons_zero, List.getElem?_cons_succ] at cl0 cl1 cl2 cl3 cl4 cl5 cl6 cl7 cl8 cl9 cl10 cl11
        have nt : wr.heap.size ≠ w.heap.size := by omega
        have nl : wr.heap.size ≠ w1.heap.size := by omega
        have n0 : wr.heap.size ≠ 0 := by omega
        have hbw : Below w0.heap.size w0 wr.drew := hbel.drew
        have hlw : w0.heap.size ≤ wr.heap.size := hszr
        have hsd : Steps wr.drew := hs_50.below (Below.refl _ _).drew
        have hS0 := And.intro ct0 (And.intro ct1 (And.intro ct2 (And.intro cl0 (And.intro cl1 (And.intro cl2 (And.intro cl3 (And.intro cl4 (And.intro cl5 (And.intro cl6 (And.intro cl7 (And.intro cl8 (And.intro cl9 (And.intro cl10 (And.intro cl11 (And.intro hbw hsd)))))))))))))))
        clear ct0 ct1 ct2 cl0 cl1 cl2 cl3 cl4 cl5 cl6 cl7 cl8 cl9 cl10 cl11
        go_region_held3 (fun w' => w'.cell? ⟨w.heap.size, 0, none⟩ = some (.int .i64 x) ∧ w'.cell? ⟨w.heap.size, 1, none⟩ = some (.int .i64 y) ∧ w'.cell? ⟨w.heap.size, 2, none⟩ = some (.int .i64 k) ∧ w'.cell? ⟨w1.heap.size, 0, none⟩ = some (.int .i64 E0.1) ∧ w'.cell? ⟨w1.heap.size, 1, none⟩ = some (.int .i64 E0.2.1) ∧ w'.cell? ⟨w1.heap.size, 2, none⟩ = some (.int .i64 E0.2.2.1) ∧ w'.cell? ⟨w1.heap.size, 3, none⟩ = some (.int .i64 E0.2.2.2) ∧ w'.cell? ⟨w1.heap.size, 4, none⟩ = some (.int .i64 E1.1) ∧ w'.cell? ⟨w1.heap.size, 5, none⟩ = some (.int .i64 E1.2.1) ∧ w'.cell? ⟨w1.heap.size, 6, none⟩ = some (.int .i64 E1.2.2.1) ∧ w'.cell? ⟨w1.heap.size, 7, none⟩ = some (.int .i64 E1.2.2.2) ∧ w'.cell? ⟨w1.heap.size, 8, none⟩ = some (.int .i64 E2.1) ∧ w'.cell? ⟨w1.heap.size, 9, none⟩ = some (.int .i64 E2.2.1) ∧ w'.cell? ⟨w1.heap.size, 10, none⟩ = some (.int .i64 E2.2.2.1) ∧ w'.cell? ⟨w1.heap.size, 11, none⟩ = some (.int .i64 E2.2.2.2) ∧ Below w0.heap.size w0 w' ∧ Steps w')
          (first
            | with_reducible exact hS0
            | (go_split_ands; with_reducible exact ⟨al_c ‹_› _, al_c ‹_› _, al_c ‹_› _, al_c ‹_› _, al_c ‹_› _, al_c ‹_› _, al_c ‹_› _, al_c ‹_› _, al_c ‹_› _, al_c ‹_› _, al_c ‹_› _, al_c ‹_› _, al_c ‹_› _, al_c ‹_› _, al_c ‹_› _, ba ‹_› _, Steps.alloc ‹_› _⟩)
            | (go_split_ands; with_reducible exact ⟨al_d ‹_› _, al_d ‹_› _, al_d ‹_› _, al_d ‹_› _, al_d ‹_› _, al_d ‹_› _, al_d ‹_› _, al_d ‹_› _, al_d ‹_› _, al_d ‹_› _, al_d ‹_› _, al_d ‹_› _, al_d ‹_› _, al_d ‹_› _, al_d ‹_› _, bd ‹_› hlw _, stepd ‹_› _⟩)
            | (go_split_ands; with_reducible exact ⟨re_c ‹_› gt, re_c ‹_› gt, re_c ‹_› gt, re_c ‹_› gk, re_c ‹_› gk, re_c ‹_› gk, re_c ‹_› gk, re_c ‹_› gk, re_c ‹_› gk, re_c ‹_› gk, re_c ‹_› gk, re_c ‹_› gk, re_c ‹_› gk, re_c ‹_› gk, re_c ‹_› gk, ba hbw _, Steps.alloc hsq _⟩)
            | (go_split_ands; with_reducible exact ⟨far3 ‹_› nt _ _ _, far3 ‹_› nt _ _ _, far3 ‹_› nt _ _ _, far3 ‹_› nl _ _ _, far3 ‹_› nl _ _ _, far3 ‹_› nl _ _ _, far3 ‹_› nl _ _ _, far3 ‹_› nl _ _ _, far3 ‹_› nl _ _ _, far3 ‹_› nl _ _ _, far3 ‹_› nl _ _ _, far3 ‹_› nl _ _ _, far3 ‹_› nl _ _ _, far3 ‹_› nl _ _ _, far3 ‹_› nl _ _ _, set3_below ‹_› _ hlw _ _ _, Steps.set3' ‹_› n0 _ _ _⟩)
            | (go_split_ands; with_reducible exact ⟨stay_c ‹_› hbc (Nat.le_refl _), stay_c ‹_› hbc (Nat.le_refl _), stay_c ‹_› hbc (Nat.le_refl _), stay_c ‹_› hbc (Nat.le_refl _), stay_c ‹_› hbc (Nat.le_refl _), stay_c ‹_› hbc (Nat.le_refl _), stay_c ‹_› hbc (Nat.le_refl _), stay_c ‹_› hbc (Nat.le_refl _), stay_c ‹_› hbc (Nat.le_refl _), stay_c ‹_› hbc (Nat.le_refl _), stay_c ‹_› hbc (Nat.le_refl _), stay_c ‹_› hbc (Nat.le_refl _), stay_c ‹_› hbc (Nat.le_refl _), stay_c ‹_› hbc (Nat.le_refl _), stay_c ‹_› hbc (Nat.le_refl _), stay_b ‹_› hbc, Steps.below ‹_› hbc⟩))
          (((with_reducible refine (HC2.out _ (by first | exact hsd | exact stepd hsd _)).mono ?_); rintro e' wc ⟨he, hbc⟩; subst he; have hsq := Steps.below (by first | exact hsd | exact stepd hsd _) hbc; (first | (have kt := blk_below kt hbc (blk_lt kt)) | (have kt := blk_below (blk_ad kt _) hbc (blk_lt (blk_ad kt _)))); (first | (have ku := blk_below ku hbc (blk_lt ku)) | (have ku := blk_below (blk_ad ku _) hbc (blk_lt (blk_ad ku _)))); (first | (have kl := blk_below kl hbc (blk_lt kl)) | (have kl := blk_below (blk_ad kl _) hbc (blk_lt (blk_ad kl _)))); (first | (have hbw := stay_b hbw hbc) | (have hbw := stay_b (bd hbw hlw _) hbc)); (first | (have qn := blk_below (new_d _ _) hbc (by simp); (try simp only [World.size_alloc] at qn); have z0 := cell_of_blk qn 0; have z1 := cell_of_blk qn 1; have z2 := cell_of_blk qn 2; simp only [List.getElem?_toArray, List.getElem?_cons_zero, List.getElem?_cons_succ] at z0 z1 z2; have zf := frozen_of_blk qn; have zl := blk_lt qn) | skip); have g0 := cell_of_blk ku 0; have g1 := cell_of_blk ku 1; have g2 := cell_of_blk ku 2; simp only [List.getElem?_toArray, List.getElem?_cons_zero, List.getElem?_cons_succ] at g0 g1 g2; have gl := blk_lt ku; have gt := blk_lt kt; have gk := blk_lt kl))
        all_goals (rename_i hH; clear hH)
        all_goals (go_wp2; go_ret; first | exact ⟨rfl, ba (hw_2.trans (hbw.mono hw_2.size)) _⟩ | exact ⟨rfl, set3_below (hw_2.trans (hbw.mono hw_2.size)) _ (by omega) _ _ _⟩)
      · have r : ∀ w : World, (binOp .eql 23 (aggT3 V2) (aggT3 U)).run Tryd.prog w = .ok (.bool false) w := fun w => by rw [eqT]; have := q; simp only [eqT3] at this; rw [this]
        have HN : Hid (i0 ≠ 2) := Lib.hid (fun h => by
          have := (eqT3_iff V2 U).2 (HEQ.out.2.2 h)
          rw [q] at this
          cases this)
        clear q
        go_wp2_with fail
        have kt : wr.drew.heap[w.heap.size]? = some (.cells #[.int .i64 x, .int .i64 y, .int .i64 k] 23 (0, 0)) := k_t_50
        have ku : wr.drew.heap[w.heap.size + 1]? = some (.cells #[.int .i64 (U.1), .int .i64 (U.2.1), .int .i64 (U.2.2)] 23 (0, 0)) := k_u_50
        have kl : wr.drew.heap[w1.heap.size]? = some (.cells #[.int .i64 (E0.1), .int .i64 (E0.2.1), .int .i64 (E0.2.2.1), .int .i64 (E0.2.2.2), .int .i64 (E1.1), .int .i64 (E1.2.1), .int .i64 (E1.2.2.1), .int .i64 (E1.2.2.2), .int .i64 (E2.1), .int .i64 (E2.2.1), .int .i64 (E2.2.2.1), .int .i64 (E2.2.2.2)] 32 (0, 0)) := k_l_50
        have ct0 := cell_of_blk kt 0
        have ct1 := cell_of_blk kt 1
        have ct2 := cell_of_blk kt 2
        simp only [List.getElem?_toArray, List.getElem?_cons_zero, List.getElem?_cons_succ] at ct0 ct1 ct2
        have cl0 := cell_of_blk kl 0
        have cl1 := cell_of_blk kl 1
        have cl2 := cell_of_blk kl 2
        have cl3 := cell_of_blk kl 3
        have cl4 := cell_of_blk kl 4
        have cl5 := cell_of_blk kl 5
        have cl6 := cell_of_blk kl 6
        have cl7 := cell_of_blk kl 7
        have cl8 := cell_of_blk kl 8
        have cl9 := cell_of_blk kl 9
        have cl10 := cell_of_blk kl 10
        have cl11 := cell_of_blk kl 11
        simp only [List.getElem?_toArray, List.getElem?_cons_zero, List.getElem?_cons_succ] at cl0 cl1 cl2 cl3 cl4 cl5 cl6 cl7 cl8 cl9 cl10 cl11
        have nt : wr.heap.size ≠ w.heap.size := by omega
        have nl : wr.heap.size ≠ w1.heap.size := by omega
        have n0 : wr.heap.size ≠ 0 := by omega
        have hbw : Below w0.heap.size w0 wr.drew := hbel.drew
        have hlw : w0.heap.size ≤ wr.heap.size := hszr
        have hsd : Steps wr.drew := hs_50.below (Below.refl _ _).drew
        have hS0 := And.intro ct0 (And.intro ct1 (And.intro ct2 (And.intro cl0 (And.intro cl1 (And.intro cl2 (And.intro cl3 (And.intro cl4 (And.intro cl5 (And.intro cl6 (And.intro cl7 (And.intro cl8 (And.intro cl9 (And.intro cl10 (And.intro cl11 (And.intro hbw hsd)))))))))))))))
        clear ct0 ct1 ct2 cl0 cl1 cl2 cl3 cl4 cl5 cl6 cl7 cl8 cl9 cl10 cl11
        go_region_held3 (fun w' => w'.cell? ⟨w.heap.size, 0, none⟩ = some (.int .i64 x) ∧ w'.cell? ⟨w.heap.size, 1, none⟩ = some (.int .i64 y) ∧ w'.cell? ⟨w.heap.size, 2, none⟩ = some (.int .i64 k) ∧ w'.cell? ⟨w1.heap.size, 0, none⟩ = some (.int .i64 E0.1) ∧ w'.cell? ⟨w1.heap.size, 1, none⟩ = some (.int .i64 E0.2.1) ∧ w'.cell? ⟨w1.heap.size, 2, none⟩ = some (.int .i64 E0.2.2.1) ∧ w'.cell? ⟨w1.heap.size, 3, none⟩ = some (.int .i64 E0.2.2.2) ∧ w'.cell? ⟨w1.heap.size, 4, none⟩ = some (.int .i64 E1.1) ∧ w'.cell? ⟨w1.heap.size, 5, none⟩ = some (.int .i64 E1.2.1) ∧ w'.cell? ⟨w1.heap.size, 6, none⟩ = some (.int .i64 E1.2.2.1) ∧ w'.cell? ⟨w1.heap.size, 7, none⟩ = some (.int .i64 E1.2.2.2) ∧ w'.cell? ⟨w1.heap.size, 8, none⟩ = some (.int .i64 E2.1) ∧ w'.cell? ⟨w1.heap.size, 9, none⟩ = some (.int .i64 E2.2.1) ∧ w'.cell? ⟨w1.heap.size, 10, none⟩ = some (.int .i64 E2.2.2.1) ∧ w'.cell? ⟨w1.heap.size, 11, none⟩ = some (.int .i64 E2.2.2.2) ∧ Below w0.heap.size w0 w' ∧ Steps w')
          (first
            | with_reducible exact hS0
            | (go_split_ands; with_reducible exact ⟨al_c ‹_› _, al_c ‹_› _, al_c ‹_› _, al_c ‹_› _, al_c ‹_› _, al_c ‹_› _, al_c ‹_› _, al_c ‹_› _, al_c ‹_› _, al_c ‹_› _, al_c ‹_› _, al_c ‹_› _, al_c ‹_› _, al_c ‹_› _, al_c ‹_› _, ba ‹_› _, Steps.alloc ‹_› _⟩)
            | (go_split_ands; with_reducible exact ⟨al_d ‹_› _, al_d ‹_› _, al_d ‹_› _, al_d ‹_› _, al_d ‹_› _, al_d ‹_› _, al_d ‹_› _, al_d ‹_› _, al_d ‹_› _, al_d ‹_› _, al_d ‹_› _, al_d ‹_› _, al_d ‹_› _, al_d ‹_› _, al_d ‹_› _, bd ‹_› hlw _, stepd ‹_› _⟩)
            | (go_split_ands; with_reducible exact ⟨re_c ‹_› gt, re_c ‹_› gt, re_c ‹_› gt, re_c ‹_› gk, re_c ‹_› gk, re_c ‹_› gk, re_c ‹_› gk, re_c ‹_› gk, re_c ‹_› gk, re_c ‹_› gk, re_c ‹_› gk, re_c ‹_› gk, re_c ‹_› gk, re_c ‹_› gk, re_c ‹_› gk, ba hbw _, Steps.alloc hsq _⟩)
            | (go_split_ands; with_reducible exact ⟨far3 ‹_› nt _ _ _, far3 ‹_› nt _ _ _, far3 ‹_› nt _ _ _, far3 ‹_› nl _ _ _, far3 ‹_› nl _ _ _, far3 ‹_› nl _ _ _, far3 ‹_› nl _ _ _, far3 ‹_› nl _ _ _, far3 ‹_› nl _ _ _, far3 ‹_› nl _ _ _, far3 ‹_› nl _ _ _, far3 ‹_› nl _ _ _, far3 ‹_› nl _ _ _, far3 ‹_› nl _ _ _, far3 ‹_› nl _ _ _, set3_below ‹_› _ hlw _ _ _, Steps.set3' ‹_› n0 _ _ _⟩)
            | (go_split_ands; with_reducible exact ⟨stay_c ‹_› hbc (Nat.le_refl _), stay_c ‹_› hbc (Nat.le_refl _), stay_c ‹_› hbc (Nat.le_refl _), stay_c ‹_› hbc (Nat.le_refl _), stay_c ‹_› hbc (Nat.le_refl _), stay_c ‹_› hbc (Nat.le_refl _), stay_c ‹_› hbc (Nat.le_refl _), stay_c ‹_› hbc (Nat.le_refl _), stay_c ‹_› hbc (Nat.le_refl _), stay_c ‹_› hbc (Nat.le_refl _), stay_c ‹_› hbc (Nat.le_refl _), stay_c ‹_› hbc (Nat.le_refl _), stay_c ‹_› hbc (Nat.le_refl _), stay_c ‹_› hbc (Nat.le_refl _), stay_c ‹_› hbc (Nat.le_refl _), stay_b ‹_› hbc, Steps.below ‹_› hbc⟩))
          (((with_reducible refine (HC2.out _ (by first | exact hsd | exact stepd hsd _)).mono ?_); rintro e' wc ⟨he, hbc⟩; subst he; have hsq := Steps.below (by first | exact hsd | exact stepd hsd _) hbc; (first | (have kt := blk_below kt hbc (blk_lt kt)) | (have kt := blk_below (blk_ad kt _) hbc (blk_lt (blk_ad kt _)))); (first | (have ku := blk_below ku hbc (blk_lt ku)) | (have ku := blk_below (blk_ad ku _) hbc (blk_lt (blk_ad ku _)))); (first | (have kl := blk_below kl hbc (blk_lt kl)) | (have kl := blk_below (blk_ad kl _) hbc (blk_lt (blk_ad kl _)))); (first | (have hbw := stay_b hbw hbc) | (have hbw := stay_b (bd hbw hlw _) hbc)); (first | (have qn := blk_below (new_d _ _) hbc (by simp); (try simp only [World.size_alloc] at qn); have z0 := cell_of_blk qn 0; have z1 := cell_of_blk qn 1; have z2 := cell_of_blk qn 2; simp only [List.getElem?_toArray, List.getElem?_cons_zero, List.getElem?_cons_succ] at z0 z1 z2; have zf := frozen_of_blk qn; have zl := blk_lt qn) | skip); have g0 := cell_of_blk ku 0; have g1 := cell_of_blk ku 1; have g2 := cell_of_blk ku 2; simp only [List.getElem?_toArray, List.getElem?_cons_zero, List.getElem?_cons_succ] at g0 g1 g2; have gl := blk_lt ku; have gt := blk_lt kt; have gk := blk_lt kl))
        all_goals (rename_i hH; clear hH)
        all_goals (go_wp2; go_roundw)
        all_goals first
          | (exact ⟨3, by have := HN.out; omega, rfl, ba hbw _⟩)
          | (exact ⟨3, by have := HN.out; omega, rfl, set3_below hbw _ (by omega) _ _ _⟩)
          | (simp [intOf])
end Go.Proofs.YthfhkmgegkhljaaDoor
