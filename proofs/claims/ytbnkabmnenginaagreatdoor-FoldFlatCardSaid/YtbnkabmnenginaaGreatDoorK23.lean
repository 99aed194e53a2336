/- Creases in order have their kinds.. The line of an edge, in both layers; how maps are handed on over a sheet.. The line of an edge, walked in both layers. Which triangles, lines, maps may be, in both layers (taken over from the door seat).. -/
import Derived.Test.YtbnkabmnenginaaGreatDoorK22
import Derived.Test.YtbnkabmnenginaaGreatDoorK19
import Derived.Test.YtbnkabmnenginaaGreatDoorK20
import Derived.Test.YtbnkabmnenginaaGreatDoorK21
namespace Go.Proofs.YtbnkabmnenginaaGreatDoor
set_option linter.unusedSimpArgs false
set_option linter.unusedVariables false
section
open Go.RowKit Go.Maps
end
section
open Go.RowKit Go.Maps
def lnW (e : E4) : Int := if e.1 = e.2.2.1 then 0 else if e.2.1 = e.2.2.2 then 1 else if e.1 + e.2.1 = e.2.2.1 + e.2.2.2 then 2 else 3
def lnC (e : E4) : Int := valB (lnW e) e.1 e.2.1
structure IsE (e : E4) : Prop where
 one : e.1 = e.2.2.1 ∨ e.2.1 = e.2.2.2 ∨ e.1 + e.2.1 = e.2.2.1 + e.2.2.2 ∨ e.1 - e.2.1 = e.2.2.1 - e.2.2.2
 b0 : -40 ≤ e.1 ∧ e.1 ≤ 40
 b1 : -40 ≤ e.2.1 ∧ e.2.1 ≤ 40
 b2 : -40 ≤ e.2.2.1 ∧ e.2.2.1 ≤ 40
 b3 : -40 ≤ e.2.2.2 ∧ e.2.2.2 ≤ 40
def In8 (t : T3) : Prop := (0 ≤ t.1 ∧ t.1 ≤ 8) ∧ (0 ≤ t.2.1 ∧ t.2.1 ≤ 8) ∧ K4 t
theorem In8.sm {t : T3} (h : In8 t) : SmT t := by
 obtain ⟨h1, h2, h3⟩ := h
 exact ⟨by omega, by omega, h3⟩
theorem In8.edge {t : T3} (h : In8 t) {i : Nat} (hi : i < 3) : IsE (eT t i) := by
 obtain ⟨h1, h2, h3⟩ := h
 obtain ⟨x, y, e⟩ := k4_cases h3
 rcases i3_cases hi with rfl | rfl | rfl <;> rcases e with rfl | rfl | rfl | rfl <;> simp only [e00, e01, e02, e10, e11, e12, e20, e21, e22, e30, e31, e32] at h1 h2 ⊢ <;> constructor <;> simp only <;> first | omega | (simp; done) | (simp; omega)
theorem lnW_rng (e : E4) : 0 ≤ lnW e ∧ lnW e ≤ 3 := by
 unfold lnW
 (repeat' split) <;> omega
theorem lnC_bd {e : E4} (h : IsE e) : -80 ≤ lnC e ∧ lnC e ≤ 80 := by
 unfold lnC
 exact valB_bd (M := 40) h.b0.1 h.b0.2 h.b1.1 h.b1.2
def valP (j : Nat) (e : E4) : Int := valB j e.1 e.2.1
def valQ (j : Nat) (e : E4) : Int := valB j e.2.2.1 e.2.2.2
theorem v0 (x y : Int) : valB ((0 : Nat) : Int) x y = x := by simp [valB]
theorem v1 (x y : Int) : valB ((1 : Nat) : Int) x y = y := by simp [valB]
theorem v2 (x y : Int) : valB ((2 : Nat) : Int) x y = x + y := by simp [valB]
theorem v3 (x y : Int) : valB ((3 : Nat) : Int) x y = x - y := by simp [valB]
theorem ln_at {e : E4} {j : Nat} (hj : j < 4) (hn : ∀ i, i < j → valP i e ≠ valQ i e) (he : valP j e = valQ j e) : lnW e = j ∧ lnC e = valP j e := by
 have key : lnW e = j := by
  have h4 : j = 0 ∨ j = 1 ∨ j = 2 ∨ j = 3 := by omega
  unfold lnW
  rcases h4 with rfl | rfl | rfl | rfl
  ·simp only [valP, valQ, v0] at he
   rw [if_pos he]; rfl
  ·have h0 := hn 0 (by omega)
   simp only [valP, valQ, v0, v1] at he h0
   rw [if_neg h0, if_pos he]; rfl
  ·have h0 := hn 0 (by omega)
   have h1 := hn 1 (by omega)
   simp only [valP, valQ, v0, v1, v2] at he h0 h1
   rw [if_neg h0, if_neg h1, if_pos he]; rfl
  ·have h0 := hn 0 (by omega)
   have h1 := hn 1 (by omega)
   have h2 := hn 2 (by omega)
   simp only [valP, valQ, v0, v1, v2, v3] at he h0 h1 h2
   rw [if_neg h0, if_neg h1, if_neg h2]; rfl
 exact ⟨key, by unfold lnC valP; rw [key]⟩
theorem ln_more {e : E4} (h : IsE e) {j : Nat} (hj : j < 4) (hn : ∀ i, i < j → valP i e ≠ valQ i e) (he : valP j e ≠ valQ j e) : j < 3 := by
 apply Classical.byContradiction
 intro h3
 have e3 : j = 3 := by omega
 subst e3
 have h0 := hn 0 (by omega)
 have h1 := hn 1 (by omega)
 have h2 := hn 2 (by omega)
 simp only [valP, valQ, v0, v1, v2, v3] at he h0 h1 h2
 have := h.one
 omega
def stpV (C : E4 → Bool) (e : E4) (m : V6) : V6 := if C e = true then m else afterV (mirB (lnW e) (lnC e)) m
def nbL (L : List T3) (i k : Nat) : Option Nat := match L[i]? with
 | some t => if nT t k ∈ L then some (L.idxOf (nT t k)) else none
 | none => none
def stpL (L : List T3) (C : E4 → Bool) (i k : Nat) (m : V6) : V6 := match L[i]? with
 | some t => stpV C (eT t k) m
 | none => m
theorem nbL_some {L : List T3} {i k : Nat} {t : T3} (ht : L[i]? = some t) (h : nT t k ∈ L) : nbL L i k = some (L.idxOf (nT t k)) := by
 unfold nbL
 rw [ht]
 simp [h]
theorem nbL_none {L : List T3} {i k : Nat} {t : T3} (ht : L[i]? = some t) (h : nT t k ∉ L) : nbL L i k = none := by
 unfold nbL
 rw [ht]
 simp [h]
theorem nbL_lt {L : List T3} {i k j : Nat} (h : nbL L i k = some j) : j < L.length := by
 unfold nbL at h
 split at h
 ·split at h
  ·cases h
   exact List.idxOf_lt_length_of_mem (by assumption)
  ·cases h
 ·cases h
theorem nbL_at {L : List T3} {i k j : Nat} {t : T3} (ht : L[i]? = some t) (h : nbL L i k = some j) : L[j]? = some (nT t k) := by
 unfold nbL at h
 rw [ht] at h
 simp only at h
 split at h
 ·cases h
  rename_i hm
  rw [List.getElem?_eq_getElem (List.idxOf_lt_length_of_mem hm), List.getElem_idxOf]
 ·cases h
theorem stpL_at {L : List T3} {C : E4 → Bool} {i k : Nat} {t : T3} (ht : L[i]? = some t) (m : V6) : stpL L C i k m = stpV C (eT t k) m := by
 unfold stpL
 rw [ht]
def GV (b : Nat) (m : V6) : Prop := GB m (160 * b)
theorem stpV_good {C : E4 → Bool} {e : E4} (he : IsE e) {b : Nat} {m : V6} (h : GV b m) : GV (b + 1) (stpV C e m) := by
 unfold GV at *
 unfold stpV
 split
 ·exact h.mono (by omega)
 ·have hc := lnC_bd he
  have hr := lnW_rng e
  have h1 := gb_mir hr.1 hr.2 hc.1 hc.2
  exact (gb_after h1 h).mono (by omega)
theorem GV.more {b : Nat} {m : V6} (h : GV b m) : GV (b + 1) m := h.mono (by omega)
theorem conn_of {L : List T3} (hnd : L.Nodup) (hl : ∀ t ∈ L, K4 t) (hj : joinB L = true) : Conn L.length (nbL L) := by
 cases L with
 | nil => intro S h0 hs i hi; simp at hi
 | cons a L0 =>
  intro S h0 hs
  have hall : (compL (a :: L0) (fun _ => true) a).length = (a :: L0).length := by
   simpa [joinB] using hj
  have hmem : ∀ t ∈ a :: L0, t ∈ compL (a :: L0) (fun _ => true) a := sub_of_len (by unfold compL; exact hnd.filter _) (fun x hx => by unfold compL at hx; exact (List.mem_filter.1 hx).1) hnd hall
  have key : ∀ t, Rch (a :: L0) (fun _ => true) a t → ∀ i, (a :: L0)[i]? = some t → S i := by
   intro t ht
   induction ht with
   | refl =>
    intro i hi
    have : i = 0 := by
     have h1 : (a :: L0)[0]? = some a := rfl
     have hlt := (List.getElem?_eq_some_iff.1 hi).1
     exact (List.getElem?_inj hlt hnd).1 (hi.trans h1.symm)
    rw [this]
    exact h0
   | step h1 hk hc hm ih =>
    rename_i u k
    intro i hi
    have hu : u ∈ a :: L0 := h1.mem List.mem_cons_self
    obtain ⟨j, hj, e⟩ := List.getElem_of_mem hu
    have hj' : (a :: L0)[j]? = some u := by rw [List.getElem?_eq_getElem hj, e]
    have hS := ih j hj'
    have hn := nbL_some hj' hm
    have h2 := hs j k _ hj hk hS hn
    have h3 := nbL_at hj' hn
    have hlt := (List.getElem?_eq_some_iff.1 hi).1
    have : i = (a :: L0).idxOf (nT u k) := (List.getElem?_inj hlt hnd).1 (hi.trans h3.symm)
    rw [this]
    exact h2
  intro i hi
  have ht : (a :: L0)[i]? = some (a :: L0)[i] := List.getElem?_eq_getElem hi
  exact key _ ((compL_mem List.mem_cons_self).1 (hmem _ (List.getElem_mem hi))) i ht
end
section
open Go.RowKit Go.Maps
abbrev aggL (v c : Int) : Value := .agg #[.int .i64 v, .int .i64 c]
theorem set2_bel {B : Nat} {a w : World} (h : Below B a w) {g : Nat} (hg : B ≤ g) (u v : Value) : Below B a ((w.setCell ⟨g, 0, none⟩ u).setCell ⟨g, 1, none⟩ v) := (h.setCell (p := ⟨g, 0, none⟩) hg u).setCell (p := ⟨g, 1, none⟩) hg v
set_option maxRecDepth 100000 in
set_option maxHeartbeats 3200000 in
theorem lineP_any (e : E4) (w : World) (he : IsE e) :
  Calls Tryz.prog 55 #[aggE e] w fun r w' => r = .returned (aggL (lnW e) (lnC e)) ∧ Below w.heap.size w w' := by
 have hb0 := ba (below_new w (.cells #[.int .i64 e.1, .int .i64 e.2.1, .int .i64 e.2.2.1, .int .i64 e.2.2.2] 50)) (.cells #[.int .i64 0, .int .i64 0] 109)
 have ke := blk_alloc (heap_alloc_new w (.cells #[.int .i64 e.1, .int .i64 e.2.1, .int .i64 e.2.2.1, .int .i64 e.2.2.2] 50)) (.cells #[.int .i64 0, .int .i64 0] 109)
 have kz := heap_alloc_new (w.alloc (.cells #[.int .i64 e.1, .int .i64 e.2.1, .int .i64 e.2.2.1, .int .i64 e.2.2.2] 50)) (.cells #[.int .i64 0, .int .i64 0] 109)
 rw [World.size_alloc] at kz
 have x0 := cell_of_blk ke 0
 have x1 := cell_of_blk ke 1
 have x2 := cell_of_blk ke 2
 have x3 := cell_of_blk ke 3
 have z0 := cell_of_blk kz 0
 have z1 := cell_of_blk kz 1
 simp only [List.getElem?_toArray, List.getElem?_cons_zero, List.getElem?_cons_succ] at x0 x1 x2 x3 z0 z1
 have fz := frozen_of_blk kz
 have HE := Lib.hid he
 have HB0 := Lib.hid hb0
 have hzl : w.heap.size + 1 < ((w.alloc (.cells #[.int .i64 e.1, .int .i64 e.2.1, .int .i64 e.2.2.1, .int .i64 e.2.2.2] 50)).alloc (.cells #[.int .i64 0, .int .i64 0] 109)).heap.size := by simp
 clear he hb0 ke kz
 go_enter Tryz.func55, Tryz.ntmps55
 go_wp2_with fail
 generalize (w.alloc (.cells #[.int .i64 e.1, .int .i64 e.2.1, .int .i64 e.2.2.1, .int .i64 e.2.2.2] 50)).alloc (.cells #[.int .i64 0, .int .i64 0] 109) = w0 at x0 x1 x2 x3 z0 z1 fz HB0 hzl ⊢
 go_loopw [5] (fun x wr => ∃ j : Nat, j < 4 ∧ x = .int .i64 j ∧ Hid (∀ i, i < j → valP i e ≠ valQ i e) ∧ Hid (Below w0.heap.size w0 wr)) (fun x _ => 4 - (intOf x).toNat)
 case atStart => exact ⟨0, by omega, rfl, Lib.hid (fun i hi => by omega), Lib.hid (Below.refl _ _)⟩
 case round =>
  obtain ⟨j, hj, rfl, hn, hB⟩ := hrel
  have hji : (j : Int) < 4 := by omega
  have b0 := HE.out.b0
  have b1 := HE.out.b1
  have b2 := HE.out.b2
  have b3 := HE.out.b3
  have x0 := sd x0 hB.out
  have x1 := sd x1 hB.out
  have x2 := sd x2 hB.out
  have x3 := sd x3 hB.out
  have cP := fun (W' : World) => value_any (j : Int) e.1 e.2.1 W' (by omega) (by omega) (by omega) (by omega)
  have cQ := fun (W' : World) => value_any (j : Int) e.2.2.1 e.2.2.2 W' (by omega) (by omega) (by omega) (by omega)
  have hat := fun h => ln_at hj hn.out h
  have hmo := fun h => ln_more HE.out hj hn.out h
  have hvp : valP j e = valB j e.1 e.2.1 := rfl
  have hvq : valQ j e = valB j e.2.2.1 e.2.2.2 := rfl
  rw [hvp, hvq] at hat hmo
  obtain ⟨a, ha⟩ : ∃ a, a = valB j e.1 e.2.1 := ⟨_, rfl⟩
  obtain ⟨b, hb⟩ : ∃ b, b = valB j e.2.2.1 e.2.2.2 := ⟨_, rfl⟩
  rw [← ha] at cP hat hmo
  rw [← hb] at cQ hat hmo
  have CP := Lib.hid cP
  have CQ := Lib.hid cQ
  have HAT := Lib.hid hat
  have HMO := Lib.hid hmo
  have HAB := Lib.hid (And.intro (hvp.trans ha.symm) (hvq.trans hb.symm))
  clear cP cQ hat hmo hvp hvq ha hb b0 b1 b2 b3
  go_wp2_with fail
  refine (CP.out _).mono ?_
  rintro r w1 ⟨rfl, hb1⟩
  have x0 := sd x0 hb1
  have x1 := sd x1 hb1
  have x2 := sd x2 hb1
  have x3 := sd x3 hb1
  have HB1 := Lib.hid (stay_b hB.out hb1)
  clear hb1
  go_wp2_with fail
  refine (CQ.out _).mono ?_
  rintro r w2 ⟨rfl, hb2⟩
  have HB2 := Lib.hid (stay_b HB1.out hb2)
  clear hb2 x0 x1 x2 x3
  have z0 := sd z0 HB2.out
  have z1 := sd z1 HB2.out
  have fz : ∀ i, w2.frozen? ⟨w.heap.size + 1, i, none⟩ = false := fun i => (HB2.out.frozen (p := ⟨w.heap.size + 1, i, none⟩) hzl).trans (fz i)
  by_cases hab : a = b
  ·have hd : (a == b) = true := by simpa using hab
   have hres := HAT.out hab
   have HR := Lib.hid hres
   clear hres hab
   go_wp2
   refine bodyPost_ret (v := aggL j a) (by simp [results, Tryz.results55, go_sem, z0, z1]) rfl ⟨by rw [HR.out.1, HR.out.2], ?_⟩
   exact set2_bel (HB0.out.trans (HB2.out.mono HB0.out.size)) (Nat.le_succ _) _ _
  ·have hd : (a == b) = false := by simpa using hab
   have h3 := HMO.out hab
   have hn2 : ∀ i, i < j + 1 → valP i e ≠ valQ i e := by
    intro i hi
    by_cases h : i < j
    ·exact hn.out i h
    ·have : i = j := by omega
     subst this
     rw [HAB.out.1, HAB.out.2]
     exact hab
   have HN := Lib.hid hn2
   clear hn2 hab
   go_wp2
   go_roundw
   case rel => exact ⟨j + 1, by omega, by go_num, HN, HB2⟩
   case measure => simp [intOf]; omega
end
section
open Go.RowKit Go.Maps
open Go.RowKit
open Go.RowKit
open Go.RowKit
open Go.RowKit
theorem one_ways {a b : Int} (h : oneB a b = true) : (a = 1 ∨ a = -1) ∧ b = 0 := by simpa [oneB] using h
theorem turned_ways {a b c d : Int} (h : turnedB a b c d = true) : (a = 1 ∧ b = 0 ∧ c = 0 ∧ d = 1) ∨ (a = -1 ∧ b = 0 ∧ c = 0 ∧ d = 1) ∨ (a = 1 ∧ b = 0 ∧ c = 0 ∧ d = -1) ∨ (a = -1 ∧ b = 0 ∧ c = 0 ∧ d = -1) ∨
  (a = 0 ∧ b = 1 ∧ c = 1 ∧ d = 0) ∨ (a = 0 ∧ b = -1 ∧ c = 1 ∧ d = 0) ∨ (a = 0 ∧ b = 1 ∧ c = -1 ∧ d = 0) ∨ (a = 0 ∧ b = -1 ∧ c = -1 ∧ d = 0) := by
 simp only [turnedB, Bool.or_eq_true, Bool.and_eq_true] at h
 rcases h with ⟨h1, h2⟩ | ⟨h1, h2⟩
 ·obtain ⟨h3, rfl⟩ := one_ways h1
  obtain ⟨h4, rfl⟩ := one_ways h2
  rcases h3 with rfl | rfl <;> rcases h4 with rfl | rfl <;> simp
 ·obtain ⟨h3, rfl⟩ := one_ways h1
  obtain ⟨h4, rfl⟩ := one_ways h2
  rcases h3 with rfl | rfl <;> rcases h4 with rfl | rfl <;> simp
end
end Go.Proofs.YtbnkabmnenginaaGreatDoor
