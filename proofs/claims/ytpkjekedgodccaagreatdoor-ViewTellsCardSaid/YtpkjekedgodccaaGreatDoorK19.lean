/- Creases in order have their kinds.. The line of an edge, in both layers; how maps are handed on over a sheet.. -/
import Derived.Test.YtpkjekedgodccaaGreatDoorK18
import Derived.Test.YtpkjekedgodccaaGreatDoorK15
import Derived.Test.YtpkjekedgodccaaGreatDoorK16
import Derived.Test.YtpkjekedgodccaaGreatDoorK17
namespace Go.Proofs.YtpkjekedgodccaaGreatDoor
set_option linter.unusedSimpArgs false
set_option linter.unusedVariables false
section
open Go.RowKit Go.Maps
theorem lessE_iff (a b : E4) : lessE a b = true ↔ (a.1 < b.1 ∨ a.1 = b.1 ∧ a.2.1 < b.2.1) ∨ (a.1 = b.1 ∧ a.2.1 = b.2.1) ∧ (a.2.2.1 < b.2.2.1 ∨ a.2.2.1 = b.2.2.1 ∧ a.2.2.2 < b.2.2.2) := by
 unfold lessE lessB
 simp
theorem lessE_trans {a b c : E4} (h : lessE a b = true) (g : lessE b c = true) : lessE a c = true := by
 rw [lessE_iff] at *
 omega
theorem lessE_irrefl (a : E4) : lessE a a ≠ true := by
 intro h
 rw [lessE_iff] at h
 omega
theorem creasesB_sorted {l : List T3} : ∀ {cs : List C5} {prev : Option C5}, creasesB l prev cs = true → cs.Pairwise (fun a b => lessE a.1 b.1 = true) ∧ (∀ p, prev = some p → ∀ c ∈ cs, lessE p.1 c.1 = true) ∧ (∀ c ∈ cs, (c.2 = 1 ∨ c.2 = 2) ∧ innerB l c.1 = true)
 | [], _, _ => ⟨List.Pairwise.nil, (fun _ _ _ h => by cases h), (fun _ h => by cases h)⟩
 | c :: cs, prev, h => by
  simp only [creasesB, Bool.and_eq_true] at h
  obtain ⟨h1, h2⟩ := h
  obtain ⟨g1, g2, g3⟩ := creasesB_sorted h2
  have hc := g2 c rfl
  simp only [creaseB, Bool.and_eq_true, decide_eq_true_eq] at h1
  refine ⟨List.pairwise_cons.2 ⟨hc, g1⟩, ?_, ?_⟩
  ·intro p hp x hx
   subst hp
   have hpc : lessE p.1 c.1 = true := h1.1.1
   rcases List.mem_cons.1 hx with rfl | hx
   ·exact hpc
   ·exact lessE_trans hpc (hc x hx)
  ·intro x hx
   rcases List.mem_cons.1 hx with rfl | hx
   ·exact ⟨h1.1.2, h1.2⟩
   ·exact g3 x hx
theorem foldF_none {cs : List C5} {e : E4} (h : ∀ c ∈ cs, c.1 ≠ e) : ∀ f : E4 → Option Int, (cs.foldl (fun f c => setF f c.1 c.2) f) e = f e := by
 induction cs with
 | nil => intro f; rfl
 | cons c cs ih =>
  intro f
  rw [List.foldl_cons, ih (fun x hx => h x (List.mem_cons_of_mem _ hx))]
  have := h c List.mem_cons_self
  unfold setF
  rw [if_neg (fun e' => this e'.symm)]
theorem foldF_kind {cs : List C5} (h : cs.Pairwise (fun a b => lessE a.1 b.1 = true)) (e : E4) : ∀ f : E4 → Option Int, f e = none → ((cs.foldl (fun f c => setF f c.1 c.2) f) e).getD 0 = kindD cs e := by
 induction cs with
 | nil => intro f hf; simp [kindD, hf]
 | cons c cs ih =>
  intro f hf
  rw [List.pairwise_cons] at h
  rw [List.foldl_cons]
  unfold kindD
  by_cases hc : c.1 = e
  ·rw [if_pos hc]
   rw [foldF_none (fun x hx e' => by
    have := h.1 x hx
    rw [hc, e'] at this
    exact lessE_irrefl _ this)]
   simp [setF, hc]
  ·rw [if_neg hc]
   refine ih h.2 _ ?_
   unfold setF
   rw [if_neg (fun e' => hc e'.symm)]
   exact hf
theorem kindF_kind {l : List T3} {cs : List C5} (h : creasesB l none cs = true) (e : E4) : (kindF cs e).getD 0 = kindD cs e := foldF_kind (creasesB_sorted h).1 e _ rfl
theorem facF_crs {l : List T3} {cs : List C5} (h : creasesB l none cs = true) : facF (kindF cs) = crsF false cs := by
 funext e
 unfold facF crsF
 rw [kindF_kind h, Bool.false_or]
theorem newB_creases {W H : Int} {mask : List Int} {cs : List C5} (h : newB W H mask cs = true) : creasesB (trisL W.toNat mask) none cs = true := by
 unfold newB at h
 simp only [Bool.and_eq_true] at h
 exact h.2.1
end
section
open Go.RowKit Go.Maps
def lnW (e : E4) : Int := if e.1 = e.2.2.1 then 0 else if e.2.1 = e.2.2.2 then 1 else if e.1 + e.2.1 = e.2.2.1 + e.2.2.2 then 2 else 3
def lnC (e : E4) : Int := valB (lnW e) e.1 e.2.1
structure IsE (e : E4) : Prop where
 one : e.1 = e.2.2.1 ∨ e.2.1 = e.2.2.2 ∨ e.1 + e.2.1 = e.2.2.1 + e.2.2.2 ∨ e.1 - e.2.1 = e.2.2.1 - e.2.2.2
 b0 : -40 ≤ e.1 ∧ e.1 ≤ 40
 b1 : -40 ≤ e.2.1 ∧ e.2.1 ≤ 40
 b2 : -40 ≤ e.2.2.1 ∧ e.2.2.1 ≤ 40
 b3 : -40 ≤ e.2.2.2 ∧ e.2.2.2 ≤ 40
def In8 (t : T3) : Prop := (0 ≤ t.1 ∧ t.1 ≤ 8) ∧ (0 ≤ t.2.1 ∧ t.2.1 ≤ 8) ∧ K4 t
theorem In8.sm {t : T3} (h : In8 t) : SmT t := by
 obtain ⟨h1, h2, h3⟩ := h
 exact ⟨by omega, by omega, h3⟩
theorem In8.edge {t : T3} (h : In8 t) {i : Nat} (hi : i < 3) : IsE (eT t i) := by
 obtain ⟨h1, h2, h3⟩ := h
 obtain ⟨x, y, e⟩ := k4_cases h3
 rcases i3_cases hi with rfl | rfl | rfl <;> rcases e with rfl | rfl | rfl | rfl <;> simp only [e00, e01, e02, e10, e11, e12, e20, e21, e22, e30, e31, e32] at h1 h2 ⊢ <;> constructor <;> simp only <;> first | omega | (simp; done) | (simp; omega)
theorem lnW_rng (e : E4) : 0 ≤ lnW e ∧ lnW e ≤ 3 := by
 unfold lnW
 (repeat' split) <;> omega
theorem lnC_bd {e : E4} (h : IsE e) : -80 ≤ lnC e ∧ lnC e ≤ 80 := by
 unfold lnC
 exact valB_bd (M := 40) h.b0.1 h.b0.2 h.b1.1 h.b1.2
def valP (j : Nat) (e : E4) : Int := valB j e.1 e.2.1
def valQ (j : Nat) (e : E4) : Int := valB j e.2.2.1 e.2.2.2
theorem v0 (x y : Int) : valB ((0 : Nat) : Int) x y = x := by simp [valB]
theorem v1 (x y : Int) : valB ((1 : Nat) : Int) x y = y := by simp [valB]
theorem v2 (x y : Int) : valB ((2 : Nat) : Int) x y = x + y := by simp [valB]
theorem v3 (x y : Int) : valB ((3 : Nat) : Int) x y = x - y := by simp [valB]
theorem ln_at {e : E4} {j : Nat} (hj : j < 4) (hn : ∀ i, i < j → valP i e ≠ valQ i e) (he : valP j e = valQ j e) : lnW e = j ∧ lnC e = valP j e := by
 have key : lnW e = j := by
  have h4 : j = 0 ∨ j = 1 ∨ j = 2 ∨ j = 3 := by omega
  unfold lnW
  rcases h4 with rfl | rfl | rfl | rfl
  ·simp only [valP, valQ, v0] at he
   rw [if_pos he]; rfl
  ·have h0 := hn 0 (by omega)
   simp only [valP, valQ, v0, v1] at he h0
   rw [if_neg h0, if_pos he]; rfl
  ·have h0 := hn 0 (by omega)
   have h1 := hn 1 (by omega)
   simp only [valP, valQ, v0, v1, v2] at he h0 h1
   rw [if_neg h0, if_neg h1, if_pos he]; rfl
  ·have h0 := hn 0 (by omega)
   have h1 := hn 1 (by omega)
   have h2 := hn 2 (by omega)
   simp only [valP, valQ, v0, v1, v2, v3] at he h0 h1 h2
   rw [if_neg h0, if_neg h1, if_neg h2]; rfl
 exact ⟨key, by unfold lnC valP; rw [key]⟩
theorem ln_more {e : E4} (h : IsE e) {j : Nat} (hj : j < 4) (hn : ∀ i, i < j → valP i e ≠ valQ i e) (he : valP j e ≠ valQ j e) : j < 3 := by
 apply Classical.byContradiction
 intro h3
 have e3 : j = 3 := by omega
 subst e3
 have h0 := hn 0 (by omega)
 have h1 := hn 1 (by omega)
 have h2 := hn 2 (by omega)
 simp only [valP, valQ, v0, v1, v2, v3] at he h0 h1 h2
 have := h.one
 omega
def stpV (C : E4 → Bool) (e : E4) (m : V6) : V6 := if C e = true then m else afterV (mirB (lnW e) (lnC e)) m
def nbL (L : List T3) (i k : Nat) : Option Nat := match L[i]? with
 | some t => if nT t k ∈ L then some (L.idxOf (nT t k)) else none
 | none => none
def stpL (L : List T3) (C : E4 → Bool) (i k : Nat) (m : V6) : V6 := match L[i]? with
 | some t => stpV C (eT t k) m
 | none => m
theorem nbL_some {L : List T3} {i k : Nat} {t : T3} (ht : L[i]? = some t) (h : nT t k ∈ L) : nbL L i k = some (L.idxOf (nT t k)) := by
 unfold nbL
 rw [ht]
 simp [h]
theorem nbL_none {L : List T3} {i k : Nat} {t : T3} (ht : L[i]? = some t) (h : nT t k ∉ L) : nbL L i k = none := by
 unfold nbL
 rw [ht]
 simp [h]
theorem stpL_at {L : List T3} {C : E4 → Bool} {i k : Nat} {t : T3} (ht : L[i]? = some t) (m : V6) : stpL L C i k m = stpV C (eT t k) m := by
 unfold stpL
 rw [ht]
def GV (b : Nat) (m : V6) : Prop := GB m (160 * b)
theorem GV.more {b : Nat} {m : V6} (h : GV b m) : GV (b + 1) m := h.mono (by omega)
end
end Go.Proofs.YtpkjekedgodccaaGreatDoor
