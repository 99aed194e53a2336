/- Stars: the plain law; rows of stars; the kinds around points as a map. -/
import Derived.Test.YtoienokpchbglaaDoorPts
import Derived.Test.YtoienokpchbglaaDoorKp
import Derived.Test.YtoienokpchbglaaDoorMv
import Derived.Test.YtoienokpchbglaaDoorDw
namespace Go.Proofs.YtoienokpchbglaaDoor
set_option linter.unusedSimpArgs false
set_option linter.unusedVariables false
section
open Go.RowKit
/-! ### stars: edges from a point, by eighths of a turn -/
def dirP (a b : P2) : Int := dirT (sgI (b.1 - a.1)) (sgI (b.2 - a.2))
def dxD (d : Nat) : Int := match d with
 | 0 => 2 | 1 => 1 | 2 => 0 | 3 => -1 | 4 => -2 | 5 => -1 | 6 => 0 | _ => 1
def dyD (d : Nat) : Int := match d with
 | 0 => 0 | 1 => 1 | 2 => 2 | 3 => 1 | 4 => 0 | 5 => -1 | 6 => -2 | _ => -1
def towP (p : P2) (d : Nat) : P2 := (p.1 + dxD d, p.2 + dyD d)
/-- the edge from a point in a direction -/
def edP (p : P2) (d : Nat) : E4 := ordE p.1 p.2 (towP p d).1 (towP p d).2
def eP (e : E4) : P2 := (e.1, e.2.1)
def eQ (e : E4) : P2 := (e.2.2.1, e.2.2.2)
/-- an edge goes one of four ways -/
def ShE (e : E4) : Prop := (e.2.2.1 = e.1 + 2 ∧ e.2.2.2 = e.2.1) ∨ (e.2.2.1 = e.1 ∧ e.2.2.2 = e.2.1 + 2) ∨ (e.2.2.1 = e.1 + 1 ∧ e.2.2.2 = e.2.1 + 1) ∨ (e.2.2.1 = e.1 + 1 ∧ e.2.2.2 = e.2.1 - 1)
theorem shE_of {t : T3} (h : K4 t) {i : Nat} (hi : i < 3) : ShE (eT t i) := by
 obtain ⟨x, y, e⟩ := k4_cases h
 have key : ∀ (a b c d : Int) (e : E4), e = (a, b, c, d) → ((c = a + 2 ∧ d = b) ∨ (c = a ∧ d = b + 2) ∨ (c = a + 1 ∧ d = b + 1) ∨ (c = a + 1 ∧ d = b - 1)) → ShE e := by
  rintro a b c d e rfl h
  exact h
 rcases i3_cases hi with rfl | rfl | rfl <;> rcases e with rfl | rfl | rfl | rfl
 ·exact key _ _ _ _ _ (e00 x y) (by omega)
 ·exact key _ _ _ _ _ (e10 x y) (by omega)
 ·exact key _ _ _ _ _ (e20 x y) (by omega)
 ·exact key _ _ _ _ _ (e30 x y) (by omega)
 ·exact key _ _ _ _ _ (e01 x y) (by omega)
 ·exact key _ _ _ _ _ (e11 x y) (by omega)
 ·exact key _ _ _ _ _ (e21 x y) (by omega)
 ·exact key _ _ _ _ _ (e31 x y) (by omega)
 ·exact key _ _ _ _ _ (e02 x y) (by omega)
 ·exact key _ _ _ _ _ (e12 x y) (by omega)
 ·exact key _ _ _ _ _ (e22 x y) (by omega)
 ·exact key _ _ _ _ _ (e32 x y) (by omega)
/-- the eighths of an edge from its two ends -/
def dE0 (e : E4) : Nat := if e.2.2.1 = e.1 + 2 then 0 else if e.2.2.1 = e.1 then 2 else if e.2.2.2 = e.2.1 + 1 then 1 else 7
def dE1 (e : E4) : Nat := if e.2.2.1 = e.1 + 2 then 4 else if e.2.2.1 = e.1 then 6 else if e.2.2.2 = e.2.1 + 1 then 5 else 3
theorem dE_lt (e : E4) : dE0 e < 8 ∧ dE1 e < 8 := by unfold dE0 dE1; constructor <;> (repeat' split) <;> omega
theorem dE_at {a b c d : Int} (h : ShE (a, b, c, d)) : (c = a + 2 ∧ d = b ∧ dE0 (a, b, c, d) = 0 ∧ dE1 (a, b, c, d) = 4) ∨ (c = a ∧ d = b + 2 ∧ dE0 (a, b, c, d) = 2 ∧ dE1 (a, b, c, d) = 6) ∨ (c = a + 1 ∧ d = b + 1 ∧ dE0 (a, b, c, d) = 1 ∧ dE1 (a, b, c, d) = 5) ∨ (c = a + 1 ∧ d = b - 1 ∧ dE0 (a, b, c, d) = 7 ∧ dE1 (a, b, c, d) = 3) := by
 unfold ShE at h
 simp only at h
 unfold dE0 dE1
 simp only
 (repeat' split) <;> omega
theorem sgI_p {n : Int} (h : 0 < n) : sgI n = 1 := by unfold sgI; rw [if_neg (by omega), if_pos h]
theorem sgI_n {n : Int} (h : n < 0) : sgI n = -1 := by unfold sgI; rw [if_pos h]
theorem sgI_z {n : Int} (h : n = 0) : sgI n = 0 := by subst h; rfl
theorem dirP_e {e : E4} (h : ShE e) : dirP (eP e) (eQ e) = dE0 e ∧ dirP (eQ e) (eP e) = dE1 e := by
 obtain ⟨a, b, c, d⟩ := e
 unfold dirP eP eQ
 simp only
 rcases dE_at h with ⟨h1, h2, h3, h4⟩ | ⟨h1, h2, h3, h4⟩ | ⟨h1, h2, h3, h4⟩ | ⟨h1, h2, h3, h4⟩ <;> rw [h3, h4]
 ·rw [sgI_p (n := c - a) (by omega), sgI_z (n := d - b) (by omega), sgI_n (n := a - c) (by omega), sgI_z (n := b - d) (by omega)]
  decide
 ·rw [sgI_z (n := c - a) (by omega), sgI_p (n := d - b) (by omega), sgI_z (n := a - c) (by omega), sgI_n (n := b - d) (by omega)]
  decide
 ·rw [sgI_p (n := c - a) (by omega), sgI_p (n := d - b) (by omega), sgI_n (n := a - c) (by omega), sgI_n (n := b - d) (by omega)]
  decide
 ·rw [sgI_p (n := c - a) (by omega), sgI_n (n := d - b) (by omega), sgI_n (n := a - c) (by omega), sgI_p (n := b - d) (by omega)]
  decide
theorem edP_iff {e : E4} (h : ShE e) {p : P2} {d : Nat} (hd : d < 8) : edP p d = e ↔ (p = eP e ∧ d = dE0 e) ∨ (p = eQ e ∧ d = dE1 e) := by
 obtain ⟨a, b, c, f⟩ := e
 obtain ⟨x, y⟩ := p
 have key : ∀ u v : Int, ordE x y (x + u) (y + v) = if u < 0 ∨ (u = 0 ∧ v < 0) then (x + u, y + v, x, y) else (x, y, x + u, y + v) := by
  intro u v
  unfold ordE
  have h1 : lessB (x + u) (y + v) x y = decide (u < 0 ∨ (u = 0 ∧ v < 0)) := by
   rw [Bool.eq_iff_iff]
   simp only [lessB, Bool.or_eq_true, Bool.and_eq_true, decide_eq_true_eq]
   omega
  rw [h1]
  simp only [decide_eq_true_eq]
 have e0 : edP (x, y) d = ordE x y (x + dxD d) (y + dyD d) := rfl
 have hd' : d = 0 ∨ d = 1 ∨ d = 2 ∨ d = 3 ∨ d = 4 ∨ d = 5 ∨ d = 6 ∨ d = 7 := by omega
 rw [e0, key]
 have hE := dE_at h
 generalize dE0 (a, b, c, f) = D0 at hE ⊢
 generalize dE1 (a, b, c, f) = D1 at hE ⊢
 unfold eP eQ
 simp only
 rcases hd' with rfl | rfl | rfl | rfl | rfl | rfl | rfl | rfl <;> simp [dxD, dyD] <;> omega
/-! ### the kinds around points, as they are put down crease by crease -/
def putH (f : P2 → Option (List Int)) (p : P2) (d : Nat) (k : Int) : P2 → Option (List Int) := fun x => if x = p then some (((f p).getD (List.replicate 8 0)).set d k) else f x
structure OutI (f : P2 → Option (List Int)) (cs : List C5) : Prop where
 len : ∀ p l, f p = some l → l.length = 8
 at_ : ∀ p l, f p = some l → ∀ d, d < 8 → l[d]? = some (kindD cs (edP p d))
 no : ∀ p, f p = none → ∀ d, d < 8 → kindD cs (edP p d) = 0
 some_ : ∀ p, (f p).isSome = true ↔ ∃ c ∈ cs, p = eP c.1 ∨ p = eQ c.1
theorem OutI.nil : OutI (fun _ => none) [] := ⟨by simp, by simp, by simp [kindD], by simp⟩
theorem OutI.get {f : P2 → Option (List Int)} {cs : List C5} (h : OutI f cs) (p : P2) : ((f p).getD (List.replicate 8 0)).length = 8 ∧ ∀ d, d < 8 → ((f p).getD (List.replicate 8 0))[d]? = some (kindD cs (edP p d)) := by
 cases hf : f p with
 | none =>
  refine ⟨by simp, fun d hd => ?_⟩
  rw [h.no p hf d hd]
  show (List.replicate 8 (0 : Int))[d]? = some 0
  rw [List.getElem?_replicate, if_pos hd]
 | some l => exact ⟨h.len p l hf, h.at_ p l hf⟩
theorem kindD_snoc {cs : List C5} {c : C5} {e : E4} : kindD (cs ++ [c]) e = if (∃ d ∈ cs, d.1 = e) then kindD cs e else if c.1 = e then c.2 else 0 := by
 induction cs with
 | nil => simp [kindD]
 | cons a cs ih =>
  rw [List.cons_append]
  by_cases h : a.1 = e
  ·have : ∃ d ∈ a :: cs, d.1 = e := ⟨a, by simp, h⟩
   simp [kindD, h]
  ·have h2 : (∃ d ∈ a :: cs, d.1 = e) ↔ ∃ d ∈ cs, d.1 = e := by simp [h]
   simp only [kindD, if_neg h, ih, h2]
theorem OutI.step {f : P2 → Option (List Int)} {cs : List C5} (h : OutI f cs) {c : C5} (hsh : ShE c.1) (hne : ∀ d ∈ cs, d.1 ≠ c.1) : OutI (putH (putH f (eP c.1) (dE0 c.1) c.2) (eQ c.1) (dE1 c.1) c.2) (cs ++ [c]) := by
 have hPQ : eP c.1 ≠ eQ c.1 := by
  intro e
  simp only [eP, eQ, Prod.mk.injEq] at e
  unfold ShE at hsh
  omega
 have hk : ∀ e, kindD (cs ++ [c]) e = if c.1 = e then c.2 else kindD cs e := by
  intro e
  rw [kindD_snoc]
  by_cases h1 : c.1 = e
  ·have h2 : ¬ ∃ d ∈ cs, d.1 = e := by
    rintro ⟨d, h3, h4⟩
    exact hne d h3 (h4.trans h1.symm)
   simp [h1, h2]
  ·rw [if_neg h1]
   split
   ·rfl
   ·rename_i h2
    rw [kindD_no]
    intro d hd he
    exact h2 ⟨d, hd, he⟩
 have hd0 := (dE_lt c.1).1
 have hd1 := (dE_lt c.1).2
 have gP := h.get (eP c.1)
 have gQ := h.get (eQ c.1)
 have eP' : putH (putH f (eP c.1) (dE0 c.1) c.2) (eQ c.1) (dE1 c.1) c.2 (eP c.1) = some (((f (eP c.1)).getD (List.replicate 8 0)).set (dE0 c.1) c.2) := by simp [putH, hPQ]
 have eQ' : putH (putH f (eP c.1) (dE0 c.1) c.2) (eQ c.1) (dE1 c.1) c.2 (eQ c.1) = some (((f (eQ c.1)).getD (List.replicate 8 0)).set (dE1 c.1) c.2) := by simp [putH, hPQ.symm]
 have eO : ∀ p, p ≠ eP c.1 → p ≠ eQ c.1 → putH (putH f (eP c.1) (dE0 c.1) c.2) (eQ c.1) (dE1 c.1) c.2 p = f p := by
  intro p h1 h2
  simp [putH, h1, h2]
 have hoff : ∀ p, p ≠ eP c.1 → p ≠ eQ c.1 → ∀ d, d < 8 → kindD (cs ++ [c]) (edP p d) = kindD cs (edP p d) := by
  intro p h1 h2 d hd
  rw [hk, if_neg]
  intro h3
  rcases (edP_iff hsh hd).1 h3.symm with h4 | h4
  ·exact h1 h4.1
  ·exact h2 h4.1
 refine ⟨?_, ?_, ?_, ?_⟩
 ·intro p l hl
  by_cases h1 : p = eP c.1
  ·subst h1
   rw [eP'] at hl
   cases hl
   rw [List.length_set]
   exact gP.1
  ·by_cases h2 : p = eQ c.1
   ·subst h2
    rw [eQ'] at hl
    cases hl
    rw [List.length_set]
    exact gQ.1
   ·rw [eO p h1 h2] at hl
    exact h.len p l hl
 ·intro p l hl d hd
  by_cases h1 : p = eP c.1
  ·subst h1
   rw [eP'] at hl
   cases hl
   rw [hk]
   by_cases h3 : d = dE0 c.1
   ·subst h3
    rw [List.getElem?_set_self (by rw [gP.1]; exact hd0), if_pos ((edP_iff hsh hd).2 (.inl ⟨rfl, rfl⟩)).symm]
   ·rw [List.getElem?_set_ne (Ne.symm h3), gP.2 d hd, if_neg]
    intro h4
    rcases (edP_iff hsh hd).1 h4.symm with h5 | h5
    ·exact h3 h5.2
    ·exact hPQ h5.1
  ·by_cases h2 : p = eQ c.1
   ·subst h2
    rw [eQ'] at hl
    cases hl
    rw [hk]
    by_cases h3 : d = dE1 c.1
    ·subst h3
     rw [List.getElem?_set_self (by rw [gQ.1]; exact hd1), if_pos ((edP_iff hsh hd).2 (.inr ⟨rfl, rfl⟩)).symm]
    ·rw [List.getElem?_set_ne (Ne.symm h3), gQ.2 d hd, if_neg]
     intro h4
     rcases (edP_iff hsh hd).1 h4.symm with h5 | h5
     ·exact hPQ h5.1.symm
     ·exact h3 h5.2
   ·rw [eO p h1 h2] at hl
    rw [hoff p h1 h2 d hd]
    exact h.at_ p l hl d hd
 ·intro p hl d hd
  have h1 : p ≠ eP c.1 := by rintro rfl; rw [eP'] at hl; cases hl
  have h2 : p ≠ eQ c.1 := by rintro rfl; rw [eQ'] at hl; cases hl
  rw [eO p h1 h2] at hl
  rw [hoff p h1 h2 d hd]
  exact h.no p hl d hd
 ·intro p
  by_cases h1 : p = eP c.1
  ·subst h1
   rw [eP']
   exact ⟨fun _ => ⟨c, by simp, .inl rfl⟩, fun _ => rfl⟩
  ·by_cases h2 : p = eQ c.1
   ·subst h2
    rw [eQ']
    exact ⟨fun _ => ⟨c, by simp, .inr rfl⟩, fun _ => rfl⟩
   ·rw [eO p h1 h2, h.some_ p]
    constructor
    ·rintro ⟨d, hd, h3⟩
     exact ⟨d, by simp [hd], h3⟩
    ·rintro ⟨d, hd, h3⟩
     rcases List.mem_append.1 hd with hd | hd
     ·exact ⟨d, hd, h3⟩
     ·simp at hd
      subst hd
      rcases h3 with h4 | h4
      ·exact absurd h4 h1
      ·exact absurd h4 h2
/-! ### directions and kinds of a point -/
def dsK (kf : Nat → Int) (j : Nat) : List Int := ((List.range j).filter fun d => decide (0 < kf d)).map fun (d : Nat) => (d : Int)
def ksK (kf : Nat → Int) (j : Nat) : List Int := ((List.range j).filter fun d => decide (0 < kf d)).map kf
theorem dsK_yes {kf : Nat → Int} {j : Nat} (h : 0 < kf j) : dsK kf (j + 1) = dsK kf j ++ [(j : Int)] ∧ ksK kf (j + 1) = ksK kf j ++ [kf j] := by
 unfold dsK ksK
 rw [List.range_succ, List.filter_append, List.map_append, List.map_append]
 simp [h]
theorem dsK_no {kf : Nat → Int} {j : Nat} (h : ¬ 0 < kf j) : dsK kf (j + 1) = dsK kf j ∧ ksK kf (j + 1) = ksK kf j := by
 unfold dsK ksK
 rw [List.range_succ, List.filter_append, List.map_append, List.map_append]
 simp [h]
theorem dsK_len (kf : Nat → Int) (j : Nat) : (dsK kf j).length = (ksK kf j).length ∧ (dsK kf j).length ≤ j := by
 unfold dsK ksK
 refine ⟨by simp, ?_⟩
 rw [List.length_map]
 exact Nat.le_trans (List.length_filter_le _ _) (by simp)
theorem dsK_ne {kf : Nat → Int} {j : Nat} : dsK kf j ≠ [] ↔ ∃ d, d < j ∧ 0 < kf d := by
 unfold dsK
 rw [Ne, List.map_eq_nil_iff, List.filter_eq_nil_iff]
 simp only [List.mem_range, decide_eq_true_eq]
 constructor
 ·intro h
  apply Classical.byContradiction
  intro h2
  exact h fun a ha hp => h2 ⟨a, ha, hp⟩
 ·rintro ⟨d, h1, h2⟩ h
  exact h d h1 h2
/-! ### how many triangles are around -/
def fullP (p : P2) : Nat := if p.1 % 2 = 1 then 4 else 8
def isC (t : T3) (p : P2) : Bool := decide (crT t 0 = p) || decide (crT t 1 = p) || decide (crT t 2 = p)
theorem cr_out (x y : Int) :
  crT (x, y, 0) 0 = (2 * x + 1, 2 * y + 1) ∧ crT (x, y, 0) 1 = (2 * x, 2 * y) ∧ crT (x, y, 0) 2 = (2 * x + 2, 2 * y) ∧
  crT (x, y, 1) 0 = (2 * x + 1, 2 * y + 1) ∧ crT (x, y, 1) 1 = (2 * x + 2, 2 * y) ∧ crT (x, y, 1) 2 = (2 * x + 2, 2 * y + 2) ∧
  crT (x, y, 2) 0 = (2 * x + 1, 2 * y + 1) ∧ crT (x, y, 2) 1 = (2 * x + 2, 2 * y + 2) ∧ crT (x, y, 2) 2 = (2 * x, 2 * y + 2) ∧
  crT (x, y, 3) 0 = (2 * x + 1, 2 * y + 1) ∧ crT (x, y, 3) 1 = (2 * x, 2 * y + 2) ∧ crT (x, y, 3) 2 = (2 * x, 2 * y) := by
 refine ⟨?_, ?_, ?_, ?_, ?_, ?_, ?_, ?_, ?_, ?_, ?_, ?_⟩ <;> simp [crT, cornX, cornY, stepX, stepY] <;> omega
theorem isC_iff {t : T3} {p : P2} : isC t p = true ↔ ∃ i, i < 3 ∧ crT t i = p := by
 unfold isC
 simp only [Bool.or_eq_true, decide_eq_true_eq]
 constructor
 ·rintro ((h | h) | h)
  ·exact ⟨0, by omega, h⟩
  ·exact ⟨1, by omega, h⟩
  ·exact ⟨2, by omega, h⟩
 ·rintro ⟨i, hi, h⟩
  rcases i3_cases hi with rfl | rfl | rfl
  ·exact .inl (.inl h)
  ·exact .inl (.inr h)
  ·exact .inr h
theorem cr_inj {t : T3} (h : K4 t) : crT t 0 ≠ crT t 1 ∧ crT t 0 ≠ crT t 2 ∧ crT t 1 ≠ crT t 2 := by
 obtain ⟨x, y, ht⟩ := k4_cases h
 obtain ⟨a0, a1, a2, b0, b1, b2, c0, c1, c2, d0, d1, d2⟩ := cr_out x y
 rcases ht with rfl | rfl | rfl | rfl <;> simp [a0, a1, a2, b0, b1, b2, c0, c1, c2, d0, d1, d2] <;> omega
/-- the corners that have been counted: of the first i triangles, and the first k of the next one's -/
def crsU (L : List T3) (i k : Nat) : List P2 := cornersA (L.take i) ++ ([0, 1, 2].take k).flatMap fun m => (L[i]?).toList.map fun t => crT t m
theorem crsU_step {L : List T3} {i k : Nat} {t : T3} (ht : L[i]? = some t) (hk : k < 3) : crsU L i (k + 1) = crsU L i k ++ [crT t k] := by
 unfold crsU
 rw [List.append_assoc]
 congr 1
 rcases i3_cases hk with rfl | rfl | rfl <;> simp [ht]
theorem crsU_row {L : List T3} {i : Nat} {t : T3} (ht : L[i]? = some t) : crsU L i 3 = crsU L (i + 1) 0 := by
 have e : L.take (i + 1) = L.take i ++ [t] := by
  rw [List.take_add_one, ht]
  rfl
 unfold crsU
 rw [e, ht]
 simp [cornersA]
theorem crsU_all {L : List T3} : crsU L L.length 0 = cornersA L := by simp [crsU]
theorem crsU_nil {L : List T3} : crsU L 0 0 = [] := by simp [crsU, cornersA]
theorem crsU_len (L : List T3) {i k : Nat} (hi : i ≤ L.length) (hk : k ≤ 3) : (crsU L i k).length ≤ 3 * i + k := by
 have h1 : (cornersA (L.take i)).length = 3 * i := by
  simp [cornersA, List.length_flatMap, List.map_const', List.sum_replicate_nat]
  omega
 have h2 : (([0, 1, 2].take k).flatMap fun m => (L[i]?).toList.map fun t => crT t m).length ≤ k := by
  rcases (by omega : k = 0 ∨ k = 1 ∨ k = 2 ∨ k = 3) with rfl | rfl | rfl | rfl <;> cases L[i]? <;> simp
 unfold crsU
 rw [List.length_append]
 omega
theorem count_corners {L : List T3} (hl : ∀ t ∈ L, K4 t) (p : P2) : (cornersA L).count p = L.countP (fun t => isC t p) := by
 induction L with
 | nil => rfl
 | cons t L ih =>
  have h1 := ih fun u hu => hl u (List.mem_cons_of_mem _ hu)
  obtain ⟨d1, d2, d3⟩ := cr_inj (hl t List.mem_cons_self)
  have h2 : cornersA (t :: L) = [crT t 0, crT t 1, crT t 2] ++ cornersA L := by simp [cornersA]
  rw [h2, List.count_append, h1, List.countP_cons, Nat.add_comm]
  congr 1
  by_cases hh : isC t p = true
  ·rw [if_pos hh]
   obtain ⟨i, hi, rfl⟩ := isC_iff.1 hh
   rcases i3_cases hi with rfl | rfl | rfl <;> simp [d1, d2, d3, d1.symm, d2.symm, d3.symm]
  ·rw [if_neg hh]
   have hne : ∀ i, i < 3 → crT t i ≠ p := fun i hi h => hh (isC_iff.2 ⟨i, hi, h⟩)
   simp [hne 0 (by omega), hne 1 (by omega), hne 2 (by omega)]
theorem isC_near {t : T3} (h : K4 t) {p : P2} (hc : isC t p = true) : t ∈ (if p.1 % 2 = 1 then [(p.1 / 2, p.2 / 2, (0 : Int)), (p.1 / 2, p.2 / 2, 1), (p.1 / 2, p.2 / 2, 2), (p.1 / 2, p.2 / 2, 3)] else
  [(p.1 / 2, p.2 / 2, (0 : Int)), (p.1 / 2, p.2 / 2, 3), (p.1 / 2 - 1, p.2 / 2, 0), (p.1 / 2 - 1, p.2 / 2, 1), (p.1 / 2 - 1, p.2 / 2 - 1, 1), (p.1 / 2 - 1, p.2 / 2 - 1, 2), (p.1 / 2, p.2 / 2 - 1, 2), (p.1 / 2, p.2 / 2 - 1, 3)]) := by
 obtain ⟨x, y, ht⟩ := k4_cases h
 obtain ⟨i, hi, hp⟩ := isC_iff.1 hc
 obtain ⟨a0, a1, a2, b0, b1, b2, c0, c1, c2, d0, d1, d2⟩ := cr_out x y
 have q0 : (2 * x + 1) % 2 = 1 := by omega
 have q1 : ¬ (2 * x) % 2 = 1 := by omega
 have q2 : ¬ (2 * x + 2) % 2 = 1 := by omega
 have r0 : (2 * x + 1) / 2 = x := by omega
 have r1 : (2 * x) / 2 = x := by omega
 have r2 : (2 * x + 2) / 2 = x + 1 := by omega
 have s0 : (2 * y + 1) / 2 = y := by omega
 have s1 : (2 * y) / 2 = y := by omega
 have s2 : (2 * y + 2) / 2 = y + 1 := by omega
 rcases i3_cases hi with rfl | rfl | rfl <;> rcases ht with rfl | rfl | rfl | rfl <;> simp only [a0, a1, a2, b0, b1, b2, c0, c1, c2, d0, d1, d2] at hp <;> subst hp <;> simp only [q0, q1, q2, r0, r1, r2, s0, s1, s2, if_true, if_false] <;> simp
theorem around_le {L : List T3} (hl : ∀ t ∈ L, K4 t) (hnd : L.Nodup) (p : P2) : (cornersA L).count p ≤ fullP p := by
 rw [count_corners hl, List.countP_eq_length_filter]
 have h1 := nodup_sub_len (hnd.filter fun t => isC t p) (l := if p.1 % 2 = 1 then [(p.1 / 2, p.2 / 2, (0 : Int)), (p.1 / 2, p.2 / 2, 1), (p.1 / 2, p.2 / 2, 2), (p.1 / 2, p.2 / 2, 3)] else
  [(p.1 / 2, p.2 / 2, (0 : Int)), (p.1 / 2, p.2 / 2, 3), (p.1 / 2 - 1, p.2 / 2, 0), (p.1 / 2 - 1, p.2 / 2, 1), (p.1 / 2 - 1, p.2 / 2 - 1, 1), (p.1 / 2 - 1, p.2 / 2 - 1, 2), (p.1 / 2, p.2 / 2 - 1, 2), (p.1 / 2, p.2 / 2 - 1, 3)]) (fun t ht => by
   rw [List.mem_filter] at ht
   exact isC_near (hl t ht.1) ht.2)
 refine Nat.le_trans h1 ?_
 unfold fullP
 split <;> simp
/-! ### the law of stars -/
theorem e_ends {t : T3} (h : K4 t) {i : Nat} (hi : i < 3) : (∃ m, m < 3 ∧ crT t m = eP (eT t i)) ∧ ∃ m, m < 3 ∧ crT t m = eQ (eT t i) := by
 obtain ⟨x, y, ht⟩ := k4_cases h
 obtain ⟨a0, a1, a2, b0, b1, b2, c0, c1, c2, d0, d1, d2⟩ := cr_out x y
 have key : ∀ (t : T3) (e : E4) (p0 p1 p2 : P2), crT t 0 = p0 → crT t 1 = p1 → crT t 2 = p2 → (eP e = p0 ∨ eP e = p1 ∨ eP e = p2) ∧ (eQ e = p0 ∨ eQ e = p1 ∨ eQ e = p2) → (∃ m, m < 3 ∧ crT t m = eP e) ∧ ∃ m, m < 3 ∧ crT t m = eQ e := by
  rintro t e p0 p1 p2 h0 h1 h2 ⟨h3, h4⟩
  constructor
  ·rcases h3 with h3 | h3 | h3
   ·exact ⟨0, by omega, h0.trans h3.symm⟩
   ·exact ⟨1, by omega, h1.trans h3.symm⟩
   ·exact ⟨2, by omega, h2.trans h3.symm⟩
  ·rcases h4 with h3 | h3 | h3
   ·exact ⟨0, by omega, h0.trans h3.symm⟩
   ·exact ⟨1, by omega, h1.trans h3.symm⟩
   ·exact ⟨2, by omega, h2.trans h3.symm⟩
 rcases ht with rfl | rfl | rfl | rfl
 ·refine key _ _ _ _ _ a0 a1 a2 ?_
  rcases i3_cases hi with rfl | rfl | rfl <;> simp [eP, eQ, e00, e01, e02]
 ·refine key _ _ _ _ _ b0 b1 b2 ?_
  rcases i3_cases hi with rfl | rfl | rfl <;> simp [eP, eQ, e10, e11, e12]
 ·refine key _ _ _ _ _ c0 c1 c2 ?_
  rcases i3_cases hi with rfl | rfl | rfl <;> simp [eP, eQ, e20, e21, e22]
 ·refine key _ _ _ _ _ d0 d1 d2 ?_
  rcases i3_cases hi with rfl | rfl | rfl <;> simp [eP, eQ, e30, e31, e32]
theorem kindD_pos {cs : List C5} (hk : ∀ c ∈ cs, c.2 = 1 ∨ c.2 = 2) (e : E4) : (kindD cs e = 0 ∨ kindD cs e = 1 ∨ kindD cs e = 2) ∧ (0 < kindD cs e ↔ ∃ c ∈ cs, c.1 = e) := by
 induction cs with
 | nil => simp [kindD]
 | cons a cs ih =>
  have h1 := ih fun c hc => hk c (List.mem_cons_of_mem _ hc)
  have h2 := hk a List.mem_cons_self
  unfold kindD
  by_cases h : a.1 = e
  ·rw [if_pos h]
   refine ⟨by omega, fun _ => ⟨a, by simp, h⟩, fun _ => by omega⟩
  ·rw [if_neg h]
   refine ⟨h1.1, ?_⟩
   rw [h1.2]
   simp [h]
abbrev St3 := P2 × List Int × List Int
def kfP (cs : List C5) (p : P2) (d : Nat) : Int := kindD cs (edP p d)
def starP (cs : List C5) (p : P2) : St3 := (p, dsK (kfP cs p) 8, ksK (kfP cs p) 8)
/-- the creases of a sheet that may be -/
structure CrI (L : List T3) (cs : List C5) : Prop where
 kind : ∀ c ∈ cs, c.2 = 1 ∨ c.2 = 2
 edge : ∀ c ∈ cs, ∃ t ∈ L, ∃ i, i < 3 ∧ eT t i = c.1
theorem CrI.sh {L : List T3} {cs : List C5} (h : CrI L cs) (hl : ∀ t ∈ L, K4 t) {c : C5} (hc : c ∈ cs) : ShE c.1 := by
 obtain ⟨t, ht, i, hi, e⟩ := h.edge c hc
 rw [← e]
 exact shE_of (hl t ht) hi
theorem CrI.dirs {L : List T3} {cs : List C5} (h : CrI L cs) (hl : ∀ t ∈ L, K4 t) (p : P2) : (∃ c ∈ cs, p = eP c.1 ∨ p = eQ c.1) ↔ dsK (kfP cs p) 8 ≠ [] := by
 rw [dsK_ne]
 constructor
 ·rintro ⟨c, hc, h1⟩
  have hsh := h.sh hl hc
  rcases h1 with rfl | rfl
  ·exact ⟨dE0 c.1, (dE_lt _).1, (kindD_pos h.kind _).2.2 ⟨c, hc, ((edP_iff hsh (dE_lt _).1).2 (.inl ⟨rfl, rfl⟩)).symm⟩⟩
  ·exact ⟨dE1 c.1, (dE_lt _).2, (kindD_pos h.kind _).2.2 ⟨c, hc, ((edP_iff hsh (dE_lt _).2).2 (.inr ⟨rfl, rfl⟩)).symm⟩⟩
 ·rintro ⟨d, hd, h1⟩
  obtain ⟨c, hc, e⟩ := (kindD_pos h.kind _).2.1 h1
  rcases (edP_iff (h.sh hl hc) hd).1 e.symm with h2 | h2
  ·exact ⟨c, hc, .inl h2.1⟩
  ·exact ⟨c, hc, .inr h2.1⟩
theorem CrI.point {L : List T3} {cs : List C5} (h : CrI L cs) (hl : ∀ t ∈ L, K4 t) {p : P2} (hp : ∃ c ∈ cs, p = eP c.1 ∨ p = eQ c.1) : p ∈ cornersA L := by
 obtain ⟨c, hc, h1⟩ := hp
 obtain ⟨t, ht, i, hi, e⟩ := h.edge c hc
 obtain ⟨⟨m, hm, h2⟩, m', hm', h3⟩ := e_ends (hl t ht) hi
 rw [e] at h2 h3
 rw [cornersA_mem]
 rcases h1 with rfl | rfl
 ·exact ⟨t, ht, m, hm, h2⟩
 ·exact ⟨t, ht, m', hm', h3⟩
def starB (L : List T3) (cs : List C5) (p : P2) : Bool := decide ((cornersA L).count p = fullP p) && decide (dsK (kfP cs p) 8 ≠ [])
/-- the document's stars -/
def starsD (L : List T3) (cs : List C5) (ps : List P2) : List St3 := (ps.filter (starB L cs)).map (starP cs)
/-- the code's -/
def starsC (L : List T3) (cs : List C5) (ks : List P2) : List St3 := (ks.filter fun p => !decide ((cornersA L).count p < fullP p)).map (starP cs)
/-- THE LAW OF STARS -/
theorem stars_law {L : List T3} {cs : List C5} (h : CrI L cs) (hl : ∀ t ∈ L, K4 t) (hnd : L.Nodup) {ps ks : List P2} (hp : PtI (fun p => p ∈ cornersA L) ps) (hk : PtI (fun p => ∃ c ∈ cs, p = eP c.1 ∨ p = eQ c.1) ks) : starsC L cs ks = starsD L cs ps := by
 unfold starsC starsD
 congr 1
 refine eq_of_sorted ltP_irrefl (fun _ _ _ => ltP_trans) (hk.sorted.filter _) (hp.sorted.filter _) fun x => ?_
 rw [List.mem_filter, List.mem_filter, hk.mem, hp.mem]
 have h1 := around_le hl hnd x
 have h2 := h.dirs hl x
 unfold starB
 rw [Bool.and_eq_true, decide_eq_true_eq, decide_eq_true_eq, ← h2]
 constructor
 ·rintro ⟨h3, h4⟩
  refine ⟨h.point hl h3, ?_, h3⟩
  simp at h4
  omega
 ·rintro ⟨h3, h4, h5⟩
  refine ⟨h5, ?_⟩
  simp
  omega
end
section
open Go.RowKit Go.Maps
/-! ### the kinds around points, as a map that lies -/
theorem zero8 (w : World) : (zeroValue 137).run Tryd.prog w = .ok (.agg #[.int .i64 0, .int .i64 0, .int .i64 0, .int .i64 0, .int .i64 0, .int .i64 0, .int .i64 0, .int .i64 0]) w := by kernel_rfl
def kvP : KV P2 (List Int) where
 toKD := kP.kd
 T := 134
 E := 137
 val l := .agg (vis l).toArray
 z := List.replicate 8 0
 ht := Tryd.underlying134
 hz w := zero8 w
theorem putH_setV (f : P2 → Option (List Int)) (p : P2) (d : Nat) (k : Int) : putH f p d k = setV f p (((f p).getD (List.replicate 8 0)).set d k) := rfl
/-! ### rows of stars -/
abbrev Z3 := P2 × Value × Value
def zcs (l : List Z3) : List Value := l.flatMap fun z => [.int .i64 z.1.1, .int .i64 z.1.2, z.2.1, z.2.2]
theorem zcs_app (l m : List Z3) : zcs (l ++ m) = zcs l ++ zcs m := by simp [zcs]
theorem zcs_len (l : List Z3) : (zcs l).length = l.length * 4 := by
 induction l with
 | nil => rfl
 | cons t l ih => simp [zcs] at ih ⊢; omega
theorem zcs_one (z : Z3) : zcs [z] = [.int .i64 z.1.1, .int .i64 z.1.2, z.2.1, z.2.2] := rfl
theorem zcs_at : ∀ {l : List Z3} {j : Nat} {z : Z3}, l[j]? = some z → (zcs l)[j * 4]? = some (.int .i64 z.1.1) ∧ (zcs l)[j * 4 + 1]? = some (.int .i64 z.1.2) ∧ (zcs l)[j * 4 + 2]? = some z.2.1 ∧ (zcs l)[j * 4 + 3]? = some z.2.2
 | [], j, p, h => by simp at h
 | a :: l, 0, p, h => by
  simp at h
  subst h
  exact ⟨rfl, rfl, rfl, rfl⟩
 | a :: l, j + 1, p, h => by
  have := zcs_at (l := l) (j := j) (z := p) (by simpa using h)
  have e : zcs (a :: l) = .int .i64 a.1.1 :: .int .i64 a.1.2 :: a.2.1 :: a.2.2 :: zcs l := rfl
  rw [e, show (j + 1) * 4 = j * 4 + 1 + 1 + 1 + 1 by omega]
  simpa using this
theorem star_info : (Tryd.prog.info? 51).map (fun i => (i.zero, i.size, i.bytes)) = some (some (.agg #[.int .i64 0, .int .i64 0, .slice none 0 0, .slice none 0 0]), 4, 64) := by kernel_rfl
structure StarsW (w : World) (base : Nat) (v : Value) (ss : List St3) (zs : List Z3) : Prop where
 own : w.ownsRow base 51 4 v ss.length (zcs zs)
 len : zs.length = ss.length
 row : ∀ (j : Nat) (s : St3), ss[j]? = some s → ∃ dv kv, zs[j]? = some (s.1, dv, kv) ∧ w.ownsRow base 3 1 dv s.2.1.length (vis s.2.1) ∧ w.ownsRow base 3 1 kv s.2.2.length (vis s.2.2)
variable {w w' : World} {base : Nat} {v v' : Value} {ss : List St3} {zs : List Z3}
theorem StarsW.nil (w : World) (base : Nat) : StarsW w base (.slice none 0 0) [] [] := ⟨World.ownsRow_nil _ _ _ _, rfl, fun j f h => by simp at h⟩
theorem StarsW.below (h : StarsW w base v ss zs) {B : Nat} (hb : Below B w w') (hB : w.heap.size ≤ B) : StarsW w' base v ss zs :=
 ⟨own_below h.own hb hB, h.len, fun j f hf => by
  obtain ⟨dv, kv, h1, h2, h3⟩ := h.row j f hf
  exact ⟨dv, kv, h1, own_below h2 hb hB, own_below h3 hb hB⟩⟩
theorem StarsW.app (h : StarsW w base v ss zs) {s : St3} {dv kv : Value} (hd : w.ownsRow base 3 1 dv s.2.1.length (vis s.2.1)) (hk : w.ownsRow base 3 1 kv s.2.2.length (vis s.2.2)) (ho : w'.ownsRow base 51 4 v' (ss.length + 1) (zcs zs ++ zcs [(s.1, dv, kv)])) (hg : GrowOf w w' v v') : StarsW w' base v' (ss ++ [s]) (zs ++ [(s.1, dv, kv)]) := by
 have hne : (3 : TypeId) ≠ 51 := by decide
 refine ⟨by rw [List.length_append, zcs_app]; exact ho, by simp [h.len], fun j x hx => ?_⟩
 by_cases hj : j < ss.length
 ·rw [List.getElem?_append_left hj] at hx
  obtain ⟨dv, kv, h1, h2, h3⟩ := h.row j x hx
  refine ⟨dv, kv, ?_, own_grow h2 hg (own_apart h2 h.own hne), own_grow h3 hg (own_apart h3 h.own hne)⟩
  rw [List.getElem?_append_left (by rw [h.len]; exact hj)]
  exact h1
 ·have hj2 : j = ss.length := by
   have := (List.getElem?_eq_some_iff.1 hx).1
   simp at this
   omega
  subst hj2
  simp at hx
  subst hx
  refine ⟨dv, kv, ?_, own_grow hd hg (own_apart hd h.own hne), own_grow hk hg (own_apart hk h.own hne)⟩
  rw [← h.len]
  simp
theorem StarsW.monoD {base' : Nat} (h : StarsW w base v ss zs) (hb : base' ≤ base) : StarsW w base' v ss zs :=
 ⟨own_mono h.own hb, h.len, fun j f hf => by
  obtain ⟨dv, kv, h1, h2, h3⟩ := h.row j f hf
  exact ⟨dv, kv, h1, own_mono h2 hb, own_mono h3 hb⟩⟩
end
end Go.Proofs.YtoienokpchbglaaDoor
