/- New: what holds while the creases are looked at.. -/
import Derived.Test.YtbnkabmnenginaaGreatDoorK14
import Derived.Test.YtbnkabmnenginaaGreatDoorK15
namespace Go.Proofs.YtbnkabmnenginaaGreatDoor
set_option linter.unusedSimpArgs false
set_option linter.unusedVariables false
section
open Go.RowKit Go.Maps
theorem lay_any (A : Option Addr) (n c : Nat) (vc : Value) (W H : Int) (mask : List Int) (w : World) (h : Rd w 1 A n (vis mask)) (hn : n ≤ 140737488351232) :
  Calls Tryz.prog 23 #[.agg #[.int .i64 W, .int .i64 H, .slice A n c, vc]] w fun e w' => Below w.heap.size w w' ∧
   ((cellsB W H mask = false ∧ e = .returned (.tuple #[.pointer none, .bool false])) ∨
   (cellsB W H mask = true ∧ e = .returned (.tuple #[.pointer (some ⟨w.heap.size + 1 + 1 + 1, 0, none⟩), .bool true]) ∧ ∃ Wn Hn m vt, W = ((Wn : Nat) : Int) ∧ H = ((Hn : Nat) : Int) ∧ (1 ≤ Wn ∧ Wn ≤ 8) ∧ (1 ≤ Hn ∧ Hn ≤ 8) ∧ mask.length = Wn * Hn ∧ LayS w Wn Hn (.slice A n c) vc (trisL Wn mask) m vt w')) := by
 by_cases hd : W < 1 ∨ 8 < W ∨ H < 1 ∨ 8 < H ∨ (mask.length : Int) ≠ W * H
 ·refine (lay_dim A n c vc W H mask w h hn hd).mono ?_
  rintro e w' ⟨rfl, hb⟩
  exact ⟨hb, .inl ⟨cellsB_no hd, rfl⟩⟩
 ·have h1 : 1 ≤ W ∧ W ≤ 8 := by omega
  have h2 : 1 ≤ H ∧ H ≤ 8 := by omega
  have h3 : (mask.length : Int) = W * H := by
   apply Classical.byContradiction
   intro h
   exact hd (.inr (.inr (.inr (.inr h))))
  clear hd
  obtain ⟨Wn, rfl⟩ := Int.eq_ofNat_of_zero_le (show 0 ≤ W by omega)
  obtain ⟨Hn, rfl⟩ := Int.eq_ofNat_of_zero_le (show 0 ≤ H by omega)
  have h4 : mask.length = Wn * Hn := by
   have : (mask.length : Int) = ((Wn * Hn : Nat) : Int) := by rw [h3]; simp
   omega
  refine (lay_cells A n c vc Wn Hn mask w h (by omega) (by omega) h4).mono ?_
  rintro e w' (⟨ha, rfl, hb⟩ | ⟨ha, rfl, m, vt, hl⟩)
  ·exact ⟨hb, .inl ⟨by rw [cellsB_dim h1 h2 h3, ha], rfl⟩⟩
  ·exact ⟨hl.bel, .inr ⟨by rw [cellsB_dim h1 h2 h3, ha], rfl, Wn, Hn, m, vt, rfl, rfl, by omega, by omega, h4, hl⟩⟩
def ccs (l : List C5) : List Value := l.flatMap fun c => [.int .i64 c.1.1, .int .i64 c.1.2.1, .int .i64 c.1.2.2.1, .int .i64 c.1.2.2.2, .int .i64 c.2]
def encC (c : C5) : List Value := [.int .i64 c.1.1, .int .i64 c.1.2.1, .int .i64 c.1.2.2.1, .int .i64 c.1.2.2.2, .int .i64 c.2]
theorem ccs_len (l : List C5) : (ccs l).length = l.length * 5 := by
 induction l with
 | nil => rfl
 | cons t l ih => simp [ccs] at ih ⊢; omega
theorem ccs_at : ∀ (l : List C5) (i j : Nat) (t : C5), l[i]? = some t → j < 5 → (ccs l)[5 * i + j]? = (encC t)[j]?
 | [], i, j, t, h, _ => by simp at h
 | a :: l, 0, j, t, h, hj => by
  simp at h
  subst h
  simp only [ccs, List.flatMap_cons, Nat.mul_zero, Nat.zero_add]
  rw [List.getElem?_append_left (by simpa using hj)]
  rfl
 | a :: l, i + 1, j, t, h, hj => by
  rw [List.getElem?_cons_succ] at h
  have ih := ccs_at l i j t h hj
  simp only [ccs, List.flatMap_cons] at ih ⊢
  rw [List.getElem?_append_right (by simp; omega)]
  simp only [List.length_cons, List.length_nil]
  rw [show 5 * (i + 1) + j - (0 + 1 + 1 + 1 + 1 + 1) = 5 * i + j by omega]
  exact ih
theorem Rd.creases_len {w : World} {A : Option Addr} {n : Nat} {cs : List C5} (h : Rd w 5 A n (ccs cs)) : cs.length = n := by
 have := h.1
 rw [ccs_len] at this
 omega
theorem Rd.crease {w : World} {b off n : Nat} {cs : List C5} (h : Rd w 5 (some ⟨b, off, none⟩) n (ccs cs)) {k : Nat} {c : C5} (hc : cs[k]? = some c) :
  w.cell? ⟨b, off + k * 5, none⟩ = some (.int .i64 c.1.1) ∧ w.cell? ⟨b, off + k * 5 + 1, none⟩ = some (.int .i64 c.1.2.1) ∧ w.cell? ⟨b, off + k * 5 + 2, none⟩ = some (.int .i64 c.1.2.2.1) ∧ w.cell? ⟨b, off + k * 5 + 3, none⟩ = some (.int .i64 c.1.2.2.2) ∧ w.cell? ⟨b, off + k * 5 + 4, none⟩ = some (.int .i64 c.2) := by
 have hl := h.creases_len
 have hk := (List.getElem?_eq_some_iff.1 hc).1
 obtain ⟨b', o', e, _, hh⟩ := h.2 (by omega)
 cases e
 have key : ∀ j, j < 5 → ∀ v, (encC c)[j]? = some v → w.cell? ⟨b, off + k * 5 + j, none⟩ = some v := by
  intro j hj v hv
  have := hh (5 * k + j) v (by rw [ccs_at cs k j c hc hj, hv])
  rwa [show off + (5 * k + j) = off + k * 5 + j by omega] at this
 exact ⟨key 0 (by omega) _ rfl, key 1 (by omega) _ rfl, key 2 (by omega) _ rfl, key 3 (by omega) _ rfl, key 4 (by omega) _ rfl⟩
def kindF (cs : List C5) : E4 → Option Int := cs.foldl (fun f c => setF f c.1 c.2) (fun _ => none)
theorem kindF_snoc (cs : List C5) (c : C5) : kindF (cs ++ [c]) = setF (kindF cs) c.1 c.2 := by simp [kindF]
theorem kindF_take {cs : List C5} {i : Nat} {c : C5} (h : cs[i]? = some c) : kindF (cs.take (i + 1)) = setF (kindF (cs.take i)) c.1 c.2 := by
 rw [List.take_add_one, h]
 exact kindF_snoc _ _
def prevOk (p : Option C5) (e : E4) : Bool := match p with
 | none => true
 | some p => lessE p.1 e
theorem creaseB_eq (l : List T3) (p : Option C5) (c : C5) : creaseB l p c = (prevOk p c.1 && decide (c.2 = 1 ∨ c.2 = 2) && innerB l c.1) := by cases p <;> rfl
def prevC (cs : List C5) (i : Nat) : Option C5 := if i = 0 then none else cs[i - 1]?
theorem creases_take {l : List T3} {cs : List C5} {i : Nat} {c : C5} (h : cs[i]? = some c) (h1 : creasesB l none (cs.take i) = true) (h2 : creaseB l (prevC cs i) c = true) : creasesB l none (cs.take (i + 1)) = true := by
 rw [creasesB_at] at h1 ⊢
 intro j d hd
 by_cases hj : j < i
 ·have := h1 j d (by rw [List.getElem?_take] at hd ⊢; rw [if_pos hj]; rwa [if_pos (by omega)] at hd)
  by_cases h0 : j = 0
  ·rw [if_pos h0] at this ⊢
   exact this
  ·rw [if_neg h0] at this ⊢
   rw [List.getElem?_take, if_pos (by omega)] at this ⊢
   exact this
 ·have hj2 : j = i := by
   rw [List.getElem?_take] at hd
   split at hd
   ·omega
   ·cases hd
  subst hj2
  rw [List.getElem?_take, if_pos (by omega), h] at hd
  cases hd
  unfold prevC at h2
  by_cases h0 : j = 0
  ·rw [if_pos h0] at h2 ⊢
   exact h2
  ·rw [if_neg h0] at h2 ⊢
   rw [List.getElem?_take, if_pos (by omega)]
   exact h2
theorem creases_fail {l : List T3} {cs : List C5} {i : Nat} {c : C5} (h : cs[i]? = some c) (h2 : creaseB l (prevC cs i) c = false) : creasesB l none cs = false := by
 rw [Bool.eq_false_iff]
 intro h1
 rw [creasesB_at] at h1
 have := h1 i c h
 unfold prevC at h2
 rw [this] at h2
 cases h2
theorem inner_ok {L : List T3} {e : E4} (hL : ∀ t ∈ L, SmT t) (h : innerB L e = true) : kE.ok e := by
 obtain ⟨t, ht, i, hi, rfl, _⟩ := innerB_iff.1 h
 obtain ⟨h1, h2, h3⟩ := hL t ht
 obtain ⟨x, y, e⟩ := k4_cases h3
 show inR _ ∧ inR _ ∧ inR _ ∧ inR _
 unfold inR
 rcases i3_cases hi with rfl | rfl | rfl <;> rcases e with rfl | rfl | rfl | rfl <;> simp [e00, e01, e02, e10, e11, e12, e20, e21, e22, e30, e31, e32] at h1 h2 ⊢ <;> omega
noncomputable def newB (W H : Int) (mask : List Int) (cs : List C5) : Bool := cellsB W H mask && (creasesB (trisL W.toNat mask) none cs && joinB (trisL W.toNat mask))
structure NewS (w : World) (b0 pb nb kb W H : Nat) (vm vc vt : Value) (L : List T3) (mn : Nat) (cs : List C5) (i : Nat) (wr : World) : Prop where
 pap : PapI wr pb nb kb W H vm vc vt L mn i (kindF (cs.take i))
 own : wr.ownsRow w.heap.size 59 3 vt L.length (tcT L)
 bel : Below w.heap.size w wr
 box : wr.heap[b0]? = some (.cells #[.int .i64 W, .int .i64 H, vm, vc] 25 (0, 0))
 kge : w.heap.size ≤ kb
 nk : nb ≠ kb
section
variable {w wr w' : World} {b0 pb nb kb W H mn i : Nat} {vm vc vt : Value} {L : List T3} {cs : List C5} {c : C5}
theorem NewS.below (h : NewS w b0 pb nb kb W H vm vc vt L mn cs i wr) (hb : Below wr.heap.size wr w') : NewS w b0 pb nb kb W H vm vc vt L mn cs i w' :=
 ⟨h.pap.below hb, od h.own hb, stay_b h.bel hb, blk_below h.box hb (blk_lt h.box), h.kge, h.nk⟩
theorem NewS.put (h : NewS w b0 pb nb kb W H vm vc vt L mn cs i wr) (hc : cs[i]? = some c) (hg : wr.grownBy w' (some kb)) (hm : MapI kE w' kb (i + 1) (setF (kindF (cs.take i)) c.1 c.2)) : NewS w b0 pb nb kb W H vm vc vt L mn cs (i + 1) w' := by
 refine ⟨⟨(hg.block _ (blk_lt h.pap.blk) (fun e => cells_notmap h.pap.blk h.pap.kin.is e)).trans h.pap.blk, h.pap.num.heap (hg.block _ h.pap.num.lt (fun e => h.nk (by injection e))), ?_⟩, World.ownsRow.kept h.own hg (.inr (own_notmap h.own h.pap.kin.is)), h.bel.grown hg h.bel.size (fun k hk => by cases hk; exact h.kge), (hg.block _ (blk_lt h.box) (fun e => cells_notmap h.box h.pap.kin.is e)).trans h.box, h.kge, h.nk⟩
 rw [kindF_take hc]
 exact hm
end
end
end Go.Proofs.YtbnkabmnenginaaGreatDoor
