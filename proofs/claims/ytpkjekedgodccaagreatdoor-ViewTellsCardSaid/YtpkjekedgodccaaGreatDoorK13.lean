/- New: what holds while the creases are looked at.. The document's HasTri, KindOf, PlaceOf. -/
import Derived.Test.YtpkjekedgodccaaGreatDoorK11
import Derived.Test.YtpkjekedgodccaaGreatDoorK12
namespace Go.Proofs.YtpkjekedgodccaaGreatDoor
set_option linter.unusedSimpArgs false
set_option linter.unusedVariables false
section
open Go.RowKit Go.Maps
theorem lay_any (A : Option Addr) (n c : Nat) (vc : Value) (W H : Int) (mask : List Int) (w : World) (h : Rd w 1 A n (vis mask)) (hn : n ≤ 140737488351232) :
  Calls Tryz.prog 53 #[.agg #[.int .i64 W, .int .i64 H, .slice A n c, vc]] w fun e w' => Below w.heap.size w w' ∧
   ((cellsB W H mask = false ∧ e = .returned (.tuple #[.pointer none, .bool false])) ∨
   (cellsB W H mask = true ∧ e = .returned (.tuple #[.pointer (some ⟨w.heap.size + 1 + 1 + 1, 0, none⟩), .bool true]) ∧ ∃ Wn Hn m vt, W = ((Wn : Nat) : Int) ∧ H = ((Hn : Nat) : Int) ∧ (1 ≤ Wn ∧ Wn ≤ 8) ∧ (1 ≤ Hn ∧ Hn ≤ 8) ∧ mask.length = Wn * Hn ∧ LayS w Wn Hn (.slice A n c) vc (trisL Wn mask) m vt w')) := by
 by_cases hd : W < 1 ∨ 8 < W ∨ H < 1 ∨ 8 < H ∨ (mask.length : Int) ≠ W * H
 ·refine (lay_dim A n c vc W H mask w h hn hd).mono ?_
  rintro e w' ⟨rfl, hb⟩
  exact ⟨hb, .inl ⟨cellsB_no hd, rfl⟩⟩
 ·have h1 : 1 ≤ W ∧ W ≤ 8 := by omega
  have h2 : 1 ≤ H ∧ H ≤ 8 := by omega
  have h3 : (mask.length : Int) = W * H := by
   apply Classical.byContradiction
   intro h
   exact hd (.inr (.inr (.inr (.inr h))))
  clear hd
  obtain ⟨Wn, rfl⟩ := Int.eq_ofNat_of_zero_le (show 0 ≤ W by omega)
  obtain ⟨Hn, rfl⟩ := Int.eq_ofNat_of_zero_le (show 0 ≤ H by omega)
  have h4 : mask.length = Wn * Hn := by
   have : (mask.length : Int) = ((Wn * Hn : Nat) : Int) := by rw [h3]; simp
   omega
  refine (lay_cells A n c vc Wn Hn mask w h (by omega) (by omega) h4).mono ?_
  rintro e w' (⟨ha, rfl, hb⟩ | ⟨ha, rfl, m, vt, hl⟩)
  ·exact ⟨hb, .inl ⟨by rw [cellsB_dim h1 h2 h3, ha], rfl⟩⟩
  ·exact ⟨hl.bel, .inr ⟨by rw [cellsB_dim h1 h2 h3, ha], rfl, Wn, Hn, m, vt, rfl, rfl, by omega, by omega, h4, hl⟩⟩
def ccs (l : List C5) : List Value := l.flatMap fun c => [.int .i64 c.1.1, .int .i64 c.1.2.1, .int .i64 c.1.2.2.1, .int .i64 c.1.2.2.2, .int .i64 c.2]
def encC (c : C5) : List Value := [.int .i64 c.1.1, .int .i64 c.1.2.1, .int .i64 c.1.2.2.1, .int .i64 c.1.2.2.2, .int .i64 c.2]
theorem ccs_len (l : List C5) : (ccs l).length = l.length * 5 := by
 induction l with
 | nil => rfl
 | cons t l ih => simp [ccs] at ih ⊢; omega
theorem ccs_at : ∀ (l : List C5) (i j : Nat) (t : C5), l[i]? = some t → j < 5 → (ccs l)[5 * i + j]? = (encC t)[j]?
 | [], i, j, t, h, _ => by simp at h
 | a :: l, 0, j, t, h, hj => by
  simp at h
  subst h
  simp only [ccs, List.flatMap_cons, Nat.mul_zero, Nat.zero_add]
  rw [List.getElem?_append_left (by simpa using hj)]
  rfl
 | a :: l, i + 1, j, t, h, hj => by
  rw [List.getElem?_cons_succ] at h
  have ih := ccs_at l i j t h hj
  simp only [ccs, List.flatMap_cons] at ih ⊢
  rw [List.getElem?_append_right (by simp; omega)]
  simp only [List.length_cons, List.length_nil]
  rw [show 5 * (i + 1) + j - (0 + 1 + 1 + 1 + 1 + 1) = 5 * i + j by omega]
  exact ih
theorem Rd.creases_len {w : World} {A : Option Addr} {n : Nat} {cs : List C5} (h : Rd w 5 A n (ccs cs)) : cs.length = n := by
 have := h.1
 rw [ccs_len] at this
 omega
theorem Rd.crease {w : World} {b off n : Nat} {cs : List C5} (h : Rd w 5 (some ⟨b, off, none⟩) n (ccs cs)) {k : Nat} {c : C5} (hc : cs[k]? = some c) :
  w.cell? ⟨b, off + k * 5, none⟩ = some (.int .i64 c.1.1) ∧ w.cell? ⟨b, off + k * 5 + 1, none⟩ = some (.int .i64 c.1.2.1) ∧ w.cell? ⟨b, off + k * 5 + 2, none⟩ = some (.int .i64 c.1.2.2.1) ∧ w.cell? ⟨b, off + k * 5 + 3, none⟩ = some (.int .i64 c.1.2.2.2) ∧ w.cell? ⟨b, off + k * 5 + 4, none⟩ = some (.int .i64 c.2) := by
 have hl := h.creases_len
 have hk := (List.getElem?_eq_some_iff.1 hc).1
 obtain ⟨b', o', e, _, hh⟩ := h.2 (by omega)
 cases e
 have key : ∀ j, j < 5 → ∀ v, (encC c)[j]? = some v → w.cell? ⟨b, off + k * 5 + j, none⟩ = some v := by
  intro j hj v hv
  have := hh (5 * k + j) v (by rw [ccs_at cs k j c hc hj, hv])
  rwa [show off + (5 * k + j) = off + k * 5 + j by omega] at this
 exact ⟨key 0 (by omega) _ rfl, key 1 (by omega) _ rfl, key 2 (by omega) _ rfl, key 3 (by omega) _ rfl, key 4 (by omega) _ rfl⟩
def kindF (cs : List C5) : E4 → Option Int := cs.foldl (fun f c => setF f c.1 c.2) (fun _ => none)
theorem kindF_snoc (cs : List C5) (c : C5) : kindF (cs ++ [c]) = setF (kindF cs) c.1 c.2 := by simp [kindF]
theorem kindF_take {cs : List C5} {i : Nat} {c : C5} (h : cs[i]? = some c) : kindF (cs.take (i + 1)) = setF (kindF (cs.take i)) c.1 c.2 := by
 rw [List.take_add_one, h]
 exact kindF_snoc _ _
def prevOk (p : Option C5) (e : E4) : Bool := match p with
 | none => true
 | some p => lessE p.1 e
theorem creaseB_eq (l : List T3) (p : Option C5) (c : C5) : creaseB l p c = (prevOk p c.1 && decide (c.2 = 1 ∨ c.2 = 2) && innerB l c.1) := by cases p <;> rfl
def prevC (cs : List C5) (i : Nat) : Option C5 := if i = 0 then none else cs[i - 1]?
theorem creases_take {l : List T3} {cs : List C5} {i : Nat} {c : C5} (h : cs[i]? = some c) (h1 : creasesB l none (cs.take i) = true) (h2 : creaseB l (prevC cs i) c = true) : creasesB l none (cs.take (i + 1)) = true := by
 rw [creasesB_at] at h1 ⊢
 intro j d hd
 by_cases hj : j < i
 ·have := h1 j d (by rw [List.getElem?_take] at hd ⊢; rw [if_pos hj]; rwa [if_pos (by omega)] at hd)
  by_cases h0 : j = 0
  ·rw [if_pos h0] at this ⊢
   exact this
  ·rw [if_neg h0] at this ⊢
   rw [List.getElem?_take, if_pos (by omega)] at this ⊢
   exact this
 ·have hj2 : j = i := by
   rw [List.getElem?_take] at hd
   split at hd
   ·omega
   ·cases hd
  subst hj2
  rw [List.getElem?_take, if_pos (by omega), h] at hd
  cases hd
  unfold prevC at h2
  by_cases h0 : j = 0
  ·rw [if_pos h0] at h2 ⊢
   exact h2
  ·rw [if_neg h0] at h2 ⊢
   rw [List.getElem?_take, if_pos (by omega)]
   exact h2
theorem creases_fail {l : List T3} {cs : List C5} {i : Nat} {c : C5} (h : cs[i]? = some c) (h2 : creaseB l (prevC cs i) c = false) : creasesB l none cs = false := by
 rw [Bool.eq_false_iff]
 intro h1
 rw [creasesB_at] at h1
 have := h1 i c h
 unfold prevC at h2
 rw [this] at h2
 cases h2
theorem inner_ok {L : List T3} {e : E4} (hL : ∀ t ∈ L, SmT t) (h : innerB L e = true) : kE.ok e := by
 obtain ⟨t, ht, i, hi, rfl, _⟩ := innerB_iff.1 h
 obtain ⟨h1, h2, h3⟩ := hL t ht
 obtain ⟨x, y, e⟩ := k4_cases h3
 show inR _ ∧ inR _ ∧ inR _ ∧ inR _
 unfold inR
 rcases i3_cases hi with rfl | rfl | rfl <;> rcases e with rfl | rfl | rfl | rfl <;> simp [e00, e01, e02, e10, e11, e12, e20, e21, e22, e30, e31, e32] at h1 h2 ⊢ <;> omega
noncomputable def newB (W H : Int) (mask : List Int) (cs : List C5) : Bool := cellsB W H mask && (creasesB (trisL W.toNat mask) none cs && joinB (trisL W.toNat mask))
structure NewS (w : World) (b0 pb nb kb W H : Nat) (vm vc vt : Value) (L : List T3) (mn : Nat) (cs : List C5) (i : Nat) (wr : World) : Prop where
 pap : PapI wr pb nb kb W H vm vc vt L mn i (kindF (cs.take i))
 own : wr.ownsRow w.heap.size 44 3 vt L.length (tcT L)
 bel : Below w.heap.size w wr
 box : wr.heap[b0]? = some (.cells #[.int .i64 W, .int .i64 H, vm, vc] 25 (0, 0))
 kge : w.heap.size ≤ kb
 nk : nb ≠ kb
section
variable {w wr w' : World} {b0 pb nb kb W H mn i : Nat} {vm vc vt : Value} {L : List T3} {cs : List C5} {c : C5}
theorem NewS.below (h : NewS w b0 pb nb kb W H vm vc vt L mn cs i wr) (hb : Below wr.heap.size wr w') : NewS w b0 pb nb kb W H vm vc vt L mn cs i w' :=
 ⟨h.pap.below hb, od h.own hb, stay_b h.bel hb, blk_below h.box hb (blk_lt h.box), h.kge, h.nk⟩
theorem NewS.put (h : NewS w b0 pb nb kb W H vm vc vt L mn cs i wr) (hc : cs[i]? = some c) (hg : wr.grownBy w' (some kb)) (hm : MapI kE w' kb (i + 1) (setF (kindF (cs.take i)) c.1 c.2)) : NewS w b0 pb nb kb W H vm vc vt L mn cs (i + 1) w' := by
 refine ⟨⟨(hg.block _ (blk_lt h.pap.blk) (fun e => cells_notmap h.pap.blk h.pap.kin.is e)).trans h.pap.blk, h.pap.num.heap (hg.block _ h.pap.num.lt (fun e => h.nk (by injection e))), ?_⟩, World.ownsRow.kept h.own hg (.inr (own_notmap h.own h.pap.kin.is)), h.bel.grown hg h.bel.size (fun k hk => by cases hk; exact h.kge), (hg.block _ (blk_lt h.box) (fun e => cells_notmap h.box h.pap.kin.is e)).trans h.box, h.kge, h.nk⟩
 rw [kindF_take hc]
 exact hm
end
end
section
section
open Go.RowKit Go.Maps
abbrev shV (W H : Nat) (Am : Option Addr) (nm cm : Nat) (Ac : Option Addr) (nc cc : Nat) : Value := .agg #[.int .i64 W, .int .i64 H, .slice Am nm cm, .slice Ac nc cc]
structure ShM (w : World) (W H : Nat) (Am : Option Addr) (nm : Nat) (mask : List Int) (Ac : Option Addr) (nc : Nat) (cs : List C5) : Prop where
 dW : 1 ≤ W ∧ W ≤ 8
 dH : 1 ≤ H ∧ H ≤ 8
 len : mask.length = W * H
 rm : Rd w 1 Am nm (vis mask)
 rc : Rd w 5 Ac nc (ccs cs)
 nb : nc ≤ 140737488351232
section
variable {w w' : World} {W H : Nat} {Am Ac : Option Addr} {nm nc : Nat} {mask : List Int} {cs : List C5}
theorem ShM.below (h : ShM w W H Am nm mask Ac nc cs) (hb : Below w.heap.size w w') : ShM w' W H Am nm mask Ac nc cs := ⟨h.dW, h.dH, h.len, h.rm.below hb, h.rc.below hb, h.nb⟩
theorem ShM.nm_eq (h : ShM w W H Am nm mask Ac nc cs) : nm = W * H := by
 have := h.rm.ints_len
 have := h.len
 omega
theorem ShM.tris_len (h : ShM w W H Am nm mask Ac nc cs) : (trisL W mask).length ≤ 1000 := by
 have h1 := part_len W mask mask.length 0
 rw [List.length_append] at h1
 have h2 : W * H ≤ 8 * 8 := Nat.mul_le_mul h.dW.2 h.dH.2
 have h3 : trisL W mask = partT W mask mask.length := rfl
 have h4 := h.len
 rw [h3]
 omega
theorem ShM.tris_in (h : ShM w W H Am nm mask Ac nc cs) {t : T3} (ht : t ∈ trisL W mask) : 0 ≤ t.1 ∧ t.1 < W ∧ 0 ≤ t.2.1 ∧ t.2.1 < H ∧ K4 t := trisL_in (by have := h.dW; omega) h.len ht
theorem ShM.tris_sm (h : ShM w W H Am nm mask Ac nc cs) {t : T3} (ht : t ∈ trisL W mask) : SmT t := by
 have := h.tris_in ht
 have h1 := h.dW
 have h2 := h.dH
 exact ⟨by omega, by omega, this.2.2.2.2⟩
theorem ShM.tris_sorted (h : ShM w W H Am nm mask Ac nc cs) : (trisL W mask).Pairwise triLt := partT_sorted (by have := h.dW; omega) mask _
end
theorem bit_eq (z : Int) (k : Nat) : (bits .and .i64 (z / 2 ^ k) 1 == 1) = bitB z k := by
 rw [and1]
 unfold bitB
 rw [Bool.eq_iff_iff]
 simp
set_option maxRecDepth 100000 in
set_option maxHeartbeats 3200000 in
theorem hasTri_any (W H x y k : Nat) (Am Ac : Option Addr) (nm cm nc cc : Nat) (mask : List Int) (cs : List C5) (w : World) (hS : ShM w W H Am nm mask Ac nc cs) (hx : x < W) (hy : y < H) (hk : k < 4) :
  Calls Tryz.prog 49 #[shV W H Am nm cm Ac nc cc, .agg #[.int .i64 x, .int .i64 y, .int .i64 k]] w fun e w' => e = .returned (.bool (bitB (mask.getD (y * W + x) 0) k)) ∧ Below w.heap.size w w' := by
 have hnm := hS.nm_eq
 have hW := hS.dW
 have hH := hS.dH
 have hyW : y * W ≤ 7 * 8 := Nat.mul_le_mul (by omega) (by omega)
 have hj : y * W + x < nm := by
  rw [hnm]
  have h1 : y * W + W = (y + 1) * W := by rw [Nat.add_mul, Nat.one_mul]
  have h2 : (y + 1) * W ≤ H * W := Nat.mul_le_mul_right W (by omega)
  rw [Nat.mul_comm W H]
  omega
 obtain ⟨p, hp⟩ : ∃ p, p = y * W := ⟨_, rfl⟩
 obtain ⟨j, hjp⟩ : ∃ j, j = p + x := ⟨_, rfl⟩
 rw [← hp, ← hjp] at hj ⊢
 have hwp : IntKind.i64.wrap ((y : Int) * (W : Int)) = (p : Int) := by
  have : (y : Int) * (W : Int) = (p : Int) := by rw [hp]; simp
  rw [this]
  exact IntWalk.i64_in _ (by omega)
 have hwj : IntKind.i64.wrap ((p : Int) + (x : Int)) = (j : Int) := by rw [IntWalk.i64_in _ (by omega)]; omega
 have hw1 : IntKind.i64.wrap ((W : Int) - 1) = (W : Int) - 1 := IntWalk.i64_in _ (by omega)
 have hw2 : IntKind.i64.wrap ((H : Int) - 1) = (H : Int) - 1 := IntWalk.i64_in _ (by omega)
 obtain ⟨b, off, z, hA, hbl, hz, hcz⟩ := hS.rm.int hj
 subst hA
 have hzd : mask.getD j 0 = z := by rw [List.getD_eq_getElem?_getD, hz]; rfl
 rw [hzd]
 have hbit := bit_eq z k
 obtain ⟨R, hR⟩ : ∃ R, R = bitB z k := ⟨_, rfl⟩
 rw [← hR] at hbit ⊢
 have hji : (j : Int) < (nm : Int) := by omega
 have hj0 : (0 : Int) ≤ (j : Int) := by omega
 have kb0 := heap_alloc_new w (.cells #[.int .i64 W, .int .i64 H, .slice (some ⟨b, off, none⟩) nm cm, .slice Ac nc cc] 25)
 have kb1 := blk_alloc kb0 (.cells #[.int .i64 x, .int .i64 y, .int .i64 k] 44)
 have kt := heap_alloc_new (w.alloc (.cells #[.int .i64 W, .int .i64 H, .slice (some ⟨b, off, none⟩) nm cm, .slice Ac nc cc] 25)) (.cells #[.int .i64 x, .int .i64 y, .int .i64 k] 44)
 rw [World.size_alloc] at kt
 have hbw : Below w.heap.size w ((w.alloc (.cells #[.int .i64 W, .int .i64 H, .slice (some ⟨b, off, none⟩) nm cm, .slice Ac nc cc] 25)).alloc (.cells #[.int .i64 x, .int .i64 y, .int .i64 k] 44)) := ba (below_new _ _) _
 have hc2 := al_c (al_c hcz (.cells #[.int .i64 W, .int .i64 H, .slice (some ⟨b, off, none⟩) nm cm, .slice Ac nc cc] 25)) (.cells #[.int .i64 x, .int .i64 y, .int .i64 k] 44)
 have c1 := fun (w1 : World) => inB_any x 0 ((W : Int) - 1) w1
 have c2 := fun (w1 : World) => inB_any y 0 ((H : Int) - 1) w1
 have c3 := fun (w1 : World) => inB_any k 0 3 w1
 rw [decide_eq_true (show (0 : Int) ≤ x by omega), decide_eq_true (show (x : Int) ≤ (W : Int) - 1 by omega)] at c1
 rw [decide_eq_true (show (0 : Int) ≤ y by omega), decide_eq_true (show (y : Int) ≤ (H : Int) - 1 by omega)] at c2
 rw [decide_eq_true (show (0 : Int) ≤ k by omega), decide_eq_true (show (k : Int) ≤ 3 by omega)] at c3
 have C1 := Lib.hid c1
 have C2 := Lib.hid c2
 have C3 := Lib.hid c3
 clear c1 c2 c3 hS hnm hyW hp hjp hz hzd hR hcz kb0
 go_enter Tryz.func49, Tryz.ntmps49
 go_upto_region 1 with fail
 generalize (w.alloc (.cells #[.int .i64 W, .int .i64 H, .slice (some ⟨b, off, none⟩) nm cm, .slice Ac nc cc] 25)).alloc (.cells #[.int .i64 x, .int .i64 y, .int .i64 k] 44) = w2 at kb1 kt hbw hc2 ⊢
 have a0 := cell_of_blk kb1 0
 have a1 := cell_of_blk kb1 1
 have a2 := cell_of_blk kb1 2
 have t0 := cell_of_blk kt 0
 have t1 := cell_of_blk kt 1
 have t2 := cell_of_blk kt 2
 simp only [List.getElem?_toArray, List.getElem?_cons_zero, List.getElem?_cons_succ] at a0 a1 a2 t0 t1 t2
 have hSS : w2.drew.cell? ⟨w.heap.size, 0, none⟩ = some (.int .i64 W) ∧ w2.drew.cell? ⟨w.heap.size, 1, none⟩ = some (.int .i64 H) ∧ w2.drew.cell? ⟨w.heap.size, 2, none⟩ = some (.slice (some ⟨b, off, none⟩) nm cm) ∧ w2.drew.cell? ⟨w.heap.size + 1, 0, none⟩ = some (.int .i64 x) ∧ w2.drew.cell? ⟨w.heap.size + 1, 1, none⟩ = some (.int .i64 y) ∧ w2.drew.cell? ⟨w.heap.size + 1, 2, none⟩ = some (.int .i64 k) ∧ w2.drew.cell? ⟨b, off + j, none⟩ = some (.int .i64 z) ∧ Below w2.heap.size w2 w2.drew := ⟨a0, a1, a2, t0, t1, t2, hc2, (Below.refl _ _).drew⟩
 clear kb1 kt a0 a1 a2 t0 t1 t2 hc2
 go_region_held3 (fun w' => w'.cell? ⟨w.heap.size, 0, none⟩ = some (.int .i64 W) ∧ w'.cell? ⟨w.heap.size, 1, none⟩ = some (.int .i64 H) ∧ w'.cell? ⟨w.heap.size, 2, none⟩ = some (.slice (some ⟨b, off, none⟩) nm cm) ∧ w'.cell? ⟨w.heap.size + 1, 0, none⟩ = some (.int .i64 x) ∧ w'.cell? ⟨w.heap.size + 1, 1, none⟩ = some (.int .i64 y) ∧ w'.cell? ⟨w.heap.size + 1, 2, none⟩ = some (.int .i64 k) ∧ w'.cell? ⟨b, off + j, none⟩ = some (.int .i64 z) ∧ Below w2.heap.size w2 w')
  (first
   | with_reducible exact hSS
   | with_reducible assumption)
  (first
   | ((with_reducible refine (C1.out _).mono ?_); rintro e wc ⟨he, hw⟩; subst he; subst hw)
   | ((with_reducible refine (C2.out _).mono ?_); rintro e wc ⟨he, hw⟩; subst he; subst hw)
   | ((with_reducible refine (C3.out _).mono ?_); rintro e wc ⟨he, hw⟩; subst he; subst hw))
 rename_i hH
 obtain ⟨_, _, _, _, _, _, _, hbe⟩ := hH
 go_wp2
 go_ret
 exact ⟨rfl, stay_b hbw hbe⟩
end
section
open Go.RowKit Go.Maps
theorem cell_mod {W x y : Nat} (hx : x < W) : (y * W + x) % W = x := by
 rw [Nat.mul_comm, Nat.mul_add_mod, Nat.mod_eq_of_lt hx]
theorem cell_div {W x y : Nat} (hx : x < W) : (y * W + x) / W = y := by
 rw [Nat.mul_comm, Nat.mul_add_div (by omega), Nat.div_eq_of_lt hx, Nat.add_zero]
theorem tri_at {W x y k : Nat} (hx : x < W) : triAt W (y * W + x) k = ((x : Int), (y : Int), (k : Int)) := by
 unfold triAt
 rw [cell_mod hx, cell_div hx]
theorem part_le (W : Nat) (mask : List Int) (n : Nat) (h : n ≤ 64) (k : Nat) (hk : k ≤ 4) : (partT W mask n ++ cellK W mask n k).length ≤ 260 := by
 have := part_len W mask n k
 omega
set_option maxRecDepth 100000 in
set_option maxHeartbeats 3200000 in
theorem trisOf_any (W H : Nat) (Am Ac : Option Addr) (nm cm nc cc : Nat) (mask : List Int) (cs : List C5) (w : World) (hS : ShM w W H Am nm mask Ac nc cs) :
  Calls Tryz.prog 18 #[shV W H Am nm cm Ac nc cc] w fun e w' => ∃ v, e = .returned v ∧ w'.ownsRow w.heap.size 44 3 v (trisL W mask).length (tcT (trisL W mask)) ∧ Below w.heap.size w w' := by
 have hW := hS.dW
 have hH := hS.dH
 have hml := hS.len
 have kb0 := heap_alloc_new w (.cells #[.int .i64 W, .int .i64 H, .slice Am nm cm, .slice Ac nc cc] 25)
 have hbw := below_new w (.cells #[.int .i64 W, .int .i64 H, .slice Am nm cm, .slice Ac nc cc] 25)
 have hS1 := hS.below hbw
 have cH := fun (w1 : World) (hb : Below (w.alloc (.cells #[.int .i64 W, .int .i64 H, .slice Am nm cm, .slice Ac nc cc] 25)).heap.size (w.alloc (.cells #[.int .i64 W, .int .i64 H, .slice Am nm cm, .slice Ac nc cc] 25)) w1) (x y k : Nat) (hx : x < W) (hy : y < H) (hk : k < 4) => hasTri_any W H x y k Am Ac nm cm nc cc mask cs w1 (hS1.below hb) hx hy hk
 have a0 := cell_of_blk kb0 0
 have a1 := cell_of_blk kb0 1
 have a2 := cell_of_blk kb0 2
 have a3 := cell_of_blk kb0 3
 simp only [List.getElem?_toArray, List.getElem?_cons_zero, List.getElem?_cons_succ] at a0 a1 a2 a3
 have hz : w.heap.size < (w.alloc (.cells #[.int .i64 W, .int .i64 H, .slice Am nm cm, .slice Ac nc cc] 25)).heap.size := by simp
 have CH := Lib.hid cH
 clear cH hS hS1 kb0
 go_enter Tryz.func18, Tryz.ntmps18
 go_wp2_with fail
 generalize w.alloc (.cells #[.int .i64 W, .int .i64 H, .slice Am nm cm, .slice Ac nc cc] 25) = w0 at a0 a1 a2 a3 hz hbw CH ⊢
 go_loopw [3, 4] (fun v y wr => ∃ b : Nat, b ≤ H ∧ y = .int .i64 b ∧ Hid (wr.ownsRow w0.heap.size 44 3 v (partT W mask (b * W)).length (tcT (partT W mask (b * W)))) ∧ Below w0.heap.size w0 wr) (fun _ y _ => H - (intOf y).toNat)
 case atStart => exact ⟨0, by omega, rfl, Lib.hid (by rw [Nat.zero_mul]; exact World.ownsRow_nil _ _ _ _), Below.refl _ _⟩
 case round =>
  obtain ⟨b, hb, rfl, hown, hbel⟩ := hrel
  have b1 := keep_c a1 hbel hz
  by_cases hbH : b < H
  ·have hbi : (b : Int) < (H : Int) := by omega
   have hbW : b * W + W ≤ 64 := by
    have h1 : b * W + W = (b + 1) * W := by rw [Nat.add_mul, Nat.one_mul]
    have h2 : (b + 1) * W ≤ 8 * 8 := Nat.mul_le_mul (by omega) hW.2
    omega
   go_wp2_with fail
   go_loopw [3, 5] (fun v x wr => ∃ a : Nat, a ≤ W ∧ x = .int .i64 a ∧ Hid (wr.ownsRow w0.heap.size 44 3 v (partT W mask (b * W + a)).length (tcT (partT W mask (b * W + a)))) ∧ Below w0.heap.size w0 wr) (fun _ x _ => W - (intOf x).toNat)
   case atStart => exact ⟨0, by omega, rfl, hown, hbel⟩
   case round =>
    obtain ⟨a, ha, rfl, hown, hbel⟩ := hrel
    have b0 := keep_c a0 hbel hz
    by_cases haW : a < W
    ·have hai : (a : Int) < (W : Int) := by omega
     go_wp2_with fail
     go_loopw [3, 6] (fun v k wr => ∃ c : Nat, c ≤ 4 ∧ k = .int .i64 c ∧ Hid (wr.ownsRow w0.heap.size 44 3 v (partT W mask (b * W + a) ++ cellK W mask (b * W + a) c).length (tcT (partT W mask (b * W + a) ++ cellK W mask (b * W + a) c))) ∧ Below w0.heap.size w0 wr) (fun _ k _ => 4 - (intOf k).toNat)
     case atStart => exact ⟨0, by omega, rfl, Lib.hid (by simpa [cellK] using hown.out), hbel⟩
     case round =>
      obtain ⟨c, hc, rfl, hown, hbel⟩ := hrel
      by_cases hc4 : c < 4
      ·have hci : (c : Int) < 4 := by omega
       have b0 := al_c (keep_c a0 hbel hz) (.cells #[.int .i64 a, .int .i64 b, .int .i64 c] 44)
       have b1 := al_c (keep_c a1 hbel hz) (.cells #[.int .i64 a, .int .i64 b, .int .i64 c] 44)
       have b2 := al_c (keep_c a2 hbel hz) (.cells #[.int .i64 a, .int .i64 b, .int .i64 c] 44)
       have b3 := al_c (keep_c a3 hbel hz) (.cells #[.int .i64 a, .int .i64 b, .int .i64 c] 44)
       have kt := heap_alloc_new wr (.cells #[.int .i64 a, .int .i64 b, .int .i64 c] 44)
       have t0 := cell_of_blk kt 0
       have t1 := cell_of_blk kt 1
       have t2 := cell_of_blk kt 2
       simp only [List.getElem?_toArray, List.getElem?_cons_zero, List.getElem?_cons_succ] at t0 t1 t2
       have hba := hbel.alloc hbel.size (.cells #[.int .i64 a, .int .i64 b, .int .i64 c] 44)
       have cB := CH.out _ hba a b c haW hbH hc4
       have hcs := cellK_succ W mask (b * W + a) c
       rw [tri_at haW] at hcs
       have hln := part_le W mask (b * W + a) (by omega) c (by omega)
       obtain ⟨B, hB⟩ : ∃ B, B = bitB (mask.getD (b * W + a) 0) c := ⟨_, rfl⟩
       rw [← hB] at cB hcs
       obtain ⟨L, hL⟩ : ∃ L, L = partT W mask (b * W + a) ++ cellK W mask (b * W + a) c := ⟨_, rfl⟩
       rw [← hL] at hown hln
       have hcs2 : partT W mask (b * W + a) ++ cellK W mask (b * W + a) (c + 1) = L ++ if B = true then [((a : Int), (b : Int), (c : Int))] else [] := by rw [hcs, ← List.append_assoc, ← hL]
       have CB := Lib.hid cB
       have HCS := Lib.hid hcs2
       have HOW := Lib.hid (od hown.out (below_new wr (.cells #[.int .i64 a, .int .i64 b, .int .i64 c] 44)))
       clear cB hcs hcs2 hB hL kt hown
       cases B with
       | false =>
        go_wp2_with (go_at_call 49; refine CB.out.mono ?_; rintro r w4 ⟨rfl, hb4⟩)
        go_roundw
        case rel => exact ⟨c + 1, by omega, by go_num, Lib.hid (by rw [HCS.out]; simp only [Bool.false_eq_true, if_false, List.append_nil]; exact od HOW.out (by assumption)), hba.trans (Below.mono (by assumption) hba.size)⟩
        case measure => simp [intOf]; omega
       | true =>
        go_wp2_with (first
         | (go_at_call 49; refine CB.out.mono ?_; rintro r w4 ⟨rfl, hb4⟩; have HB4 := Lib.hid hb4; have z0 := sd t0 hb4; have z1 := sd t1 hb4; have z2 := sd t2 hb4; have hsz4 := (hba.trans (Below.mono hb4 hba.size)).size; clear hb4)
         | (at_builtin; go_loud (refine app_gen Tryz.underlying52 tri_info rfl (by decide) (by decide) rfl (.tmp 31) (.tmp 33) rfl w0.heap.size _ L.length (tcT L) [.int .i64 a, .int .i64 b, .int .i64 c] rfl (od HOW.out HB4.out) hsz4 1 _ rfl rfl rfl (tri_one _ _ _) (by omega) ?_); intro v' w' hown' hb' _))
        go_roundw
        case rel => exact ⟨c + 1, by omega, by go_num, Lib.hid (by rw [HCS.out]; simp only [if_true]; rw [List.length_append, tcT_app]; exact hown'), (hba.trans (Below.mono HB4.out hba.size)).trans hb'⟩
        case measure => simp [intOf]; omega
      ·obtain rfl : c = 4 := by omega
       have hps := partT_succ W mask (b * W + a)
       have HPS := Lib.hid hps
       clear hps
       go_wp2
       go_roundw
       case rel => exact ⟨a + 1, by omega, by go_num, Lib.hid (by rw [← Nat.add_assoc, HPS.out]; exact hown.out), hbel⟩
       case measure => simp [intOf]; omega
    ·obtain rfl : a = W := by omega
     have hmu : b * a + a = (b + 1) * a := by rw [Nat.add_mul, Nat.one_mul]
     have HMU := Lib.hid hmu
     clear hmu
     go_wp2
     go_roundw
     case rel => exact ⟨b + 1, by omega, by go_num, Lib.hid (by rw [← HMU.out]; exact hown.out), hbel⟩
     case measure => simp [intOf]; omega
  ·obtain rfl : b = H := by omega
   have hfin : partT W mask (b * W) = trisL W mask := by
    unfold trisL
    rw [hml, Nat.mul_comm]
   have HF := Lib.hid hfin
   clear hfin
   go_wp2
   go_ret
   rw [HF.out] at hown
   exact ⟨_, rfl, own_mono hown.out hbw.size, hbw.trans (hbel.mono hbw.size)⟩
end
section
open Go.RowKit Go.Maps
set_option maxRecDepth 100000 in
set_option maxHeartbeats 3200000 in
theorem innerEdge_any (W H : Nat) (Am Ac : Option Addr) (nm cm nc cc : Nat) (mask : List Int) (cs : List C5) (e : E4) (w : World) (hS : ShM w W H Am nm mask Ac nc cs) :
  Calls Tryz.prog 39 #[shV W H Am nm cm Ac nc cc, aggE e] w fun r w' => r = .returned (.bool (innerB (trisL W mask) e)) ∧ Below w.heap.size w w' := by
 have hsm : ∀ t ∈ trisL W mask, SmT t := fun t ht => hS.tris_sm ht
 have hcount := count_two (l := trisL W mask) (fun t ht => (hsm t ht).2.2) (sorted_nodup hS.tris_sorted) e
 have hlen := hS.tris_len
 have kb0 := heap_alloc_new w (.cells #[.int .i64 W, .int .i64 H, .slice Am nm cm, .slice Ac nc cc] 25)
 have kb1 := blk_alloc kb0 (.cells #[.int .i64 e.1, .int .i64 e.2.1, .int .i64 e.2.2.1, .int .i64 e.2.2.2] 100)
 have ke := heap_alloc_new (w.alloc (.cells #[.int .i64 W, .int .i64 H, .slice Am nm cm, .slice Ac nc cc] 25)) (.cells #[.int .i64 e.1, .int .i64 e.2.1, .int .i64 e.2.2.1, .int .i64 e.2.2.2] 100)
 rw [World.size_alloc] at ke
 have hbw : Below w.heap.size w ((w.alloc (.cells #[.int .i64 W, .int .i64 H, .slice Am nm cm, .slice Ac nc cc] 25)).alloc (.cells #[.int .i64 e.1, .int .i64 e.2.1, .int .i64 e.2.2.1, .int .i64 e.2.2.2] 100)) := ba (below_new _ _) _
 have a0 := cell_of_blk kb1 0
 have a1 := cell_of_blk kb1 1
 have a2 := cell_of_blk kb1 2
 have a3 := cell_of_blk kb1 3
 have e0 := cell_of_blk ke 0
 have e1 := cell_of_blk ke 1
 have e2 := cell_of_blk ke 2
 have e3 := cell_of_blk ke 3
 simp only [List.getElem?_toArray, List.getElem?_cons_zero, List.getElem?_cons_succ] at a0 a1 a2 a3 e0 e1 e2 e3
 have cT := trisOf_any W H Am Ac nm cm nc cc mask cs _ (hS.below hbw)
 obtain ⟨L, hL⟩ : ∃ L, L = trisL W mask := ⟨_, rfl⟩
 rw [← hL] at cT hsm hcount hlen ⊢
 have CT := Lib.hid cT
 have HSM := Lib.hid hsm
 have HCO := Lib.hid hcount
 have hz : w.heap.size + 1 < ((w.alloc (.cells #[.int .i64 W, .int .i64 H, .slice Am nm cm, .slice Ac nc cc] 25)).alloc (.cells #[.int .i64 e.1, .int .i64 e.2.1, .int .i64 e.2.2.1, .int .i64 e.2.2.2] 100)).heap.size := by simp
 clear cT hsm hcount hL hS kb0 kb1 ke
 go_enter Tryz.func39, Tryz.ntmps39
 go_wp2_with (go_at_call 18; refine CT.out.mono ?_; rintro r w1 ⟨v, rfl, ho1, hb1⟩; obtain ⟨Av, cv, hv, _, _⟩ := own_slice ho1; subst hv; have HB1 := Lib.hid hb1; have HO1 := Lib.hid ho1; clear hb1 ho1)
 generalize (w.alloc (.cells #[.int .i64 W, .int .i64 H, .slice Am nm cm, .slice Ac nc cc] 25)).alloc (.cells #[.int .i64 e.1, .int .i64 e.2.1, .int .i64 e.2.2.1, .int .i64 e.2.2.2] 100) = w0 at a0 a1 a2 a3 e0 e1 e2 e3 hbw hz HB1 HO1
 have hz1 : w.heap.size + 1 < w1.heap.size := Nat.lt_of_lt_of_le hz HB1.out.size
 have e0 := keep_c e0 HB1.out hz
 have e1 := keep_c e1 HB1.out hz
 have e2 := keep_c e2 HB1.out hz
 have e3 := keep_c e3 HB1.out hz
 clear a0 a1 a2 a3
 go_loopw [6, 7] (fun n i wr => ∃ j : Nat, j ≤ L.length ∧ i = .int .i64 j ∧ n = .int .i64 ((L.take j).countP fun t => hT t e) ∧ Below w1.heap.size w1 wr) (fun _ i _ => L.length - (intOf i).toNat)
 case atStart => exact ⟨0, by omega, rfl, by simp, Below.refl _ _⟩
 case round =>
  obtain ⟨j, hj, rfl, rfl, hbr⟩ := hrel
  by_cases hjn : j < L.length
  ·obtain ⟨t, ht⟩ : ∃ t, L[j]? = some t := ⟨_, List.getElem?_eq_getElem hjn⟩
   obtain ⟨gv, cv2, curv, hv2, _, _, _, _⟩ := own_addr HO1.out (by omega)
   cases hv2
   have hts := HSM.out t (List.mem_of_getElem? ht)
   obtain ⟨t0, t1, t2⟩ := own_tri (od HO1.out hbr) ht
   have f0 := keep_c e0 hbr hz1
   have f1 := keep_c e1 hbr hz1
   have f2 := keep_c e2 hbr hz1
   have f3 := keep_c e3 hbr hz1
   have hcn : ((L.take (j + 1)).countP fun t => hT t e) = ((L.take j).countP fun t => hT t e) + if hT t e = true then 1 else 0 := by
    rw [List.take_add_one, ht, List.countP_append]
    simp [List.countP_cons]
   have hle : ((L.take j).countP fun t => hT t e) ≤ j := Nat.le_trans List.countP_le_length (by rw [List.length_take]; omega)
   have cH := fun (w3 : World) => has_any t.1 t.2.1 t.2.2 e w3 (by have := hts.1; omega) (by have := hts.1; omega) (by have := hts.2.1; omega) (by have := hts.2.1; omega) hts.2.2.1 hts.2.2.2
   obtain ⟨B, hB⟩ : ∃ B, B = hT t e := ⟨_, rfl⟩
   rw [show hasE t.1 t.2.1 t.2.2 e = B from hB.symm] at cH
   rw [← hB] at hcn
   obtain ⟨N, hN⟩ : ∃ N, N = (L.take j).countP fun t => hT t e := ⟨_, rfl⟩
   rw [← hN] at hcn hle ⊢
   have HCN := Lib.hid hcn
   have CH := Lib.hid cH
   clear cH hB hN hcn
   go_wp2_with fail
   have hSS : wr.drew.cell? ⟨w.heap.size + 1, 0, none⟩ = some (.int .i64 e.1) ∧ wr.drew.cell? ⟨w.heap.size + 1, 1, none⟩ = some (.int .i64 e.2.1) ∧ wr.drew.cell? ⟨w.heap.size + 1, 2, none⟩ = some (.int .i64 e.2.2.1) ∧ wr.drew.cell? ⟨w.heap.size + 1, 3, none⟩ = some (.int .i64 e.2.2.2) ∧ wr.drew.cell? ⟨gv, j * 3, none⟩ = some (.int .i64 t.1) ∧ wr.drew.cell? ⟨gv, j * 3 + 1, none⟩ = some (.int .i64 t.2.1) ∧ wr.drew.cell? ⟨gv, j * 3 + 2, none⟩ = some (.int .i64 t.2.2) ∧ Below w1.heap.size w1 wr.drew := ⟨f0, f1, f2, f3, t0, t1, t2, hbr.drew⟩
   go_region_held3 (fun w' => w'.cell? ⟨w.heap.size + 1, 0, none⟩ = some (.int .i64 e.1) ∧ w'.cell? ⟨w.heap.size + 1, 1, none⟩ = some (.int .i64 e.2.1) ∧ w'.cell? ⟨w.heap.size + 1, 2, none⟩ = some (.int .i64 e.2.2.1) ∧ w'.cell? ⟨w.heap.size + 1, 3, none⟩ = some (.int .i64 e.2.2.2) ∧ w'.cell? ⟨gv, j * 3, none⟩ = some (.int .i64 t.1) ∧ w'.cell? ⟨gv, j * 3 + 1, none⟩ = some (.int .i64 t.2.1) ∧ w'.cell? ⟨gv, j * 3 + 2, none⟩ = some (.int .i64 t.2.2) ∧ Below w1.heap.size w1 w')
    (first
     | with_reducible exact hSS
     | with_reducible assumption
     | (go_split_ands; exact ⟨sd ‹_› hbc, sd ‹_› hbc, sd ‹_› hbc, sd ‹_› hbc, sd ‹_› hbc, sd ‹_› hbc, sd ‹_› hbc, stay_b ‹_› hbc⟩))
    (first
     | ((with_reducible refine (CH.out _).mono ?_); rintro r wc ⟨he, hbc⟩; subst he))
   rename_i hSE
   have hbe := hSE.2.2.2.2.2.2.2
   clear hSE hSS
   cases B with
   | false =>
    have HCN2 := Lib.hid (HCN.out)
    go_wp2
    go_roundw
    case rel => exact ⟨j + 1, by omega, by go_num, by rw [HCN.out]; simp, hbe⟩
    case measure => simp [intOf]; omega
   | true =>
    go_wp2
    go_roundw
    case rel => exact ⟨j + 1, by omega, by go_num, by rw [HCN.out]; simp, hbe⟩
    case measure => simp [intOf]; omega
  ·obtain rfl : j = L.length := by omega
   have hfin : (((L.take L.length).countP fun t => hT t e : Nat) : Int) = 2 ↔ innerB L e = true := by
    rw [List.take_length, ← HCO.out]
    omega
   have hr : (((((L.take L.length).countP fun t => hT t e : Nat) : Int)) == 2) = innerB L e := by
    rw [Bool.eq_iff_iff, beq_iff_eq]
    exact hfin
   obtain ⟨N, hN⟩ : ∃ N, N = (L.take L.length).countP fun t => hT t e := ⟨_, rfl⟩
   rw [← hN] at hr ⊢
   have HR := Lib.hid hr
   clear hfin hN hr
   have hfb := hbw.trans ((HB1.out.trans (hbr.mono HB1.out.size)).mono hbw.size)
   have HFB := Lib.hid hfb
   clear hfb
   go_wp2
   go_ret
   exact ⟨ret_bool HR.out, HFB.out⟩
end
end
end Go.Proofs.YtpkjekedgodccaaGreatDoor
