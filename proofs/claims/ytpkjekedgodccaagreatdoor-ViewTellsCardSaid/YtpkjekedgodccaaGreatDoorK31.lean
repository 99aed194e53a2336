/- What is seen: plain words; rows of what is seen; what pile.Open hands back, its maps too.. Pictures, in plain words.. -/
import Derived.Test.YtpkjekedgodccaaGreatDoorK30
import Derived.Test.YtpkjekedgodccaaGreatDoorK09
import Derived.Test.YtpkjekedgodccaaGreatDoorK23
import Derived.Lib.Join
namespace Go.Proofs.YtpkjekedgodccaaGreatDoor
set_option linter.unusedSimpArgs false
set_option linter.unusedVariables false
section
open Go.RowKit Go.Maps
abbrev Sn : Type := T3 × T3 × Bool
def snC (s : Sn) : List Value := [.int .i64 s.1.1, .int .i64 s.1.2.1, .int .i64 s.1.2.2, .int .i64 s.2.1.1, .int .i64 s.2.1.2.1, .int .i64 s.2.1.2.2, .bool s.2.2]
def sns (l : List Sn) : List Value := l.flatMap snC
theorem sns_app (l m : List Sn) : sns (l ++ m) = sns l ++ sns m := by simp [sns]
theorem sns_one (s : Sn) : sns [s] = snC s := by simp [sns]
theorem sns_cons (s : Sn) (l : List Sn) : sns (s :: l) = snC s ++ sns l := by simp [sns]
theorem snC_one (s : Sn) : ∀ u ∈ snC s, u.oneCell' = true := by
 intro u hu
 simp only [snC, List.mem_cons, List.not_mem_nil, or_false] at hu
 rcases hu with rfl | rfl | rfl | rfl | rfl | rfl | rfl <;> rfl
theorem sns_at : ∀ {l : List Sn} {i : Nat} {s : Sn} {j : Nat} {u : Value}, l[i]? = some s → (snC s)[j]? = some u → (sns l)[i * 7 + j]? = some u
 | [], _, _, _, _, h, _ => by simp at h
 | a :: l, 0, s, j, u, h, hu => by
  simp at h
  subst h
  rw [sns_cons, List.getElem?_append_left (by have := (List.getElem?_eq_some_iff.1 hu).1; omega)]
  simpa using hu
 | a :: l, i + 1, s, j, u, h, hu => by
  have := sns_at (l := l) (i := i) (by simpa using h) hu
  rw [sns_cons, List.getElem?_append_right (by simp [snC]; omega)]
  rw [← this]
  congr 1
  simp [snC]
  omega
theorem seen_info : (Tryz.prog.info? 46).map (fun i => (i.zero, i.size, i.bytes)) = some (some (.agg #[.int .i64 0, .int .i64 0, .int .i64 0, .int .i64 0, .int .i64 0, .int .i64 0, .bool false]), 7, 56) := by kernel_rfl
theorem Rd.sn {w : World} {A : Option Addr} {n : Nat} {l : List Sn} (h : Rd w 7 A n (sns l)) {i : Nat} {s : Sn} (hs : l[i]? = some s) (hn : n = l.length) : ∃ b off, A = some ⟨b, off, none⟩ ∧ b < w.heap.size ∧ w.cell? ⟨b, off + i * 7, none⟩ = some (.int .i64 s.1.1) ∧ w.cell? ⟨b, off + i * 7 + 1, none⟩ = some (.int .i64 s.1.2.1) ∧ w.cell? ⟨b, off + i * 7 + 2, none⟩ = some (.int .i64 s.1.2.2) ∧ w.cell? ⟨b, off + i * 7 + 3, none⟩ = some (.int .i64 s.2.1.1) ∧ w.cell? ⟨b, off + i * 7 + 4, none⟩ = some (.int .i64 s.2.1.2.1) ∧ w.cell? ⟨b, off + i * 7 + 5, none⟩ = some (.int .i64 s.2.1.2.2) ∧ w.cell? ⟨b, off + i * 7 + 6, none⟩ = some (.bool s.2.2) := by
 have hi := (List.getElem?_eq_some_iff.1 hs).1
 obtain ⟨b, off, e, hb, hc⟩ := h.2 (by omega)
 refine ⟨b, off, e, hb, hc _ _ (sns_at (j := 0) hs rfl), ?_, ?_, ?_, ?_, ?_, ?_⟩ <;> (rw [Nat.add_assoc]; exact hc _ _ (sns_at hs rfl))
theorem own_maps {w : World} {B n c g : Nat} {ms : List V6} (h : w.ownsRow B 63 6 (.slice (some ⟨g, 0, none⟩) n c) n (mcs ms)) {j : Nat} {m : V6} (hm : ms[j]? = some m) :
  w.cell? ⟨g, j * 6, none⟩ = some (.int .i64 m.1) ∧ w.cell? ⟨g, j * 6 + 1, none⟩ = some (.int .i64 m.2.1) ∧ w.cell? ⟨g, j * 6 + 2, none⟩ = some (.int .i64 m.2.2.1) ∧ w.cell? ⟨g, j * 6 + 3, none⟩ = some (.int .i64 m.2.2.2.1) ∧ w.cell? ⟨g, j * 6 + 4, none⟩ = some (.int .i64 m.2.2.2.2.1) ∧ w.cell? ⟨g, j * 6 + 5, none⟩ = some (.int .i64 m.2.2.2.2.2) := by
 have hr := Rd.of_own h
 have hl := hr.1
 rw [mcs_len] at hl
 have hj := (List.getElem?_eq_some_iff.1 hm).1
 obtain ⟨b, off, e, _, hc⟩ := hr.2 (by omega)
 cases e
 obtain ⟨e0, e1, e2, e3, e4, e5⟩ := mcs_at hm
 refine ⟨?_, ?_, ?_, ?_, ?_, ?_⟩
 ·have := hc _ _ e0; rwa [Nat.zero_add] at this
 ·have := hc _ _ e1; rwa [Nat.zero_add] at this
 ·have := hc _ _ e2; rwa [Nat.zero_add] at this
 ·have := hc _ _ e3; rwa [Nat.zero_add] at this
 ·have := hc _ _ e4; rwa [Nat.zero_add] at this
 ·have := hc _ _ e5; rwa [Nat.zero_add] at this
def lastT (l : List T3) : T3 := l.getD (l.length - 1) zT
def turnB (m : V6) : Bool := decide (m.1 * m.2.2.2.1 - m.2.1 * m.2.2.1 < 0)
def topA (L : List T3) (ms : List V6) (s : Stk) : Sn := (s.1, lastT s.2, turnB (ms.getD (L.idxOf (lastT s.2)) zeroV))
def tops (L : List T3) (ms : List V6) (sts : List Stk) : List Sn := sts.map (topA L ms)
theorem tops_len (L : List T3) (ms : List V6) (sts : List Stk) : (tops L ms sts).length = sts.length := by simp [tops]
theorem tops_take {L : List T3} {ms : List V6} {sts : List Stk} {i : Nat} {s : Stk} (hs : sts[i]? = some s) : tops L ms (sts.take (i + 1)) = tops L ms (sts.take i) ++ [topA L ms s] := by
 unfold tops
 rw [List.take_add_one, hs, List.map_append]
 rfl
structure VwP (L : List T3) (ms : List V6) (sts : List Stk) : Prop where
 len : ms.length = L.length
 small : L.length ≤ 1000
 map : ∀ m ∈ ms, turnedB m.1 m.2.1 m.2.2.1 m.2.2.2.1 = true
 ne : ∀ s ∈ sts, s.2 ≠ [] ∧ lastT s.2 ∈ L
 inr : ∀ t ∈ L, inR t.1 ∧ inR t.2.1 ∧ inR t.2.2
 few : sts.length ≤ 1000
structure OpnR (w' : World) (B xb pb nb kb Wn Hn mn mk : Nat) (vm vc vt vl : Value) (gm cm mb : Nat) (va : Value) (L : List T3) (ms : List V6) (fk : E4 → Option Int) : Prop where
 pap : PapI w' pb nb kb Wn Hn vm vc vt L mn mk fk
 map : w'.ownsRow B 63 6 (.slice (some ⟨gm, 0, none⟩) L.length cm) L.length (mcs ms)
 pil : PilB w' xb pb (.slice (some ⟨gm, 0, none⟩) L.length cm) va vl mb
theorem Kp2.own2 {w w' : World} {gl mb base sz n : Nat} {e : TypeId} {v : Value} {xs : List Value} (h : Kp2 w w' gl mb) (ho : w.ownsRow base e sz v n xs) (hl : ∃ cs, w.heap[gl]? = some (.cells cs 3 (0, 0))) (hm : ∃ es c, w.heap[mb]? = some (.map es c)) (hne : e ≠ 3) : w'.ownsRow base e sz v n xs := by
 obtain ⟨cs, hl⟩ := hl
 have h1 := own_not ho hl hne
 have h2 := own_notmap ho hm
 refine ⟨ho.1, ?_⟩
 rcases ho.2 with h0 | ⟨g, cap, cur, rfl, hb, hg, rest⟩
 ·exact .inl h0
 ·exact .inr ⟨g, cap, cur, rfl, hb, h.ob hg (fun e => h1 (by rw [← e]; rfl)) (fun e => h2 (by rw [← e]; rfl)), rest⟩
theorem OpnP.r {w w' : World} {xb : Nat} {W H : Int} {mask : List Int} {cs : List C5} {ms : List V6} {sts : List Stk} (h : OpnP w xb W H mask cs ms sts w') : ∃ (Wn Hn pb nb kb mn mb gm cm : Nat) (vm vc vt va vl : Value), W = (Wn : Int) ∧ H = (Hn : Int) ∧ (1 ≤ Wn ∧ Wn ≤ 8) ∧ (1 ≤ Hn ∧ Hn ≤ 8) ∧ mask.length = Wn * Hn ∧ StateP W H mask cs ms sts ∧ OpnR w' w.heap.size xb pb nb kb Wn Hn mn cs.length vm vc vt vl gm cm mb va (trisL Wn mask) ms (kindF cs) := by
 obtain ⟨wb, pb, nb, kb, Wn, Hn, mn, gl, mb, gm, cm, vm, vc, vt, va, h⟩ := h
 obtain ⟨d1, d2, d3, d4, d5⟩ := h.dim
 obtain ⟨f1, f2, f3, f4, f5, f6, _⟩ := h.far
 exact ⟨Wn, Hn, pb, nb, kb, mn, mb, gm, cm, vm, vc, vt, va, _, d1, d2, d3, d4, d5, h.st, ⟨⟨h.kp.ob h.pap.blk f1 f2, h.pap.num.heap (h.kp.blk nb h.pap.num.lt f3 f4), h.pap.kin.heap (h.kp.blk kb h.pap.kin.lt f5 f6)⟩, h.kp.own2 h.map h.lw h.mw (by decide), h.lie.pil⟩⟩
section
variable {w w' : World} {B xb pb nb kb Wn Hn mn mk : Nat} {vm vc vt vl : Value} {gm cm mb : Nat} {va : Value} {L : List T3} {ms : List V6} {fk : E4 → Option Int}
theorem OpnR.below (h : OpnR w B xb pb nb kb Wn Hn mn mk vm vc vt vl gm cm mb va L ms fk) (hb : Below w.heap.size w w') : OpnR w' B xb pb nb kb Wn Hn mn mk vm vc vt vl gm cm mb va L ms fk :=
 ⟨h.pap.below hb, od h.map hb, h.pil.below hb⟩
theorem OpnR.look (h : OpnR w B xb pb nb kb Wn Hn mn mk vm vc vt vl gm cm mb va L ms fk) {t : T3} (ht : t ∈ L) (hk : kT.ok t) : (Instr.lookup 69 (.map (some nb)) (aggT3 t) false).run Tryz.prog w = .ok (.int .i64 ((L.idxOf t : Nat) : Int)) w := by
 have := h.pap.num.look1 (a := t) hk
 rw [show (numF L t).getD 0 = ((L.idxOf t : Nat) : Int) from by unfold numF; rw [if_pos ht]; rfl] at this
 exact this
end
theorem vwP {W : Nat} {H : Int} {mask : List Int} {cs : List C5} {ms : List V6} {sts : List Stk} (h : StateP W H mask cs ms sts) (h8 : ∀ t ∈ trisL W mask, In8 t) (hl : (trisL W mask).length ≤ 1000) : VwP (trisL W mask) ms sts := by
 have hm := h.maps
 have hs := h.stks
 rw [Int.toNat_natCast] at hm hs
 refine ⟨hm.len, hl, fun m hmm => ?_, fun s hss => ?_, fun t ht => ?_, ?_⟩
 ·obtain ⟨i, hi⟩ := List.getElem?_of_mem hmm
  have hil := (List.getElem?_eq_some_iff.1 hi).1
  have h1 := (hm.may i (by rw [← hm.len]; exact hil)).1
  rw [List.getD_eq_getElem?_getD, hi] at h1
  simp only [Option.getD_some, mapMayB, Bool.and_eq_true] at h1
  exact h1.1
 ·obtain ⟨i, hi⟩ := List.getElem?_of_mem hss
  have hne := hs.ne i s hi
  refine ⟨hne, ?_⟩
  have hlt : s.2.length - 1 < s.2.length := by have := List.length_pos_iff.2 hne; omega
  have h1 := hs.tri i s (s.2.length - 1) _ hi (List.getElem?_eq_getElem hlt)
  unfold lastT
  rw [List.getD_eq_getElem?_getD, List.getElem?_eq_getElem hlt]
  exact h1.1
 ·have := h8 t ht
  have h2 := this.2.2
  have h3 := this.1
  have h4 := this.2.1
  refine ⟨?_, ?_, ?_⟩ <;> (unfold inR; unfold K4 at h2; omega)
 ·have h1 : sts.length ≤ (sts.flatMap (·.2)).length := by
   have hne : ∀ s ∈ sts, s.2 ≠ [] := fun s hss => by
    obtain ⟨i, hi⟩ := List.getElem?_of_mem hss
    exact hs.ne i s hi
   clear hs hm h
   induction sts with
   | nil => simp
   | cons a l ih =>
    have := List.length_pos_iff.2 (hne a (by simp))
    have h2 := ih (fun s hss => hne s (List.mem_cons_of_mem _ hss))
    simp only [List.flatMap_cons, List.length_append, List.length_cons]
    omega
  rw [hs.many] at h1
  omega
end
section
def atB (s : Sn) (x y : Int) : Bool := decide (s.1.1 = x) && decide (s.1.2.1 = y)
def hasK (l : List Sn) (x y k : Int) : Bool := l.any fun s => atB s x y && decide (s.1.2.2 = k)
def bakK (l : List Sn) (x y k : Int) : Bool := l.any fun s => atB s x y && (decide (s.1.2.2 = k) && s.2.2)
def sumK (f : Int → Bool) : Int := (if f 0 = true then 1 else 0) + (if f 1 = true then 2 else 0) + (if f 2 = true then 4 else 0) + (if f 3 = true then 8 else 0)
def cov (l : List Sn) (x y : Int) : Int := sumK (hasK l x y)
def bak (l : List Sn) (x y : Int) : Int := sumK (bakK l x y)
def pw (k : Int) : Int := if k = 0 then 1 else if k = 1 then 2 else if k = 2 then 4 else 8
theorem sumK_bd (f : Int → Bool) : 0 ≤ sumK f ∧ sumK f ≤ 15 := by
 unfold sumK
 split <;> split <;> split <;> split <;> omega
theorem sumK_put {f g : Int → Bool} {k : Int} (hk : 0 ≤ k ∧ k ≤ 3) (h0 : f k = false) (h1 : g k = true) (h2 : ∀ j, j ≠ k → g j = f j) : sumK g = sumK f + pw k := by
 have hh : k = 0 ∨ k = 1 ∨ k = 2 ∨ k = 3 := by omega
 rcases hh with rfl | rfl | rfl | rfl
 ·have e1 := h2 1 (by decide); have e2 := h2 2 (by decide); have e3 := h2 3 (by decide)
  simp only [sumK, h0, h1, e1, e2, e3, pw]; simp; omega
 ·have e1 := h2 0 (by decide); have e2 := h2 2 (by decide); have e3 := h2 3 (by decide)
  simp only [sumK, h0, h1, e1, e2, e3, pw]; simp; omega
 ·have e1 := h2 0 (by decide); have e2 := h2 1 (by decide); have e3 := h2 3 (by decide)
  simp only [sumK, h0, h1, e1, e2, e3, pw]; simp; omega
 ·have e1 := h2 0 (by decide); have e2 := h2 1 (by decide); have e3 := h2 2 (by decide)
  simp only [sumK, h0, h1, e1, e2, e3, pw]; simp
theorem sumK_bit {f : Int → Bool} {k : Int} (hk : 0 ≤ k ∧ k ≤ 3) (h0 : f k = false) : (sumK f).toNat ||| (pw k).toNat = (sumK f + pw k).toNat := by
 have hh : k = 0 ∨ k = 1 ∨ k = 2 ∨ k = 3 := by omega
 unfold sumK
 rcases hh with rfl | rfl | rfl | rfl
 ·rw [h0]; generalize f 1 = b; generalize f 2 = c; generalize f 3 = d
  cases b <;> cases c <;> cases d <;> decide
 ·rw [h0]; generalize f 0 = b; generalize f 2 = c; generalize f 3 = d
  cases b <;> cases c <;> cases d <;> decide
 ·rw [h0]; generalize f 0 = b; generalize f 1 = c; generalize f 3 = d
  cases b <;> cases c <;> cases d <;> decide
 ·rw [h0]; generalize f 0 = b; generalize f 1 = c; generalize f 2 = d
  cases b <;> cases c <;> cases d <;> decide
theorem sumK_mono {f g : Int → Bool} (h : ∀ k, g k = true → f k = true) (h0 : sumK f = 0) : sumK g = 0 := by
 have h1 := h 0; have h2 := h 1; have h3 := h 2; have h4 := h 3
 unfold sumK at h0 ⊢
 revert h0 h1 h2 h3 h4
 generalize f 0 = a; generalize f 1 = b; generalize f 2 = c; generalize f 3 = d
 generalize g 0 = a'; generalize g 1 = b'; generalize g 2 = c'; generalize g 3 = d'
 revert a b c d a' b' c' d'
 decide
theorem bak_zero {l : List Sn} {x y : Int} (h : cov l x y = 0) : bak l x y = 0 := by
 refine sumK_mono (f := hasK l x y) (fun k hk => ?_) h
 unfold bakK at hk
 unfold hasK
 rw [List.any_eq_true] at hk ⊢
 obtain ⟨s, hs, h1⟩ := hk
 simp only [Bool.and_eq_true] at h1
 exact ⟨s, hs, by simp only [Bool.and_eq_true]; exact ⟨h1.1, h1.2.1⟩⟩
def PlcD (l : List Sn) : Prop := (l.map (·.1)).Nodup ∧ ∀ s ∈ l, 0 ≤ s.1.2.2 ∧ s.1.2.2 ≤ 3
theorem fresh_at {l : List Sn} (h : PlcD l) {i : Nat} {s : Sn} (hs : l[i]? = some s) : hasK (l.take i) s.1.1 s.1.2.1 s.1.2.2 = false := by
 rw [Bool.eq_false_iff]
 intro hh
 unfold hasK atB at hh
 rw [List.any_eq_true] at hh
 obtain ⟨u, hu, h1⟩ := hh
 simp only [Bool.and_eq_true, decide_eq_true_eq] at h1
 obtain ⟨⟨h1, h2⟩, h3⟩ := h1
 obtain ⟨j, hj⟩ := List.getElem?_of_mem hu
 have hji : j < i := by have := (List.getElem?_eq_some_iff.1 hj).1; rw [List.length_take] at this; omega
 rw [List.getElem?_take_of_lt hji] at hj
 have e : u.1 = s.1 := Prod.ext h1 (Prod.ext h2 h3)
 have p1 := List.getElem?_eq_some_iff.1 hj
 have p2 := List.getElem?_eq_some_iff.1 hs
 have := (List.pairwise_iff_getElem.1 h.1) j i (by simpa using p1.1) (by simpa using p2.1) hji
 simp only [List.getElem_map, p1.2, p2.2] at this
 exact this e
theorem bak_has {l : List Sn} {x y k : Int} (h : hasK l x y k = false) : bakK l x y k = false := by
 rw [Bool.eq_false_iff] at h ⊢
 intro hk
 apply h
 unfold bakK at hk
 unfold hasK
 rw [List.any_eq_true] at hk ⊢
 obtain ⟨s, hs, h1⟩ := hk
 simp only [Bool.and_eq_true] at h1
 exact ⟨s, hs, by simp only [Bool.and_eq_true]; exact ⟨h1.1, h1.2.1⟩⟩
theorem hasK_app (l m : List Sn) (x y k : Int) : hasK (l ++ m) x y k = (hasK l x y k || hasK m x y k) := by simp [hasK]
theorem bakK_app (l m : List Sn) (x y k : Int) : bakK (l ++ m) x y k = (bakK l x y k || bakK m x y k) := by simp [bakK]
theorem hasK_one (s : Sn) (x y k : Int) : hasK [s] x y k = (atB s x y && decide (s.1.2.2 = k)) := by simp [hasK]
theorem bakK_one (s : Sn) (x y k : Int) : bakK [s] x y k = (atB s x y && (decide (s.1.2.2 = k) && s.2.2)) := by simp [bakK]
theorem cov_far {l : List Sn} {s : Sn} {x y : Int} (h : atB s x y = false) : cov (l ++ [s]) x y = cov l x y ∧ bak (l ++ [s]) x y = bak l x y := by
 unfold cov bak
 constructor <;> congr 1 <;> funext k <;> simp [hasK_app, bakK_app, hasK_one, bakK_one, h]
theorem cov_near {l : List Sn} {s : Sn} (hk : 0 ≤ s.1.2.2 ∧ s.1.2.2 ≤ 3) (hf : hasK l s.1.1 s.1.2.1 s.1.2.2 = false) :
  cov (l ++ [s]) s.1.1 s.1.2.1 = cov l s.1.1 s.1.2.1 + pw s.1.2.2 ∧ bak (l ++ [s]) s.1.1 s.1.2.1 = bak l s.1.1 s.1.2.1 + (if s.2.2 = true then pw s.1.2.2 else 0) := by
 have ha : atB s s.1.1 s.1.2.1 = true := by simp [atB]
 refine ⟨sumK_put hk hf (by rw [hasK_app, hasK_one, ha]; simp) (fun j hj => by rw [hasK_app, hasK_one, ha, decide_eq_false (fun e => hj e.symm)]; simp), ?_⟩
 split
 ·next hb => exact sumK_put hk (bak_has hf) (by rw [bakK_app, bakK_one, ha, hb]; simp) (fun j hj => by rw [bakK_app, bakK_one, ha, decide_eq_false (fun e => hj e.symm)]; simp)
 ·next hb =>
  rw [Int.add_zero]
  unfold bak
  congr 1
  funext k
  rw [bakK_app, bakK_one, Bool.eq_false_iff.2 hb]
  simp
def anyB (l : List Sn) (x y : Int) : Bool := l.any fun s => atB s x y
def cellF (l : List Sn) (c : Int × Int) : Option (Int × Int) := if anyB l c.1 c.2 = true then some (cov l c.1 c.2, bak l c.1 c.2) else none
theorem cov_none {l : List Sn} {x y : Int} (h : anyB l x y = false) : cov l x y = 0 ∧ bak l x y = 0 := by
 have h1 : ∀ k, hasK l x y k = false := fun k => by
  rw [Bool.eq_false_iff] at h ⊢
  intro hk
  apply h
  unfold hasK at hk
  unfold anyB
  rw [List.any_eq_true] at hk ⊢
  obtain ⟨s, hs, h2⟩ := hk
  simp only [Bool.and_eq_true] at h2
  exact ⟨s, hs, h2.1⟩
 have h2 : cov l x y = 0 := by simp [cov, sumK, h1]
 exact ⟨h2, bak_zero h2⟩
theorem cellF_get (l : List Sn) (x y : Int) : (cellF l (x, y)).getD (0, 0) = (cov l x y, bak l x y) := by
 unfold cellF
 split
 ·rfl
 ·next h => rw [(cov_none (Bool.eq_false_iff.2 h)).1, (cov_none (Bool.eq_false_iff.2 h)).2]; rfl
theorem cellF_step {l : List Sn} {s : Sn} (hk : 0 ≤ s.1.2.2 ∧ s.1.2.2 ≤ 3) (hf : hasK l s.1.1 s.1.2.1 s.1.2.2 = false) :
  cellF (l ++ [s]) = fun c => if c = (s.1.1, s.1.2.1) then some (cov l s.1.1 s.1.2.1 + pw s.1.2.2, bak l s.1.1 s.1.2.1 + (if s.2.2 = true then pw s.1.2.2 else 0)) else cellF l c := by
 funext c
 obtain ⟨x, y⟩ := c
 by_cases h : (x, y) = (s.1.1, s.1.2.1)
 ·rw [if_pos h]
  cases h
  have h1 := cov_near hk hf
  have ha : anyB (l ++ [s]) s.1.1 s.1.2.1 = true := by simp [anyB, atB]
  unfold cellF
  rw [if_pos ha, h1.1, h1.2]
 ·rw [if_neg h]
  have ha : atB s x y = false := by
   rw [Bool.eq_false_iff]
   intro hh
   simp only [atB, Bool.and_eq_true, decide_eq_true_eq] at hh
   exact h (by rw [hh.1, hh.2])
  have h1 := cov_far (l := l) ha
  have h2 : anyB (l ++ [s]) x y = anyB l x y := by simp [anyB, ha]
  unfold cellF
  simp only [h1.1, h1.2, h2]
def loX (l : List Sn) (i : Nat) : Int := (l.take i).foldl (fun m s => if s.1.1 < m then s.1.1 else m) ((l.map (·.1.1)).headD 0)
def hiX (l : List Sn) (i : Nat) : Int := (l.take i).foldl (fun m s => if m < s.1.1 then s.1.1 else m) ((l.map (·.1.1)).headD 0)
def loY (l : List Sn) (i : Nat) : Int := (l.take i).foldl (fun m s => if s.1.2.1 < m then s.1.2.1 else m) ((l.map (·.1.2.1)).headD 0)
def hiY (l : List Sn) (i : Nat) : Int := (l.take i).foldl (fun m s => if m < s.1.2.1 then s.1.2.1 else m) ((l.map (·.1.2.1)).headD 0)
theorem fold_step {α β : Type} (f : β → α → β) (b : β) {l : List α} {i : Nat} {s : α} (hs : l[i]? = some s) : (l.take (i + 1)).foldl f b = f ((l.take i).foldl f b) s := by
 rw [List.take_add_one, hs, List.foldl_append]
 rfl
theorem fold_bd {f : Int → Sn → Int} {p : Int → Prop} {l : List Sn} {b : Int} (hb : p b) (hf : ∀ m s, p m → s ∈ l → p (f m s)) : ∀ i, p ((l.take i).foldl f b) := by
 intro i
 have : ∀ (k : List Sn) (c : Int), p c → (∀ s ∈ k, s ∈ l) → p (k.foldl f c) := by
  intro k
  induction k with
  | nil => intro c hc _; exact hc
  | cons a k ih => intro c hc hk; exact ih _ (hf c a hc (hk a (by simp))) (fun s hs => hk s (List.mem_cons_of_mem _ hs))
 exact this _ _ hb (fun s hs => List.mem_of_mem_take hs)
def hexB (m : Int) : UInt8 := UInt8.ofNat (if m < 10 then 48 + m.toNat else 87 + m.toNat)
def cellT (c b : Int) : List UInt8 := if c = 0 then [46, 46] else [hexB c, hexB b]
def cellsT (l : List Sn) (x0 y : Int) (n : Nat) : List (List UInt8) := (List.range n).map fun (j : Nat) => cellT (cov l (x0 + (j : Int)) y) (bak l (x0 + (j : Int)) y)
def rowP (l : List Sn) (x0 y : Int) (n : Nat) : List UInt8 := Lib.join (cellsT l x0 y n) [32]
def picT (l : List Sn) (x0 y1 : Int) (n k : Nat) : List UInt8 := (List.range k).flatMap fun (j : Nat) => rowP l x0 (y1 - (j : Int)) n ++ [10]
theorem cellsT_succ (l : List Sn) (x0 y : Int) (n : Nat) : cellsT l x0 y (n + 1) = cellsT l x0 y n ++ [cellT (cov l (x0 + (n : Int)) y) (bak l (x0 + (n : Int)) y)] := by simp [cellsT, List.range_succ]
theorem cellsT_len (l : List Sn) (x0 y : Int) (n : Nat) : (cellsT l x0 y n).length = n := by simp [cellsT]
theorem cellT_len (c b : Int) : (cellT c b).length = 2 := by unfold cellT; split <;> rfl
theorem join_snoc (xs : List (List UInt8)) (x : List UInt8) : Lib.join (xs ++ [x]) [32] = if xs = [] then x else Lib.join xs [32] ++ ([32] ++ x) := by
 unfold Lib.join
 induction xs with
 | nil => simp
 | cons a xs ih =>
  cases xs with
  | nil => simp [List.intercalate_cons_cons]
  | cons b xs =>
   rw [if_neg (by simp)] at ih ⊢
   simp only [List.cons_append, List.intercalate_cons_cons] at ih ⊢
   rw [ih]
   simp [List.append_assoc]
theorem rowP_succ (l : List Sn) (x0 y : Int) (n : Nat) : rowP l x0 y (n + 1) = rowP l x0 y n ++ ((if n = 0 then [] else [32]) ++ cellT (cov l (x0 + (n : Int)) y) (bak l (x0 + (n : Int)) y)) := by
 unfold rowP
 rw [cellsT_succ, join_snoc]
 cases n with
 | zero => simp [cellsT, Lib.join]
 | succ n => rw [if_neg (by intro h; have := congrArg List.length h; rw [cellsT_len] at this; simp at this), if_neg (by omega)]
theorem rowP_len (l : List Sn) (x0 y : Int) (n : Nat) : (rowP l x0 y n).length ≤ 3 * n := by
 induction n with
 | zero => simp [rowP, cellsT, Lib.join]
 | succ n ih =>
  rw [rowP_succ, List.length_append, List.length_append, cellT_len]
  split <;> simp <;> omega
theorem picT_succ (l : List Sn) (x0 y1 : Int) (n k : Nat) : picT l x0 y1 n (k + 1) = picT l x0 y1 n k ++ (rowP l x0 (y1 - (k : Int)) n ++ [10]) := by simp [picT, List.range_succ]
theorem picT_len (l : List Sn) (x0 y1 : Int) (n k : Nat) : (picT l x0 y1 n k).length ≤ k * (3 * n + 1) := by
 induction k with
 | zero => simp [picT]
 | succ k ih =>
  rw [picT_succ, List.length_append, List.length_append]
  have := rowP_len l x0 (y1 - (k : Int)) n
  have e : (k + 1) * (3 * n + 1) = k * (3 * n + 1) + (3 * n + 1) := by rw [Nat.add_mul, Nat.one_mul]
  simp only [List.length_cons, List.length_nil]
  omega
end
end Go.Proofs.YtpkjekedgodccaaGreatDoor
