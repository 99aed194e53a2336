/- Structs of numbers as keys of maps. Papers as they lie; their maps.. Inner: is an edge on two triangles that are there?. -/
import Derived.Test.YtpkjekedgodccaaGreatDoorK01
import Derived.Maps.OwnSet
import Derived.DeepKeys4
import Derived.Test.YtpkjekedgodccaaGreatDoorK07
namespace Go.Proofs.YtpkjekedgodccaaGreatDoor
set_option linter.unusedSimpArgs false
set_option linter.unusedVariables false
section
section
open Go.RowKit Go.Maps
def inR (z : Int) : Prop := -9223372036854775808 ≤ z ∧ z ≤ 9223372036854775807
theorem wf_of {z : Int} (h : inR z) : (Lit.int .i64 z).wf = true := by
 unfold inR at h
 simp [Lit.wf, IntKind.min, IntKind.max, IntKind.signed, IntKind.bits]
 omega
theorem typesz : ∃ d, Tryz.prog.types.size = d + 3 := ⟨Tryz.prog.types.size - 3, by kernel_rfl⟩
theorem laidO : laidOutB Tryz.prog = true := by kernel_rfl
theorem kl_int (d : Nat) {x : Int} (h : inR x) : Tryz.prog.keyLits (d + 1) 3 [.int .i64 x] = some [.int .i64 x] := by
 simp [Program.keyLits, Tryz.underlying3, wf_of h]
theorem lawT : WideMaps.KeyLaw Tryz.prog 44 := deep_law_laid laidO (m := 3) (by omega) (of_decide_eq_true (by kernel_rfl)) (by kernel_rfl) (by kernel_rfl)
theorem lawE : WideMaps.KeyLaw Tryz.prog 100 := deep_law_laid laidO (m := 3) (by omega) (of_decide_eq_true (by kernel_rfl)) (by kernel_rfl) (by kernel_rfl)
theorem cT : Tryz.prog.cellsOf 44 = 3 := by kernel_rfl
theorem cI : Tryz.prog.cellsOf 3 = 1 := by kernel_rfl
theorem cE : Tryz.prog.cellsOf 100 = 4 := by kernel_rfl
theorem cP : Tryz.prog.cellsOf 98 = 2 := by kernel_rfl
theorem ktT : Tryz.prog.keyType 44 = true := by kernel_rfl
theorem ktE : Tryz.prog.keyType 100 = true := by kernel_rfl
theorem kl_T (d : Nat) {x y k : Int} (hx : inR x) (hy : inR y) (hk : inR k) : Tryz.prog.keyLits (d + 2) 44 [.int .i64 x, .int .i64 y, .int .i64 k] = some [.int .i64 x, .int .i64 y, .int .i64 k] := by
 unfold Program.keyLits
 rw [Tryz.underlying44]
 simp [cT, cI, kl_int _ hx, kl_int _ hy, kl_int _ hk]
theorem kl_P (d : Nat) {x y : Int} (hx : inR x) (hy : inR y) : Tryz.prog.keyLits (d + 2) 98 [.int .i64 x, .int .i64 y] = some [.int .i64 x, .int .i64 y] := by
 unfold Program.keyLits
 rw [Tryz.underlying98]
 simp [cP, cI, kl_int _ hx, kl_int _ hy]
theorem kl_E (d : Nat) {a b c e : Int} (ha : inR a) (hb : inR b) (hc : inR c) (he : inR e) : Tryz.prog.keyLits (d + 3) 100 [.int .i64 a, .int .i64 b, .int .i64 c, .int .i64 e] = some [.int .i64 a, .int .i64 b, .int .i64 c, .int .i64 e] := by
 unfold Program.keyLits
 rw [Tryz.underlying100]
 simp [cE, cP, kl_P _ ha hb, kl_P _ hc he]
theorem keyOf_T {x y k : Int} (hx : inR x) (hy : inR y) (hk : inR k) : ∃ l, keyOf Tryz.prog 44 (.agg #[.int .i64 x, .int .i64 y, .int .i64 k]) = some l := by
 obtain ⟨d, hd⟩ := typesz
 unfold keyOf
 have h := kl_T (d + 2) hx hy hk
 simp [Tryz.underlying44, ktT, Value.formed, cT, hd, Value.cells, h]
theorem keyOf_E {a b c e : Int} (ha : inR a) (hb : inR b) (hc : inR c) (he : inR e) : ∃ l, keyOf Tryz.prog 100 (.agg #[.int .i64 a, .int .i64 b, .int .i64 c, .int .i64 e]) = some l := by
 obtain ⟨d, hd⟩ := typesz
 unfold keyOf
 have h := kl_E (d + 1) ha hb hc he
 simp [Tryz.underlying100, ktE, Value.formed, cE, hd, Value.cells, h]
end
section
open Go.RowKit Go.Maps
structure KE (α : Type) where
 K : TypeId
 T : TypeId
 enc : α → Value
 ok : α → Prop
 law : Keyed Tryz.prog K
 ht : Tryz.prog.underlying T = some (.map K 3)
 key : ∀ a, ok a → ∃ l, keyOf Tryz.prog K (enc a) = some l
 inj : ∀ a b, enc a = enc b → a = b
theorem lit_inj {a b : Int} (h : (DataW.lit (.int .i64 a) : DataW Unit) = .lit (.int .i64 b)) : a = b := by
 injection h with h
 injection h with _ h
theorem zeroInt (w : World) : (zeroValue 3).run Tryz.prog w = .ok (.int .i64 0) w := by kernel_rfl
section
variable {α : Type}
def MapI (k : KE α) (w : World) (b n : Nat) (f : α → Option Int) : Prop :=
 ∃ D : DataW Unit, w.ownsMap Tryz.prog k.K (plainElem Tryz.prog 3) b n D ∧
  (∀ a l, k.ok a → keyOf Tryz.prog k.K (k.enc a) = some l → Maps.has D l = (f a).isSome ∧ D.atKey l (.lit (.int .i64 0)) = .lit (.int .i64 ((f a).getD 0))) ∧
  ∃ ks : List α, ks.Nodup ∧ (∀ a, (f a).isSome = true ↔ a ∈ ks) ∧ (∀ a ∈ ks, k.ok a) ∧ Maps.size D = ks.length
variable {k : KE α} {w w' : World} {b n : Nat} {f : α → Option Int}
theorem MapI.made (k : KE α) (w : World) : MapI k (w.alloc (.map #[] 0)) w.heap.size 0 (fun _ => none) :=
 ⟨.map [], World.ownsMap_made _ _ _ _, fun a l _ _ => ⟨rfl, rfl⟩, [], List.nodup_nil, by simp, by simp, rfl⟩
theorem MapI.heap (h : MapI k w b n f) (hb : w'.heap[b]? = w.heap[b]?) : MapI k w' b n f := by
 obtain ⟨D, ⟨es, c, h1, h2⟩, h3⟩ := h
 exact ⟨D, ⟨es, c, hb.trans h1, h2⟩, h3⟩
theorem MapI.lt (h : MapI k w b n f) : b < w.heap.size := by obtain ⟨D, h1, _⟩ := h; exact h1.lt
theorem MapI.below (h : MapI k w b n f) {B : Nat} (hb : Below B w w') (hB : b < B) : MapI k w' b n f := h.heap (hb.block b hB)
theorem MapI.stay (h : MapI k w b n f) (hb : Below w.heap.size w w') : MapI k w' b n f := h.below hb h.lt
theorem MapI.mono (h : MapI k w b n f) {n' : Nat} (hn : n ≤ n') : MapI k w b n' f := by obtain ⟨D, h1, h2⟩ := h; exact ⟨D, h1.mono hn, h2⟩
theorem MapI.alloc (h : MapI k w b n f) (o : Obj) : MapI k (w.alloc o) b n f := h.stay (below_new w o)
theorem MapI.drew (h : MapI k w b n f) : MapI k w.drew b n f := h
theorem MapI.look (h : MapI k w b n f) {a : α} (ha : k.ok a) : (Instr.lookup k.T (.map (some b)) (k.enc a) true).run Tryz.prog w = .ok (.tuple #[.int .i64 ((f a).getD 0), .bool (f a).isSome]) w := by
 obtain ⟨D, h1, h2, _⟩ := h
 obtain ⟨l, hl⟩ := k.key a ha
 obtain ⟨v, ps, hrun, hv⟩ := h1.look_ok k.law k.ht (zeroInt w) (plainElem_int Tryz.underlying3 (by decide)) hl
 obtain ⟨c, rfl, hc, hwc⟩ := plainElem_int_inv Tryz.underlying3 hv
 obtain ⟨e1, e2⟩ := h2 a l ha hl
 have hc := congrArg Prod.fst hc
 rw [e2] at hc
 have hc2 : (f a).getD 0 = c := by
  have := lit_inj hc
  exact this
 rw [hrun, e1, hc2]
theorem MapI.look1 (h : MapI k w b n f) {a : α} (ha : k.ok a) : (Instr.lookup k.T (.map (some b)) (k.enc a) false).run Tryz.prog w = .ok (.int .i64 ((f a).getD 0)) w := by
 obtain ⟨D, h1, h2, _⟩ := h
 obtain ⟨l, hl⟩ := k.key a ha
 obtain ⟨c, hrun, hc, hwc⟩ := h1.lookup_int k.law k.ht Tryz.underlying3 (zeroInt w) hl
 obtain ⟨e1, e2⟩ := h2 a l ha hl
 rw [e2] at hc
 rw [hrun, lit_inj hc]
def setF [DecidableEq α] (f : α → Option Int) (a : α) (v : Int) : α → Option Int := fun x => if x = a then some v else f x
theorem MapI.put_of [DecidableEq α] {D : DataW Unit} {l : Lit} {a : α} {v : Int} (ha : k.ok a) (hl : keyOf Tryz.prog k.K (k.enc a) = some l) (h : w.ownsMap Tryz.prog k.K (plainElem Tryz.prog 3) b n D)
  (h2 : ∀ a l, k.ok a → keyOf Tryz.prog k.K (k.enc a) = some l → Maps.has D l = (f a).isSome ∧ D.atKey l (.lit (.int .i64 0)) = .lit (.int .i64 ((f a).getD 0)))
  (h3 : ∃ ks : List α, ks.Nodup ∧ (∀ a, (f a).isSome = true ↔ a ∈ ks) ∧ (∀ a ∈ ks, k.ok a) ∧ Maps.size D = ks.length)
  {m : Nat} (hw : w'.ownsMap Tryz.prog k.K (plainElem Tryz.prog 3) b m (D.put l (.lit (.int .i64 v)))) : MapI k w' b m (setF f a v) := by
 have ht := h.tidy k.law
 have hkl := k.law.key hl
 refine ⟨_, hw, ?_, ?_⟩
 ·intro x lx hx hlx
  unfold setF
  by_cases hxa : x = a
  ·subst hxa
   rw [hl] at hlx
   cases hlx
   rw [if_pos rfl, has_put_same ht.isMap hkl, atKey_put_same ht.isMap hkl]
   exact ⟨rfl, rfl⟩
  ·have hne : lx ≠ l := fun e => hxa (k.inj _ _ (k.law.inj (e ▸ hlx) hl))
   rw [if_neg hxa, has_put_other hne, atKey_put_other hne]
   exact h2 x lx hx hlx
 ·obtain ⟨ks, k1, k2, k3, k4⟩ := h3
  have hs := size_put (k := l) ht (.lit (.int .i64 v))
  rw [(h2 a l ha hl).1] at hs
  by_cases hf : (f a).isSome = true
  ·rw [if_pos hf] at hs
   refine ⟨ks, k1, fun x => ?_, k3, by rw [hs, k4]⟩
   unfold setF
   by_cases hxa : x = a
   ·subst hxa
    rw [if_pos rfl]
    exact ⟨fun _ => (k2 _).1 hf, fun _ => rfl⟩
   ·rw [if_neg hxa]
    exact k2 x
  ·rw [if_neg hf] at hs
   have hna : a ∉ ks := fun h => hf ((k2 a).2 h)
   refine ⟨a :: ks, List.nodup_cons.2 ⟨hna, k1⟩, fun x => ?_, ?_, by rw [hs, k4]; rfl⟩
   ·unfold setF
    by_cases hxa : x = a
    ·subst hxa
     simp
    ·rw [if_neg hxa, k2 x]
     simp [hxa]
   ·intro x hx
    rcases List.mem_cons.1 hx with rfl | hx
    ·exact ha
    ·exact k3 x hx
theorem MapI.put [DecidableEq α] (h : MapI k w b n f) (hn : n < maxLen) {a : α} (ha : k.ok a) {v : Int} (hv : (Lit.int .i64 v).wf = true) :
  ∃ w', (Instr.mapUpdate k.T (.map (some b)) (k.enc a) (.int .i64 v)).run Tryz.prog w = .ok () w' ∧ MapI k w' b (n + 1) (setF f a v) ∧ w.grownBy w' (some b) := by
 obtain ⟨D, h1, h2, h3⟩ := h
 obtain ⟨l, hl⟩ := k.key a ha
 obtain ⟨w', e1, e2, e3⟩ := h1.update k.law k.ht hn hl (plainElem_int Tryz.underlying3 hv)
 exact ⟨w', e1, MapI.put_of ha hl h1 h2 h3 e2, e3⟩
theorem wpList_putI [DecidableEq α] {ops : Array Oper} {rest : List Oper} {o : Oper} {a : Act} {Q : Exit → Act → World → Prop} (hg : o.guard = none) (m x v : Operand) (hop : o.op = Op.mapUpdate k.T m x v)
  (h : MapI k w b n f) (hm : a.eval m = .map (some b)) (hn : n < maxLen) (c : α) (hc : k.ok c) (z : Int) (hx : a.eval x = k.enc c) (hv : a.eval v = .int .i64 z) (hz : (Lit.int .i64 z).wf = true)
  (hK : ∀ w', MapI k w' b (n + 1) (setF f c z) → w.grownBy w' (some b) → wpList Tryz.prog ops Q rest (a.put o.dst undef) w') : wpList Tryz.prog ops Q (o :: rest) a w := by
 obtain ⟨D, h1, h2, h3⟩ := h
 obtain ⟨l, hl⟩ := k.key c hc
 exact wpList_mapUpdate_own w hg m x v k.T hop k.K 3 k.law k.ht _ b n D hm h1 hn _ _ l hx hv hl _ [] (plainElem_int Tryz.underlying3 hz) (fun w' e2 e3 => hK w' (MapI.put_of hc hl h1 h2 h3 e2) e3)
theorem MapI.len (h : MapI k w b n f) : ∃ ks : List α, ks.Nodup ∧ (∀ a, (f a).isSome = true ↔ a ∈ ks) ∧ ∀ ty, (Builtin.len_ #[k.T] ty #[.map (some b)]).run Tryz.prog w = .ok (.int .i64 ks.length) w := by
 obtain ⟨D, h1, h2, ks, k1, k2, k3, k4⟩ := h
 exact ⟨ks, k1, k2, fun ty => by rw [h1.len k.ht ty, k4]⟩
end
end
end
section
open Go.RowKit Go.Maps
def kT : KE T3 where
 K := 44
 T := 69
 enc t := aggT3 t
 ok t := inR t.1 ∧ inR t.2.1 ∧ inR t.2.2
 law := Keyed.of_law lawT
 ht := Tryz.underlying69
 key a h := keyOf_T h.1 h.2.1 h.2.2
 inj a b h := by
  obtain ⟨a1, a2, a3⟩ := a
  obtain ⟨b1, b2, b3⟩ := b
  simp at h
  simp [h]
def kE : KE E4 where
 K := 100
 T := 70
 enc t := aggE t
 ok t := inR t.1 ∧ inR t.2.1 ∧ inR t.2.2.1 ∧ inR t.2.2.2
 law := Keyed.of_law lawE
 ht := Tryz.underlying70
 key a h := keyOf_E h.1 h.2.1 h.2.2.1 h.2.2.2
 inj a b h := by
  obtain ⟨a1, a2, a3, a4⟩ := a
  obtain ⟨b1, b2, b3, b4⟩ := b
  simp at h
  simp [h]
def numF (L : List T3) (t : T3) : Option Int := if t ∈ L then some ((L.idxOf t : Nat) : Int) else none
theorem numF_some (L : List T3) (t : T3) : (numF L t).isSome = decide (t ∈ L) := by
 unfold numF
 split <;> simp_all
theorem numF_nil : numF [] = fun _ => none := by funext t; simp [numF]
theorem numF_snoc {L : List T3} {t : T3} (h : t ∉ L) : setF (numF L) t (L.length : Int) = numF (L ++ [t]) := by
 funext x
 unfold setF numF
 by_cases hx : x = t
 ·subst hx
  rw [if_pos rfl, if_pos (by simp), List.idxOf_append, if_neg h]
  simp
 ·rw [if_neg hx]
  by_cases hm : x ∈ L
  ·rw [if_pos hm, if_pos (by simp [hm]), List.idxOf_append, if_pos hm]
  ·rw [if_neg hm, if_neg (by simp [hm, hx])]
structure PapI (w : World) (pb nb kb : Nat) (W H : Nat) (vm vc vt : Value) (L : List T3) (mn mk : Nat) (fk : E4 → Option Int) : Prop where
 blk : w.heap[pb]? = some (.cells #[.int .i64 W, .int .i64 H, vm, vc, vt, .map (some nb), .map (some kb)] 72 (0, 0))
 num : MapI kT w nb mn (numF L)
 kin : MapI kE w kb mk fk
section
variable {w w' : World} {pb nb kb W H : Nat} {vm vc vt : Value} {L : List T3} {mn mk : Nat} {fk : E4 → Option Int}
theorem PapI.below (h : PapI w pb nb kb W H vm vc vt L mn mk fk) (hb : Below w.heap.size w w') : PapI w' pb nb kb W H vm vc vt L mn mk fk :=
 ⟨blk_below h.blk hb (blk_lt h.blk), h.num.stay hb, h.kin.stay hb⟩
theorem PapI.c0 (h : PapI w pb nb kb W H vm vc vt L mn mk fk) : w.cell? ⟨pb, 0, none⟩ = some (.int .i64 W) := by rw [cell_of_blk h.blk 0]; rfl
theorem PapI.c1 (h : PapI w pb nb kb W H vm vc vt L mn mk fk) : w.cell? ⟨pb, 1, none⟩ = some (.int .i64 H) := by rw [cell_of_blk h.blk 1]; rfl
theorem PapI.c4 (h : PapI w pb nb kb W H vm vc vt L mn mk fk) : w.cell? ⟨pb, 4, none⟩ = some vt := by rw [cell_of_blk h.blk 4]; rfl
theorem PapI.c5 (h : PapI w pb nb kb W H vm vc vt L mn mk fk) : w.cell? ⟨pb, 5, none⟩ = some (.map (some nb)) := by rw [cell_of_blk h.blk 5]; rfl
theorem PapI.c6 (h : PapI w pb nb kb W H vm vc vt L mn mk fk) : w.cell? ⟨pb, 6, none⟩ = some (.map (some kb)) := by rw [cell_of_blk h.blk 6]; rfl
theorem PapI.look (h : PapI w pb nb kb W H vm vc vt L mn mk fk) {t : T3} (ht : inR t.1 ∧ inR t.2.1 ∧ inR t.2.2) :
  (Instr.lookup 69 (.map (some nb)) (aggT3 t) true).run Tryz.prog w = .ok (.tuple #[.int .i64 ((numF L t).getD 0), .bool (decide (t ∈ L))]) w := by
 have := h.num.look (a := t) ht
 rw [numF_some] at this
 exact this
end
end
section
open Go.RowKit Go.Maps
def SmT (t : T3) : Prop := (-1000 ≤ t.1 ∧ t.1 ≤ 1000) ∧ (-1000 ≤ t.2.1 ∧ t.2.1 ≤ 1000) ∧ K4 t
theorem SmT.ok {t : T3} (h : SmT t) : inR t.1 ∧ inR t.2.1 ∧ inR t.2.2 := by
 obtain ⟨h1, h2, h3, h4⟩ := h
 unfold inR
 omega
theorem SmT.next {t : T3} (h : SmT t) {i : Nat} (hi : i < 3) : inR (nT t i).1 ∧ inR (nT t i).2.1 ∧ inR (nT t i).2.2 := by
 obtain ⟨h1, h2, h3⟩ := h
 obtain ⟨x, y, ht⟩ := k4_cases h3
 unfold inR
 rcases i3_cases hi with rfl | rfl | rfl <;> rcases ht with rfl | rfl | rfl | rfl <;> simp [n00, n01, n02, n10, n11, n12, n20, n21, n22, n30, n31, n32] at h1 h2 ⊢ <;> omega
theorem near_small {W H : Nat} (hW : W ≤ 8) (hH : H ≤ 8) {e : E4} (hg : nearG W H e = true) : ∀ t ∈ nearL e, SmT t := by
 intro t ht
 obtain ⟨h1, h2, h3⟩ := nearL_mem.1 ht
 simp only [nearG, Bool.not_eq_true', Bool.or_eq_false_iff, decide_eq_false_iff_not] at hg
 obtain ⟨⟨⟨q1, q2⟩, q3⟩, q4⟩ := hg
 have a1 : 0 ≤ e.1.tdiv 2 ∧ e.1.tdiv 2 ≤ 8 := by rw [Int.tdiv_eq_ediv_of_nonneg (by omega)]; omega
 have a2 : -1 ≤ e.2.1.tdiv 2 ∧ e.2.1.tdiv 2 ≤ 8 := by
  by_cases h : 0 ≤ e.2.1
  ·rw [Int.tdiv_eq_ediv_of_nonneg h]; omega
  ·have : e.2.1 = -1 := by omega
   rw [this]
   decide
 exact ⟨by omega, by omega, h3⟩
theorem idx_has {t : T3} {e : E4} : (hT t e = false → idxE (eT t 0) (eT t 1) (eT t 2) e = -1) ∧ (hT t e = true → ∃ i : Nat, i < 3 ∧ idxE (eT t 0) (eT t 1) (eT t 2) e = i ∧ eT t i = e) := by
 constructor
 ·exact idx_no
 ·intro h
  unfold idxE
  by_cases h0 : eqE4 e (eT t 0) = true
  ·exact ⟨0, by omega, by rw [if_pos h0]; rfl, ((eqE4_iff _ _).1 h0).symm⟩
  ·rw [if_neg h0]
   by_cases h1 : eqE4 e (eT t 1) = true
   ·exact ⟨1, by omega, by rw [if_pos h1]; rfl, ((eqE4_iff _ _).1 h1).symm⟩
   ·rw [if_neg h1]
    by_cases h2 : eqE4 e (eT t 2) = true
    ·exact ⟨2, by omega, by rw [if_pos h2]; rfl, ((eqE4_iff _ _).1 h2).symm⟩
    ·exfalso
     obtain ⟨i, hi, he⟩ := hT_iff.1 h
     rcases i3_cases hi with rfl | rfl | rfl
     ·exact h0 ((eqE4_iff _ _).2 he.symm)
     ·exact h1 ((eqE4_iff _ _).2 he.symm)
     ·exact h2 ((eqE4_iff _ _).2 he.symm)
theorem own_addr {w : World} {base n : Nat} {e : TypeId} {v : Value} {xs : List Value} {sz : Nat} (h : w.ownsRow base e sz v n xs) (hn : 0 < n) : ∃ g c cur, v = .slice (some ⟨g, 0, none⟩) n c ∧ n ≤ c ∧ c ≤ maxLen ∧ base ≤ g ∧ w.heap[g]? = some (.cells cur e (0, 0)) := by
 rcases h.2 with ⟨_, h0⟩ | ⟨g, cap, cur, rfl, h1, h2, h3, h4, _, _⟩
 ·omega
 ·exact ⟨g, cap, cur, rfl, h3, h4, h1, h2⟩
theorem own_tri {w : World} {B n c g : Nat} {l : List T3} (h : w.ownsRow B 44 3 (.slice (some ⟨g, 0, none⟩) n c) n (tcT l)) {j : Nat} {t : T3} (ht : l[j]? = some t) :
  w.cell? ⟨g, j * 3, none⟩ = some (.int .i64 t.1) ∧ w.cell? ⟨g, j * 3 + 1, none⟩ = some (.int .i64 t.2.1) ∧ w.cell? ⟨g, j * 3 + 2, none⟩ = some (.int .i64 t.2.2) := by
 have hr := Rd.of_own h
 have hl : l.length * 3 = n * 3 := by rw [← tcT_len]; exact hr.1
 have hj := (List.getElem?_eq_some_iff.1 ht).1
 obtain ⟨b, off, e, _, hc⟩ := hr.2 (by omega)
 cases e
 have h0 := hc _ _ (tcT_at l j 0 t ht (by decide))
 have h1 := hc _ _ (tcT_at l j 1 t ht (by decide))
 have h2 := hc _ _ (tcT_at l j 2 t ht (by decide))
 rw [Nat.zero_add, show 3 * j + 0 = j * 3 by omega] at h0
 rw [Nat.zero_add, show 3 * j + 1 = j * 3 + 1 by omega] at h1
 rw [Nat.zero_add, show 3 * j + 2 = j * 3 + 2 by omega] at h2
 exact ⟨h0, h1, h2⟩
set_option maxRecDepth 100000 in
set_option maxHeartbeats 6400000 in
theorem inner_any (pb nb kb W H : Nat) (vm vc vt : Value) (L : List T3) (mn mk : Nat) (fk : E4 → Option Int) (e : E4) (w : World) (hs : Steps w) (hp : PapI w pb nb kb W H vm vc vt L mn mk fk) (hW : W ≤ 8) (hH : H ≤ 8)
  (hL : ∀ t ∈ L, 0 ≤ t.1 ∧ t.1 < W ∧ 0 ≤ t.2.1 ∧ t.2.1 < H ∧ K4 t) :
  Calls Tryz.prog 55 #[.pointer (some ⟨pb, 0, none⟩), aggE e] w fun r w' => r = .returned (.bool (innerB L e)) ∧ Below w.heap.size w w' := by
 have hLk : ∀ t ∈ L, K4 t := fun t ht => (hL t ht).2.2.2.2
 have kb0 := heap_alloc_new w (.cells #[.int .i64 e.1, .int .i64 e.2.1, .int .i64 e.2.2.1, .int .i64 e.2.2.2] 100)
 have hb0 := below_new w (.cells #[.int .i64 e.1, .int .i64 e.2.1, .int .i64 e.2.2.1, .int .i64 e.2.2.2] 100)
 have hp0 := hp.below hb0
 have hs0 := hs.below hb0
 have hz0 : w.heap.size < (w.alloc (.cells #[.int .i64 e.1, .int .i64 e.2.1, .int .i64 e.2.2.1, .int .i64 e.2.2.2] 100)).heap.size := by simp
 have e0 := cell_of_blk kb0 0
 have e1 := cell_of_blk kb0 1
 have e2 := cell_of_blk kb0 2
 have e3 := cell_of_blk kb0 3
 simp only [List.getElem?_toArray, List.getElem?_cons_zero, List.getElem?_cons_succ] at e0 e1 e2 e3
 cases hg : nearG W H e with
 | false =>
  have hin := inner_none hL (.inl hg)
  have cN := fun w1 (h0 : w1.cell? ⟨pb, 0, none⟩ = some (.int .i64 W)) (h1 : w1.cell? ⟨pb, 1, none⟩ = some (.int .i64 H)) => near_no pb W H e w1 h0 h1 hW hH hg
  have CN := Lib.hid (cN _ hp0.c0 hp0.c1)
  rw [hin]
  clear cN hin
  go_enter Tryz.func55, Tryz.ntmps55
  go_wp2_with (go_at_call 78; refine CN.out.mono ?_; rintro r w1 ⟨rfl, hb1⟩)
  go_loopw [17] (fun i wr => i = .int .i64 0 ∧ wr = w1) (fun _ _ => 0)
  case atStart => exact ⟨rfl, rfl⟩
  case round =>
   obtain ⟨rfl, rfl⟩ := hrel
   go_wp2
   go_ret
   exact ⟨rfl, stay_b hb0 hb1⟩
 | true =>
  have hsm := near_small hW hH hg
  have cN := near_ok pb W H e _ hp0.c0 hp0.c1 hW hH hg
  have hno := inner_none (e := e) hL
  have hat := fun (t : T3) (ht : SmT t) (i : Nat) (hi : i < 3) => inner_at (l := L) hLk ht.2.2 hi
  obtain ⟨R, hR⟩ : ∃ R, R = innerB L e := ⟨_, rfl⟩
  rw [← hR] at hno ⊢
  obtain ⟨N, hN⟩ : ∃ N, N = nearL e := ⟨_, rfl⟩
  have hnl : N.length = 36 := by rw [hN, ← nearP_all, nearP_len]
  rw [← hN] at cN hsm hno
  have hfin : (∀ t ∈ N, hT t e = false) → R = false := fun h => hno (.inr h)
  have HFIN := Lib.hid hfin
  have HAT := Lib.hid hat
  have HR := Lib.hid hR
  have CN := Lib.hid cN
  have HSM := Lib.hid hsm
  clear cN hno hat hR hN hg hsm hfin hLk
  go_enter Tryz.func55, Tryz.ntmps55
  go_wp2_with (go_at_call 78; refine CN.out.mono ?_; rintro r w1 ⟨v, rfl, ho1, hb1⟩; obtain ⟨gv, cv, curv, hv, _, _, _, _⟩ := own_addr ho1 (by omega); subst hv)
  have hp1 := hp0.below hb1
  have hs1 := hs0.below hb1
  have hz1 : w.heap.size < w1.heap.size := Nat.lt_of_lt_of_le hz0 hb1.size
  have e0 := keep_c e0 hb1 hz0
  have e1 := keep_c e1 hb1 hz0
  have e2 := keep_c e2 hb1 hz0
  have e3 := keep_c e3 hb1 hz0
  have hbw : Below w.heap.size w w1 := stay_b hb0 hb1
  have HO := Lib.hid ho1
  have HP := Lib.hid hp1
  clear ho1 hb1 hb0 hp0 hs0 kb0 hz0 hp
  go_loopw [17] (fun i wr => ∃ j : Nat, j ≤ N.length ∧ i = .int .i64 j ∧ Hid (∀ t ∈ N.take j, hT t e = false) ∧ Below w1.heap.size w1 wr) (fun i _ => N.length - (intOf i).toNat)
  case atStart => exact ⟨0, by omega, rfl, Lib.hid (by simp), Below.refl _ _⟩
  case round =>
   obtain ⟨j, hj, rfl, hall, hbr⟩ := hrel
   by_cases hjn : j < N.length
   ·obtain ⟨t, ht⟩ : ∃ t, N[j]? = some t := ⟨_, List.getElem?_eq_getElem hjn⟩
    have hts := HSM.out t (List.mem_of_getElem? ht)
    obtain ⟨t0, t1, t2⟩ := own_tri (od HO.out hbr) ht
    have f0 := keep_c e0 hbr hz1
    have f1 := keep_c e1 hbr hz1
    have f2 := keep_c e2 hbr hz1
    have f3 := keep_c e3 hbr hz1
    have hpr := HP.out.below hbr
    have hsr := hs1.below hbr
    have HT := Lib.hid ht
    have HTS := Lib.hid hts
    clear ht hts
    have cE := edges_any t.1 t.2.1 t.2.2 _ (hsr.alloc (.cells #[.int .i64 t.1, .int .i64 t.2.1, .int .i64 t.2.2] 44)) (by have := HTS.out.1; omega) (by have := HTS.out.1; omega) (by have := HTS.out.2.1; omega) (by have := HTS.out.2.1; omega) HTS.out.2.2.1 HTS.out.2.2.2
    have hih := idx_has (t := t) (e := e)
    obtain ⟨E0, hE0⟩ : ∃ E, E = eT t 0 := ⟨_, rfl⟩
    obtain ⟨E1, hE1⟩ : ∃ E, E = eT t 1 := ⟨_, rfl⟩
    obtain ⟨E2, hE2⟩ : ∃ E, E = eT t 2 := ⟨_, rfl⟩
    rw [show edgeT t.1 t.2.1 t.2.2 0 = E0 from hE0.symm, show edgeT t.1 t.2.1 t.2.2 1 = E1 from hE1.symm, show edgeT t.1 t.2.1 t.2.2 2 = E2 from hE2.symm] at cE
    rw [← hE0, ← hE1, ← hE2] at hih
    have CE := Lib.hid cE
    have HIH := Lib.hid hih
    have kt := heap_alloc_new wr (.cells #[.int .i64 t.1, .int .i64 t.2.1, .int .i64 t.2.2] 44)
    have g0 := al_c f0 (.cells #[.int .i64 t.1, .int .i64 t.2.1, .int .i64 t.2.2] 44)
    have g1 := al_c f1 (.cells #[.int .i64 t.1, .int .i64 t.2.1, .int .i64 t.2.2] 44)
    have g2 := al_c f2 (.cells #[.int .i64 t.1, .int .i64 t.2.1, .int .i64 t.2.2] 44)
    have g3 := al_c f3 (.cells #[.int .i64 t.1, .int .i64 t.2.1, .int .i64 t.2.2] 44)
    have hpa := hpr.below (below_new wr (.cells #[.int .i64 t.1, .int .i64 t.2.1, .int .i64 t.2.2] 44))
    have hsa := hsr.alloc (.cells #[.int .i64 t.1, .int .i64 t.2.1, .int .i64 t.2.2] 44)
    have hba := ba (Below.refl wr.heap.size wr) (.cells #[.int .i64 t.1, .int .i64 t.2.1, .int .i64 t.2.2] 44)
    clear cE hih hE0 hE1 hE2 f0 f1 f2 f3 hpr hsr
    go_wp2_with fail
    refine CE.out.mono ?_
    rintro r w2 ⟨rfl, hb2⟩
    have kt2 := blk_below kt hb2 (blk_lt kt)
    have g0 := sd g0 hb2
    have g1 := sd g1 hb2
    have g2 := sd g2 hb2
    have g3 := sd g3 hb2
    have hp2 := hpa.below hb2
    have hs2 := hsa.below hb2
    have hbr2 := stay_b hba hb2
    clear kt hpa hsa hba hb2
    go_wp2_with fail
    have ke := heap_alloc_new w2 (.cells #[.int .i64 E0.1, .int .i64 E0.2.1, .int .i64 E0.2.2.1, .int .i64 E0.2.2.2, .int .i64 E1.1, .int .i64 E1.2.1, .int .i64 E1.2.2.1, .int .i64 E1.2.2.2, .int .i64 E2.1, .int .i64 E2.2.1, .int .i64 E2.2.2.1, .int .i64 E2.2.2.2] 126)
    have hb3 := below_new w2 (.cells #[.int .i64 E0.1, .int .i64 E0.2.1, .int .i64 E0.2.2.1, .int .i64 E0.2.2.2, .int .i64 E1.1, .int .i64 E1.2.1, .int .i64 E1.2.2.1, .int .i64 E1.2.2.2, .int .i64 E2.1, .int .i64 E2.2.1, .int .i64 E2.2.2.1, .int .i64 E2.2.2.2] 126)
    have g0 := sd g0 hb3
    have g1 := sd g1 hb3
    have g2 := sd g2 hb3
    have g3 := sd g3 hb3
    have kt3 := blk_below kt2 hb3 (blk_lt kt2)
    have hp3 := hp2.below hb3
    have hs3 := hs2.below hb3
    have hbr3 := stay_b hbr2 hb3
    clear hb3 kt2 hp2 hs2 hbr2
    generalize w2.alloc (.cells #[.int .i64 E0.1, .int .i64 E0.2.1, .int .i64 E0.2.2.1, .int .i64 E0.2.2.2, .int .i64 E1.1, .int .i64 E1.2.1, .int .i64 E1.2.2.1, .int .i64 E1.2.2.2, .int .i64 E2.1, .int .i64 E2.2.1, .int .i64 E2.2.2.1, .int .i64 E2.2.2.2] 126) = w3 at ke g0 g1 g2 g3 kt3 hp3 hs3 hbr3 ⊢
    have cI := fun (w4 : World) (h4 : w4.heap[w2.heap.size]? = some (.cells #[.int .i64 E0.1, .int .i64 E0.2.1, .int .i64 E0.2.2.1, .int .i64 E0.2.2.2, .int .i64 E1.1, .int .i64 E1.2.1, .int .i64 E1.2.2.1, .int .i64 E1.2.2.2, .int .i64 E2.1, .int .i64 E2.2.1, .int .i64 E2.2.2.1, .int .i64 E2.2.2.2] 126 (0, 0))) => index3_any E0 E1 E2 e w2.heap.size w4 h4
    obtain ⟨ix, hix⟩ : ∃ ix, ix = idxE E0 E1 E2 e := ⟨_, rfl⟩
    rw [← hix] at cI
    have HIX := Lib.hid hix
    have CI := Lib.hid cI
    clear cI hix
    have hS : w3.drew.cell? ⟨w.heap.size, 0, none⟩ = some (.int .i64 e.1) ∧ w3.drew.cell? ⟨w.heap.size, 1, none⟩ = some (.int .i64 e.2.1) ∧ w3.drew.cell? ⟨w.heap.size, 2, none⟩ = some (.int .i64 e.2.2.1) ∧ w3.drew.cell? ⟨w.heap.size, 3, none⟩ = some (.int .i64 e.2.2.2) ∧ w3.drew.heap[w2.heap.size]? = some (.cells #[.int .i64 E0.1, .int .i64 E0.2.1, .int .i64 E0.2.2.1, .int .i64 E0.2.2.2, .int .i64 E1.1, .int .i64 E1.2.1, .int .i64 E1.2.2.1, .int .i64 E1.2.2.2, .int .i64 E2.1, .int .i64 E2.2.1, .int .i64 E2.2.2.1, .int .i64 E2.2.2.2] 126 (0, 0)) ∧ Below w3.heap.size w3 w3.drew := ⟨g0, g1, g2, g3, ke, (Below.refl _ _).drew⟩
    go_region_held3 (fun w' => w'.cell? ⟨w.heap.size, 0, none⟩ = some (.int .i64 e.1) ∧ w'.cell? ⟨w.heap.size, 1, none⟩ = some (.int .i64 e.2.1) ∧ w'.cell? ⟨w.heap.size, 2, none⟩ = some (.int .i64 e.2.2.1) ∧ w'.cell? ⟨w.heap.size, 3, none⟩ = some (.int .i64 e.2.2.2) ∧ w'.heap[w2.heap.size]? = some (.cells #[.int .i64 E0.1, .int .i64 E0.2.1, .int .i64 E0.2.2.1, .int .i64 E0.2.2.2, .int .i64 E1.1, .int .i64 E1.2.1, .int .i64 E1.2.2.1, .int .i64 E1.2.2.2, .int .i64 E2.1, .int .i64 E2.2.1, .int .i64 E2.2.2.1, .int .i64 E2.2.2.2] 126 (0, 0)) ∧ Below w3.heap.size w3 w')
     (first
      | with_reducible exact hS
      | with_reducible assumption
      | (go_split_ands; exact ⟨sd ‹_› hbc, sd ‹_› hbc, sd ‹_› hbc, sd ‹_› hbc, blk_below ‹_› hbc (blk_lt ‹_›), stay_b ‹_› hbc⟩))
     (first
      | (go_split_ands; (with_reducible refine (CI.out _ (by assumption)).mono ?_); rintro r wc ⟨he, hbc⟩; subst he))
    rename_i hSS
    obtain ⟨_, _, _, _, _, hb4⟩ := hSS
    have kt4 := blk_below kt3 hb4 (blk_lt kt3)
    have hp4 := hp3.below hb4
    have hs4 := hs3.below hb4
    have hbr4 := stay_b hbr3 hb4
    clear ke g0 g1 g2 g3 kt3 hp3 hs3 hbr3 hb4
    have hbn := stay_b hbr hbr4
    cases hhas : hT t e with
    | false =>
     have hi1 := HIH.out.1 hhas
     rw [← HIX.out] at hi1
     subst hi1
     have hnx : ∀ u ∈ N.take (j + 1), hT u e = false := by
      intro u hu
      rw [List.take_add_one, HT.out] at hu
      rcases List.mem_append.1 hu with hu | hu
      ·exact hall.out u hu
      ·simp at hu
       rw [hu]
       exact hhas
     have HNX := Lib.hid hnx
     clear hnx hhas
     go_wp2
     go_roundw
     case rel => exact ⟨j + 1, by omega, by go_num, HNX, hbn⟩
     case measure => simp [intOf]; omega
    | true =>
     obtain ⟨i, hi, hi1, hi2⟩ := HIH.out.2 hhas
     rw [← HIX.out] at hi1
     have hres := HAT.out t HTS.out i hi
     rw [hi2, ← HR.out] at hres
     have HRES := Lib.hid hres
     have ct0 := cell_of_blk kt4 0
     have ct1 := cell_of_blk kt4 1
     have ct2 := cell_of_blk kt4 2
     simp only [List.getElem?_toArray, List.getElem?_cons_zero, List.getElem?_cons_succ] at ct0 ct1 ct2
     have cn := hp4.c5
     have hl1 := (hp4.below (Below.refl _ _).drew).look HTS.out.ok
     have hige : (0 : Int) ≤ (i : Int) := by omega
     subst hi1
     clear hhas hi2 hres
     obtain ⟨D1, hD1⟩ : ∃ b, b = decide (t ∈ L) := ⟨_, rfl⟩
     rw [← hD1] at hl1
     have HD1 := Lib.hid hD1
     obtain ⟨V1, hV1⟩ : ∃ b, b = (numF L t).getD 0 := ⟨_, rfl⟩
     rw [← hV1] at hl1
     clear hD1 hV1
     go_wp2_with fail
     have hS2 : wc.drew.cell? ⟨wr.heap.size, 0, none⟩ = some (.int .i64 t.1) ∧ wc.drew.cell? ⟨wr.heap.size, 1, none⟩ = some (.int .i64 t.2.1) ∧ wc.drew.cell? ⟨wr.heap.size, 2, none⟩ = some (.int .i64 t.2.2) ∧ wc.drew.cell? ⟨pb, 5, none⟩ = some (.map (some nb)) ∧ Below wc.heap.size wc wc.drew := ⟨ct0, ct1, ct2, cn, (Below.refl _ _).drew⟩
     go_region_held3 (fun w' => w'.cell? ⟨wr.heap.size, 0, none⟩ = some (.int .i64 t.1) ∧ w'.cell? ⟨wr.heap.size, 1, none⟩ = some (.int .i64 t.2.1) ∧ w'.cell? ⟨wr.heap.size, 2, none⟩ = some (.int .i64 t.2.2) ∧ w'.cell? ⟨pb, 5, none⟩ = some (.map (some nb)) ∧ Below wc.heap.size wc w')
      (first
       | with_reducible exact hS2
       | with_reducible assumption)
      (first
       | fail)
     rename_i hSS
     clear hSS
     go_wp2_with fail
     have hp5 := hp4.below (Below.refl _ _).drew
     have hbn5 : Below w1.heap.size w1 wc.drew := hbn.drew
     have dt0 : wc.drew.cell? ⟨wr.heap.size, 0, none⟩ = some (.int .i64 t.1) := ct0
     have dt1 : wc.drew.cell? ⟨wr.heap.size, 1, none⟩ = some (.int .i64 t.2.1) := ct1
     have dt2 : wc.drew.cell? ⟨wr.heap.size, 2, none⟩ = some (.int .i64 t.2.2) := ct2
     have dn := hp5.c5
     clear ct0 ct1 ct2 cn hp4 hl1 hbn hbr4 hs4 kt4
     generalize wc.drew = wd at hp5 hbn5 dt0 dt1 dt2 dn ⊢
     have cX := fun (w4 : World) => next_any t.1 t.2.1 t.2.2 i w4 hi (by have := HTS.out.1; omega) (by have := HTS.out.1; omega) (by have := HTS.out.2.1; omega) (by have := HTS.out.2.1; omega) HTS.out.2.2.1 HTS.out.2.2.2
     have hok := HTS.out.next hi
     have hlk := fun (w4 : World) (hb : Below wd.heap.size wd w4) => (hp5.below hb).look hok
     obtain ⟨U, hU⟩ : ∃ U, U = nT t i := ⟨_, rfl⟩
     rw [show nextT t.1 t.2.1 t.2.2 i = U from hU.symm] at cX
     rw [← hU] at hlk
     rw [← hU] at HRES
     obtain ⟨D2, hD2⟩ : ∃ b, b = decide (U ∈ L) := ⟨_, rfl⟩
     obtain ⟨V2, hV2⟩ : ∃ b, b = (numF L U).getD 0 := ⟨_, rfl⟩
     rw [← hD2, ← hV2] at hlk
     have HD2 := Lib.hid hD2
     have CX := Lib.hid cX
     have HLK := Lib.hid hlk
     clear hU hD2 hV2 hok cX hlk
     have hS3 : wd.drew.cell? ⟨wr.heap.size, 0, none⟩ = some (.int .i64 t.1) ∧ wd.drew.cell? ⟨wr.heap.size, 1, none⟩ = some (.int .i64 t.2.1) ∧ wd.drew.cell? ⟨wr.heap.size, 2, none⟩ = some (.int .i64 t.2.2) ∧ wd.drew.cell? ⟨pb, 5, none⟩ = some (.map (some nb)) ∧ Below wd.heap.size wd wd.drew := ⟨dt0, dt1, dt2, dn, (Below.refl _ _).drew⟩
     go_region_held3 (fun w' => w'.cell? ⟨wr.heap.size, 0, none⟩ = some (.int .i64 t.1) ∧ w'.cell? ⟨wr.heap.size, 1, none⟩ = some (.int .i64 t.2.1) ∧ w'.cell? ⟨wr.heap.size, 2, none⟩ = some (.int .i64 t.2.2) ∧ w'.cell? ⟨pb, 5, none⟩ = some (.map (some nb)) ∧ Below wd.heap.size wd w')
      (first
       | with_reducible exact hS3
       | with_reducible assumption
       | (go_split_ands; exact ⟨sd ‹_› hbc, sd ‹_› hbc, sd ‹_› hbc, sd ‹_› hbc, stay_b ‹_› hbc⟩))
      (first
       | ((with_reducible refine (CX.out _).mono ?_); rintro r wc2 ⟨he, hbc⟩; subst he; have hl2 := HLK.out wc2 (stay_b (Below.refl wd.heap.size wd).drew hbc)))
     rename_i hSS
     obtain ⟨_, _, _, _, hb6⟩ := hSS
     have hbf := stay_b hbn5 hb6
     have hRR : R = (D1 && D2) := by rw [HRES.out, ← HD1.out, ← HD2.out]
     subst hRR
     cases D1
     all_goals
      go_wp2
      go_ret
      exact ⟨rfl, stay_b hbw hbf⟩
   ·obtain rfl : j = N.length := by omega
    have hrf : R = false := HFIN.out (by have := hall.out; rw [List.take_of_length_le (Nat.le_refl _)] at this; exact this)
    subst hrf
    go_wp2
    go_ret
    exact ⟨rfl, stay_b hbw hbr⟩
end
end Go.Proofs.YtpkjekedgodccaaGreatDoor
