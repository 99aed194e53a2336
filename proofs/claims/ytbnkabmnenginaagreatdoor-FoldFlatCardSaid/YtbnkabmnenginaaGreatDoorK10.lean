/- Structs of numbers as keys of maps. Papers as they lie; their maps.. -/
import Derived.Test.YtbnkabmnenginaaGreatDoorK01
import Derived.Maps.OwnSet
import Derived.DeepKeys4
import Derived.Test.YtbnkabmnenginaaGreatDoorK09
namespace Go.Proofs.YtbnkabmnenginaaGreatDoor
set_option linter.unusedSimpArgs false
set_option linter.unusedVariables false
section
section
open Go.RowKit Go.Maps
def inR (z : Int) : Prop := -9223372036854775808 ≤ z ∧ z ≤ 9223372036854775807
theorem wf_of {z : Int} (h : inR z) : (Lit.int .i64 z).wf = true := by
 unfold inR at h
 simp [Lit.wf, IntKind.min, IntKind.max, IntKind.signed, IntKind.bits]
 omega
theorem typesz : ∃ d, Tryz.prog.types.size = d + 3 := ⟨Tryz.prog.types.size - 3, by kernel_rfl⟩
theorem laidO : laidOutB Tryz.prog = true := by kernel_rfl
theorem kl_int (d : Nat) {x : Int} (h : inR x) : Tryz.prog.keyLits (d + 1) 3 [.int .i64 x] = some [.int .i64 x] := by
 simp [Program.keyLits, Tryz.underlying3, wf_of h]
theorem lawT : WideMaps.KeyLaw Tryz.prog 59 := deep_law_laid laidO (m := 3) (by omega) (of_decide_eq_true (by kernel_rfl)) (by kernel_rfl) (by kernel_rfl)
theorem lawE : WideMaps.KeyLaw Tryz.prog 50 := deep_law_laid laidO (m := 3) (by omega) (of_decide_eq_true (by kernel_rfl)) (by kernel_rfl) (by kernel_rfl)
theorem cT : Tryz.prog.cellsOf 59 = 3 := by kernel_rfl
theorem cI : Tryz.prog.cellsOf 3 = 1 := by kernel_rfl
theorem cE : Tryz.prog.cellsOf 50 = 4 := by kernel_rfl
theorem cP : Tryz.prog.cellsOf 48 = 2 := by kernel_rfl
theorem ktT : Tryz.prog.keyType 59 = true := by kernel_rfl
theorem ktE : Tryz.prog.keyType 50 = true := by kernel_rfl
theorem kl_T (d : Nat) {x y k : Int} (hx : inR x) (hy : inR y) (hk : inR k) : Tryz.prog.keyLits (d + 2) 59 [.int .i64 x, .int .i64 y, .int .i64 k] = some [.int .i64 x, .int .i64 y, .int .i64 k] := by
 unfold Program.keyLits
 rw [Tryz.underlying59]
 simp [cT, cI, kl_int _ hx, kl_int _ hy, kl_int _ hk]
theorem kl_P (d : Nat) {x y : Int} (hx : inR x) (hy : inR y) : Tryz.prog.keyLits (d + 2) 48 [.int .i64 x, .int .i64 y] = some [.int .i64 x, .int .i64 y] := by
 unfold Program.keyLits
 rw [Tryz.underlying48]
 simp [cP, cI, kl_int _ hx, kl_int _ hy]
theorem kl_E (d : Nat) {a b c e : Int} (ha : inR a) (hb : inR b) (hc : inR c) (he : inR e) : Tryz.prog.keyLits (d + 3) 50 [.int .i64 a, .int .i64 b, .int .i64 c, .int .i64 e] = some [.int .i64 a, .int .i64 b, .int .i64 c, .int .i64 e] := by
 unfold Program.keyLits
 rw [Tryz.underlying50]
 simp [cE, cP, kl_P _ ha hb, kl_P _ hc he]
theorem keyOf_T {x y k : Int} (hx : inR x) (hy : inR y) (hk : inR k) : ∃ l, keyOf Tryz.prog 59 (.agg #[.int .i64 x, .int .i64 y, .int .i64 k]) = some l := by
 obtain ⟨d, hd⟩ := typesz
 unfold keyOf
 have h := kl_T (d + 2) hx hy hk
 simp [Tryz.underlying59, ktT, Value.formed, cT, hd, Value.cells, h]
theorem keyOf_E {a b c e : Int} (ha : inR a) (hb : inR b) (hc : inR c) (he : inR e) : ∃ l, keyOf Tryz.prog 50 (.agg #[.int .i64 a, .int .i64 b, .int .i64 c, .int .i64 e]) = some l := by
 obtain ⟨d, hd⟩ := typesz
 unfold keyOf
 have h := kl_E (d + 1) ha hb hc he
 simp [Tryz.underlying50, ktE, Value.formed, cE, hd, Value.cells, h]
end
section
open Go.RowKit Go.Maps
structure KE (α : Type) where
 K : TypeId
 T : TypeId
 enc : α → Value
 ok : α → Prop
 law : Keyed Tryz.prog K
 ht : Tryz.prog.underlying T = some (.map K 3)
 key : ∀ a, ok a → ∃ l, keyOf Tryz.prog K (enc a) = some l
 inj : ∀ a b, enc a = enc b → a = b
theorem lit_inj {a b : Int} (h : (DataW.lit (.int .i64 a) : DataW Unit) = .lit (.int .i64 b)) : a = b := by
 injection h with h
 injection h with _ h
theorem zeroInt (w : World) : (zeroValue 3).run Tryz.prog w = .ok (.int .i64 0) w := by kernel_rfl
section
variable {α : Type}
def MapI (k : KE α) (w : World) (b n : Nat) (f : α → Option Int) : Prop :=
 ∃ D : DataW Unit, w.ownsMap Tryz.prog k.K (plainElem Tryz.prog 3) b n D ∧
  (∀ a l, k.ok a → keyOf Tryz.prog k.K (k.enc a) = some l → Maps.has D l = (f a).isSome ∧ D.atKey l (.lit (.int .i64 0)) = .lit (.int .i64 ((f a).getD 0))) ∧
  ∃ ks : List α, ks.Nodup ∧ (∀ a, (f a).isSome = true ↔ a ∈ ks) ∧ (∀ a ∈ ks, k.ok a) ∧ Maps.size D = ks.length
variable {k : KE α} {w w' : World} {b n : Nat} {f : α → Option Int}
theorem MapI.made (k : KE α) (w : World) : MapI k (w.alloc (.map #[] 0)) w.heap.size 0 (fun _ => none) :=
 ⟨.map [], World.ownsMap_made _ _ _ _, fun a l _ _ => ⟨rfl, rfl⟩, [], List.nodup_nil, by simp, by simp, rfl⟩
theorem MapI.heap (h : MapI k w b n f) (hb : w'.heap[b]? = w.heap[b]?) : MapI k w' b n f := by
 obtain ⟨D, ⟨es, c, h1, h2⟩, h3⟩ := h
 exact ⟨D, ⟨es, c, hb.trans h1, h2⟩, h3⟩
theorem MapI.lt (h : MapI k w b n f) : b < w.heap.size := by obtain ⟨D, h1, _⟩ := h; exact h1.lt
theorem MapI.below (h : MapI k w b n f) {B : Nat} (hb : Below B w w') (hB : b < B) : MapI k w' b n f := h.heap (hb.block b hB)
theorem MapI.stay (h : MapI k w b n f) (hb : Below w.heap.size w w') : MapI k w' b n f := h.below hb h.lt
theorem MapI.mono (h : MapI k w b n f) {n' : Nat} (hn : n ≤ n') : MapI k w b n' f := by obtain ⟨D, h1, h2⟩ := h; exact ⟨D, h1.mono hn, h2⟩
theorem MapI.alloc (h : MapI k w b n f) (o : Obj) : MapI k (w.alloc o) b n f := h.stay (below_new w o)
theorem MapI.drew (h : MapI k w b n f) : MapI k w.drew b n f := h
theorem MapI.look (h : MapI k w b n f) {a : α} (ha : k.ok a) : (Instr.lookup k.T (.map (some b)) (k.enc a) true).run Tryz.prog w = .ok (.tuple #[.int .i64 ((f a).getD 0), .bool (f a).isSome]) w := by
 obtain ⟨D, h1, h2, _⟩ := h
 obtain ⟨l, hl⟩ := k.key a ha
 obtain ⟨v, ps, hrun, hv⟩ := h1.look_ok k.law k.ht (zeroInt w) (plainElem_int Tryz.underlying3 (by decide)) hl
 obtain ⟨c, rfl, hc, hwc⟩ := plainElem_int_inv Tryz.underlying3 hv
 obtain ⟨e1, e2⟩ := h2 a l ha hl
 have hc := congrArg Prod.fst hc
 rw [e2] at hc
 have hc2 : (f a).getD 0 = c := by
  have := lit_inj hc
  exact this
 rw [hrun, e1, hc2]
theorem MapI.look1 (h : MapI k w b n f) {a : α} (ha : k.ok a) : (Instr.lookup k.T (.map (some b)) (k.enc a) false).run Tryz.prog w = .ok (.int .i64 ((f a).getD 0)) w := by
 obtain ⟨D, h1, h2, _⟩ := h
 obtain ⟨l, hl⟩ := k.key a ha
 obtain ⟨c, hrun, hc, hwc⟩ := h1.lookup_int k.law k.ht Tryz.underlying3 (zeroInt w) hl
 obtain ⟨e1, e2⟩ := h2 a l ha hl
 rw [e2] at hc
 rw [hrun, lit_inj hc]
def setF [DecidableEq α] (f : α → Option Int) (a : α) (v : Int) : α → Option Int := fun x => if x = a then some v else f x
theorem MapI.put_of [DecidableEq α] {D : DataW Unit} {l : Lit} {a : α} {v : Int} (ha : k.ok a) (hl : keyOf Tryz.prog k.K (k.enc a) = some l) (h : w.ownsMap Tryz.prog k.K (plainElem Tryz.prog 3) b n D)
  (h2 : ∀ a l, k.ok a → keyOf Tryz.prog k.K (k.enc a) = some l → Maps.has D l = (f a).isSome ∧ D.atKey l (.lit (.int .i64 0)) = .lit (.int .i64 ((f a).getD 0)))
  (h3 : ∃ ks : List α, ks.Nodup ∧ (∀ a, (f a).isSome = true ↔ a ∈ ks) ∧ (∀ a ∈ ks, k.ok a) ∧ Maps.size D = ks.length)
  {m : Nat} (hw : w'.ownsMap Tryz.prog k.K (plainElem Tryz.prog 3) b m (D.put l (.lit (.int .i64 v)))) : MapI k w' b m (setF f a v) := by
 have ht := h.tidy k.law
 have hkl := k.law.key hl
 refine ⟨_, hw, ?_, ?_⟩
 ·intro x lx hx hlx
  unfold setF
  by_cases hxa : x = a
  ·subst hxa
   rw [hl] at hlx
   cases hlx
   rw [if_pos rfl, has_put_same ht.isMap hkl, atKey_put_same ht.isMap hkl]
   exact ⟨rfl, rfl⟩
  ·have hne : lx ≠ l := fun e => hxa (k.inj _ _ (k.law.inj (e ▸ hlx) hl))
   rw [if_neg hxa, has_put_other hne, atKey_put_other hne]
   exact h2 x lx hx hlx
 ·obtain ⟨ks, k1, k2, k3, k4⟩ := h3
  have hs := size_put (k := l) ht (.lit (.int .i64 v))
  rw [(h2 a l ha hl).1] at hs
  by_cases hf : (f a).isSome = true
  ·rw [if_pos hf] at hs
   refine ⟨ks, k1, fun x => ?_, k3, by rw [hs, k4]⟩
   unfold setF
   by_cases hxa : x = a
   ·subst hxa
    rw [if_pos rfl]
    exact ⟨fun _ => (k2 _).1 hf, fun _ => rfl⟩
   ·rw [if_neg hxa]
    exact k2 x
  ·rw [if_neg hf] at hs
   have hna : a ∉ ks := fun h => hf ((k2 a).2 h)
   refine ⟨a :: ks, List.nodup_cons.2 ⟨hna, k1⟩, fun x => ?_, ?_, by rw [hs, k4]; rfl⟩
   ·unfold setF
    by_cases hxa : x = a
    ·subst hxa
     simp
    ·rw [if_neg hxa, k2 x]
     simp [hxa]
   ·intro x hx
    rcases List.mem_cons.1 hx with rfl | hx
    ·exact ha
    ·exact k3 x hx
theorem MapI.put [DecidableEq α] (h : MapI k w b n f) (hn : n < maxLen) {a : α} (ha : k.ok a) {v : Int} (hv : (Lit.int .i64 v).wf = true) :
  ∃ w', (Instr.mapUpdate k.T (.map (some b)) (k.enc a) (.int .i64 v)).run Tryz.prog w = .ok () w' ∧ MapI k w' b (n + 1) (setF f a v) ∧ w.grownBy w' (some b) := by
 obtain ⟨D, h1, h2, h3⟩ := h
 obtain ⟨l, hl⟩ := k.key a ha
 obtain ⟨w', e1, e2, e3⟩ := h1.update k.law k.ht hn hl (plainElem_int Tryz.underlying3 hv)
 exact ⟨w', e1, MapI.put_of ha hl h1 h2 h3 e2, e3⟩
theorem wpList_putI [DecidableEq α] {ops : Array Oper} {rest : List Oper} {o : Oper} {a : Act} {Q : Exit → Act → World → Prop} (hg : o.guard = none) (m x v : Operand) (hop : o.op = Op.mapUpdate k.T m x v)
  (h : MapI k w b n f) (hm : a.eval m = .map (some b)) (hn : n < maxLen) (c : α) (hc : k.ok c) (z : Int) (hx : a.eval x = k.enc c) (hv : a.eval v = .int .i64 z) (hz : (Lit.int .i64 z).wf = true)
  (hK : ∀ w', MapI k w' b (n + 1) (setF f c z) → w.grownBy w' (some b) → wpList Tryz.prog ops Q rest (a.put o.dst undef) w') : wpList Tryz.prog ops Q (o :: rest) a w := by
 obtain ⟨D, h1, h2, h3⟩ := h
 obtain ⟨l, hl⟩ := k.key c hc
 exact wpList_mapUpdate_own w hg m x v k.T hop k.K 3 k.law k.ht _ b n D hm h1 hn _ _ l hx hv hl _ [] (plainElem_int Tryz.underlying3 hz) (fun w' e2 e3 => hK w' (MapI.put_of hc hl h1 h2 h3 e2) e3)
theorem MapI.len (h : MapI k w b n f) : ∃ ks : List α, ks.Nodup ∧ (∀ a, (f a).isSome = true ↔ a ∈ ks) ∧ ∀ ty, (Builtin.len_ #[k.T] ty #[.map (some b)]).run Tryz.prog w = .ok (.int .i64 ks.length) w := by
 obtain ⟨D, h1, h2, ks, k1, k2, k3, k4⟩ := h
 exact ⟨ks, k1, k2, fun ty => by rw [h1.len k.ht ty, k4]⟩
end
end
end
section
open Go.RowKit Go.Maps
def kT : KE T3 where
 K := 59
 T := 68
 enc t := aggT3 t
 ok t := inR t.1 ∧ inR t.2.1 ∧ inR t.2.2
 law := Keyed.of_law lawT
 ht := Tryz.underlying68
 key a h := keyOf_T h.1 h.2.1 h.2.2
 inj a b h := by
  obtain ⟨a1, a2, a3⟩ := a
  obtain ⟨b1, b2, b3⟩ := b
  simp at h
  simp [h]
def kE : KE E4 where
 K := 50
 T := 69
 enc t := aggE t
 ok t := inR t.1 ∧ inR t.2.1 ∧ inR t.2.2.1 ∧ inR t.2.2.2
 law := Keyed.of_law lawE
 ht := Tryz.underlying69
 key a h := keyOf_E h.1 h.2.1 h.2.2.1 h.2.2.2
 inj a b h := by
  obtain ⟨a1, a2, a3, a4⟩ := a
  obtain ⟨b1, b2, b3, b4⟩ := b
  simp at h
  simp [h]
def numF (L : List T3) (t : T3) : Option Int := if t ∈ L then some ((L.idxOf t : Nat) : Int) else none
theorem numF_some (L : List T3) (t : T3) : (numF L t).isSome = decide (t ∈ L) := by
 unfold numF
 split <;> simp_all
theorem numF_nil : numF [] = fun _ => none := by funext t; simp [numF]
theorem numF_snoc {L : List T3} {t : T3} (h : t ∉ L) : setF (numF L) t (L.length : Int) = numF (L ++ [t]) := by
 funext x
 unfold setF numF
 by_cases hx : x = t
 ·subst hx
  rw [if_pos rfl, if_pos (by simp), List.idxOf_append, if_neg h]
  simp
 ·rw [if_neg hx]
  by_cases hm : x ∈ L
  ·rw [if_pos hm, if_pos (by simp [hm]), List.idxOf_append, if_pos hm]
  ·rw [if_neg hm, if_neg (by simp [hm, hx])]
structure PapI (w : World) (pb nb kb : Nat) (W H : Nat) (vm vc vt : Value) (L : List T3) (mn mk : Nat) (fk : E4 → Option Int) : Prop where
 blk : w.heap[pb]? = some (.cells #[.int .i64 W, .int .i64 H, vm, vc, vt, .map (some nb), .map (some kb)] 71 (0, 0))
 num : MapI kT w nb mn (numF L)
 kin : MapI kE w kb mk fk
section
variable {w w' : World} {pb nb kb W H : Nat} {vm vc vt : Value} {L : List T3} {mn mk : Nat} {fk : E4 → Option Int}
theorem PapI.below (h : PapI w pb nb kb W H vm vc vt L mn mk fk) (hb : Below w.heap.size w w') : PapI w' pb nb kb W H vm vc vt L mn mk fk :=
 ⟨blk_below h.blk hb (blk_lt h.blk), h.num.stay hb, h.kin.stay hb⟩
theorem PapI.c0 (h : PapI w pb nb kb W H vm vc vt L mn mk fk) : w.cell? ⟨pb, 0, none⟩ = some (.int .i64 W) := by rw [cell_of_blk h.blk 0]; rfl
theorem PapI.c1 (h : PapI w pb nb kb W H vm vc vt L mn mk fk) : w.cell? ⟨pb, 1, none⟩ = some (.int .i64 H) := by rw [cell_of_blk h.blk 1]; rfl
theorem PapI.c4 (h : PapI w pb nb kb W H vm vc vt L mn mk fk) : w.cell? ⟨pb, 4, none⟩ = some vt := by rw [cell_of_blk h.blk 4]; rfl
theorem PapI.c5 (h : PapI w pb nb kb W H vm vc vt L mn mk fk) : w.cell? ⟨pb, 5, none⟩ = some (.map (some nb)) := by rw [cell_of_blk h.blk 5]; rfl
theorem PapI.c6 (h : PapI w pb nb kb W H vm vc vt L mn mk fk) : w.cell? ⟨pb, 6, none⟩ = some (.map (some kb)) := by rw [cell_of_blk h.blk 6]; rfl
theorem PapI.look (h : PapI w pb nb kb W H vm vc vt L mn mk fk) {t : T3} (ht : inR t.1 ∧ inR t.2.1 ∧ inR t.2.2) :
  (Instr.lookup 68 (.map (some nb)) (aggT3 t) true).run Tryz.prog w = .ok (.tuple #[.int .i64 ((numF L t).getD 0), .bool (decide (t ∈ L))]) w := by
 have := h.num.look (a := t) ht
 rw [numF_some] at this
 exact this
end
end
end Go.Proofs.YtbnkabmnenginaaGreatDoor
