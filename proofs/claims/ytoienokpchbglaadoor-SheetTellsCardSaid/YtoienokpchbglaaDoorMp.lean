/- Structs of numbers as keys of maps. Maps of numbers that the call makes, keyed by structs of numbers, told as plain functions. -/
import Derived.Test.YtoienokpchbglaaDoorKit
import Derived.Maps.OwnSet
import Derived.DeepKeys4
import Derived.Test.YtoienokpchbglaaDoorGr1
namespace Go.Proofs.YtoienokpchbglaaDoor
set_option linter.unusedSimpArgs false
set_option linter.unusedVariables false
section
open Go.RowKit Go.Maps

def inR (z : Int) : Prop := -9223372036854775808 ≤ z ∧ z ≤ 9223372036854775807
theorem wf_of {z : Int} (h : inR z) : (Lit.int .i64 z).wf = true := by
  unfold inR at h
  simp [Lit.wf, IntKind.min, IntKind.max, IntKind.signed, IntKind.bits]
  omega
theorem typesz : ∃ d, Tryd.prog.types.size = d + 3 := ⟨Tryd.prog.types.size - 3, by kernel_rfl⟩
theorem laidO : laidOutB Tryd.prog = true := by kernel_rfl
theorem kl_int (d : Nat) {x : Int} (h : inR x) : Tryd.prog.keyLits (d + 1) 3 [.int .i64 x] = some [.int .i64 x] := by
  simp [Program.keyLits, Tryd.underlying3, wf_of h]
theorem lawT : WideMaps.KeyLaw Tryd.prog 93 := deep_law_laid laidO (m := 3) (by omega) (of_decide_eq_true (by kernel_rfl)) (by kernel_rfl) (by kernel_rfl)
theorem lawE : WideMaps.KeyLaw Tryd.prog 86 := deep_law_laid laidO (m := 3) (by omega) (of_decide_eq_true (by kernel_rfl)) (by kernel_rfl) (by kernel_rfl)
theorem lawP : WideMaps.KeyLaw Tryd.prog 49 := deep_law_laid laidO (m := 3) (by omega) (of_decide_eq_true (by kernel_rfl)) (by kernel_rfl) (by kernel_rfl)
theorem isT : ∃ fs, Tryd.prog.underlying 93 = some (.struct fs) := ⟨_, Tryd.underlying93⟩
theorem cT : Tryd.prog.cellsOf 93 = 3 := by kernel_rfl
theorem cI : Tryd.prog.cellsOf 3 = 1 := by kernel_rfl
theorem cE : Tryd.prog.cellsOf 86 = 4 := by kernel_rfl
theorem cP : Tryd.prog.cellsOf 49 = 2 := by kernel_rfl
theorem ktT : Tryd.prog.keyType 93 = true := by kernel_rfl
theorem ktE : Tryd.prog.keyType 86 = true := by kernel_rfl
theorem ktP : Tryd.prog.keyType 49 = true := by kernel_rfl
theorem kl_T (d : Nat) {x y k : Int} (hx : inR x) (hy : inR y) (hk : inR k) : Tryd.prog.keyLits (d + 2) 93 [.int .i64 x, .int .i64 y, .int .i64 k] = some [.int .i64 x, .int .i64 y, .int .i64 k] := by
  unfold Program.keyLits
  rw [Tryd.underlying93]
  simp [cT, cI, kl_int _ hx, kl_int _ hy, kl_int _ hk]
theorem kl_P (d : Nat) {x y : Int} (hx : inR x) (hy : inR y) : Tryd.prog.keyLits (d + 2) 49 [.int .i64 x, .int .i64 y] = some [.int .i64 x, .int .i64 y] := by
  unfold Program.keyLits
  rw [Tryd.underlying49]
  simp [cP, cI, kl_int _ hx, kl_int _ hy]
theorem kl_E (d : Nat) {a b c e : Int} (ha : inR a) (hb : inR b) (hc : inR c) (he : inR e) : Tryd.prog.keyLits (d + 3) 86 [.int .i64 a, .int .i64 b, .int .i64 c, .int .i64 e] = some [.int .i64 a, .int .i64 b, .int .i64 c, .int .i64 e] := by
  unfold Program.keyLits
  rw [Tryd.underlying86]
  simp [cE, cP, kl_P _ ha hb, kl_P _ hc he]
theorem keyOf_T {x y k : Int} (hx : inR x) (hy : inR y) (hk : inR k) : ∃ l, keyOf Tryd.prog 93 (.agg #[.int .i64 x, .int .i64 y, .int .i64 k]) = some l := by
  obtain ⟨d, hd⟩ := typesz
  unfold keyOf
  have h := kl_T (d + 2) hx hy hk
  simp [Tryd.underlying93, ktT, Value.formed, cT, hd, Value.cells, h]
theorem keyOf_E {a b c e : Int} (ha : inR a) (hb : inR b) (hc : inR c) (he : inR e) : ∃ l, keyOf Tryd.prog 86 (.agg #[.int .i64 a, .int .i64 b, .int .i64 c, .int .i64 e]) = some l := by
  obtain ⟨d, hd⟩ := typesz
  unfold keyOf
  have h := kl_E (d + 1) ha hb hc he
  simp [Tryd.underlying86, ktE, Value.formed, cE, hd, Value.cells, h]
theorem keyOf_P {a b : Int} (ha : inR a) (hb : inR b) : ∃ l, keyOf Tryd.prog 49 (.agg #[.int .i64 a, .int .i64 b]) = some l := by
  obtain ⟨d, hd⟩ := typesz
  unfold keyOf
  have h := kl_P (d + 2) ha hb
  simp [Tryd.underlying49, ktP, Value.formed, cP, hd, Value.cells, h]
end
section
open Go.RowKit Go.Maps

/-- A type of keys: how one is written, and which may be. -/
structure KE (α : Type) where
  K : TypeId
  T : TypeId
  enc : α → Value
  ok : α → Prop
  law : Keyed Tryd.prog K
  ht : Tryd.prog.underlying T = some (.map K 3)
  key : ∀ a, ok a → ∃ l, keyOf Tryd.prog K (enc a) = some l
  inj : ∀ a b, enc a = enc b → a = b
theorem lit_inj {a b : Int} (h : (DataW.lit (.int .i64 a) : DataW Unit) = .lit (.int .i64 b)) : a = b := by
  injection h with h
  injection h with _ h
theorem zeroInt (w : World) : (zeroValue 3).run Tryd.prog w = .ok (.int .i64 0) w := by kernel_rfl
section
variable {α : Type}
/-- Block b is a map that holds f; its keys are those of a list without repeats. -/
def MapI (k : KE α) (w : World) (b n : Nat) (f : α → Option Int) : Prop :=
  ∃ D : DataW Unit, w.ownsMap Tryd.prog k.K (plainElem Tryd.prog 3) b n D ∧
    (∀ a l, k.ok a → keyOf Tryd.prog k.K (k.enc a) = some l → Maps.has D l = (f a).isSome ∧ D.atKey l (.lit (.int .i64 0)) = .lit (.int .i64 ((f a).getD 0))) ∧
    ∃ ks : List α, ks.Nodup ∧ (∀ a, (f a).isSome = true ↔ a ∈ ks) ∧ (∀ a ∈ ks, k.ok a) ∧ Maps.size D = ks.length
variable {k : KE α} {w w' : World} {b n : Nat} {f : α → Option Int}
theorem MapI.made (k : KE α) (w : World) : MapI k (w.alloc (.map #[] 0)) w.heap.size 0 (fun _ => none) :=
  ⟨.map [], World.ownsMap_made _ _ _ _, fun a l _ _ => ⟨rfl, rfl⟩, [], List.nodup_nil, by simp, by simp, rfl⟩
theorem MapI.heap (h : MapI k w b n f) (hb : w'.heap[b]? = w.heap[b]?) : MapI k w' b n f := by
  obtain ⟨D, ⟨es, c, h1, h2⟩, h3⟩ := h
  exact ⟨D, ⟨es, c, hb.trans h1, h2⟩, h3⟩
theorem MapI.lt (h : MapI k w b n f) : b < w.heap.size := by obtain ⟨D, h1, _⟩ := h; exact h1.lt
theorem MapI.below (h : MapI k w b n f) {B : Nat} (hb : Below B w w') (hB : b < B) : MapI k w' b n f := h.heap (hb.block b hB)
theorem MapI.stay (h : MapI k w b n f) (hb : Below w.heap.size w w') : MapI k w' b n f := h.below hb h.lt
theorem MapI.mono (h : MapI k w b n f) {n' : Nat} (hn : n ≤ n') : MapI k w b n' f := by obtain ⟨D, h1, h2⟩ := h; exact ⟨D, h1.mono hn, h2⟩
theorem MapI.alloc (h : MapI k w b n f) (o : Obj) : MapI k (w.alloc o) b n f := h.stay (below_new w o)
theorem MapI.drew (h : MapI k w b n f) : MapI k w.drew b n f := h
theorem MapI.look (h : MapI k w b n f) {a : α} (ha : k.ok a) : (Instr.lookup k.T (.map (some b)) (k.enc a) true).run Tryd.prog w = .ok (.tuple #[.int .i64 ((f a).getD 0), .bool (f a).isSome]) w := by
  obtain ⟨D, h1, h2, _⟩ := h
  obtain ⟨l, hl⟩ := k.key a ha
  obtain ⟨v, ps, hrun, hv⟩ := h1.look_ok k.law k.ht (zeroInt w) (plainElem_int Tryd.underlying3 (by decide)) hl
  obtain ⟨c, rfl, hc, hwc⟩ := plainElem_int_inv Tryd.underlying3 hv
  obtain ⟨e1, e2⟩ := h2 a l ha hl
  have hc := congrArg Prod.fst hc
  rw [e2] at hc
  have hc2 : (f a).getD 0 = c := by
    have := lit_inj hc
    exact this
  rw [hrun, e1, hc2]
theorem MapI.look1 (h : MapI k w b n f) {a : α} (ha : k.ok a) : (Instr.lookup k.T (.map (some b)) (k.enc a) false).run Tryd.prog w = .ok (.int .i64 ((f a).getD 0)) w := by
  obtain ⟨D, h1, h2, _⟩ := h
  obtain ⟨l, hl⟩ := k.key a ha
  obtain ⟨c, hrun, hc, hwc⟩ := h1.lookup_int k.law k.ht Tryd.underlying3 (zeroInt w) hl
  obtain ⟨e1, e2⟩ := h2 a l ha hl
  rw [e2] at hc
  rw [hrun, lit_inj hc]
/-- f with another value at a -/
def setF [DecidableEq α] (f : α → Option Int) (a : α) (v : Int) : α → Option Int := fun x => if x = a then some v else f x
theorem MapI.put_of [DecidableEq α] {D : DataW Unit} {l : Lit} {a : α} {v : Int} (ha : k.ok a) (hl : keyOf Tryd.prog k.K (k.enc a) = some l) (h : w.ownsMap Tryd.prog k.K (plainElem Tryd.prog 3) b n D)
    (h2 : ∀ a l, k.ok a → keyOf Tryd.prog k.K (k.enc a) = some l → Maps.has D l = (f a).isSome ∧ D.atKey l (.lit (.int .i64 0)) = .lit (.int .i64 ((f a).getD 0)))
    (h3 : ∃ ks : List α, ks.Nodup ∧ (∀ a, (f a).isSome = true ↔ a ∈ ks) ∧ (∀ a ∈ ks, k.ok a) ∧ Maps.size D = ks.length)
    {m : Nat} (hw : w'.ownsMap Tryd.prog k.K (plainElem Tryd.prog 3) b m (D.put l (.lit (.int .i64 v)))) : MapI k w' b m (setF f a v) := by
  have ht := h.tidy k.law
  have hkl := k.law.key hl
  refine ⟨_, hw, ?_, ?_⟩
  · intro x lx hx hlx
    unfold setF
    by_cases hxa : x = a
    · subst hxa
      rw [hl] at hlx
      cases hlx
      rw [if_pos rfl, has_put_same ht.isMap hkl, atKey_put_same ht.isMap hkl]
      exact ⟨rfl, rfl⟩
    · have hne : lx ≠ l := fun e => hxa (k.inj _ _ (k.law.inj (e ▸ hlx) hl))
      rw [if_neg hxa, has_put_other hne, atKey_put_other hne]
      exact h2 x lx hx hlx
  · obtain ⟨ks, k1, k2, k3, k4⟩ := h3
    have hs := size_put (k := l) ht (.lit (.int .i64 v))
    rw [(h2 a l ha hl).1] at hs
    by_cases hf : (f a).isSome = true
    · rw [if_pos hf] at hs
      refine ⟨ks, k1, fun x => ?_, k3, by rw [hs, k4]⟩
      unfold setF
      by_cases hxa : x = a
      · subst hxa
        rw [if_pos rfl]
        exact ⟨fun _ => (k2 _).1 hf, fun _ => rfl⟩
      · rw [if_neg hxa]
        exact k2 x
    · rw [if_neg hf] at hs
      have hna : a ∉ ks := fun h => hf ((k2 a).2 h)
      refine ⟨a :: ks, List.nodup_cons.2 ⟨hna, k1⟩, fun x => ?_, ?_, by rw [hs, k4]; rfl⟩
      · unfold setF
        by_cases hxa : x = a
        · subst hxa
          simp
        · rw [if_neg hxa, k2 x]
          simp [hxa]
      · intro x hx
        rcases List.mem_cons.1 hx with rfl | hx
        · exact ha
        · exact k3 x hx
theorem MapI.put [DecidableEq α] (h : MapI k w b n f) (hn : n < maxLen) {a : α} (ha : k.ok a) {v : Int} (hv : (Lit.int .i64 v).wf = true) :
    ∃ w', (Instr.mapUpdate k.T (.map (some b)) (k.enc a) (.int .i64 v)).run Tryd.prog w = .ok () w' ∧ MapI k w' b (n + 1) (setF f a v) ∧ w.grownBy w' (some b) := by
  obtain ⟨D, h1, h2, h3⟩ := h
  obtain ⟨l, hl⟩ := k.key a ha
  obtain ⟨w', e1, e2, e3⟩ := h1.update k.law k.ht hn hl (plainElem_int Tryd.underlying3 hv)
  exact ⟨w', e1, MapI.put_of ha hl h1 h2 h3 e2, e3⟩
theorem wpList_putI [DecidableEq α] {ops : Array Oper} {rest : List Oper} {o : Oper} {a : Act} {Q : Exit → Act → World → Prop} (hg : o.guard = none) (m x v : Operand) (hop : o.op = Op.mapUpdate k.T m x v)
    (h : MapI k w b n f) (hm : a.eval m = .map (some b)) (hn : n < maxLen) (c : α) (hc : k.ok c) (z : Int) (hx : a.eval x = k.enc c) (hv : a.eval v = .int .i64 z) (hz : (Lit.int .i64 z).wf = true)
    (hK : ∀ w', MapI k w' b (n + 1) (setF f c z) → w.grownBy w' (some b) → wpList Tryd.prog ops Q rest (a.put o.dst undef) w') : wpList Tryd.prog ops Q (o :: rest) a w := by
  obtain ⟨D, h1, h2, h3⟩ := h
  obtain ⟨l, hl⟩ := k.key c hc
  exact wpList_mapUpdate_own w hg m x v k.T hop k.K 3 k.law k.ht _ b n D hm h1 hn _ _ l hx hv hl _ [] (plainElem_int Tryd.underlying3 hz) (fun w' e2 e3 => hK w' (MapI.put_of hc hl h1 h2 h3 e2) e3)
theorem MapI.len (h : MapI k w b n f) : ∃ ks : List α, ks.Nodup ∧ (∀ a, (f a).isSome = true ↔ a ∈ ks) ∧ ∀ ty, (Builtin.len_ #[k.T] ty #[.map (some b)]).run Tryd.prog w = .ok (.int .i64 ks.length) w := by
  obtain ⟨D, h1, h2, ks, k1, k2, k3, k4⟩ := h
  exact ⟨ks, k1, k2, fun ty => by rw [h1.len k.ht ty, k4]⟩
end
end
end Go.Proofs.YtoienokpchbglaaDoor
