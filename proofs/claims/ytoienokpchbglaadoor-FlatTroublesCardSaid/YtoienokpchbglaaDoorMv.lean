/- Maps of any values that the call makes, keyed by structs of numbers, told as plain functions; the keys as they come in a range. -/
import Derived.Test.YtoienokpchbglaaDoorMp
import Derived.Sort.MapsRangeIn
namespace Go.Proofs.YtoienokpchbglaaDoor
set_option linter.unusedSimpArgs false
set_option linter.unusedVariables false
open Go.RowKit Go.Maps

/-- A type of keys: how one is written, and which may be. -/
structure KD (α : Type) where
  K : TypeId
  enc : α → Value
  ok : α → Prop
  law : Keyed Tryd.prog K
  key : ∀ a, ok a → ∃ l, keyOf Tryd.prog K (enc a) = some l
  inj : ∀ a b, enc a = enc b → a = b
def KE.kd {α : Type} (k : KE α) : KD α := ⟨k.K, k.enc, k.ok, k.law, k.key, k.inj⟩
/-- .. with a type of values. -/
structure KV (α β : Type) extends KD α where
  T : TypeId
  E : TypeId
  val : β → Value
  z : β
  ht : Tryd.prog.underlying T = some (.map K E)
  hz : ∀ w, (zeroValue E).run Tryd.prog w = .ok (val z) w
/-- every value reads as itself -/
abbrev rdV (v : Value) : Option (DataW Value × List MemPlace) := some (.held v, [])
/-- which keys a datum has -/
def KeysD {α H : Type} (k : KD α) (D : DataW H) (S : α → Prop) : Prop :=
  (∀ a l, k.ok a → keyOf Tryd.prog k.K (k.enc a) = some l → (Maps.has D l = true ↔ S a)) ∧ ∀ l, Maps.has D l = true → ∃ a, k.ok a ∧ keyOf Tryd.prog k.K (k.enc a) = some l
section
variable {α β : Type}
/-- what the datum says -/
structure DatV (k : KV α β) (D : DataW Value) (f : α → Option β) : Prop where
  has : ∀ a l, k.ok a → keyOf Tryd.prog k.K (k.enc a) = some l → Maps.has D l = (f a).isSome
  at_ : ∀ a l v, k.ok a → keyOf Tryd.prog k.K (k.enc a) = some l → f a = some v → ∀ zd, D.atKey l zd = .held (k.val v)
  no : ∀ a l, k.ok a → keyOf Tryd.prog k.K (k.enc a) = some l → f a = none → ∀ zd, D.atKey l zd = zd
  all : ∀ l, Maps.has D l = true → ∃ a, k.ok a ∧ keyOf Tryd.prog k.K (k.enc a) = some l
theorem DatV.keys {k : KV α β} {D : DataW Value} {f : α → Option β} (h : DatV k D f) : KeysD k.toKD D (fun a => (f a).isSome = true) :=
  ⟨fun a l ha hl => by rw [h.has a l ha hl], h.all⟩
/-- Block b is a map that holds f; its keys are those of a list without repeats. -/
def MapV (k : KV α β) (w : World) (b n : Nat) (f : α → Option β) : Prop :=
  ∃ D : DataW Value, w.ownsMap Tryd.prog k.K rdV b n D ∧ DatV k D f ∧
    ∃ ks : List α, ks.Nodup ∧ (∀ a, (f a).isSome = true ↔ a ∈ ks) ∧ (∀ a ∈ ks, k.ok a) ∧ Maps.size D = ks.length
variable {k : KV α β} {w w' : World} {b n : Nat} {f : α → Option β}
theorem MapV.made (k : KV α β) (w : World) : MapV k (w.alloc (.map #[] 0)) w.heap.size 0 (fun _ => none) :=
  ⟨.map [], World.ownsMap_made _ _ _ _, ⟨fun a l _ _ => rfl, fun a l v _ _ h => by (cases h), fun a l _ _ _ zd => rfl, fun l h => by (cases h)⟩, [], List.nodup_nil, by simp, by simp, rfl⟩
theorem MapV.heap (h : MapV k w b n f) (hb : w'.heap[b]? = w.heap[b]?) : MapV k w' b n f := by
  obtain ⟨D, ⟨es, c, h1, h2⟩, h3⟩ := h
  exact ⟨D, ⟨es, c, hb.trans h1, h2⟩, h3⟩
theorem MapV.lt (h : MapV k w b n f) : b < w.heap.size := by obtain ⟨D, h1, _⟩ := h; exact h1.lt
theorem MapV.below (h : MapV k w b n f) {B : Nat} (hb : Below B w w') (hB : b < B) : MapV k w' b n f := h.heap (hb.block b hB)
theorem MapV.stay (h : MapV k w b n f) (hb : Below w.heap.size w w') : MapV k w' b n f := h.below hb h.lt
theorem MapV.mono (h : MapV k w b n f) {n' : Nat} (hn : n ≤ n') : MapV k w b n' f := by obtain ⟨D, h1, h2⟩ := h; exact ⟨D, h1.mono hn, h2⟩
theorem MapV.alloc (h : MapV k w b n f) (o : Obj) : MapV k (w.alloc o) b n f := h.stay (below_new w o)
theorem MapV.drew (h : MapV k w b n f) : MapV k w.drew b n f := h
theorem MapV.grown (h : MapV k w b n f) {r : Option Nat} (hg : w.grownBy w' r) (hr : some b ≠ r) : MapV k w' b n f := h.heap (hg.block b h.lt hr)
theorem MapV.look (h : MapV k w b n f) {a : α} (ha : k.ok a) : (Instr.lookup k.T (.map (some b)) (k.enc a) true).run Tryd.prog w = .ok (.tuple #[k.val ((f a).getD k.z), .bool (f a).isSome]) w := by
  obtain ⟨D, h1, h2, _⟩ := h
  obtain ⟨l, hl⟩ := k.key a ha
  obtain ⟨v, ps, hrun, hv⟩ := h1.look_ok k.law k.ht (k.hz w) (zd := .held (k.val k.z)) (zp := []) rfl hl
  have hv2 : DataW.held v = D.atKey l (.held (k.val k.z)) := (Prod.mk.inj (Option.some.inj hv)).1
  rw [hrun, h2.has a l ha hl]
  cases hf : f a with
  | none =>
    rw [h2.no a l ha hl hf] at hv2
    have hv3 : v = _ := DataW.held.inj hv2
    rw [hv3]
    rfl
  | some u =>
    rw [h2.at_ a l u ha hl hf] at hv2
    have hv3 : v = _ := DataW.held.inj hv2
    rw [hv3]
    rfl
theorem MapV.look1 (h : MapV k w b n f) {a : α} (ha : k.ok a) : (Instr.lookup k.T (.map (some b)) (k.enc a) false).run Tryd.prog w = .ok (k.val ((f a).getD k.z)) w := by
  obtain ⟨D, h1, h2, _⟩ := h
  obtain ⟨l, hl⟩ := k.key a ha
  obtain ⟨v, ps, hrun, hv⟩ := h1.lookup k.law k.ht (k.hz w) (zd := .held (k.val k.z)) (zp := []) rfl hl
  have hv2 : DataW.held v = D.atKey l (.held (k.val k.z)) := (Prod.mk.inj (Option.some.inj hv)).1
  rw [hrun]
  cases hf : f a with
  | none =>
    rw [h2.no a l ha hl hf] at hv2
    have hv3 : v = _ := DataW.held.inj hv2
    rw [hv3]
    rfl
  | some u =>
    rw [h2.at_ a l u ha hl hf] at hv2
    have hv3 : v = _ := DataW.held.inj hv2
    rw [hv3]
    rfl
/-- f with another value at a -/
def setV [DecidableEq α] (f : α → Option β) (a : α) (v : β) : α → Option β := fun x => if x = a then some v else f x
theorem setV_self [DecidableEq α] (f : α → Option β) (a : α) (v : β) : setV f a v a = some v := if_pos rfl
theorem setV_ne [DecidableEq α] (f : α → Option β) {a x : α} (v : β) (h : x ≠ a) : setV f a v x = f x := if_neg h
theorem MapV.put_of [DecidableEq α] {D : DataW Value} {l : Lit} {a : α} {v : β} (ha : k.ok a) (hl : keyOf Tryd.prog k.K (k.enc a) = some l) (h : w.ownsMap Tryd.prog k.K rdV b n D) (h2 : DatV k D f)
    (h3 : ∃ ks : List α, ks.Nodup ∧ (∀ a, (f a).isSome = true ↔ a ∈ ks) ∧ (∀ a ∈ ks, k.ok a) ∧ Maps.size D = ks.length)
    {m : Nat} (hw : w'.ownsMap Tryd.prog k.K rdV b m (D.put l (.held (k.val v)))) : MapV k w' b m (setV f a v) := by
  have ht := h.tidy k.law
  have hkl := k.law.key hl
  have hlit : ∀ x lx, k.ok x → keyOf Tryd.prog k.K (k.enc x) = some lx → x ≠ a → lx ≠ l := fun x lx hx hlx hxa e => hxa (k.inj _ _ (k.law.inj (e ▸ hlx) hl))
  refine ⟨_, hw, ⟨?_, ?_, ?_, ?_⟩, ?_⟩
  · intro x lx hx hlx
    by_cases hxa : x = a
    · subst hxa
      rw [hl] at hlx
      cases hlx
      rw [setV_self, has_put_same ht.isMap hkl]
      rfl
    · rw [setV_ne _ _ hxa, has_put_other (hlit x lx hx hlx hxa)]
      exact h2.has x lx hx hlx
  · intro x lx u hx hlx hfu zd
    by_cases hxa : x = a
    · subst hxa
      rw [hl] at hlx
      cases hlx
      rw [setV_self] at hfu
      cases hfu
      exact atKey_put_same ht.isMap hkl _ _
    · rw [setV_ne _ _ hxa] at hfu
      rw [atKey_put_other (hlit x lx hx hlx hxa)]
      exact h2.at_ x lx u hx hlx hfu zd
  · intro x lx hx hlx hfn zd
    by_cases hxa : x = a
    · subst hxa
      rw [setV_self] at hfn
      cases hfn
    · rw [setV_ne _ _ hxa] at hfn
      rw [atKey_put_other (hlit x lx hx hlx hxa)]
      exact h2.no x lx hx hlx hfn zd
  · intro lx hx
    by_cases e : lx = l
    · exact ⟨a, ha, e ▸ hl⟩
    · rw [has_put_other e] at hx
      exact h2.all lx hx
  · obtain ⟨ks, k1, k2, k3, k4⟩ := h3
    have hs := size_put (k := l) ht (.held (k.val v))
    rw [h2.has a l ha hl] at hs
    by_cases hf : (f a).isSome = true
    · rw [if_pos hf] at hs
      refine ⟨ks, k1, fun x => ?_, k3, by rw [hs, k4]⟩
      by_cases hxa : x = a
      · subst hxa
        rw [setV_self]
        exact ⟨fun _ => (k2 _).1 hf, fun _ => rfl⟩
      · rw [setV_ne _ _ hxa]
        exact k2 x
    · rw [if_neg hf] at hs
      have hna : a ∉ ks := fun h => hf ((k2 a).2 h)
      refine ⟨a :: ks, List.nodup_cons.2 ⟨hna, k1⟩, fun x => ?_, ?_, by rw [hs, k4]; rfl⟩
      · by_cases hxa : x = a
        · subst hxa
          rw [setV_self]
          simp
        · rw [setV_ne _ _ hxa, k2 x]
          simp [hxa]
      · intro x hx
        rcases List.mem_cons.1 hx with rfl | hx
        · exact ha
        · exact k3 x hx
theorem MapV.put [DecidableEq α] (h : MapV k w b n f) (hn : n < maxLen) {a : α} (ha : k.ok a) (v : β) :
    ∃ w', (Instr.mapUpdate k.T (.map (some b)) (k.enc a) (k.val v)).run Tryd.prog w = .ok () w' ∧ MapV k w' b (n + 1) (setV f a v) ∧ w.grownBy w' (some b) := by
  obtain ⟨D, h1, h2, h3⟩ := h
  obtain ⟨l, hl⟩ := k.key a ha
  obtain ⟨w', e1, e2, e3⟩ := h1.update k.law k.ht hn hl (val := k.val v) (d := .held (k.val v)) (ps := []) rfl
  exact ⟨w', e1, MapV.put_of ha hl h1 h2 h3 e2, e3⟩
theorem wpList_putV [DecidableEq α] {ops : Array Oper} {rest : List Oper} {o : Oper} {a : Act} {Q : Exit → Act → World → Prop} (hg : o.guard = none) (m x v : Operand) (hop : o.op = Op.mapUpdate k.T m x v)
    (h : MapV k w b n f) (hm : a.eval m = .map (some b)) (hn : n < maxLen) (c : α) (hc : k.ok c) (z : β) (hx : a.eval x = k.enc c) (hv : a.eval v = k.val z)
    (hK : ∀ w', MapV k w' b (n + 1) (setV f c z) → w.grownBy w' (some b) → wpList Tryd.prog ops Q rest (a.put o.dst undef) w') : wpList Tryd.prog ops Q (o :: rest) a w := by
  obtain ⟨D, h1, h2, h3⟩ := h
  obtain ⟨l, hl⟩ := k.key c hc
  exact wpList_mapUpdate_own w hg m x v k.T hop k.K k.E k.law k.ht _ b n D hm h1 hn _ _ l hx hv hl (.held (k.val z)) [] rfl (fun w' e2 e3 => hK w' (MapV.put_of hc hl h1 h2 h3 e2) e3)
theorem MapV.len (h : MapV k w b n f) : ∃ ks : List α, ks.Nodup ∧ (∀ a, (f a).isSome = true ↔ a ∈ ks) ∧ (∀ a ∈ ks, k.ok a) ∧ ∀ ty, (Builtin.len_ #[k.T] ty #[.map (some b)]).run Tryd.prog w = .ok (.int .i64 ks.length) w := by
  obtain ⟨D, h1, h2, ks, k1, k2, k3, k4⟩ := h
  exact ⟨ks, k1, k2, k3, fun ty => by rw [h1.len k.ht ty, k4]⟩
end
/-! ### a range over the keys -/
section
variable {α H : Type} {k : KD α} {D : DataW H} {S : α → Prop} {left : Lit → Bool} {ss : List α}
/-- those that have come: each once; the others are still to come -/
structure CamK (k : KD α) (D : DataW H) (S : α → Prop) (left : Lit → Bool) (ss : List α) : Prop where
  nodup : ss.Nodup
  ok : ∀ a ∈ ss, k.ok a ∧ S a
  left : ∀ a l, k.ok a → keyOf Tryd.prog k.K (k.enc a) = some l → (left l = true ↔ S a ∧ a ∉ ss)
theorem CamK.start (h : KeysD k D S) : CamK k D S (Maps.has D) [] := ⟨List.nodup_nil, by simp, fun a l ha hl => by rw [h.1 a l ha hl]; simp⟩
/-- a key that comes: whose it is -/
theorem CamK.who (h : CamK k D S left ss) (hk : KeysD k D S) {x : Value} {kl : Lit} {y : DataW H} (hx : keyOf Tryd.prog k.K x = some kl) (hl : left kl = true) (hat : ∀ zd, D.atKey kl zd = y) : ∃ a, x = k.enc a ∧ k.ok a ∧ S a ∧ a ∉ ss ∧ keyOf Tryd.prog k.K (k.enc a) = some kl := by
  obtain ⟨a, ha, hak⟩ := hk.2 kl (has_true_of_atKey hat)
  obtain ⟨h1, h2⟩ := (h.left a kl ha hak).1 hl
  exact ⟨a, k.law.inj hx hak, ha, h1, h2, hak⟩
theorem CamK.step (h : CamK k D S left ss) {a : α} {kl : Lit} (ha : k.ok a) (hs : S a) (hn : a ∉ ss) (hak : keyOf Tryd.prog k.K (k.enc a) = some kl) : CamK k D S (fun z => left z && !z.sameKey kl) (ss ++ [a]) := by
  refine ⟨List.nodup_append.2 ⟨h.nodup, by simp, fun x hx y hy => by simp at hy; subst hy; exact fun e => hn (e ▸ hx)⟩, ?_, ?_⟩
  · intro x hx
    rcases List.mem_append.1 hx with hx | hx
    · exact h.ok x hx
    · simp at hx
      subst hx
      exact ⟨ha, hs⟩
  · intro x l hx hl
    have h1 := h.left x l hx hl
    have h2 : (l.sameKey kl = true) ↔ x = a := by
      rw [WideAt.sameKey_iff (k.law.key hak)]
      constructor
      · intro e
        exact k.inj _ _ (k.law.inj hl (e ▸ hak))
      · rintro rfl
        rw [hl] at hak
        exact Option.some.inj hak
    rw [Bool.and_eq_true, Bool.not_eq_true', h1, List.mem_append, List.mem_singleton]
    have h3 : l.sameKey kl = false ↔ ¬ x = a := by rw [← h2]; simp
    rw [h3]
    constructor
    · rintro ⟨⟨h4, h5⟩, h6⟩
      exact ⟨h4, fun e => e.elim h5 h6⟩
    · rintro ⟨h4, h5⟩
      exact ⟨⟨h4, fun e => h5 (.inl e)⟩, fun e => h5 (.inr e)⟩
theorem CamK.done (h : CamK k D S left ss) (hl : ∀ kl, left kl = false) {a : α} (ha : k.ok a) (hs : S a) : a ∈ ss := by
  obtain ⟨l, hak⟩ := k.key a ha
  apply Classical.byContradiction
  intro hn
  have := (h.left a l ha hak).2 ⟨hs, hn⟩
  rw [hl] at this
  cases this
end
end Go.Proofs.YtoienokpchbglaaDoor
