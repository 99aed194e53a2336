/- Maps of any values that the call makes, keyed by structs of numbers, told as plain functions; the keys as they come in a range.. Copies of sheets; two lists of triangles held against each other.. A queue of numbers, taken out in front and put in behind; a row of maps.. -/
import Derived.Test.YtpkjekedgodccaaGreatDoorK08
import Derived.Sort.MapsRangeIn
import Derived.Test.YtpkjekedgodccaaGreatDoorK15
import Derived.Laws.AppendOwnNone
import Derived.Test.YtpkjekedgodccaaGreatDoorK19
import Derived.ArgAppend
namespace Go.Proofs.YtpkjekedgodccaaGreatDoor
set_option linter.unusedSimpArgs false
set_option linter.unusedVariables false
section
open Go.RowKit Go.Maps
structure KD (α : Type) where
 K : TypeId
 enc : α → Value
 ok : α → Prop
 law : Keyed Tryz.prog K
 key : ∀ a, ok a → ∃ l, keyOf Tryz.prog K (enc a) = some l
 inj : ∀ a b, enc a = enc b → a = b
structure KV (α β : Type) extends KD α where
 T : TypeId
 E : TypeId
 val : β → Value
 z : β
 ht : Tryz.prog.underlying T = some (.map K E)
 hz : ∀ w, (zeroValue E).run Tryz.prog w = .ok (val z) w
abbrev rdV (v : Value) : Option (DataW Value × List MemPlace) := some (.held v, [])
def KeysD {α H : Type} (k : KD α) (D : DataW H) (S : α → Prop) : Prop :=
 (∀ a l, k.ok a → keyOf Tryz.prog k.K (k.enc a) = some l → (Maps.has D l = true ↔ S a)) ∧ ∀ l, Maps.has D l = true → ∃ a, k.ok a ∧ keyOf Tryz.prog k.K (k.enc a) = some l
section
variable {α β : Type}
structure DatV (k : KV α β) (D : DataW Value) (f : α → Option β) : Prop where
 has : ∀ a l, k.ok a → keyOf Tryz.prog k.K (k.enc a) = some l → Maps.has D l = (f a).isSome
 at_ : ∀ a l v, k.ok a → keyOf Tryz.prog k.K (k.enc a) = some l → f a = some v → ∀ zd, D.atKey l zd = .held (k.val v)
 no : ∀ a l, k.ok a → keyOf Tryz.prog k.K (k.enc a) = some l → f a = none → ∀ zd, D.atKey l zd = zd
 all : ∀ l, Maps.has D l = true → ∃ a, k.ok a ∧ keyOf Tryz.prog k.K (k.enc a) = some l
theorem DatV.keys {k : KV α β} {D : DataW Value} {f : α → Option β} (h : DatV k D f) : KeysD k.toKD D (fun a => (f a).isSome = true) :=
 ⟨fun a l ha hl => by rw [h.has a l ha hl], h.all⟩
def MapV (k : KV α β) (w : World) (b n : Nat) (f : α → Option β) : Prop :=
 ∃ D : DataW Value, w.ownsMap Tryz.prog k.K rdV b n D ∧ DatV k D f ∧
  ∃ ks : List α, ks.Nodup ∧ (∀ a, (f a).isSome = true ↔ a ∈ ks) ∧ (∀ a ∈ ks, k.ok a) ∧ Maps.size D = ks.length
variable {k : KV α β} {w w' : World} {b n : Nat} {f : α → Option β}
theorem MapV.made (k : KV α β) (w : World) : MapV k (w.alloc (.map #[] 0)) w.heap.size 0 (fun _ => none) :=
 ⟨.map [], World.ownsMap_made _ _ _ _, ⟨fun a l _ _ => rfl, fun a l v _ _ h => by (cases h), fun a l _ _ _ zd => rfl, fun l h => by (cases h)⟩, [], List.nodup_nil, by simp, by simp, rfl⟩
theorem MapV.heap (h : MapV k w b n f) (hb : w'.heap[b]? = w.heap[b]?) : MapV k w' b n f := by
 obtain ⟨D, ⟨es, c, h1, h2⟩, h3⟩ := h
 exact ⟨D, ⟨es, c, hb.trans h1, h2⟩, h3⟩
theorem MapV.lt (h : MapV k w b n f) : b < w.heap.size := by obtain ⟨D, h1, _⟩ := h; exact h1.lt
theorem MapV.below (h : MapV k w b n f) {B : Nat} (hb : Below B w w') (hB : b < B) : MapV k w' b n f := h.heap (hb.block b hB)
theorem MapV.stay (h : MapV k w b n f) (hb : Below w.heap.size w w') : MapV k w' b n f := h.below hb h.lt
theorem MapV.mono (h : MapV k w b n f) {n' : Nat} (hn : n ≤ n') : MapV k w b n' f := by obtain ⟨D, h1, h2⟩ := h; exact ⟨D, h1.mono hn, h2⟩
theorem MapV.alloc (h : MapV k w b n f) (o : Obj) : MapV k (w.alloc o) b n f := h.stay (below_new w o)
theorem MapV.drew (h : MapV k w b n f) : MapV k w.drew b n f := h
theorem MapV.grown (h : MapV k w b n f) {r : Option Nat} (hg : w.grownBy w' r) (hr : some b ≠ r) : MapV k w' b n f := h.heap (hg.block b h.lt hr)
theorem MapV.look (h : MapV k w b n f) {a : α} (ha : k.ok a) : (Instr.lookup k.T (.map (some b)) (k.enc a) true).run Tryz.prog w = .ok (.tuple #[k.val ((f a).getD k.z), .bool (f a).isSome]) w := by
 obtain ⟨D, h1, h2, _⟩ := h
 obtain ⟨l, hl⟩ := k.key a ha
 obtain ⟨v, ps, hrun, hv⟩ := h1.look_ok k.law k.ht (k.hz w) (zd := .held (k.val k.z)) (zp := []) rfl hl
 have hv2 : DataW.held v = D.atKey l (.held (k.val k.z)) := (Prod.mk.inj (Option.some.inj hv)).1
 rw [hrun, h2.has a l ha hl]
 cases hf : f a with
 | none =>
  rw [h2.no a l ha hl hf] at hv2
  have hv3 : v = _ := DataW.held.inj hv2
  rw [hv3]
  rfl
 | some u =>
  rw [h2.at_ a l u ha hl hf] at hv2
  have hv3 : v = _ := DataW.held.inj hv2
  rw [hv3]
  rfl
theorem MapV.look1 (h : MapV k w b n f) {a : α} (ha : k.ok a) : (Instr.lookup k.T (.map (some b)) (k.enc a) false).run Tryz.prog w = .ok (k.val ((f a).getD k.z)) w := by
 obtain ⟨D, h1, h2, _⟩ := h
 obtain ⟨l, hl⟩ := k.key a ha
 obtain ⟨v, ps, hrun, hv⟩ := h1.lookup k.law k.ht (k.hz w) (zd := .held (k.val k.z)) (zp := []) rfl hl
 have hv2 : DataW.held v = D.atKey l (.held (k.val k.z)) := (Prod.mk.inj (Option.some.inj hv)).1
 rw [hrun]
 cases hf : f a with
 | none =>
  rw [h2.no a l ha hl hf] at hv2
  have hv3 : v = _ := DataW.held.inj hv2
  rw [hv3]
  rfl
 | some u =>
  rw [h2.at_ a l u ha hl hf] at hv2
  have hv3 : v = _ := DataW.held.inj hv2
  rw [hv3]
  rfl
def setV [DecidableEq α] (f : α → Option β) (a : α) (v : β) : α → Option β := fun x => if x = a then some v else f x
theorem setV_self [DecidableEq α] (f : α → Option β) (a : α) (v : β) : setV f a v a = some v := if_pos rfl
theorem setV_ne [DecidableEq α] (f : α → Option β) {a x : α} (v : β) (h : x ≠ a) : setV f a v x = f x := if_neg h
theorem MapV.put_of [DecidableEq α] {D : DataW Value} {l : Lit} {a : α} {v : β} (ha : k.ok a) (hl : keyOf Tryz.prog k.K (k.enc a) = some l) (h : w.ownsMap Tryz.prog k.K rdV b n D) (h2 : DatV k D f)
  (h3 : ∃ ks : List α, ks.Nodup ∧ (∀ a, (f a).isSome = true ↔ a ∈ ks) ∧ (∀ a ∈ ks, k.ok a) ∧ Maps.size D = ks.length)
  {m : Nat} (hw : w'.ownsMap Tryz.prog k.K rdV b m (D.put l (.held (k.val v)))) : MapV k w' b m (setV f a v) := by
 have ht := h.tidy k.law
 have hkl := k.law.key hl
 have hlit : ∀ x lx, k.ok x → keyOf Tryz.prog k.K (k.enc x) = some lx → x ≠ a → lx ≠ l := fun x lx hx hlx hxa e => hxa (k.inj _ _ (k.law.inj (e ▸ hlx) hl))
 refine ⟨_, hw, ⟨?_, ?_, ?_, ?_⟩, ?_⟩
 ·intro x lx hx hlx
  by_cases hxa : x = a
  ·subst hxa
   rw [hl] at hlx
   cases hlx
   rw [setV_self, has_put_same ht.isMap hkl]
   rfl
  ·rw [setV_ne _ _ hxa, has_put_other (hlit x lx hx hlx hxa)]
   exact h2.has x lx hx hlx
 ·intro x lx u hx hlx hfu zd
  by_cases hxa : x = a
  ·subst hxa
   rw [hl] at hlx
   cases hlx
   rw [setV_self] at hfu
   cases hfu
   exact atKey_put_same ht.isMap hkl _ _
  ·rw [setV_ne _ _ hxa] at hfu
   rw [atKey_put_other (hlit x lx hx hlx hxa)]
   exact h2.at_ x lx u hx hlx hfu zd
 ·intro x lx hx hlx hfn zd
  by_cases hxa : x = a
  ·subst hxa
   rw [setV_self] at hfn
   cases hfn
  ·rw [setV_ne _ _ hxa] at hfn
   rw [atKey_put_other (hlit x lx hx hlx hxa)]
   exact h2.no x lx hx hlx hfn zd
 ·intro lx hx
  by_cases e : lx = l
  ·exact ⟨a, ha, e ▸ hl⟩
  ·rw [has_put_other e] at hx
   exact h2.all lx hx
 ·obtain ⟨ks, k1, k2, k3, k4⟩ := h3
  have hs := size_put (k := l) ht (.held (k.val v))
  rw [h2.has a l ha hl] at hs
  by_cases hf : (f a).isSome = true
  ·rw [if_pos hf] at hs
   refine ⟨ks, k1, fun x => ?_, k3, by rw [hs, k4]⟩
   by_cases hxa : x = a
   ·subst hxa
    rw [setV_self]
    exact ⟨fun _ => (k2 _).1 hf, fun _ => rfl⟩
   ·rw [setV_ne _ _ hxa]
    exact k2 x
  ·rw [if_neg hf] at hs
   have hna : a ∉ ks := fun h => hf ((k2 a).2 h)
   refine ⟨a :: ks, List.nodup_cons.2 ⟨hna, k1⟩, fun x => ?_, ?_, by rw [hs, k4]; rfl⟩
   ·by_cases hxa : x = a
    ·subst hxa
     rw [setV_self]
     simp
    ·rw [setV_ne _ _ hxa, k2 x]
     simp [hxa]
   ·intro x hx
    rcases List.mem_cons.1 hx with rfl | hx
    ·exact ha
    ·exact k3 x hx
theorem MapV.put [DecidableEq α] (h : MapV k w b n f) (hn : n < maxLen) {a : α} (ha : k.ok a) (v : β) :
  ∃ w', (Instr.mapUpdate k.T (.map (some b)) (k.enc a) (k.val v)).run Tryz.prog w = .ok () w' ∧ MapV k w' b (n + 1) (setV f a v) ∧ w.grownBy w' (some b) := by
 obtain ⟨D, h1, h2, h3⟩ := h
 obtain ⟨l, hl⟩ := k.key a ha
 obtain ⟨w', e1, e2, e3⟩ := h1.update k.law k.ht hn hl (val := k.val v) (d := .held (k.val v)) (ps := []) rfl
 exact ⟨w', e1, MapV.put_of ha hl h1 h2 h3 e2, e3⟩
theorem wpList_putV [DecidableEq α] {ops : Array Oper} {rest : List Oper} {o : Oper} {a : Act} {Q : Exit → Act → World → Prop} (hg : o.guard = none) (m x v : Operand) (hop : o.op = Op.mapUpdate k.T m x v)
  (h : MapV k w b n f) (hm : a.eval m = .map (some b)) (hn : n < maxLen) (c : α) (hc : k.ok c) (z : β) (hx : a.eval x = k.enc c) (hv : a.eval v = k.val z)
  (hK : ∀ w', MapV k w' b (n + 1) (setV f c z) → w.grownBy w' (some b) → wpList Tryz.prog ops Q rest (a.put o.dst undef) w') : wpList Tryz.prog ops Q (o :: rest) a w := by
 obtain ⟨D, h1, h2, h3⟩ := h
 obtain ⟨l, hl⟩ := k.key c hc
 exact wpList_mapUpdate_own w hg m x v k.T hop k.K k.E k.law k.ht _ b n D hm h1 hn _ _ l hx hv hl (.held (k.val z)) [] rfl (fun w' e2 e3 => hK w' (MapV.put_of hc hl h1 h2 h3 e2) e3)
theorem MapV.len (h : MapV k w b n f) : ∃ ks : List α, ks.Nodup ∧ (∀ a, (f a).isSome = true ↔ a ∈ ks) ∧ (∀ a ∈ ks, k.ok a) ∧ ∀ ty, (Builtin.len_ #[k.T] ty #[.map (some b)]).run Tryz.prog w = .ok (.int .i64 ks.length) w := by
 obtain ⟨D, h1, h2, ks, k1, k2, k3, k4⟩ := h
 exact ⟨ks, k1, k2, k3, fun ty => by rw [h1.len k.ht ty, k4]⟩
end
section
variable {α H : Type} {k : KD α} {D : DataW H} {S : α → Prop} {left : Lit → Bool} {ss : List α}
structure CamK (k : KD α) (D : DataW H) (S : α → Prop) (left : Lit → Bool) (ss : List α) : Prop where
 nodup : ss.Nodup
 ok : ∀ a ∈ ss, k.ok a ∧ S a
 left : ∀ a l, k.ok a → keyOf Tryz.prog k.K (k.enc a) = some l → (left l = true ↔ S a ∧ a ∉ ss)
theorem CamK.start (h : KeysD k D S) : CamK k D S (Maps.has D) [] := ⟨List.nodup_nil, by simp, fun a l ha hl => by rw [h.1 a l ha hl]; simp⟩
theorem CamK.step (h : CamK k D S left ss) {a : α} {kl : Lit} (ha : k.ok a) (hs : S a) (hn : a ∉ ss) (hak : keyOf Tryz.prog k.K (k.enc a) = some kl) : CamK k D S (fun z => left z && !z.sameKey kl) (ss ++ [a]) := by
 refine ⟨List.nodup_append.2 ⟨h.nodup, by simp, fun x hx y hy => by simp at hy; subst hy; exact fun e => hn (e ▸ hx)⟩, ?_, ?_⟩
 ·intro x hx
  rcases List.mem_append.1 hx with hx | hx
  ·exact h.ok x hx
  ·simp at hx
   subst hx
   exact ⟨ha, hs⟩
 ·intro x l hx hl
  have h1 := h.left x l hx hl
  have h2 : (l.sameKey kl = true) ↔ x = a := by
   rw [WideAt.sameKey_iff (k.law.key hak)]
   constructor
   ·intro e
    exact k.inj _ _ (k.law.inj hl (e ▸ hak))
   ·rintro rfl
    rw [hl] at hak
    exact Option.some.inj hak
  rw [Bool.and_eq_true, Bool.not_eq_true', h1, List.mem_append, List.mem_singleton]
  have h3 : l.sameKey kl = false ↔ ¬ x = a := by rw [← h2]; simp
  rw [h3]
  constructor
  ·rintro ⟨⟨h4, h5⟩, h6⟩
   exact ⟨h4, fun e => e.elim h5 h6⟩
  ·rintro ⟨h4, h5⟩
   exact ⟨⟨h4, fun e => h5 (.inl e)⟩, fun e => h5 (.inr e)⟩
theorem CamK.done (h : CamK k D S left ss) (hl : ∀ kl, left kl = false) {a : α} (ha : k.ok a) (hs : S a) : a ∈ ss := by
 obtain ⟨l, hak⟩ := k.key a ha
 apply Classical.byContradiction
 intro hn
 have := (h.left a l ha hak).2 ⟨hs, hn⟩
 rw [hl] at this
 cases this
end
end
section
open Go.RowKit
section
variable {w : World}
set_option maxRecDepth 100000 in
theorem app_copy {T E : TypeId} {z : Value} {sz bytes : Nat} (hT : Tryz.prog.underlying T = some (.slice E)) (hE : (Tryz.prog.info? E).map (fun i => (i.zero, i.size, i.bytes)) = some (some z, sz, bytes))
  (hzs : z.cells.size = sz) (hsz : 0 < sz)
  {ops : Array Oper} {rest : List Oper} {o : Oper} {a : Act} {Q : Exit → Act → World → Prop} (hgd : o.guard = none) (s x : Operand)
  (ho : o.op = .call { callee := .builtin .append, args := #[s, x], argTypes := #[T, T] })
  (hs : a.eval s = .slice none 0 0) (A : Option Addr) (n c : Nat) (xs : List Value) (hx : a.eval x = .slice A n c) (hA : A = none → c = 0) (hr : Rd w sz A n xs) (h1 : ∀ u ∈ xs, u.oneCell' = true) (hn : n * bytes ≤ 140737488351232) (hn2 : n ≤ 140737488351232)
  (h : ∀ v' w', w'.ownsRow w.heap.size E sz v' n xs → Below w.heap.size w w' → wpList Tryz.prog ops Q rest (a.put o.dst v') w') :
  wpList Tryz.prog ops Q (o :: rest) a w := by
 obtain ⟨i0, hi, hz0, hz1, hz2⟩ := info_parts hE
 cases A with
 | none =>
  have hm : n = 0 := by
   rcases Nat.eq_zero_or_pos n with hm | hm
   ·exact hm
   ·obtain ⟨b, off, e, _⟩ := hr.2 hm
    cases e
  subst hm
  have hc := hA rfl
  subst hc
  have hnews : xs = [] := List.length_eq_zero_iff.1 (by simpa using hr.1)
  subst hnews
  exact wpList_append_own_none hgd s x T ho w.heap.size E i0 sz hT hi (.slice none 0 0) 0 [] hs (World.ownsRow_nil _ _ _ _) hx (h _ _ (World.ownsRow_nil _ _ _ _) (Below.refl _ _))
 | some ad =>
  refine wpList_append_own _ hgd s x T ho w.heap.size E i0 z sz bytes hT hi hz0 hz1 hz2 hzs hsz (.slice none 0 0) 0 [] hs (World.ownsRow_nil _ _ _ _) ad n c xs hx hr.1 ?_ h1 (by simp only [maxLen]; omega) (by rw [Nat.zero_add]; omega) (Nat.le_refl _) ?_
  ·intro j u hu
   rcases Nat.eq_zero_or_pos n with h0 | h0
   ·subst h0
    have : xs = [] := List.length_eq_zero_iff.1 (by simpa using hr.1)
    subst this
    simp at hu
   ·obtain ⟨b, off, e, _, hc⟩ := hr.2 h0
    injection e with e
    subst e
    rw [addr_add]
    exact hc j u hu
  ·intro v' w' h2 h3 _
   refine h v' w' (by simpa using h2) ((Below.refl _ _).grown h3 (Nat.le_refl _) (fun k hk => by cases hk))
end
set_option maxRecDepth 100000 in
theorem crease_info : (Tryz.prog.info? 102).map (fun i => (i.zero, i.size, i.bytes)) = some (some (.agg #[.int .i64 0, .int .i64 0, .int .i64 0, .int .i64 0, .int .i64 0]), 5, 40) := by kernel_rfl
theorem vis_one (zs : List Int) : ∀ u ∈ vis zs, u.oneCell' = true := fun u hu => by obtain ⟨z, _, rfl⟩ := List.mem_map.1 hu; rfl
theorem ccs_one (cs : List C5) : ∀ u ∈ ccs cs, u.oneCell' = true := by
 intro u hu
 simp only [ccs, List.mem_flatMap, List.mem_cons, List.not_mem_nil, or_false] at hu
 obtain ⟨c, _, h⟩ := hu
 rcases h with rfl | rfl | rfl | rfl | rfl <;> rfl
end
section
open Go.RowKit Go.Maps
structure Que (base : Nat) (w : World) (v : Value) (q : List Nat) : Prop where
 ex : ∃ A cap, v = .slice A q.length cap ∧ q.length ≤ cap ∧ cap ≤ maxLen ∧ (A = none → cap = 0) ∧
  (cap = 0 ∨ ∃ g off cur, A = some ⟨g, off, none⟩ ∧ base ≤ g ∧ w.heap[g]? = some (.cells cur 3 (0, 0)) ∧ off + cap ≤ cur.size ∧ ∀ j z, q[j]? = some z → cur[off + j]? = some (.int .i64 ((z : Nat) : Int)))
section
variable {base : Nat} {w w' : World} {v : Value} {q : List Nat}
theorem Que.below (h : Que base w v q) (hb : Below w.heap.size w w') : Que base w' v q := by
 obtain ⟨A, cap, h1, h2, h3, h4, h5⟩ := h.ex
 refine ⟨A, cap, h1, h2, h3, h4, ?_⟩
 rcases h5 with h5 | ⟨g, off, cur, a1, a2, a3, a4, a5⟩
 ·exact .inl h5
 ·exact .inr ⟨g, off, cur, a1, a2, blk_below a3 hb (blk_lt a3), a4, a5⟩
theorem Que.tail {z : Nat} (h : Que base w v (z :: q)) : ∃ v', (Instr.slice 22 v (some (.int .i64 1)) none none).run Tryz.prog w = .ok v' w ∧ Que base w v' q := by
 obtain ⟨A, cap, rfl, h2, h3, h4, h5⟩ := h.ex
 rcases h5 with h5 | ⟨g, off, cur, rfl, a2, a3, a4, a5⟩
 ·simp at h2; omega
 ·simp only [List.length_cons] at h2
  have hi := int_info
  refine ⟨.slice (if cap = 1 then some ⟨g, off, none⟩ else some ⟨g, off + 1, none⟩) q.length (cap - 1), ?_, ?_⟩
  ·have hadd : (⟨g, off, none⟩ : Addr).add 1 = ⟨g, off + 1, none⟩ := addr_add g off 1
   have hsz : ∀ w : World, (sizeOf 3).run Tryz.prog w = .ok 1 w := by
    obtain ⟨i0, hi, hz0, hz1, hz2⟩ := info_parts int_info
    intro w
    simp [sizeOf, typeInfo, hi, hz1]
   have h9 : (1 : Int) ≤ (q.length : Int) + 1 := by omega
   simp only [Instr.slice, Instr.sliceBounds, Instr.sliceBound, run_underlying Tryz.underlying22, asIntOf, hsz, List.length_cons, go_sem]
   by_cases hc : cap = 1
   ·subst hc
    have hq : q.length = 0 := by omega
    simp [hq, hsz]
   ·simp [hc, h9, hadd, hsz]
  ·refine ⟨_, _, rfl, by omega, by omega, fun h => ?_, ?_⟩
   ·split at h <;> cases h
   ·by_cases hc : cap = 1
    ·left; omega
    ·right
     refine ⟨g, off + 1, cur, by rw [if_neg hc], a2, a3, by omega, fun j y hy => ?_⟩
     have := a5 (j + 1) y (by simpa using hy)
     rw [show off + 1 + j = off + (j + 1) by omega]
     exact this
end
def mcs (l : List V6) : List Value := l.flatMap fun m => [.int .i64 m.1, .int .i64 m.2.1, .int .i64 m.2.2.1, .int .i64 m.2.2.2.1, .int .i64 m.2.2.2.2.1, .int .i64 m.2.2.2.2.2]
theorem mcs_cons (m : V6) (l : List V6) : mcs (m :: l) = .int .i64 m.1 :: .int .i64 m.2.1 :: .int .i64 m.2.2.1 :: .int .i64 m.2.2.2.1 :: .int .i64 m.2.2.2.2.1 :: .int .i64 m.2.2.2.2.2 :: mcs l := rfl
theorem mcs_at : ∀ {l : List V6} {j : Nat} {m : V6}, l[j]? = some m → (mcs l)[j * 6]? = some (.int .i64 m.1) ∧ (mcs l)[j * 6 + 1]? = some (.int .i64 m.2.1) ∧ (mcs l)[j * 6 + 2]? = some (.int .i64 m.2.2.1) ∧ (mcs l)[j * 6 + 3]? = some (.int .i64 m.2.2.2.1) ∧ (mcs l)[j * 6 + 4]? = some (.int .i64 m.2.2.2.2.1) ∧ (mcs l)[j * 6 + 5]? = some (.int .i64 m.2.2.2.2.2)
 | [], j, m, h => by simp at h
 | a :: l, 0, m, h => by
  simp at h
  subst h
  exact ⟨rfl, rfl, rfl, rfl, rfl, rfl⟩
 | a :: l, j + 1, m, h => by
  have := mcs_at (l := l) (j := j) (m := m) (by simpa using h)
  rw [mcs_cons, show (j + 1) * 6 = j * 6 + 1 + 1 + 1 + 1 + 1 + 1 by omega]
  simpa using this
theorem mcs_set : ∀ (l : List V6) (j : Nat) (m : V6), ((((((mcs l).set (j * 6) (.int .i64 m.1)).set (j * 6 + 1) (.int .i64 m.2.1)).set (j * 6 + 2) (.int .i64 m.2.2.1)).set (j * 6 + 3) (.int .i64 m.2.2.2.1)).set (j * 6 + 4) (.int .i64 m.2.2.2.2.1)).set (j * 6 + 5) (.int .i64 m.2.2.2.2.2) = mcs (l.set j m)
 | [], j, m => by simp [mcs]
 | a :: l, 0, m => rfl
 | a :: l, j + 1, m => by
  have := mcs_set l j m
  rw [mcs_cons, show (j + 1) * 6 = j * 6 + 1 + 1 + 1 + 1 + 1 + 1 by omega]
  simp only [List.set_cons_succ, show ∀ k, j * 6 + 1 + 1 + 1 + 1 + 1 + 1 + k = (j * 6 + k) + 1 + 1 + 1 + 1 + 1 + 1 from fun k => by omega]
  rw [this, mcs_cons]
def LB (w : World) (gl : Nat) (l : List V6) : Prop := w.heap[gl]? = some (.cells (mcs l).toArray 63 (0, 0))
theorem LB.below {w w' : World} {gl : Nat} {l : List V6} (h : LB w gl l) (hb : Below w.heap.size w w') : LB w' gl l := blk_below h hb (blk_lt h)
theorem LB.at_ {w : World} {gl j : Nat} {l : List V6} {m : V6} (h : LB w gl l) (hm : l[j]? = some m) : w.cell? ⟨gl, j * 6, none⟩ = some (.int .i64 m.1) ∧ w.cell? ⟨gl, j * 6 + 1, none⟩ = some (.int .i64 m.2.1) ∧ w.cell? ⟨gl, j * 6 + 2, none⟩ = some (.int .i64 m.2.2.1) ∧ w.cell? ⟨gl, j * 6 + 3, none⟩ = some (.int .i64 m.2.2.2.1) ∧ w.cell? ⟨gl, j * 6 + 4, none⟩ = some (.int .i64 m.2.2.2.2.1) ∧ w.cell? ⟨gl, j * 6 + 5, none⟩ = some (.int .i64 m.2.2.2.2.2) := by
 have h' : w.heap[gl]? = _ := h
 obtain ⟨e0, e1, e2, e3, e4, e5⟩ := mcs_at hm
 exact ⟨(cell_of_blk h' _).trans (by simpa using e0), (cell_of_blk h' _).trans (by simpa using e1), (cell_of_blk h' _).trans (by simpa using e2), (cell_of_blk h' _).trans (by simpa using e3), (cell_of_blk h' _).trans (by simpa using e4), (cell_of_blk h' _).trans (by simpa using e5)⟩
theorem LB.fz {w : World} {gl : Nat} {l : List V6} (h : LB w gl l) (i : Nat) : w.frozen? ⟨gl, i, none⟩ = false := frozen_of_blk (show w.heap[gl]? = _ from h) i
def set6 (w : World) (gl j : Nat) (m : V6) : World := (((((w.setCell ⟨gl, j * 6, none⟩ (.int .i64 m.1)).setCell ⟨gl, j * 6 + 1, none⟩ (.int .i64 m.2.1)).setCell ⟨gl, j * 6 + 2, none⟩ (.int .i64 m.2.2.1)).setCell ⟨gl, j * 6 + 3, none⟩ (.int .i64 m.2.2.2.1)).setCell ⟨gl, j * 6 + 4, none⟩ (.int .i64 m.2.2.2.2.1)).setCell ⟨gl, j * 6 + 5, none⟩ (.int .i64 m.2.2.2.2.2)
theorem LB.set {w : World} {gl : Nat} {l : List V6} (h : LB w gl l) (j : Nat) (m : V6) : LB (set6 w gl j m) gl (l.set j m) := by
 have h' : w.heap[gl]? = _ := h
 have := blk_set (blk_set (blk_set (blk_set (blk_set (blk_set h' (j * 6) (.int .i64 m.1)) (j * 6 + 1) (.int .i64 m.2.1)) (j * 6 + 2) (.int .i64 m.2.2.1)) (j * 6 + 3) (.int .i64 m.2.2.2.1)) (j * 6 + 4) (.int .i64 m.2.2.2.2.1)) (j * 6 + 5) (.int .i64 m.2.2.2.2.2)
 unfold LB set6
 rw [this, ← mcs_set]
 simp
theorem set6_below2 {B : Nat} {a w : World} (h : Below B a w) {gl : Nat} (hg : B ≤ gl) (j : Nat) (m : V6) : Below B a (set6 w gl j m) :=
 (((((h.setCell (p := ⟨gl, j * 6, none⟩) hg _).setCell (p := ⟨gl, j * 6 + 1, none⟩) hg _).setCell (p := ⟨gl, j * 6 + 2, none⟩) hg _).setCell (p := ⟨gl, j * 6 + 3, none⟩) hg _).setCell (p := ⟨gl, j * 6 + 4, none⟩) hg _).setCell (p := ⟨gl, j * 6 + 5, none⟩) hg _
theorem mcs_len (l : List V6) : (mcs l).length = l.length * 6 := by
 induction l with
 | nil => rfl
 | cons m l ih => rw [mcs_cons]; simp [ih]; omega
set_option maxHeartbeats 1600000 in
theorem neM (a b : V6) (w : World) : (binOp .neq 63 (aggM a) (aggM b)).run Tryz.prog w = .ok (.bool (!decide (a = b))) w := by
 obtain ⟨a0, a1, a2, a3, a4, a5⟩ := a
 obtain ⟨b0, b1, b2, b3, b4, b5⟩ := b
 simp [go_sem]
 repeat (first | rfl | (split <;> simp_all))
end
end Go.Proofs.YtpkjekedgodccaaGreatDoor
