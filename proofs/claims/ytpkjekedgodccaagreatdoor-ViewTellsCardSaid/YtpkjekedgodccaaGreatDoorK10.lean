/- A region that draws its order, by an invariant: what holds of every set of operations that have come up; three of them change memory, one behind the other. -/
import Derived.Test.YtpkjekedgodccaaGreatDoorK08
import Derived.Test.YtpkjekedgodccaaGreatDoorK09
namespace Go.Proofs.YtpkjekedgodccaaGreatDoor
set_option linter.unusedSimpArgs false
set_option linter.unusedVariables false
section
section
open Go.RowKit
def upd (s : Nat → Value) (i : Nat) (v : Value) : Nat → Value := fun j => bif Nat.beq j i then v else s j
theorem nbeq {j i : Nat} : Nat.beq j i = false ↔ j ≠ i := by rw [← Bool.not_eq_true, Nat.beq_eq]
theorem upd_eq (s : Nat → Value) (i : Nat) (v : Value) : upd s i v i = v := by simp [upd]
theorem upd_ne {s : Nat → Value} {i j : Nat} {v : Value} (h : j ≠ i) : upd s i v j = s j := by
 have : Nat.beq j i = false := nbeq.2 h
 simp [upd, this]
def listF (l : List Value) (i : Nat) : Value := l.getD i undef
structure Sv (n : Nat) (vals : List (Option Value)) (L : Array Bool) (s : Nat → Value) : Prop where
 sz : L.size = n
 val : ∀ i v, vals[i]? = some (some v) → L.getD i false = true → s i = v
theorem Sv.start (n : Nat) (vals : List (Option Value)) (s : Nat → Value) : Sv n vals (Array.replicate n false) s :=
 ⟨by simp, fun i v _ hL => by simp only [Array.getD_eq_getD_getElem?, Array.getElem?_replicate] at hL; split at hL <;> simp at hL⟩
theorem Sv.v {n : Nat} {vals : List (Option Value)} {L : Array Bool} {s : Nat → Value} (h : Sv n vals L s) {i : Nat} {v : Value} (hL : L.getD i false = true) (hv : vals[i]? = some (some v)) : s i = v := h.val i v hv hL
theorem Sv.re {n : Nat} {vals : List (Option Value)} {L : Array Bool} {s : Nat → Value} (h : Sv n vals L s) {j : Nat} {v : Value} (e : s j = v) : Sv n vals L (upd s j v) := by
 have : upd s j v = s := by
  funext k
  by_cases hk : k = j
  ·subst hk
   rw [upd_eq, e]
  ·rw [upd_ne hk]
 rw [this]
 exact h
theorem Sv.put {n : Nat} {vals : List (Option Value)} {L : Array Bool} {s : Nat → Value} (h : Sv n vals L s) {i : Nat} {v : Value} (hv : ∀ u, vals[i]? = some (some u) → u = v) : Sv n vals (L.setIfInBounds i true) (upd s i v) := by
 refine ⟨by simpa using h.sz, ?_⟩
 intro j u hj hL
 by_cases hji : j = i
 ·subst hji
  rw [upd_eq, hv u hj]
 ·rw [upd_ne hji]
  exact h.val j u hj (up (fun e => hji e.symm) hL)
def Stg (A B : World → Prop) (C : Value → World → Prop) (D : World → Prop) (la lb lc : Bool) (v : Value) (W : World) : Prop :=
 match lc, lb, la with
 | true, _, _ => D W
 | false, true, _ => C v W
 | false, false, true => B W
 | false, false, false => A W
theorem set_self {L : Array Bool} {i n : Nat} (h : L.size = n) (hi : i < n) : (L.setIfInBounds i true).getD i false = true := by
 subst h
 simp [hi]
theorem set_other {L : Array Bool} {i j : Nat} (h : i ≠ j) : (L.setIfInBounds i true).getD j false = L.getD j false := getD_set_ne false h
end
section
open Go.RowKit Go.Maps
theorem part_len (W : Nat) (mask : List Int) (i q : Nat) : (partT W mask i ++ cellK W mask i q).length ≤ 4 * i + q := by
 have c : ∀ i q, (cellK W mask i q).length ≤ q := by
  intro i q
  unfold cellK
  rw [List.length_map]
  exact Nat.le_trans (List.length_filter_le _ _) (by simp)
 have p : ∀ n, (partT W mask n).length ≤ 4 * n := by
  intro n
  induction n with
  | zero => simp [partT]
  | succ n ih =>
   rw [partT_succ, List.length_append]
   have := c n 4
   omega
 rw [List.length_append]
 have := p i
 have := c i q
 omega
theorem new_tri {W : Nat} (hW : 0 < W) (mask : List Int) (i q : Nat) : triAt W i q ∉ partT W mask i ++ cellK W mask i q := by
 intro h
 rcases List.mem_append.1 h with h | h
 ·obtain ⟨j, hj, k, _, _, e⟩ := partT_mem.1 h
  have h2 := triAt_lt hW hj (k := k) (m := q)
  rw [← e] at h2
  exact triLt_irrefl _ h2
 ·obtain ⟨k, hk, _, e⟩ := cellK_mem.1 h
  have := congrArg (fun t : T3 => t.2.2) e
  simp only [triAt] at this
  omega
theorem own_sl0 {w : World} {base n sz : Nat} {e : TypeId} {v : Value} {xs : List Value} (h : w.ownsRow base e sz v n xs) : ∃ A c, v = .slice A n c ∧ (A = none → c = 0) := by
 rcases h.2 with ⟨rfl, h0⟩ | ⟨g, cap, cur, rfl, _⟩
 ·exact ⟨none, 0, by rw [h0], fun _ => rfl⟩
 ·exact ⟨_, _, rfl, fun h => by cases h⟩
structure LayS (w : World) (W H : Nat) (vm vc : Value) (L : List T3) (m : Nat) (vt : Value) (wr : World) : Prop where
 box : wr.heap[w.heap.size]? = some (.cells #[.int .i64 W, .int .i64 H, vm, vc] 25 (0, 0))
 pap : PapI wr (w.heap.size + 1 + 1 + 1) (w.heap.size + 1) (w.heap.size + 1 + 1) W H vm vc vt L m 0 (fun _ => none)
 own : wr.ownsRow w.heap.size 44 3 vt L.length (tcT L)
 bel : Below w.heap.size w wr
theorem LayS.below {w : World} {W H : Nat} {vm vc vt : Value} {L : List T3} {m : Nat} {wr w' : World} (h : LayS w W H vm vc L m vt wr) (hb : Below wr.heap.size wr w') : LayS w W H vm vc L m vt w' :=
 ⟨blk_below h.box hb (blk_lt h.box), h.pap.below hb, od h.own hb, stay_b h.bel hb⟩
theorem own_set {w : World} {base g : Nat} {e : TypeId} {sz n : Nat} {v : Value} {xs : List Value} (h : w.ownsRow base e sz v n xs) (hg : ∀ k, v.ownBlock = some k → k ≠ g) (i : Nat) (u : Value) : (w.setCell ⟨g, i, none⟩ u).ownsRow base e sz v n xs := by
 refine ⟨h.1, ?_⟩
 rcases h.2 with h0 | ⟨k, cap, cur, rfl, h1, h2, rest⟩
 ·exact .inl h0
 ·exact .inr ⟨k, cap, cur, rfl, h1, (Below.heap_setCell w ⟨g, i, none⟩ u k (hg k rfl)).trans h2, rest⟩
theorem own_cells {w : World} {base sz n : Nat} {e : TypeId} {v : Value} {xs : List Value} (h : w.ownsRow base e sz v n xs) : ∀ j, v.ownBlock = some j → ∃ cs, w.heap[j]? = some (.cells cs e (0, 0)) := by
 intro j hj
 rcases h.2 with ⟨rfl, _⟩ | ⟨k, cap, cur, rfl, h1, h2, _⟩
 ·simp [Value.ownBlock] at hj
 ·obtain rfl : k = j := by simpa [Value.ownBlock] using hj
  exact ⟨cur, h2⟩
theorem own_not {w : World} {base sz n g : Nat} {e t : TypeId} {v : Value} {xs : List Value} {cs : Array Value} (h : w.ownsRow base e sz v n xs) (hg : w.heap[g]? = some (.cells cs t (0, 0))) (hne : e ≠ t) : v.ownBlock ≠ some g := by
 intro hk
 obtain ⟨cs2, h2⟩ := own_cells h g hk
 rw [h2] at hg
 simp at hg
 exact hne hg.2
theorem MapI.is {α : Type} {k : KE α} {w : World} {b n : Nat} {f : α → Option Int} (h : MapI k w b n f) : ∃ es c, w.heap[b]? = some (.map es c) := by
 obtain ⟨D, ⟨es, c, h1, _⟩, _⟩ := h
 exact ⟨es, c, h1⟩
theorem own_notmap {w : World} {base sz n g : Nat} {e : TypeId} {v : Value} {xs : List Value} (h : w.ownsRow base e sz v n xs) (hg : ∃ es c, w.heap[g]? = some (.map es c)) : v.ownBlock ≠ some g := by
 intro hk
 obtain ⟨cs2, h2⟩ := own_cells h g hk
 obtain ⟨es, c, hg⟩ := hg
 rw [h2] at hg
 cases hg
theorem cells_notmap {w : World} {g b : Nat} {cs : Array Value} {t : TypeId} {fr : Nat × Nat} (h : w.heap[g]? = some (.cells cs t fr)) (hg : ∃ es c, w.heap[b]? = some (.map es c)) : some g ≠ some b := by
 intro e
 cases e
 obtain ⟨es, c, hg⟩ := hg
 rw [h] at hg
 cases hg
theorem own_lt_of {w : World} {base sz n : Nat} {e : TypeId} {v : Value} {xs : List Value} (h : w.ownsRow base e sz v n xs) {k : Nat} (hk : v.ownBlock = some k) : base ≤ k ∧ k < w.heap.size := h.lt k hk
structure LayR (w : World) (W H : Nat) (vm vc : Value) (L : List T3) (m tb : Nat) (ax ay q : Nat) (wr : World) : Prop where
 box : wr.heap[w.heap.size]? = some (.cells #[.int .i64 W, .int .i64 H, vm, vc] 25 (0, 0))
 num : MapI kT wr (w.heap.size + 1) m (numF (L ++ [(((ax : Nat) : Int), ((ay : Nat) : Int), (q : Int))]))
 kin : MapI kE wr (w.heap.size + 1 + 1) 0 (fun _ => none)
 tri : wr.heap[tb]? = some (.cells #[.int .i64 ax, .int .i64 ay, .int .i64 q] 44 (0, 0))
 bel : Below w.heap.size w wr
abbrev papO (w : World) (W H : Nat) (vm vc v : Value) : Obj := .cells #[.int .i64 W, .int .i64 H, vm, vc, v, .map (some (w.heap.size + 1)), .map (some (w.heap.size + 1 + 1))] 72 (0, 0)
structure AppC (w : World) (W H : Nat) (vm vc : Value) (L : List T3) (m tb ax ay q : Nat) (vt v : Value) (wr : World) : Prop where
 r : LayR w W H vm vc L m tb ax ay q wr
 f : ∃ g c, v = .slice (some ⟨g, 0, none⟩) (L.length + 1) c
 o : wr.ownsRow w.heap.size 44 3 v (L.length + 1) (tcT L ++ [.int .i64 ax, .int .i64 ay, .int .i64 q])
 b : wr.heap[w.heap.size + 1 + 1 + 1]? = some (papO w W H vm vc vt)
structure AppD (w : World) (W H : Nat) (vm vc : Value) (L : List T3) (m tb ax ay q : Nat) (vt v : Value) (wr : World) : Prop where
 r : LayR w W H vm vc L m tb ax ay q wr
 o : wr.ownsRow w.heap.size 44 3 v (L.length + 1) (tcT L ++ [.int .i64 ax, .int .i64 ay, .int .i64 q])
 b : wr.heap[w.heap.size + 1 + 1 + 1]? = some (papO w W H vm vc v)
section
variable {w : World} {W H : Nat} {vm vc vt v : Value} {L : List T3} {m tb ax ay q : Nat} {wr w5 w6 : World}
theorem LayS.own6 (h : LayS w W H vm vc L m vt w5) (hg : w5.drew.grownBy w6 (some (w.heap.size + 1))) : w6.ownsRow w.heap.size 44 3 vt L.length (tcT L) :=
 World.ownsRow.kept (w := w5.drew) h.own hg (.inr (own_notmap h.own h.pap.num.is))
theorem LayS.blk6 (h : LayS w W H vm vc L m vt w5) (hg : w5.drew.grownBy w6 (some (w.heap.size + 1))) : w6.heap[w.heap.size + 1 + 1 + 1]? = some (papO w W H vm vc vt) :=
 (hg.block _ (blk_lt h.pap.blk) (fun e => cells_notmap h.pap.blk h.pap.num.is e)).trans h.pap.blk
theorem LayS.lay6 (h : LayS w W H vm vc L m vt w5) (hg : w5.drew.grownBy w6 (some (w.heap.size + 1))) (ht : w5.heap[tb]? = some (.cells #[.int .i64 ax, .int .i64 ay, .int .i64 q] 44 (0, 0))) {m' : Nat}
  (hn : MapI kT w6 (w.heap.size + 1) m' (numF (L ++ [(((ax : Nat) : Int), ((ay : Nat) : Int), (q : Int))]))) : LayR w W H vm vc L m' tb ax ay q w6 where
 box := (hg.block _ (blk_lt h.box) (fun e => cells_notmap h.box h.pap.num.is e)).trans h.box
 num := hn
 kin := h.pap.kin.heap (hg.block _ h.pap.kin.lt (fun e => by injection e with e; omega))
 tri := (hg.block _ (blk_lt ht) (fun e => cells_notmap ht h.pap.num.is e)).trans ht
 bel := (show Below w.heap.size w w5.drew from h.bel.drew).grown hg h.bel.size (fun k hk => by cases hk; omega)
theorem LayR.app {w6 : World} (h : LayR w W H vm vc L m tb ax ay q w6) (hb : w6.heap[w.heap.size + 1 + 1 + 1]? = some (papO w W H vm vc vt)) (ho : w6.ownsRow w.heap.size 44 3 vt L.length (tcT L)) (ha : ∀ k, vt.ownBlock = some k → k ≠ tb)
  (v2 : Value) (w2 : World) {o : Obj} (h1 : w2.ownsRow w.heap.size 44 3 v2 (L.length + 1) (tcT L ++ [.int .i64 ax, .int .i64 ay, .int .i64 q])) (h2 : Below w.heap.size (w6.alloc o).drew w2) (h3 : GrowOf (w6.alloc o).drew w2 vt v2) : AppC w W H vm vc L m tb ax ay q vt v2 w2 := by
 have key : ∀ {g : Nat} {x : Obj}, w6.heap[g]? = some x → vt.ownBlock ≠ some g → w2.heap[g]? = some x := by
  intro g x hg hne
  have h4 : (w6.alloc o).drew.heap[g]? = some x := blk_alloc hg o
  exact (h3.grown.block g (blk_lt h4) (fun e => hne e.symm)).trans h4
 have keym : ∀ {g : Nat}, g < w6.heap.size → vt.ownBlock ≠ some g → w2.heap[g]? = w6.heap[g]? := by
  intro g hg hne
  obtain ⟨x, hx⟩ : ∃ x, w6.heap[g]? = some x := ⟨_, Array.getElem?_eq_getElem hg⟩
  rw [hx]
  exact key hx hne
 obtain ⟨g, c, _, hv, _⟩ := own_addr h1 (Nat.succ_pos _)
 refine ⟨⟨key h.box (own_not ho h.box (by decide)), h.num.heap (keym h.num.lt (own_notmap ho h.num.is)), h.kin.heap (keym h.kin.lt (own_notmap ho h.kin.is)), key h.tri (fun e => ha _ e rfl), ?_⟩, ⟨g, c, hv⟩, h1, key hb (own_not ho hb (by decide))⟩
 have h5 : Below w.heap.size w (w6.alloc o).drew := (h.bel.alloc h.bel.size o).drew
 exact h5.trans h2
theorem AppC.store (h : AppC w W H vm vc L m tb ax ay q vt v wr) : AppD w W H vm vc L m tb ax ay q vt v (wr.setCell ⟨w.heap.size + 1 + 1 + 1, 4, none⟩ v) := by
 have hne : ∀ {g : Nat} {cs : Array Value} {t : TypeId}, wr.heap[g]? = some (.cells cs t (0, 0)) → t ≠ 72 → g ≠ w.heap.size + 1 + 1 + 1 := by
  intro g cs t hg ht e
  subst e
  have := h.b
  rw [hg] at this
  simp at this
  exact ht this.2
 have hm : ∀ {g : Nat}, (∃ es c, wr.heap[g]? = some (.map es c)) → (wr.setCell ⟨w.heap.size + 1 + 1 + 1, 4, none⟩ v).heap[g]? = wr.heap[g]? := by
  rintro g ⟨es, c, hg⟩
  have hne2 : g ≠ w.heap.size + 1 + 1 + 1 := by
   intro e
   subst e
   have := h.b
   rw [hg] at this
   cases this
  exact (blk_far hg (p := ⟨w.heap.size + 1 + 1 + 1, 4, none⟩) hne2 v).trans hg.symm
 refine ⟨⟨blk_far h.r.box (p := ⟨w.heap.size + 1 + 1 + 1, 4, none⟩) (hne h.r.box (by decide)) v, h.r.num.heap (hm h.r.num.is), h.r.kin.heap (hm h.r.kin.is), blk_far h.r.tri (p := ⟨w.heap.size + 1 + 1 + 1, 4, none⟩) (hne h.r.tri (by decide)) v, h.r.bel.setCell (by show w.heap.size ≤ w.heap.size + 1 + 1 + 1; omega) _⟩, ?_, ?_⟩
 ·have h1 := own_not h.o h.b (by decide)
  exact own_set h.o (fun k hk e => h1 (by rw [hk, e])) 4 v
 ·exact blk_set h.b 4 v
theorem AppD.lay (h : AppD w W H vm vc L m tb ax ay q vt v wr) : LayS w W H vm vc (L ++ [(((ax : Nat) : Int), ((ay : Nat) : Int), (q : Int))]) m v wr :=
 ⟨h.r.box, ⟨h.b, h.r.num, h.r.kin⟩, by rw [List.length_append, tcT_app]; exact h.o, h.r.bel⟩
end
theorem off_of_no {L : Array Bool} {i n : Nat} (hs : L.size = n) (hi : i < n) (h : L.getD i true = false) : L.getD i false = false := by
 subst hs
 simp [hi] at h ⊢
 exact h
def Chn11 (L : Array Bool) : Prop := (L.getD 7 false = true → L.getD 4 false = true ∧ L.getD 6 false = true) ∧ (L.getD 10 false = true → L.getD 7 false = true) ∧ (L.getD 6 false = true → L.getD 5 false = true)
theorem chn11_start : Chn11 (Array.replicate 11 false) := by
 unfold Chn11
 refine ⟨?_, ?_, ?_⟩ <;> intro h <;> simp at h
theorem Chn11.keep {L : Array Bool} {i : Nat} (h : Chn11 L) (h1 : i ≠ 7) (h2 : i ≠ 10) (h3 : i ≠ 6) : Chn11 (L.setIfInBounds i true) := by
 unfold Chn11 at *
 rw [set_other h1, set_other h2, set_other h3]
 exact ⟨fun h7 => ⟨getD_set_true (h.1 h7).1, (h.1 h7).2⟩, h.2.1, fun h6 => getD_set_true (h.2.2 h6)⟩
theorem Stg.keep11 {A B : World → Prop} {C : Value → World → Prop} {D : World → Prop} {L : Array Bool} {i : Nat} {s s' : Nat → Value} {W : World} (h : Stg A B C D (L.getD 6 false) (L.getD 7 false) (L.getD 10 false) (s 7) W) (h1 : i ≠ 6) (h2 : i ≠ 7) (h3 : i ≠ 10) (hs : s' 7 = s 7) :
  Stg A B C D ((L.setIfInBounds i true).getD 6 false) ((L.setIfInBounds i true).getD 7 false) ((L.setIfInBounds i true).getD 10 false) (s' 7) W := by
 rw [set_other h1, set_other h2, set_other h3, hs]
 exact h
end
end
end Go.Proofs.YtpkjekedgodccaaGreatDoor
