/- Words for memory: a slice that reads as a list; what the walks of this seat share.. Words for blocks; the leaf functions of the grid's layer: what may be. -/
import Derived.Test.YtpkjekedgodccaaGreatDoorChecked
import Derived.WalkKit
import Derived.WalkLawsBesides
import Derived.WalkSpells
import Derived.Below
import Derived.Laws.OwnMore
import Derived.Deep.Draws
import Derived.Deep.QuietTactic
import Derived.BigQuiet
import Derived.Lib.Hide
import Derived.Maps.AppendAt
import Derived.RegionTactic
import Derived.Deep.RegionLaw
import Derived.Laws.BitsLemmas
import Derived.Deep.RegionHeld3
namespace Go.Proofs.YtpkjekedgodccaaGreatDoor
set_option linter.unusedSimpArgs false
set_option linter.unusedVariables false
section
open Go.RowKit
theorem ret_int {k : IntKind} {a b : Int} (h : a = b) : Ending.returned (.int k a) = .returned (.int k b) := by rw [h]
theorem ret_bool {a b : Bool} (h : a = b) : Ending.returned (.bool a) = .returned (.bool b) := by rw [h]
theorem addr_add (b off i : Nat) : (⟨b, off, none⟩ : Addr).add i = ⟨b, off + i, none⟩ := by
 unfold Addr.add; split
 ·subst_vars; rfl
 ·rfl
def Rd (w : World) (sz : Nat) (A : Option Addr) (n : Nat) (xs : List Value) : Prop :=
 xs.length = n * sz ∧ (0 < n → ∃ b off, A = some ⟨b, off, none⟩ ∧ b < w.heap.size ∧ ∀ j u, xs[j]? = some u → w.cell? ⟨b, off + j, none⟩ = some u)
section
variable {w w' : World} {sz n : Nat} {A : Option Addr} {xs : List Value}
theorem Rd.nil : Rd w sz A 0 [] := ⟨by simp, fun h => absurd h (by omega)⟩
theorem Rd.len (h : Rd w sz A n xs) : xs.length = n * sz := h.1
theorem Rd.at_ (h : Rd w sz A n xs) (hn : 0 < n) : ∃ b off, A = some ⟨b, off, none⟩ ∧ b < w.heap.size ∧ ∀ j u, xs[j]? = some u → w.cell? ⟨b, off + j, none⟩ = some u := h.2 hn
theorem Rd.keep (h : Rd w sz A n xs) {B : Nat} (hb : Below B w w') (hB : w.heap.size ≤ B) : Rd w' sz A n xs :=
 ⟨h.1, fun hn => by
  obtain ⟨b, off, e, hlt, hc⟩ := h.2 hn
  exact ⟨b, off, e, Nat.lt_of_lt_of_le hlt hb.size, fun j u hu => (hb.cell (p := ⟨b, off + j, none⟩) (Nat.lt_of_lt_of_le hlt hB)).trans (hc j u hu)⟩⟩
theorem Rd.below (h : Rd w sz A n xs) (hb : Below w.heap.size w w') : Rd w' sz A n xs := h.keep hb (Nat.le_refl _)
theorem Rd.alloc (h : Rd w sz A n xs) (o : Obj) : Rd (w.alloc o) sz A n xs := h.below ((Below.refl _ _).alloc (Nat.le_refl _) o)
theorem Rd.drew (h : Rd w sz A n xs) : Rd w.drew sz A n xs := h.below (Below.refl _ _).drew
theorem Rd.drewN (h : Rd w sz A n xs) (k : Nat) : Rd (w.drewN k) sz A n xs := h.below (below_drewN (Below.refl _ _) k)
theorem Rd.grown (h : Rd w sz A n xs) {row : Option Nat} (hg : w.grownBy w' row) (hr : ∀ a, A = some a → some a.block ≠ row) : Rd w' sz A n xs :=
 ⟨h.1, fun hn => by
  obtain ⟨b, off, e, hlt, hc⟩ := h.2 hn
  exact ⟨b, off, e, Nat.lt_of_lt_of_le hlt hg.size, fun j u hu => (World.cell?_of_block (hg.block b hlt (hr _ e))).trans (hc j u hu)⟩⟩
theorem Rd.of_own {base : Nat} {e : TypeId} {c : Nat} (h : w.ownsRow base e sz (.slice A n c) n xs) : Rd w sz A n xs := by
 refine ⟨h.1, fun hn => ?_⟩
 rcases h.2 with ⟨_, h0⟩ | ⟨g, cap, cur, hv, _, hg, _⟩
 ·omega
 ·injection hv with hA _ _
  subst hA
  refine ⟨g, 0, rfl, (Array.getElem?_eq_some_iff.1 hg).1, fun j u hu => ?_⟩
  have := h.cells (g := g) rfl j u hu
  rwa [addr_add] at this
end
theorem own_slice {w : World} {base : Nat} {e : TypeId} {sz n : Nat} {v : Value} {xs : List Value} (h : w.ownsRow base e sz v n xs) :
  ∃ A c, v = .slice A n c ∧ n ≤ c ∧ c ≤ maxLen := by
 rcases h.2 with ⟨rfl, rfl⟩ | ⟨g, cap, cur, rfl, _, _, h1, h2, _⟩
 ·exact ⟨_, _, rfl, Nat.le_refl _, Nat.zero_le _⟩
 ·exact ⟨_, _, rfl, h1, h2⟩
theorem own_below {w w' : World} {B base : Nat} {e : TypeId} {sz n : Nat} {v : Value} {xs : List Value} (h : w.ownsRow base e sz v n xs) (hb : Below B w w') (hB : w.heap.size ≤ B) :
  w'.ownsRow base e sz v n xs := by
 refine ⟨h.1, ?_⟩
 rcases h.2 with h0 | ⟨g, cap, cur, rfl, h1, hg, rest⟩
 ·exact .inl h0
 ·exact .inr ⟨g, cap, cur, rfl, h1, (hb.block g (Nat.lt_of_lt_of_le (Array.getElem?_eq_some_iff.1 hg).1 hB)).trans hg, rest⟩
theorem own_mono {w : World} {base base' : Nat} {e : TypeId} {sz n : Nat} {v : Value} {xs : List Value} (h : w.ownsRow base e sz v n xs) (hb : base' ≤ base) :
  w.ownsRow base' e sz v n xs := by
 refine ⟨h.1, ?_⟩
 rcases h.2 with h0 | ⟨g, cap, cur, rfl, h1, rest⟩
 ·exact .inl h0
 ·exact .inr ⟨g, cap, cur, rfl, Nat.le_trans hb h1, rest⟩
abbrev vis (l : List Int) : List Value := l.map (Value.int .i64)
theorem Rd.int {w : World} {A : Option Addr} {n : Nat} {zs : List Int} (h : Rd w 1 A n (vis zs)) {k : Nat} (hk : k < n) :
  ∃ b off z, A = some ⟨b, off, none⟩ ∧ b < w.heap.size ∧ zs[k]? = some z ∧ w.cell? ⟨b, off + k, none⟩ = some (.int .i64 z) := by
 obtain ⟨b, off, e, hb, hc⟩ := h.2 (by omega)
 have hl : zs.length = n := by have := h.1; simpa using this
 have hk' : k < zs.length := by omega
 exact ⟨b, off, zs[k], e, hb, List.getElem?_eq_getElem hk', hc k _ (by rw [List.getElem?_map, List.getElem?_eq_getElem hk']; rfl)⟩
theorem Rd.ints_len {w : World} {A : Option Addr} {n : Nat} {zs : List Int} (h : Rd w 1 A n (vis zs)) : zs.length = n := by have := h.1; simpa using this
theorem int_info : (Tryz.prog.info? 3).map (fun i => (i.zero, i.size, i.bytes)) = some (some (.int .i64 0), 1, 8) := by kernel_rfl
structure GrowOf (w w' : World) (v v' : Value) : Prop where
 grown : w.grownBy w' v.ownBlock
 at_ : v'.ownBlock = v.ownBlock ∨ ∃ g, v'.ownBlock = some g ∧ w.heap.size ≤ g
def Off (v : Value) (A : Option Addr) : Prop := ∀ a, A = some a → v.ownBlock ≠ some a.block
theorem Rd.lt {w : World} {sz n : Nat} {A : Option Addr} {xs : List Value} (h : Rd w sz A n xs) (hn : 0 < n) : ∀ a, A = some a → a.block < w.heap.size := by
 intro a ha
 obtain ⟨b, off, e, hb, _⟩ := h.2 hn
 subst e
 injection ha with ha
 subst ha
 exact hb
theorem Rd.grow {w w' : World} {v v' : Value} {sz n : Nat} {A : Option Addr} {xs : List Value} (h : Rd w sz A n xs) (hg : GrowOf w w' v v') (ho : Off v A) : Rd w' sz A n xs :=
 h.grown hg.grown (fun a ha e => ho a ha e.symm)
theorem Off.grow {w w' : World} {v v' : Value} {A : Option Addr} (ho : Off v A) (hlt : ∀ a, A = some a → a.block < w.heap.size) (hg : GrowOf w w' v v') : Off v' A := by
 intro a ha e
 rcases hg.at_ with h | ⟨g, h, hge⟩
 ·exact ho a ha (h.symm.trans e)
 ·have := hlt a ha
  have : some g = some a.block := h.symm.trans e
  injection this with this
  omega
theorem own_grow {w w' : World} {v v' : Value} {base sz n : Nat} {e : TypeId} {u : Value} {xs : List Value} (h : w.ownsRow base e sz u n xs) (hg : GrowOf w w' v v') (hne : u.ownBlock = none ∨ u.ownBlock ≠ v.ownBlock) :
  w'.ownsRow base e sz u n xs := h.kept hg.grown hne
section
variable {w : World}
theorem app_gen {T E : TypeId} {z : Value} {sz bytes : Nat} (hT : Tryz.prog.underlying T = some (.slice E)) (hE : (Tryz.prog.info? E).map (fun i => (i.zero, i.size, i.bytes)) = some (some z, sz, bytes))
  (hzs : z.cells.size = sz) (hsz : 0 < sz) (hby : bytes ≤ 4096)
  {ops : Array Oper} {rest : List Oper} {o : Oper} {a : Act} {Q : Exit → Act → World → Prop} (hgd : o.guard = none) (s x : Operand)
  (ho : o.op = .call { callee := .builtin .append, args := #[s, x], argTypes := #[T, T] })
  (base : Nat) (v : Value) (n : Nat) (xs news : List Value) (hs : a.eval s = v) (hown : w.ownsRow base E sz v n xs) (hbase : base ≤ w.heap.size)
  (m g : Nat) (hg : g = w.heap.size) (hx : a.eval x = .slice (some ⟨g, 0, none⟩) m m) (hm : news.length = m * sz) (h1 : ∀ u ∈ news, u.oneCell' = true) (hn : n + m ≤ 2147483648)
  (h : ∀ v' w', w'.ownsRow base E sz v' (n + m) (xs ++ news) → Below base w w' → GrowOf w w' v v' → wpList Tryz.prog ops Q rest (a.put o.dst v') w') :
  wpList Tryz.prog ops Q (o :: rest) a (w.alloc (.cells news.toArray E)) := by
 subst hg
 obtain ⟨i0, hi, hz0, hz1, hz2⟩ := info_parts hE
 have hmul : (n + m) * bytes ≤ 2147483648 * 4096 := Nat.mul_le_mul hn hby
 refine wpList_append_own_at _ hgd s x T ho base E i0 z sz bytes hT hi hz0 hz1 hz2 hzs hsz v n xs hs (hown.alloc _) ⟨w.heap.size, 0, none⟩ m m news hx
  hm ?_ h1 (by simp only [maxLen]; omega) (by omega) (by simp; omega) ?_
 ·intro j u hu
  rw [addr_add, World.cell?_alloc_at _ _ _ _ rfl]
  simpa using hu
 ·intro v' w' h1 h2 _ h3
  refine h v' w' h1 (((Below.refl _ _).alloc hbase _).grown h2 (by simp; omega) (fun k hk => ((hown.alloc (.cells news.toArray E)).lt k hk).1)) ⟨?_, ?_⟩
  ·exact (World.grownBy_alloc w _ _).trans h2
  ·rcases h3 with h3 | h3
   ·exact .inl h3
   ·exact .inr ⟨_, h3, by simp⟩
end
theorem step_app {T E : TypeId} {z : Value} {sz bytes : Nat} (hT : Tryz.prog.underlying T = some (.slice E)) (hE : (Tryz.prog.info? E).map (fun i => (i.zero, i.size, i.bytes)) = some (some z, sz, bytes))
  (hzs : z.cells.size = sz) (hsz : 0 < sz) (hby : bytes ≤ 4096)
  {w : World} {ops : Array Oper} {o : Oper} {a : Act} {K : Act → World → Prop} {Q : Exit → Act → World → Prop} {Z : Prop} (hgd : o.guard = none) (s x : Operand)
  (ho : o.op = .call { callee := .builtin .append, args := #[s, x], argTypes := #[T, T] })
  (base : Nat) (v : Value) (n : Nat) (xs news : List Value) (hs : a.eval s = v) (hown : w.ownsRow base E sz v n xs) (hbase : base ≤ w.heap.size)
  (m g : Nat) (hx : a.eval x = .slice (some ⟨g, 0, none⟩) m m) (hblk : w.heap[g]? = some (.cells news.toArray E (0, 0))) (hm : news.length = m * sz) (h1 : ∀ u ∈ news, u.oneCell' = true) (hn : n + m ≤ 2147483648)
  (h : ∀ v' w', w'.ownsRow base E sz v' (n + m) (xs ++ news) → Below base w w' → GrowOf w w' v v' → K (a.put o.dst v') w') :
  if Region.wanted o (yielded ops a.tmps) = true then Oper.wp Tryz.prog o a w K Q else Z := by
 have hw : Region.wanted o (yielded ops a.tmps) = true := by simp [Region.wanted, hgd]
 rw [if_pos hw]
 obtain ⟨i0, hi, hz0, hz1, hz2⟩ := info_parts hE
 have hmul : (n + m) * bytes ≤ 2147483648 * 4096 := Nat.mul_le_mul hn hby
 have hnews : ∀ j u, news[j]? = some u → w.cell? ((⟨g, 0, none⟩ : Addr).add j) = some u := by
  intro j u hu
  rw [addr_add, cell_of_row w g (0 + j) _ _ (0, 0) hblk]
  simpa using hu
 obtain ⟨v', w', hrun, h2, h3, _, h5⟩ := run_append_own_at (P := Tryz.prog) w base T o.type E i0 z sz bytes hT hi hz0 hz1 hz2 hzs hsz v n xs hown ⟨g, 0, none⟩ m m news hm hnews h1 (by simp only [maxLen]; omega) (by omega) hbase
 unfold Oper.wp execOp
 simp only [ho, resolve, invoke, builtin, Sem.run_bind, Sem.run_pure, Result.andThen_ok, List.map_toArray, List.map_cons, List.map_nil, hs, hx, hrun]
 refine h v' w' h2 ((Below.refl _ _).grown h3 hbase (fun k hk => (hown.lt k hk).1)) ⟨h3, ?_⟩
 rcases h5 with h5 | h5
 ·exact .inl h5
 ·exact .inr ⟨_, h5, Nat.le_refl _⟩
end
section
section
open Go.RowKit
theorem cell_of_blk {w : World} {g : Nat} {t : TypeId} {cs : Array Value} (h : w.heap[g]? = some (.cells cs t (0, 0))) (i : Nat) : w.cell? ⟨g, i, none⟩ = cs[i]? := cell_of_row w g i cs t (0, 0) h
theorem frozen_of_blk {w : World} {g : Nat} {t : TypeId} {cs : Array Value} (h : w.heap[g]? = some (.cells cs t (0, 0))) (i : Nat) : w.frozen? ⟨g, i, none⟩ = false := by simp [World.frozen?, h]
theorem blk_lt {w : World} {g : Nat} {o : Obj} (h : w.heap[g]? = some o) : g < w.heap.size := (Array.getElem?_eq_some_iff.1 h).1
theorem blk_set {w : World} {g : Nat} {t : TypeId} {cs : Array Value} (h : w.heap[g]? = some (.cells cs t (0, 0))) (i : Nat) (u : Value) : (w.setCell ⟨g, i, none⟩ u).heap[g]? = some (.cells (cs.setIfInBounds i u) t (0, 0)) := by
 simp [World.setCell, Array.getElem?_modify, h]
theorem blk_far {w : World} {g : Nat} {o : Obj} (h : w.heap[g]? = some o) {p : Addr} (hp : g ≠ p.block) (u : Value) : (w.setCell p u).heap[g]? = some o := (Below.heap_setCell w p u g hp).trans h
theorem blk_alloc {w : World} {g : Nat} {o : Obj} (h : w.heap[g]? = some o) (o' : Obj) : (w.alloc o').heap[g]? = some o := (Below.heap_alloc w o' g (blk_lt h)).trans h
theorem blk_below {w w' : World} {B g : Nat} {o : Obj} (h : w.heap[g]? = some o) (hb : Below B w w') (hg : g < B) : w'.heap[g]? = some o := (hb.block g hg).trans h
theorem stay_c {B : Nat} {w w' : World} {a : Addr} {v : Value} (h : w.cell? a = some v) (hb : Below B w w') (hB : w.heap.size ≤ B) : w'.cell? a = some v :=
 (hb.cell (by have := World.block_lt_of_cell? w _ h; omega)).trans h
theorem sd {w w' : World} {a : Addr} {v : Value} (h : w.cell? a = some v) (hb : Below w.heap.size w w') : w'.cell? a = some v := stay_c h hb (Nat.le_refl _)
theorem od {w w' : World} {base : Nat} {e : TypeId} {sz n : Nat} {v : Value} {xs : List Value} (h : w.ownsRow base e sz v n xs) (hb : Below w.heap.size w w') : w'.ownsRow base e sz v n xs := own_below h hb (Nat.le_refl _)
theorem stay_b {v w w' : World} (h : Below v.heap.size v w) (hb : Below w.heap.size w w') : Below v.heap.size v w' := h.trans (hb.mono h.size)
theorem below_new (w : World) (o : Obj) : Below w.heap.size w (w.alloc o) := (Below.refl _ _).alloc (Nat.le_refl _) o
def inN (n : Int) : Bool := decide (-1000000 ≤ n) && decide (n ≤ 1000000)
def triMayB (x y k : Int) : Bool := decide (0 ≤ k) && decide (k ≤ 3) && inN x && inN y
set_option maxHeartbeats 400000 in
theorem inB_any (n a b : Int) (w : World) : Calls Tryz.prog 70 #[.int .i64 n, .int .i64 a, .int .i64 b] w fun e w' => e = .returned (.bool (decide (a ≤ n) && decide (n ≤ b))) ∧ w = w' := by
 by_cases h1 : a ≤ n
 ·go_enter Tryz.func70, Tryz.ntmps70
  go_wp2
  go_ret
  exact ⟨by simp [h1], rfl⟩
 ·go_enter Tryz.func70, Tryz.ntmps70
  go_wp2
  go_ret
  exact ⟨by congr 2; simp; omega, rfl⟩
theorem and1 (n : Int) : bits .and .i64 n 1 = n % 2 := by
 have h : (BitVec.ofInt 64 1).toNat = 2 ^ 1 - 1 := by decide
 have key : (BitVec.ofInt 64 n &&& BitVec.ofInt 64 1).toNat = (n % ((2 ^ 64 : Nat) : Int)).toNat % 2 ^ 1 := by
  rw [BitVec.toNat_and, BitVec.toNat_ofInt, h, Nat.and_two_pow_sub_one_eq_mod]
 show IntKind.i64.wrap ((BitVec.ofInt 64 n &&& BitVec.ofInt 64 1).toNat : Nat) = n % 2
 rw [key, IntKind.wrap_i64]
 omega
theorem and3 (n : Int) : bits .and .i64 n 3 = n % 4 := by
 have h : (BitVec.ofInt 64 3).toNat = 2 ^ 2 - 1 := by decide
 have key : (BitVec.ofInt 64 n &&& BitVec.ofInt 64 3).toNat = (n % ((2 ^ 64 : Nat) : Int)).toNat % 2 ^ 2 := by
  rw [BitVec.toNat_and, BitVec.toNat_ofInt, h, Nat.and_two_pow_sub_one_eq_mod]
 show IntKind.i64.wrap ((BitVec.ofInt 64 n &&& BitVec.ofInt 64 3).toNat : Nat) = n % 4
 rw [key, IntKind.wrap_i64]
 omega
theorem tmod2 (c : Int) : (c.tmod 2 == 0) = decide (c % 2 = 0) := by
 have hd := Int.tmod_def c 2
 rw [Bool.eq_iff_iff]
 simp only [beq_iff_eq, decide_eq_true_eq]
 constructor
 ·intro h; omega
 ·intro h; exact Int.tmod_eq_zero_of_dvd (by omega)
end
section
open Go.RowKit
structure Steps (w : World) : Prop where
 a0 : w.cell? ⟨0, 0, none⟩ = some (.int .i64 (-1))
 a1 : w.cell? ⟨0, 1, none⟩ = some (.int .i64 (-1))
 b0 : w.cell? ⟨0, 2, none⟩ = some (.int .i64 1)
 b1 : w.cell? ⟨0, 3, none⟩ = some (.int .i64 (-1))
 c0 : w.cell? ⟨0, 4, none⟩ = some (.int .i64 1)
 c1 : w.cell? ⟨0, 5, none⟩ = some (.int .i64 1)
 d0 : w.cell? ⟨0, 6, none⟩ = some (.int .i64 (-1))
 d1 : w.cell? ⟨0, 7, none⟩ = some (.int .i64 1)
theorem Steps.lt {w : World} (h : Steps w) : 0 < w.heap.size := World.block_lt_of_cell? w _ h.a0
theorem Steps.keep {B : Nat} {w w' : World} (h : Steps w) (hb : Below B w w') (hB : w.heap.size ≤ B) : Steps w' :=
 ⟨stay_c h.a0 hb hB, stay_c h.a1 hb hB, stay_c h.b0 hb hB, stay_c h.b1 hb hB, stay_c h.c0 hb hB, stay_c h.c1 hb hB, stay_c h.d0 hb hB, stay_c h.d1 hb hB⟩
theorem Steps.below {w w' : World} (h : Steps w) (hb : Below w.heap.size w w') : Steps w' := h.keep hb (Nat.le_refl _)
theorem Steps.alloc {w : World} (h : Steps w) (o : Obj) : Steps (w.alloc o) := h.below (below_new w o)
def stepX (j : Int) : Int := if j = 1 then 1 else if j = 2 then 1 else -1
def stepY (j : Int) : Int := if j = 2 then 1 else if j = 3 then 1 else -1
def cornX (x k : Int) : Int := 2 * x + 1 + stepX (k % 4)
def cornY (y k : Int) : Int := 2 * y + 1 + stepY (k % 4)
theorem step_below {w : World} (o o' : Obj) : Below w.heap.size w ((w.alloc o).alloc o') := ((Below.refl _ _).alloc (Nat.le_refl _) _).alloc (by simp) _
set_option maxRecDepth 100000 in
set_option maxHeartbeats 1600000 in
theorem corner1_any (k mx my : Int) (g : Nat) (w : World) (hs : Steps w) (c0 : w.cell? ⟨g, 0, none⟩ = some (.int .i64 mx)) (c1 : w.cell? ⟨g, 1, none⟩ = some (.int .i64 my))
  (x1 : -3000000 ≤ mx) (x2 : mx ≤ 3000000) (y1 : -3000000 ≤ my) (y2 : my ≤ 3000000) :
  Calls Tryz.prog 82 #[.int .i64 k, .pointer (some ⟨g, 0, none⟩)] w fun e w' => e = .returned (.agg #[.int .i64 (mx + stepX (k % 4)), .int .i64 (my + stepY (k % 4))]) ∧ Below w.heap.size w w' := by
 have hg : g < w.heap.size := World.block_lt_of_cell? w _ c0
 have hlt := hs.lt
 have hm : k % 4 = 0 ∨ k % 4 = 1 ∨ k % 4 = 2 ∨ k % 4 = 3 := by omega
 rcases hm with hm | hm | hm | hm
 ·have hbit : bits .and .i64 k 3 = 0 := by rw [and3, hm]
  have HM := Lib.hid hm
  clear hm
  have t0 := hs.a0
  have t1 := hs.a1
  go_enter Tryz.func82, Tryz.ntmps82
  go_wp2
  refine bodyPost_ret (v := .agg #[.int .i64 (mx + (-1)), .int .i64 (my + (-1))]) (by simp [results, Tryz.results82, go_sem]) rfl ⟨by rw [HM.out]; rfl, ?_⟩
  exact step_below _ _
 ·have hbit : bits .and .i64 k 3 = 1 := by rw [and3, hm]
  have HM := Lib.hid hm
  clear hm
  have t0 := hs.b0
  have t1 := hs.b1
  go_enter Tryz.func82, Tryz.ntmps82
  go_wp2
  refine bodyPost_ret (v := .agg #[.int .i64 (mx + 1), .int .i64 (my + (-1))]) (by simp [results, Tryz.results82, go_sem]) rfl ⟨by rw [HM.out]; rfl, ?_⟩
  exact step_below _ _
 ·have hbit : bits .and .i64 k 3 = 2 := by rw [and3, hm]
  have HM := Lib.hid hm
  clear hm
  have t0 := hs.c0
  have t1 := hs.c1
  go_enter Tryz.func82, Tryz.ntmps82
  go_wp2
  refine bodyPost_ret (v := .agg #[.int .i64 (mx + 1), .int .i64 (my + 1)]) (by simp [results, Tryz.results82, go_sem]) rfl ⟨by rw [HM.out]; rfl, ?_⟩
  exact step_below _ _
 ·have hbit : bits .and .i64 k 3 = 3 := by rw [and3, hm]
  have HM := Lib.hid hm
  clear hm
  have t0 := hs.d0
  have t1 := hs.d1
  go_enter Tryz.func82, Tryz.ntmps82
  go_wp2
  refine bodyPost_ret (v := .agg #[.int .i64 (mx + (-1)), .int .i64 (my + 1)]) (by simp [results, Tryz.results82, go_sem]) rfl ⟨by rw [HM.out]; rfl, ?_⟩
  exact step_below _ _
end
end
end Go.Proofs.YtpkjekedgodccaaGreatDoor
