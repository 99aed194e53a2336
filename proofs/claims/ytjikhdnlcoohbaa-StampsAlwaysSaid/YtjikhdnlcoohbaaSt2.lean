/- The ties of stamps whose heights are known. -/
import Derived.Test.YtjikhdnlcoohbaaInv
namespace Go.Proofs.Ytjikhdnlcoohbaa
set_option linter.unusedSimpArgs false
set_option linter.unusedVariables false
open Go.RowKit St

def tcs (T : List (Int × Int)) : List Value := T.flatMap fun t => [.int .i64 t.1, .int .i64 t.2]
theorem tcs_app (T U : List (Int × Int)) : tcs (T ++ U) = tcs T ++ tcs U := by simp [tcs]
theorem tcs_len (T : List (Int × Int)) : (tcs T).length = T.length * 2 := by
  induction T with
  | nil => rfl
  | cons t T ih => simp [tcs] at ih ⊢; omega
theorem tie_info : (Try.prog.info? 58).map (fun i => (i.zero, i.size, i.bytes)) = some (some (.agg #[.int .i64 0, .int .i64 0]), 2, 16) := by kernel_rfl
def Apart (v u : Value) : Prop := v.ownBlock = none ∨ v.ownBlock ≠ u.ownBlock
theorem Apart.symm {v u : Value} (h : Apart v u) : Apart u v := by
  unfold Apart at *
  rcases h with h | h
  · cases hu : u.ownBlock with
    | none => exact .inl rfl
    | some k => rw [h]; exact .inr (by simp)
  · exact .inr fun e => h e.symm
theorem Apart.grow {w w' : World} {v v' u : Value} {base n sz : Nat} {e : TypeId} {xs : List Value} (h : Apart v u) (hg : GrowOf w w' v v') (hu : w.ownsRow base e sz u n xs) : Apart v' u := by
  rcases hg.at_ with e | ⟨g, e, hge⟩
  · unfold Apart at *
    rw [e]
    exact h
  · refine .inr fun e2 => ?_
    rw [e] at e2
    have := (hu.lt g e2.symm).2
    omega
theorem own_app {w w' : World} {u v v' : Value} {base n sz : Nat} {e : TypeId} {xs : List Value} (h : w.ownsRow base e sz u n xs) (hg : GrowOf w w' v v') (ha : Apart u v) : w'.ownsRow base e sz u n xs := own_grow h hg ha
theorem ties_succ (h : Nat → Int) (i p : Nat) : tiesOf h (i + 1) p = tiesOf h i p ++ (if 0 < i ∧ i % 2 = p then [(min (h (i - 1)) (h i), max (h (i - 1)) (h i))] else []) := by
  unfold tiesOf
  rw [List.range_succ, List.filter_append, List.map_append]
  congr 1
  by_cases hc : 0 < i ∧ i % 2 = p
  · rw [if_pos hc, List.filter_cons, if_pos (by simpa using hc)]
    rfl
  · rw [if_neg hc, List.filter_cons, if_neg (by simpa using hc)]
    rfl
theorem ties_le (h : Nat → Int) (n p : Nat) : (tiesOf h n p).length ≤ n := by
  unfold tiesOf
  rw [List.length_map]
  exact Nat.le_trans (List.length_filter_le _ _) (by simp)
theorem and1 (n : Int) : bits .and .i64 n 1 = n % 2 := by
  have h : (BitVec.ofInt 64 1).toNat = 2 ^ 1 - 1 := by decide
  have key : (BitVec.ofInt 64 n &&& BitVec.ofInt 64 1).toNat = (n % ((2 ^ 64 : Nat) : Int)).toNat % 2 ^ 1 := by
    rw [BitVec.toNat_and, BitVec.toNat_ofInt, h, Nat.and_two_pow_sub_one_eq_mod]
  show IntKind.i64.wrap ((BitVec.ofInt 64 n &&& BitVec.ofInt 64 1).toNat : Nat) = n % 2
  rw [key, IntKind.wrap_i64]
  omega
theorem grow_blk {w w' : World} {v v' : Value} {g : Nat} {o : Obj} (h : w.heap[g]? = some o) (hg : GrowOf w w' v v') (hne : v.ownBlock ≠ some g) : w'.heap[g]? = some o := (hg.grown.block g (blk_lt h) (fun e => hne e.symm)).trans h
theorem grow_blk_d {w w' : World} {v v' : Value} {g : Nat} {o o' : Obj} (h : w.heap[g]? = some o) (hg : GrowOf (w.alloc o').drew w' v v') (hne : v.ownBlock ≠ some g) : w'.heap[g]? = some o := grow_blk (w := (w.alloc o').drew) (show (w.alloc o').heap[g]? = _ from blk_alloc h _) hg hne
theorem far_c {w : World} {g b i j : Nat} {u : Value} (h : w.cell? ⟨b, j, none⟩ = some u) (hne : g ≠ b) (x : Value) : (w.setCell ⟨g, i, none⟩ x).cell? ⟨b, j, none⟩ = some u := (World.cell?_setCell_far w _ _ _ hne).trans h
theorem own_not {w : World} {base sz n g : Nat} {e t : TypeId} {v : Value} {xs : List Value} {cs : Array Value} (h : w.ownsRow base e sz v n xs) (hg : w.heap[g]? = some (.cells cs t (0, 0))) (hne : e ≠ t) : v.ownBlock ≠ some g := by
  rcases h.2 with ⟨rfl, _⟩ | ⟨k, cap, cur, rfl, h1, h2, _⟩
  · simp [Value.ownBlock]
  · intro hk
    obtain rfl : k = g := by simpa [Value.ownBlock] using hk
    rw [h2] at hg
    simp at hg
    exact hne hg.2
theorem step_app_tie {w : World} {ops : Array Oper} {o : Oper} {a : Act} {K : Act → World → Prop} {Q : Exit → Act → World → Prop} {Z : Prop} (hgd : o.guard = none) (s x : Operand)
    (ho : o.op = .call { callee := .builtin .append, args := #[s, x], argTypes := #[54, 54] })
    (base : Nat) (v : Value) (n : Nat) (xs : List Value) (p q : Int) (hs : a.eval s = v) (hown : w.ownsRow base 58 2 v n xs) (hbase : base ≤ w.heap.size)
    (g : Nat) (hx : a.eval x = .slice (some ⟨g, 0, none⟩) 1 1) (hblk : w.heap[g]? = some (.cells #[.int .i64 p, .int .i64 q] 58 (0, 0))) (hn : n + 1 ≤ 2147483648)
    (h : ∀ v' w', w'.ownsRow base 58 2 v' (n + 1) (xs ++ [.int .i64 p, .int .i64 q]) → Below base w w' → GrowOf w w' v v' → K (a.put o.dst v') w') :
    if Region.wanted o (yielded ops a.tmps) = true then Oper.wp Try.prog o a w K Q else Z :=
  step_app Try.underlying54 tie_info rfl (by decide) (by decide) hgd s x ho base v n xs [.int .i64 p, .int .i64 q] hs hown hbase 1 g hx hblk rfl
    (fun u hu => by simp only [List.mem_cons, List.not_mem_nil, or_false] at hu; rcases hu with rfl | rfl <;> rfl) hn h
def Chn (L : Array Bool) : Prop := (L.getD 28 false = true → L.getD 5 false = true ∧ L.getD 27 false = true) ∧ (L.getD 30 false = true → L.getD 28 false = true)
theorem chn_start : Chn (Array.replicate 31 false) := by
  unfold Chn
  constructor <;> intro h <;> simp at h
theorem Chn.keep {L : Array Bool} {i : Nat} (h : Chn L) (h1 : i ≠ 28) (h2 : i ≠ 30) : Chn (L.setIfInBounds i true) := by
  unfold Chn at *
  rw [set_other h1, set_other h2]
  exact ⟨fun h28 => ⟨getD_set_true (h.1 h28).1, getD_set_true (h.1 h28).2⟩, h.2⟩
theorem Stg.keep {A B : World → Prop} {C : Value → World → Prop} {D : World → Prop} {L : Array Bool} {i : Nat} {s s' : Nat → Value} {W : World} (h : Stg A B C D (L.getD 27 false) (L.getD 28 false) (L.getD 30 false) (s 28) W) (h1 : i ≠ 27) (h2 : i ≠ 28) (h3 : i ≠ 30) (hs : s' 28 = s 28) :
    Stg A B C D ((L.setIfInBounds i true).getD 27 false) ((L.setIfInBounds i true).getD 28 false) ((L.setIfInBounds i true).getD 30 false) (s' 28) W := by
  rw [set_other h1, set_other h2, set_other h3, hs]
  exact h
theorem off_of_no {L : Array Bool} {i n : Nat} (hs : L.size = n) (hi : i < n) (h : L.getD i true = false) : L.getD i false = false := by
  subst hs
  simp [hi] at h ⊢
  exact h
/-- what lies behind the append, ahead of the store -/
structure TieC (base ga : Nat) (cs : Array Value) (len : Nat) (xs : List Value) (vo : Value) (lo : Nat) (ys : List Value) (wr : World) (v : Value) (W : World) : Prop where
  f : ∃ g c, v = .slice (some ⟨g, 0, none⟩) len c
  o : W.ownsRow base 58 2 v len xs
  p : W.ownsRow base 58 2 vo lo ys
  a : Apart v vo
  b : W.heap[ga]? = some (.cells cs 55 (0, 0))
  z : W.heap[base]? = some (.cells #[.slice none 0 0, .slice none 0 0] 55 (0, 0))
  w : Below base wr W
structure TieD (base ga : Nat) (f : Value → Array Value) (len : Nat) (xs : List Value) (vo : Value) (lo : Nat) (ys : List Value) (wr : World) (v : Value) (W : World) : Prop where
  o : W.ownsRow base 58 2 v len xs
  p : W.ownsRow base 58 2 vo lo ys
  a : Apart v vo
  b : W.heap[ga]? = some (.cells (f v) 55 (0, 0))
  z : W.heap[base]? = some (.cells #[.slice none 0 0, .slice none 0 0] 55 (0, 0))
  w : Below base wr W
theorem TieC.store {base ga : Nat} {cs : Array Value} {f : Value → Array Value} {len : Nat} {xs : List Value} {vo : Value} {lo : Nat} {ys : List Value} {wr : World} {v : Value} {W : World} (h : TieC base ga cs len xs vo lo ys wr v W) (hB : base < ga) (j : Nat) (hf : cs.setIfInBounds j v = f v) :
    TieD base ga f len xs vo lo ys wr v (W.setCell ⟨ga, j, none⟩ v) := by
  have n1 := own_not h.o h.b (by decide)
  have n2 := own_not h.p h.b (by decide)
  refine ⟨own_set h.o (fun k hk e => n1 (by rw [hk, e])) j v, own_set h.p (fun k hk e => n2 (by rw [hk, e])) j v, h.a, ?_, blk_far h.z (p := ⟨ga, j, none⟩) (Nat.ne_of_lt hB) v, h.w.setCell (Nat.le_of_lt hB) _⟩
  rw [← hf]
  exact blk_set h.b j v
set_option maxRecDepth 100000 in
set_option maxHeartbeats 6400000 in
theorem ties_any (A : Option Addr) (n c : Nat) (hl : List Int) (w : World) (h : Rd w 1 A n (vis hl)) (hn : n ≤ 100) (hn0 : 0 < n) :
    Calls Try.prog 37 #[.slice A n c] w fun e w' => ∃ v0 v1, e = .returned (.agg #[v0, v1]) ∧ w'.ownsRow w.heap.size 58 2 v0 (tiesOf (fn hl) n 0).length (tcs (tiesOf (fn hl) n 0)) ∧ w'.ownsRow w.heap.size 58 2 v1 (tiesOf (fn hl) n 1).length (tcs (tiesOf (fn hl) n 1)) ∧ Below w.heap.size w w' := by
  obtain ⟨b, off, hA⟩ := h.addr hn0
  subst hA
  have HR := Lib.hid h
  clear h
  go_enter Try.func37, Try.ntmps37
  go_wp2_with fail
  go_loopw [4] (fun i wr => ∃ (k : Nat) (v0 v1 : Value), 1 ≤ k ∧ k ≤ n ∧ i = .int .i64 k ∧ wr.heap[w.heap.size + 1]? = some (.cells #[v0, v1] 55 (0, 0)) ∧ wr.heap[w.heap.size]? = some (.cells #[.slice none 0 0, .slice none 0 0] 55 (0, 0)) ∧ wr.ownsRow w.heap.size 58 2 v0 (tiesOf (fn hl) k 0).length (tcs (tiesOf (fn hl) k 0)) ∧ wr.ownsRow w.heap.size 58 2 v1 (tiesOf (fn hl) k 1).length (tcs (tiesOf (fn hl) k 1)) ∧ Apart v0 v1 ∧ Below w.heap.size w wr ∧ w.heap.size + 1 < wr.heap.size) (fun i _ => n - (intOf i).toNat)
  case atStart => exact ⟨1, .slice none 0 0, .slice none 0 0, by omega, by omega, rfl, new_blk _ (by simp), blk_alloc (new_blk _ rfl) _, World.ownsRow_nil _ _ _ _, World.ownsRow_nil _ _ _ _, .inl rfl, (below_new _ _).alloc (by simp) _, by simp⟩
  case round =>
    obtain ⟨k, v0, v1, hk1, hk, rfl, hblk, hzk, ho0, ho1, hap, hbel, hsz⟩ := hrel
    have hbw : b < w.heap.size := by
      obtain ⟨b', off', e, hb, _⟩ := HR.out.2 hn0
      simp only [Option.some.injEq, Addr.mk.injEq, and_true] at e
      rw [e.1]
      exact hb
    have HO0 := Lib.hid ho0
    have HO1 := Lib.hid ho1
    have HAP := Lib.hid hap
    clear ho0 ho1 hap
    by_cases hkn : k < n
    · have c1 := (HR.out.below hbel).at_fn hkn
      have c2 := (HR.out.below hbel).at_fn (show k - 1 < n by omega)
      have b0 := cell_of_blk hblk 0
      have b1 := cell_of_blk hblk 1
      simp only [List.getElem?_toArray, List.getElem?_cons_zero, List.getElem?_cons_succ] at b0 b1
      obtain ⟨y1, hy1⟩ : ∃ y, y = fn hl k := ⟨_, rfl⟩
      obtain ⟨y0, hy0⟩ : ∃ y, y = fn hl (k - 1) := ⟨_, rfl⟩
      rw [← hy1] at c1
      rw [← hy0] at c2
      have HY1 := Lib.hid hy1
      have HY0 := Lib.hid hy0
      obtain ⟨q, hq⟩ : ∃ q, q = k - 1 := ⟨_, rfl⟩
      rw [← hq] at c2 HY0
      have w1 : IntKind.i64.wrap ((k : Int) - 1) = (q : Int) := by rw [IntWalk.i64_in _ (by omega)]; omega
      have w2 : (k : Int) - 1 = (q : Int) := by omega
      have hqn : q < n := by omega
      have wq : IntKind.i64.wrap (q : Int) = (q : Int) := IntWalk.i64_in _ (by omega)
      have HQ := Lib.hid hq
      clear hy1 hy0 hq
      obtain ⟨lo, hlo⟩ : ∃ y, y = (if y1 < y0 then y1 else y0) := ⟨_, rfl⟩
      obtain ⟨hi, hhi⟩ : ∃ y, y = (if y0 < y1 then y1 else y0) := ⟨_, rfl⟩
      have htie : (min (fn hl (k - 1)) (fn hl k), max (fn hl (k - 1)) (fn hl k)) = (lo, hi) := by
        rw [← HQ.out, ← HY0.out, ← HY1.out, hlo, hhi]
        simp only [Int.min_def, Int.max_def]
        congr 1 <;> split <;> split <;> omega
      have hst := fun p => ties_succ (fn hl) k p
      simp only [htie] at hst
      have HST := Lib.hid hst
      have hne0 := own_not HO0.out hblk (by decide)
      have hne1 := own_not HO1.out hblk (by decide)
      have HB := Lib.hid hblk
      have HZ := Lib.hid hzk
      have hnz0 := own_not HO0.out hzk (by decide)
      have hnz1 := own_not HO1.out hzk (by decide)
      have l0 := ties_le (fn hl) k 0
      have l1 := ties_le (fn hl) k 1
      clear htie hst
      have hbga : w.heap.size + 1 ≠ b := by omega
      have hS : wr.drew.cell? ⟨b, off + k, none⟩ = some (.int .i64 y1) ∧ wr.drew.cell? ⟨b, off + q, none⟩ = some (.int .i64 y0) := ⟨c1, c2⟩
      have hnew : ∀ u ∈ [Value.int .i64 (if y1 < y0 then y1 else y0), Value.int .i64 (if y0 < y1 then y1 else y0)], u.oneCell' = true := by
        intro u hu
        simp only [List.mem_cons, List.not_mem_nil, or_false] at hu
        rcases hu with rfl | rfl <;> rfl
      have hszo : ∀ o, w.heap.size ≤ (wr.alloc o).drew.heap.size := fun o => by
        have := hbel.size
        show w.heap.size ≤ (wr.alloc o).heap.size
        simp
        omega
      have hl0 : (tiesOf (fn hl) k 0).length + 1 ≤ 2147483648 := by omega
      have hl1 : (tiesOf (fn hl) k 1).length + 1 ≤ 2147483648 := by omega
      by_cases hp : k % 2 = 0
      · have ha : bits .and .i64 (k : Int) 1 = 0 := by rw [and1]; omega
        have hs0 := HST.out 0
        rw [if_pos ⟨by omega, by omega⟩] at hs0
        have hs1 := HST.out 1
        rw [if_neg (by omega)] at hs1
        rw [List.append_nil] at hs1
        have HS0 := Lib.hid hs0
        have HS1 := Lib.hid hs1
        clear hs0 hs1 hp
        go_wp2_with fail
        refine wp_region_inv (fun Lq aq WN => ∃ s : Nat → Value, aq = { tmps := #[.slice (some ⟨b, off, none⟩) n c, undef, .pointer (some ⟨w.heap.size, 0, none⟩), .pointer (some ⟨w.heap.size + 1, 0, none⟩), .int .i64 k, .int .i64 k, .slice (some ⟨b, off, none⟩) n c, .int .i64 n, .bool true, u9, u10, (s 0), (s 1), (s 2), (s 3), (s 4), (s 5), (s 6), (s 7), (s 8), (s 9), (s 10), (s 11), (s 12), (s 13), (s 14), (s 15), (s 16), (s 17), (s 18), (s 19), (s 20), (s 21), (s 22), (s 23), (s 24), (s 25), (s 26), (s 27), (s 28), (s 29), undef], defers := [] } ∧ Sv 31 [some (.int .i64 k), some (.int .i64 0), some (.int .i64 k), some (.int .i64 0), some (.pointer (some ⟨w.heap.size + 1, 0, none⟩)), some (v0), some (.slice (some ⟨b, off, none⟩) n c), some (.int .i64 k), some (.int .i64 q), some (.pointer (some ⟨b, off + q, none⟩)), some (.int .i64 y0), some (.slice (some ⟨b, off, none⟩) n c), some (.int .i64 k), some (.pointer (some ⟨b, off + k, none⟩)), some (.int .i64 y1), some (.int .i64 (if y1 < y0 then y1 else y0)), some (.slice (some ⟨b, off, none⟩) n c), some (.int .i64 k), some (.int .i64 q), some (.pointer (some ⟨b, off + q, none⟩)), some (.int .i64 y0), some (.slice (some ⟨b, off, none⟩) n c), some (.int .i64 k), some (.pointer (some ⟨b, off + k, none⟩)), some (.int .i64 y1), some (.int .i64 (if y0 < y1 then y1 else y0)), some (.agg #[.int .i64 (if y1 < y0 then y1 else y0), .int .i64 (if y0 < y1 then y1 else y0)]), some (.slice (some ⟨wr.heap.size, 0, none⟩) 1 1), none, some (.pointer (some ⟨w.heap.size + 1, 0, none⟩)), none] Lq s ∧ (WN.cell? ⟨b, off + k, none⟩ = some (.int .i64 y1) ∧ WN.cell? ⟨b, off + q, none⟩ = some (.int .i64 y0)) ∧ Chn Lq ∧ Stg (fun W => W = wr.drew) (fun W => W = (wr.alloc (.cells #[.int .i64 (if y1 < y0 then y1 else y0), .int .i64 (if y0 < y1 then y1 else y0)] 58)).drew) (TieC w.heap.size (w.heap.size + 1) #[v0, v1] ((tiesOf (fn hl) k 0).length + 1) (tcs (tiesOf (fn hl) k 0) ++ [Value.int .i64 (if y1 < y0 then y1 else y0), Value.int .i64 (if y0 < y1 then y1 else y0)]) v1 (tiesOf (fn hl) k 1).length (tcs (tiesOf (fn hl) k 1)) wr) (fun W => ∃ v, TieD w.heap.size (w.heap.size + 1) (fun v => #[v, v1]) ((tiesOf (fn hl) k 0).length + 1) (tcs (tiesOf (fn hl) k 0) ++ [Value.int .i64 (if y1 < y0 then y1 else y0), Value.int .i64 (if y0 < y1 then y1 else y0)]) v1 (tiesOf (fn hl) k 1).length (tcs (tiesOf (fn hl) k 1)) wr v W) (Lq.getD 27 false) (Lq.getD 28 false) (Lq.getD 30 false) (s 28) WN) (by kernel_rfl) ?_ ?_ ?_
        · exact ⟨listF [u11, u12, u13, u14, u15, u16, u17, u18, u19, u20, u21, u22, u23, u24, u25, u26, u27, u28, u29, u30, u31, u32, u33, u34, u35, u36, u37, u38, u39, u40], rfl, Sv.start 31 _ _, hS, chn_start, rfl⟩
        · intro Lq aq WN i hI hr
          obtain ⟨s, rfl, hv, ⟨hc1, hc2⟩, hch, hst⟩ := hI
          have hi : i < 31 := ready_lt hr
          have HV := Lib.hid hv
          have HC := Lib.hid hch
          have HST2 := Lib.hid hst
          clear hv hch hst
          have hc : i = 0 ∨ i = 1 ∨ i = 2 ∨ i = 3 ∨ i = 4 ∨ i = 5 ∨ i = 6 ∨ i = 7 ∨ i = 8 ∨ i = 9 ∨ i = 10 ∨ i = 11 ∨ i = 12 ∨ i = 13 ∨ i = 14 ∨ i = 15 ∨ i = 16 ∨ i = 17 ∨ i = 18 ∨ i = 19 ∨ i = 20 ∨ i = 21 ∨ i = 22 ∨ i = 23 ∨ i = 24 ∨ i = 25 ∨ i = 26 ∨ i = 27 ∨ i = 28 ∨ i = 29 ∨ i = 30 := by omega
          clear hi
          rcases hc with rfl | rfl | rfl | rfl | rfl | rfl | rfl | rfl | rfl | rfl | rfl | rfl | rfl | rfl | rfl | rfl | rfl | rfl | rfl | rfl | rfl | rfl | rfl | rfl | rfl | rfl | rfl | rfl | rfl | rfl | rfl
          · have hno := off_of_no HV.out.sz (by decide) (mem_ready.1 hr).1
            clear hr
            refine wpOp_step rfl (fun K hK => ?_)
            go_simp
            refine hK _ _ ?_
            exact ⟨upd s 0 (.int .i64 k), rfl, Sv.put HV.out (fun u hu => by cases hu; rfl), ⟨hc1, hc2⟩, HC.out.keep (by decide) (by decide), HST2.out.keep (by decide) (by decide) (by decide) rfl⟩
          · have hno := off_of_no HV.out.sz (by decide) (mem_ready.1 hr).1
            have d0 := ready_dep hr (k := 0) (by kernel_rfl)
            clear hr
            have e0 : s 0 = .int .i64 k := HV.out.v d0 rfl
            refine wpOp_step rfl (fun K hK => ?_)
            go_simp
            refine hK _ _ ?_
            exact ⟨upd (upd s 0 (.int .i64 k)) 1 (.int .i64 0), rfl, Sv.put (HV.out.re (j := 0) (v := .int .i64 k) e0) (fun u hu => by cases hu; rfl), ⟨hc1, hc2⟩, HC.out.keep (by decide) (by decide), HST2.out.keep (by decide) (by decide) (by decide) rfl⟩
          · have hno := off_of_no HV.out.sz (by decide) (mem_ready.1 hr).1
            clear hr
            refine wpOp_step rfl (fun K hK => ?_)
            go_simp
            refine hK _ _ ?_
            exact ⟨upd s 2 (.int .i64 k), rfl, Sv.put HV.out (fun u hu => by cases hu; rfl), ⟨hc1, hc2⟩, HC.out.keep (by decide) (by decide), HST2.out.keep (by decide) (by decide) (by decide) rfl⟩
          · have hno := off_of_no HV.out.sz (by decide) (mem_ready.1 hr).1
            have d2 := ready_dep hr (k := 2) (by kernel_rfl)
            clear hr
            have e2 : s 2 = .int .i64 k := HV.out.v d2 rfl
            refine wpOp_step rfl (fun K hK => ?_)
            go_simp
            refine hK _ _ ?_
            exact ⟨upd (upd s 2 (.int .i64 k)) 3 (.int .i64 0), rfl, Sv.put (HV.out.re (j := 2) (v := .int .i64 k) e2) (fun u hu => by cases hu; rfl), ⟨hc1, hc2⟩, HC.out.keep (by decide) (by decide), HST2.out.keep (by decide) (by decide) (by decide) rfl⟩
          · have hno := off_of_no HV.out.sz (by decide) (mem_ready.1 hr).1
            have d3 := ready_dep hr (k := 3) (by kernel_rfl)
            clear hr
            have e3 : s 3 = .int .i64 0 := HV.out.v d3 rfl
            refine wpOp_step rfl (fun K hK => ?_)
            go_simp
            refine hK _ _ ?_
            exact ⟨upd (upd s 3 (.int .i64 0)) 4 (.pointer (some ⟨w.heap.size + 1, 0, none⟩)), rfl, Sv.put (HV.out.re (j := 3) (v := .int .i64 0) e3) (fun u hu => by cases hu; rfl), ⟨hc1, hc2⟩, HC.out.keep (by decide) (by decide), HST2.out.keep (by decide) (by decide) (by decide) rfl⟩
          · have hno := off_of_no HV.out.sz (by decide) (mem_ready.1 hr).1
            have d4 := ready_dep hr (k := 4) (by kernel_rfl)
            clear hr
            have e4 : s 4 = .pointer (some ⟨w.heap.size + 1, 0, none⟩) := HV.out.v d4 rfl
            have h28 : Lq.getD 28 false = false := by
              cases h : Lq.getD 28 false with
              | false => rfl
              | true => rw [(HC.out.1 h).1] at hno; cases hno
            have h30 : Lq.getD 30 false = false := by
              cases h : Lq.getD 30 false with
              | false => rfl
              | true => rw [HC.out.2 h] at h28; cases h28
            have hbk : WN.heap[w.heap.size + 1]? = some (.cells #[v0, v1] 55 (0, 0)) := by
              have h := HST2.out
              rw [h28, h30] at h
              cases h27 : Lq.getD 27 false with
              | false => rw [h27] at h; have h2 : WN = wr.drew := h; rw [h2]; exact HB.out
              | true => rw [h27] at h; have h2 : WN = (wr.alloc (.cells #[.int .i64 (if y1 < y0 then y1 else y0), .int .i64 (if y0 < y1 then y1 else y0)] 58)).drew := h; rw [h2]; exact blk_alloc HB.out _
            have bp := cell_of_blk hbk 0
            simp only [List.getElem?_toArray, List.getElem?_cons_zero, List.getElem?_cons_succ] at bp
            clear h28 h30 hbk
            refine wpOp_step rfl (fun K hK => ?_)
            go_simp
            refine hK _ _ ?_
            exact ⟨upd (upd s 4 (.pointer (some ⟨w.heap.size + 1, 0, none⟩))) 5 (v0), rfl, Sv.put (HV.out.re (j := 4) (v := .pointer (some ⟨w.heap.size + 1, 0, none⟩)) e4) (fun u hu => by cases hu; rfl), ⟨hc1, hc2⟩, HC.out.keep (by decide) (by decide), HST2.out.keep (by decide) (by decide) (by decide) rfl⟩
          · have hno := off_of_no HV.out.sz (by decide) (mem_ready.1 hr).1
            clear hr
            refine wpOp_step rfl (fun K hK => ?_)
            go_simp
            refine hK _ _ ?_
            exact ⟨upd s 6 (.slice (some ⟨b, off, none⟩) n c), rfl, Sv.put HV.out (fun u hu => by cases hu; rfl), ⟨hc1, hc2⟩, HC.out.keep (by decide) (by decide), HST2.out.keep (by decide) (by decide) (by decide) rfl⟩
          · have hno := off_of_no HV.out.sz (by decide) (mem_ready.1 hr).1
            clear hr
            refine wpOp_step rfl (fun K hK => ?_)
            go_simp
            refine hK _ _ ?_
            exact ⟨upd s 7 (.int .i64 k), rfl, Sv.put HV.out (fun u hu => by cases hu; rfl), ⟨hc1, hc2⟩, HC.out.keep (by decide) (by decide), HST2.out.keep (by decide) (by decide) (by decide) rfl⟩
          · have hno := off_of_no HV.out.sz (by decide) (mem_ready.1 hr).1
            have d7 := ready_dep hr (k := 7) (by kernel_rfl)
            clear hr
            have e7 : s 7 = .int .i64 k := HV.out.v d7 rfl
            refine wpOp_step rfl (fun K hK => ?_)
            go_simp
            refine hK _ _ ?_
            exact ⟨upd (upd s 7 (.int .i64 k)) 8 (.int .i64 q), rfl, Sv.put (HV.out.re (j := 7) (v := .int .i64 k) e7) (fun u hu => by cases hu; rfl), ⟨hc1, hc2⟩, HC.out.keep (by decide) (by decide), HST2.out.keep (by decide) (by decide) (by decide) rfl⟩
          · have hno := off_of_no HV.out.sz (by decide) (mem_ready.1 hr).1
            have d6 := ready_dep hr (k := 6) (by kernel_rfl)
            have d8 := ready_dep hr (k := 8) (by kernel_rfl)
            clear hr
            have e6 : s 6 = .slice (some ⟨b, off, none⟩) n c := HV.out.v d6 rfl
            have e8 : s 8 = .int .i64 q := HV.out.v d8 rfl
            refine wpOp_step rfl (fun K hK => ?_)
            go_simp
            refine hK _ _ ?_
            exact ⟨upd (upd (upd s 6 (.slice (some ⟨b, off, none⟩) n c)) 8 (.int .i64 q)) 9 (.pointer (some ⟨b, off + q, none⟩)), rfl, Sv.put ((HV.out.re (j := 6) (v := .slice (some ⟨b, off, none⟩) n c) e6).re (j := 8) (v := .int .i64 q) e8) (fun u hu => by cases hu; rfl), ⟨hc1, hc2⟩, HC.out.keep (by decide) (by decide), HST2.out.keep (by decide) (by decide) (by decide) rfl⟩
          · have hno := off_of_no HV.out.sz (by decide) (mem_ready.1 hr).1
            have d9 := ready_dep hr (k := 9) (by kernel_rfl)
            clear hr
            have e9 : s 9 = .pointer (some ⟨b, off + q, none⟩) := HV.out.v d9 rfl
            refine wpOp_step rfl (fun K hK => ?_)
            go_simp
            refine hK _ _ ?_
            exact ⟨upd (upd s 9 (.pointer (some ⟨b, off + q, none⟩))) 10 (.int .i64 y0), rfl, Sv.put (HV.out.re (j := 9) (v := .pointer (some ⟨b, off + q, none⟩)) e9) (fun u hu => by cases hu; rfl), ⟨hc1, hc2⟩, HC.out.keep (by decide) (by decide), HST2.out.keep (by decide) (by decide) (by decide) rfl⟩
          · have hno := off_of_no HV.out.sz (by decide) (mem_ready.1 hr).1
            clear hr
            refine wpOp_step rfl (fun K hK => ?_)
            go_simp
            refine hK _ _ ?_
            exact ⟨upd s 11 (.slice (some ⟨b, off, none⟩) n c), rfl, Sv.put HV.out (fun u hu => by cases hu; rfl), ⟨hc1, hc2⟩, HC.out.keep (by decide) (by decide), HST2.out.keep (by decide) (by decide) (by decide) rfl⟩
          · have hno := off_of_no HV.out.sz (by decide) (mem_ready.1 hr).1
            clear hr
            refine wpOp_step rfl (fun K hK => ?_)
            go_simp
            refine hK _ _ ?_
            exact ⟨upd s 12 (.int .i64 k), rfl, Sv.put HV.out (fun u hu => by cases hu; rfl), ⟨hc1, hc2⟩, HC.out.keep (by decide) (by decide), HST2.out.keep (by decide) (by decide) (by decide) rfl⟩
          · have hno := off_of_no HV.out.sz (by decide) (mem_ready.1 hr).1
            have d11 := ready_dep hr (k := 11) (by kernel_rfl)
            have d12 := ready_dep hr (k := 12) (by kernel_rfl)
            clear hr
            have e11 : s 11 = .slice (some ⟨b, off, none⟩) n c := HV.out.v d11 rfl
            have e12 : s 12 = .int .i64 k := HV.out.v d12 rfl
            refine wpOp_step rfl (fun K hK => ?_)
            go_simp
            refine hK _ _ ?_
            exact ⟨upd (upd (upd s 11 (.slice (some ⟨b, off, none⟩) n c)) 12 (.int .i64 k)) 13 (.pointer (some ⟨b, off + k, none⟩)), rfl, Sv.put ((HV.out.re (j := 11) (v := .slice (some ⟨b, off, none⟩) n c) e11).re (j := 12) (v := .int .i64 k) e12) (fun u hu => by cases hu; rfl), ⟨hc1, hc2⟩, HC.out.keep (by decide) (by decide), HST2.out.keep (by decide) (by decide) (by decide) rfl⟩
          · have hno := off_of_no HV.out.sz (by decide) (mem_ready.1 hr).1
            have d13 := ready_dep hr (k := 13) (by kernel_rfl)
            clear hr
            have e13 : s 13 = .pointer (some ⟨b, off + k, none⟩) := HV.out.v d13 rfl
            refine wpOp_step rfl (fun K hK => ?_)
            go_simp
            refine hK _ _ ?_
            exact ⟨upd (upd s 13 (.pointer (some ⟨b, off + k, none⟩))) 14 (.int .i64 y1), rfl, Sv.put (HV.out.re (j := 13) (v := .pointer (some ⟨b, off + k, none⟩)) e13) (fun u hu => by cases hu; rfl), ⟨hc1, hc2⟩, HC.out.keep (by decide) (by decide), HST2.out.keep (by decide) (by decide) (by decide) rfl⟩
          · have hno := off_of_no HV.out.sz (by decide) (mem_ready.1 hr).1
            have d10 := ready_dep hr (k := 10) (by kernel_rfl)
            have d14 := ready_dep hr (k := 14) (by kernel_rfl)
            clear hr
            have e10 : s 10 = .int .i64 y0 := HV.out.v d10 rfl
            have e14 : s 14 = .int .i64 y1 := HV.out.v d14 rfl
            refine wpOp_step rfl (fun K hK => ?_)
            go_simp
            refine hK _ _ ?_
            exact ⟨upd (upd (upd s 10 (.int .i64 y0)) 14 (.int .i64 y1)) 15 (.int .i64 (if y1 < y0 then y1 else y0)), rfl, Sv.put ((HV.out.re (j := 10) (v := .int .i64 y0) e10).re (j := 14) (v := .int .i64 y1) e14) (fun u hu => by cases hu; rfl), ⟨hc1, hc2⟩, HC.out.keep (by decide) (by decide), HST2.out.keep (by decide) (by decide) (by decide) rfl⟩
          · have hno := off_of_no HV.out.sz (by decide) (mem_ready.1 hr).1
            clear hr
            refine wpOp_step rfl (fun K hK => ?_)
            go_simp
            refine hK _ _ ?_
            exact ⟨upd s 16 (.slice (some ⟨b, off, none⟩) n c), rfl, Sv.put HV.out (fun u hu => by cases hu; rfl), ⟨hc1, hc2⟩, HC.out.keep (by decide) (by decide), HST2.out.keep (by decide) (by decide) (by decide) rfl⟩
          · have hno := off_of_no HV.out.sz (by decide) (mem_ready.1 hr).1
            clear hr
            refine wpOp_step rfl (fun K hK => ?_)
            go_simp
            refine hK _ _ ?_
            exact ⟨upd s 17 (.int .i64 k), rfl, Sv.put HV.out (fun u hu => by cases hu; rfl), ⟨hc1, hc2⟩, HC.out.keep (by decide) (by decide), HST2.out.keep (by decide) (by decide) (by decide) rfl⟩
          · have hno := off_of_no HV.out.sz (by decide) (mem_ready.1 hr).1
            have d17 := ready_dep hr (k := 17) (by kernel_rfl)
            clear hr
            have e17 : s 17 = .int .i64 k := HV.out.v d17 rfl
            refine wpOp_step rfl (fun K hK => ?_)
            go_simp
            refine hK _ _ ?_
            exact ⟨upd (upd s 17 (.int .i64 k)) 18 (.int .i64 q), rfl, Sv.put (HV.out.re (j := 17) (v := .int .i64 k) e17) (fun u hu => by cases hu; rfl), ⟨hc1, hc2⟩, HC.out.keep (by decide) (by decide), HST2.out.keep (by decide) (by decide) (by decide) rfl⟩
          · have hno := off_of_no HV.out.sz (by decide) (mem_ready.1 hr).1
            have d16 := ready_dep hr (k := 16) (by kernel_rfl)
            have d18 := ready_dep hr (k := 18) (by kernel_rfl)
            clear hr
            have e16 : s 16 = .slice (some ⟨b, off, none⟩) n c := HV.out.v d16 rfl
            have e18 : s 18 = .int .i64 q := HV.out.v d18 rfl
            refine wpOp_step rfl (fun K hK => ?_)
            go_simp
            refine hK _ _ ?_
            exact ⟨upd (upd (upd s 16 (.slice (some ⟨b, off, none⟩) n c)) 18 (.int .i64 q)) 19 (.pointer (some ⟨b, off + q, none⟩)), rfl, Sv.put ((HV.out.re (j := 16) (v := .slice (some ⟨b, off, none⟩) n c) e16).re (j := 18) (v := .int .i64 q) e18) (fun u hu => by cases hu; rfl), ⟨hc1, hc2⟩, HC.out.keep (by decide) (by decide), HST2.out.keep (by decide) (by decide) (by decide) rfl⟩
          · have hno := off_of_no HV.out.sz (by decide) (mem_ready.1 hr).1
            have d19 := ready_dep hr (k := 19) (by kernel_rfl)
            clear hr
            have e19 : s 19 = .pointer (some ⟨b, off + q, none⟩) := HV.out.v d19 rfl
            refine wpOp_step rfl (fun K hK => ?_)
            go_simp
            refine hK _ _ ?_
            exact ⟨upd (upd s 19 (.pointer (some ⟨b, off + q, none⟩))) 20 (.int .i64 y0), rfl, Sv.put (HV.out.re (j := 19) (v := .pointer (some ⟨b, off + q, none⟩)) e19) (fun u hu => by cases hu; rfl), ⟨hc1, hc2⟩, HC.out.keep (by decide) (by decide), HST2.out.keep (by decide) (by decide) (by decide) rfl⟩
          · have hno := off_of_no HV.out.sz (by decide) (mem_ready.1 hr).1
            clear hr
            refine wpOp_step rfl (fun K hK => ?_)
            go_simp
            refine hK _ _ ?_
            exact ⟨upd s 21 (.slice (some ⟨b, off, none⟩) n c), rfl, Sv.put HV.out (fun u hu => by cases hu; rfl), ⟨hc1, hc2⟩, HC.out.keep (by decide) (by decide), HST2.out.keep (by decide) (by decide) (by decide) rfl⟩
          · have hno := off_of_no HV.out.sz (by decide) (mem_ready.1 hr).1
            clear hr
            refine wpOp_step rfl (fun K hK => ?_)
            go_simp
            refine hK _ _ ?_
            exact ⟨upd s 22 (.int .i64 k), rfl, Sv.put HV.out (fun u hu => by cases hu; rfl), ⟨hc1, hc2⟩, HC.out.keep (by decide) (by decide), HST2.out.keep (by decide) (by decide) (by decide) rfl⟩
          · have hno := off_of_no HV.out.sz (by decide) (mem_ready.1 hr).1
            have d21 := ready_dep hr (k := 21) (by kernel_rfl)
            have d22 := ready_dep hr (k := 22) (by kernel_rfl)
            clear hr
            have e21 : s 21 = .slice (some ⟨b, off, none⟩) n c := HV.out.v d21 rfl
            have e22 : s 22 = .int .i64 k := HV.out.v d22 rfl
            refine wpOp_step rfl (fun K hK => ?_)
            go_simp
            refine hK _ _ ?_
            exact ⟨upd (upd (upd s 21 (.slice (some ⟨b, off, none⟩) n c)) 22 (.int .i64 k)) 23 (.pointer (some ⟨b, off + k, none⟩)), rfl, Sv.put ((HV.out.re (j := 21) (v := .slice (some ⟨b, off, none⟩) n c) e21).re (j := 22) (v := .int .i64 k) e22) (fun u hu => by cases hu; rfl), ⟨hc1, hc2⟩, HC.out.keep (by decide) (by decide), HST2.out.keep (by decide) (by decide) (by decide) rfl⟩
          · have hno := off_of_no HV.out.sz (by decide) (mem_ready.1 hr).1
            have d23 := ready_dep hr (k := 23) (by kernel_rfl)
            clear hr
            have e23 : s 23 = .pointer (some ⟨b, off + k, none⟩) := HV.out.v d23 rfl
            refine wpOp_step rfl (fun K hK => ?_)
            go_simp
            refine hK _ _ ?_
            exact ⟨upd (upd s 23 (.pointer (some ⟨b, off + k, none⟩))) 24 (.int .i64 y1), rfl, Sv.put (HV.out.re (j := 23) (v := .pointer (some ⟨b, off + k, none⟩)) e23) (fun u hu => by cases hu; rfl), ⟨hc1, hc2⟩, HC.out.keep (by decide) (by decide), HST2.out.keep (by decide) (by decide) (by decide) rfl⟩
          · have hno := off_of_no HV.out.sz (by decide) (mem_ready.1 hr).1
            have d20 := ready_dep hr (k := 20) (by kernel_rfl)
            have d24 := ready_dep hr (k := 24) (by kernel_rfl)
            clear hr
            have e20 : s 20 = .int .i64 y0 := HV.out.v d20 rfl
            have e24 : s 24 = .int .i64 y1 := HV.out.v d24 rfl
            refine wpOp_step rfl (fun K hK => ?_)
            go_simp
            refine hK _ _ ?_
            exact ⟨upd (upd (upd s 20 (.int .i64 y0)) 24 (.int .i64 y1)) 25 (.int .i64 (if y0 < y1 then y1 else y0)), rfl, Sv.put ((HV.out.re (j := 20) (v := .int .i64 y0) e20).re (j := 24) (v := .int .i64 y1) e24) (fun u hu => by cases hu; rfl), ⟨hc1, hc2⟩, HC.out.keep (by decide) (by decide), HST2.out.keep (by decide) (by decide) (by decide) rfl⟩
          · have hno := off_of_no HV.out.sz (by decide) (mem_ready.1 hr).1
            have d15 := ready_dep hr (k := 15) (by kernel_rfl)
            have d25 := ready_dep hr (k := 25) (by kernel_rfl)
            clear hr
            have e15 : s 15 = .int .i64 (if y1 < y0 then y1 else y0) := HV.out.v d15 rfl
            have e25 : s 25 = .int .i64 (if y0 < y1 then y1 else y0) := HV.out.v d25 rfl
            refine wpOp_step rfl (fun K hK => ?_)
            go_simp
            refine hK _ _ ?_
            exact ⟨upd (upd (upd s 15 (.int .i64 (if y1 < y0 then y1 else y0))) 25 (.int .i64 (if y0 < y1 then y1 else y0))) 26 (.agg #[.int .i64 (if y1 < y0 then y1 else y0), .int .i64 (if y0 < y1 then y1 else y0)]), rfl, Sv.put ((HV.out.re (j := 15) (v := .int .i64 (if y1 < y0 then y1 else y0)) e15).re (j := 25) (v := .int .i64 (if y0 < y1 then y1 else y0)) e25) (fun u hu => by cases hu; rfl), ⟨hc1, hc2⟩, HC.out.keep (by decide) (by decide), HST2.out.keep (by decide) (by decide) (by decide) rfl⟩
          · have hno := off_of_no HV.out.sz (by decide) (mem_ready.1 hr).1
            have d26 := ready_dep hr (k := 26) (by kernel_rfl)
            clear hr
            have e26 : s 26 = .agg #[.int .i64 (if y1 < y0 then y1 else y0), .int .i64 (if y0 < y1 then y1 else y0)] := HV.out.v d26 rfl
            have h28 : Lq.getD 28 false = false := by
              cases h : Lq.getD 28 false with
              | false => rfl
              | true => rw [(HC.out.1 h).2] at hno; cases hno
            have h30 : Lq.getD 30 false = false := by
              cases h : Lq.getD 30 false with
              | false => rfl
              | true => rw [HC.out.2 h] at h28; cases h28
            have hw : WN = wr.drew := by
              have h := HST2.out
              rw [hno, h28, h30] at h
              exact h
            subst hw
            refine wpOp_step rfl (fun K hK => ?_)
            go_simp
            refine hK _ _ ?_
            exact ⟨upd (upd s 26 (.agg #[.int .i64 (if y1 < y0 then y1 else y0), .int .i64 (if y0 < y1 then y1 else y0)])) 27 (.slice (some ⟨wr.heap.size, 0, none⟩) 1 1), rfl, Sv.put (HV.out.re (j := 26) (v := .agg #[.int .i64 (if y1 < y0 then y1 else y0), .int .i64 (if y0 < y1 then y1 else y0)]) e26) (fun u hu => by cases hu; rfl), ⟨al_d hc1 _, al_d hc2 _⟩, HC.out.keep (by decide) (by decide), by rw [set_self HV.out.sz (by decide), set_other (by decide), set_other (by decide), h28, h30]; rfl⟩
          · have hno := off_of_no HV.out.sz (by decide) (mem_ready.1 hr).1
            have d5 := ready_dep hr (k := 5) (by kernel_rfl)
            have d27 := ready_dep hr (k := 27) (by kernel_rfl)
            clear hr
            have e5 : s 5 = v0 := HV.out.v d5 rfl
            have e27 : s 27 = .slice (some ⟨wr.heap.size, 0, none⟩) 1 1 := HV.out.v d27 rfl
            have h30 : Lq.getD 30 false = false := by
              cases h : Lq.getD 30 false with
              | false => rfl
              | true => rw [HC.out.2 h] at hno; cases hno
            have hw : WN = (wr.alloc (.cells #[.int .i64 (if y1 < y0 then y1 else y0), .int .i64 (if y0 < y1 then y1 else y0)] 58)).drew := by
              have h := HST2.out
              rw [hno, d27, h30] at h
              exact h
            subst hw
            refine wpOp_step rfl (fun K hK => ?_)
            rw [e5, e27]
            refine step_app_tie rfl (.tmp 16) (.tmp 38) rfl w.heap.size v0 (tiesOf (fn hl) k 0).length (tcs (tiesOf (fn hl) k 0)) (if y1 < y0 then y1 else y0) (if y0 < y1 then y1 else y0) (by rfl) (HO0.out.alloc _) (hszo _) wr.heap.size (by rfl) (new_blk _ rfl) hl0 ?_
            intro v2 w2 hown3 hb2 hgr2
            obtain ⟨g6, c6, _, hv6, _, _, _, _⟩ := own_addr hown3 (Nat.succ_pos _)
            have hTC : TieC w.heap.size (w.heap.size + 1) #[v0, v1] ((tiesOf (fn hl) k 0).length + 1) (tcs (tiesOf (fn hl) k 0) ++ [Value.int .i64 (if y1 < y0 then y1 else y0), Value.int .i64 (if y0 < y1 then y1 else y0)]) v1 (tiesOf (fn hl) k 1).length (tcs (tiesOf (fn hl) k 1)) wr v2 w2 := ⟨⟨g6, c6, hv6⟩, hown3, own_app (w := (wr.alloc (.cells #[.int .i64 (if y1 < y0 then y1 else y0), .int .i64 (if y0 < y1 then y1 else y0)] 58)).drew) (HO1.out.alloc _) hgr2 HAP.out.symm, (Apart.grow (w := (wr.alloc (.cells #[.int .i64 (if y1 < y0 then y1 else y0), .int .i64 (if y0 < y1 then y1 else y0)] 58)).drew) HAP.out hgr2 (HO1.out.alloc _)), grow_blk_d HB.out hgr2 hne0, grow_blk_d HZ.out hgr2 hnz0, (((below_new wr (.cells #[.int .i64 (if y1 < y0 then y1 else y0), .int .i64 (if y0 < y1 then y1 else y0)] 58)).drew).mono hbel.size).trans hb2⟩
            refine hK _ _ ?_
            exact ⟨upd (upd (upd s 5 (v0)) 27 (.slice (some ⟨wr.heap.size, 0, none⟩) 1 1)) 28 v2, rfl, Sv.put ((HV.out.re (j := 5) (v := v0) e5).re (j := 27) (v := .slice (some ⟨wr.heap.size, 0, none⟩) 1 1) e27) (fun u hu => by cases hu), ⟨keep_c hc1 hb2 hbw, keep_c hc2 hb2 hbw⟩, ⟨fun _ => ⟨getD_set_true d5, getD_set_true d27⟩, fun _ => set_self HV.out.sz (by decide)⟩, by rw [set_self HV.out.sz (by decide), set_other (by decide), set_other (by decide), d27, h30]; exact hTC⟩
          · have hno := off_of_no HV.out.sz (by decide) (mem_ready.1 hr).1
            have d1 := ready_dep hr (k := 1) (by kernel_rfl)
            clear hr
            have e1 : s 1 = .int .i64 0 := HV.out.v d1 rfl
            refine wpOp_step rfl (fun K hK => ?_)
            go_simp
            refine hK _ _ ?_
            exact ⟨upd (upd s 1 (.int .i64 0)) 29 (.pointer (some ⟨w.heap.size + 1, 0, none⟩)), rfl, Sv.put (HV.out.re (j := 1) (v := .int .i64 0) e1) (fun u hu => by cases hu; rfl), ⟨hc1, hc2⟩, HC.out.keep (by decide) (by decide), HST2.out.keep (by decide) (by decide) (by decide) rfl⟩
          · have hno := off_of_no HV.out.sz (by decide) (mem_ready.1 hr).1
            have d29 := ready_dep hr (k := 29) (by kernel_rfl)
            have d28 := ready_dep hr (k := 28) (by kernel_rfl)
            clear hr
            have e29 : s 29 = .pointer (some ⟨w.heap.size + 1, 0, none⟩) := HV.out.v d29 rfl
            have hC : TieC w.heap.size (w.heap.size + 1) #[v0, v1] ((tiesOf (fn hl) k 0).length + 1) (tcs (tiesOf (fn hl) k 0) ++ [Value.int .i64 (if y1 < y0 then y1 else y0), Value.int .i64 (if y0 < y1 then y1 else y0)]) v1 (tiesOf (fn hl) k 1).length (tcs (tiesOf (fn hl) k 1)) wr (s 28) WN := by
              have h := HST2.out
              rw [hno, d28] at h
              exact h
            obtain ⟨g6, c6, e28⟩ := hC.f
            have HCC := Lib.hid hC
            have zc := cell_of_blk hC.b 0
            simp only [List.getElem?_toArray, List.getElem?_cons_zero, List.getElem?_cons_succ] at zc
            have zf := frozen_of_blk hC.b 0
            clear hC
            refine wpOp_step rfl (fun K hK => ?_)
            go_simp
            refine hK _ _ ?_
            exact ⟨upd (upd (upd s 29 (.pointer (some ⟨w.heap.size + 1, 0, none⟩))) 28 (.slice (some ⟨g6, 0, none⟩) ((tiesOf (fn hl) k 0).length + 1) c6)) 30 undef, rfl, Sv.put ((HV.out.re (j := 29) (v := .pointer (some ⟨w.heap.size + 1, 0, none⟩)) e29).re (j := 28) (v := .slice (some ⟨g6, 0, none⟩) ((tiesOf (fn hl) k 0).length + 1) c6) e28) (fun u hu => by cases hu), ⟨far_c hc1 hbga _, far_c hc2 hbga _⟩, ⟨fun h => ⟨getD_set_true (HC.out.1 d28).1, getD_set_true (HC.out.1 d28).2⟩, fun _ => getD_set_true d28⟩, by rw [set_self HV.out.sz (by decide)]; exact ⟨s 28, by have := HCC.out.store (f := (fun v => #[v, v1])) (by omega) 0 rfl; rw [e28] at this ⊢; exact this⟩⟩
        · intro Lq aq WN hI hrd
          obtain ⟨s, ha2, hv, _, hch, hst⟩ := hI
          have hall := all_listedM hrd hv.sz (by kernel_rfl)
          rw [hall 30 (by decide)] at hst
          obtain ⟨v2, hD⟩ : ∃ v, TieD w.heap.size (w.heap.size + 1) (fun v => #[v, v1]) ((tiesOf (fn hl) k 0).length + 1) (tcs (tiesOf (fn hl) k 0) ++ [Value.int .i64 (if y1 < y0 then y1 else y0), Value.int .i64 (if y0 < y1 then y1 else y0)]) v1 (tiesOf (fn hl) k 1).length (tcs (tiesOf (fn hl) k 1)) wr v WN := hst
          have HD := Lib.hid hD
          clear hrd hv hch hall hD
          subst ha2
          go_wp2
          go_roundw
          case rel => exact ⟨k + 1, v2, v1, by omega, by omega, by go_num, HD.out.b, HD.out.z, by rw [HS0.out, List.length_append, tcs_app]; simpa [tcs, hlo, hhi] using HD.out.o, by rw [HS1.out]; exact HD.out.p, HD.out.a, hbel.trans HD.out.w, Nat.lt_of_lt_of_le hsz HD.out.w.size⟩
          case measure => simp [intOf]; omega
      · have ha : bits .and .i64 (k : Int) 1 = 1 := by rw [and1]; omega
        have hs0 := HST.out 0
        rw [if_neg (by omega)] at hs0
        have hs1 := HST.out 1
        rw [if_pos ⟨by omega, by omega⟩] at hs1
        rw [List.append_nil] at hs0
        have HS0 := Lib.hid hs0
        have HS1 := Lib.hid hs1
        clear hs0 hs1 hp
        go_wp2_with fail
        refine wp_region_inv (fun Lq aq WN => ∃ s : Nat → Value, aq = { tmps := #[.slice (some ⟨b, off, none⟩) n c, undef, .pointer (some ⟨w.heap.size, 0, none⟩), .pointer (some ⟨w.heap.size + 1, 0, none⟩), .int .i64 k, .int .i64 k, .slice (some ⟨b, off, none⟩) n c, .int .i64 n, .bool true, u9, u10, (s 0), (s 1), (s 2), (s 3), (s 4), (s 5), (s 6), (s 7), (s 8), (s 9), (s 10), (s 11), (s 12), (s 13), (s 14), (s 15), (s 16), (s 17), (s 18), (s 19), (s 20), (s 21), (s 22), (s 23), (s 24), (s 25), (s 26), (s 27), (s 28), (s 29), undef], defers := [] } ∧ Sv 31 [some (.int .i64 k), some (.int .i64 1), some (.int .i64 k), some (.int .i64 1), some (.pointer (some ⟨w.heap.size + 1, 1, none⟩)), some (v1), some (.slice (some ⟨b, off, none⟩) n c), some (.int .i64 k), some (.int .i64 q), some (.pointer (some ⟨b, off + q, none⟩)), some (.int .i64 y0), some (.slice (some ⟨b, off, none⟩) n c), some (.int .i64 k), some (.pointer (some ⟨b, off + k, none⟩)), some (.int .i64 y1), some (.int .i64 (if y1 < y0 then y1 else y0)), some (.slice (some ⟨b, off, none⟩) n c), some (.int .i64 k), some (.int .i64 q), some (.pointer (some ⟨b, off + q, none⟩)), some (.int .i64 y0), some (.slice (some ⟨b, off, none⟩) n c), some (.int .i64 k), some (.pointer (some ⟨b, off + k, none⟩)), some (.int .i64 y1), some (.int .i64 (if y0 < y1 then y1 else y0)), some (.agg #[.int .i64 (if y1 < y0 then y1 else y0), .int .i64 (if y0 < y1 then y1 else y0)]), some (.slice (some ⟨wr.heap.size, 0, none⟩) 1 1), none, some (.pointer (some ⟨w.heap.size + 1, 1, none⟩)), none] Lq s ∧ (WN.cell? ⟨b, off + k, none⟩ = some (.int .i64 y1) ∧ WN.cell? ⟨b, off + q, none⟩ = some (.int .i64 y0)) ∧ Chn Lq ∧ Stg (fun W => W = wr.drew) (fun W => W = (wr.alloc (.cells #[.int .i64 (if y1 < y0 then y1 else y0), .int .i64 (if y0 < y1 then y1 else y0)] 58)).drew) (TieC w.heap.size (w.heap.size + 1) #[v0, v1] ((tiesOf (fn hl) k 1).length + 1) (tcs (tiesOf (fn hl) k 1) ++ [Value.int .i64 (if y1 < y0 then y1 else y0), Value.int .i64 (if y0 < y1 then y1 else y0)]) v0 (tiesOf (fn hl) k 0).length (tcs (tiesOf (fn hl) k 0)) wr) (fun W => ∃ v, TieD w.heap.size (w.heap.size + 1) (fun v => #[v0, v]) ((tiesOf (fn hl) k 1).length + 1) (tcs (tiesOf (fn hl) k 1) ++ [Value.int .i64 (if y1 < y0 then y1 else y0), Value.int .i64 (if y0 < y1 then y1 else y0)]) v0 (tiesOf (fn hl) k 0).length (tcs (tiesOf (fn hl) k 0)) wr v W) (Lq.getD 27 false) (Lq.getD 28 false) (Lq.getD 30 false) (s 28) WN) (by kernel_rfl) ?_ ?_ ?_
        · exact ⟨listF [u11, u12, u13, u14, u15, u16, u17, u18, u19, u20, u21, u22, u23, u24, u25, u26, u27, u28, u29, u30, u31, u32, u33, u34, u35, u36, u37, u38, u39, u40], rfl, Sv.start 31 _ _, hS, chn_start, rfl⟩
        · intro Lq aq WN i hI hr
          obtain ⟨s, rfl, hv, ⟨hc1, hc2⟩, hch, hst⟩ := hI
          have hi : i < 31 := ready_lt hr
          have HV := Lib.hid hv
          have HC := Lib.hid hch
          have HST2 := Lib.hid hst
          clear hv hch hst
          have hc : i = 0 ∨ i = 1 ∨ i = 2 ∨ i = 3 ∨ i = 4 ∨ i = 5 ∨ i = 6 ∨ i = 7 ∨ i = 8 ∨ i = 9 ∨ i = 10 ∨ i = 11 ∨ i = 12 ∨ i = 13 ∨ i = 14 ∨ i = 15 ∨ i = 16 ∨ i = 17 ∨ i = 18 ∨ i = 19 ∨ i = 20 ∨ i = 21 ∨ i = 22 ∨ i = 23 ∨ i = 24 ∨ i = 25 ∨ i = 26 ∨ i = 27 ∨ i = 28 ∨ i = 29 ∨ i = 30 := by omega
          clear hi
          rcases hc with rfl | rfl | rfl | rfl | rfl | rfl | rfl | rfl | rfl | rfl | rfl | rfl | rfl | rfl | rfl | rfl | rfl | rfl | rfl | rfl | rfl | rfl | rfl | rfl | rfl | rfl | rfl | rfl | rfl | rfl | rfl
          · have hno := off_of_no HV.out.sz (by decide) (mem_ready.1 hr).1
            clear hr
            refine wpOp_step rfl (fun K hK => ?_)
            go_simp
            refine hK _ _ ?_
            exact ⟨upd s 0 (.int .i64 k), rfl, Sv.put HV.out (fun u hu => by cases hu; rfl), ⟨hc1, hc2⟩, HC.out.keep (by decide) (by decide), HST2.out.keep (by decide) (by decide) (by decide) rfl⟩
          · have hno := off_of_no HV.out.sz (by decide) (mem_ready.1 hr).1
            have d0 := ready_dep hr (k := 0) (by kernel_rfl)
            clear hr
            have e0 : s 0 = .int .i64 k := HV.out.v d0 rfl
            refine wpOp_step rfl (fun K hK => ?_)
            go_simp
            refine hK _ _ ?_
            exact ⟨upd (upd s 0 (.int .i64 k)) 1 (.int .i64 1), rfl, Sv.put (HV.out.re (j := 0) (v := .int .i64 k) e0) (fun u hu => by cases hu; rfl), ⟨hc1, hc2⟩, HC.out.keep (by decide) (by decide), HST2.out.keep (by decide) (by decide) (by decide) rfl⟩
          · have hno := off_of_no HV.out.sz (by decide) (mem_ready.1 hr).1
            clear hr
            refine wpOp_step rfl (fun K hK => ?_)
            go_simp
            refine hK _ _ ?_
            exact ⟨upd s 2 (.int .i64 k), rfl, Sv.put HV.out (fun u hu => by cases hu; rfl), ⟨hc1, hc2⟩, HC.out.keep (by decide) (by decide), HST2.out.keep (by decide) (by decide) (by decide) rfl⟩
          · have hno := off_of_no HV.out.sz (by decide) (mem_ready.1 hr).1
            have d2 := ready_dep hr (k := 2) (by kernel_rfl)
            clear hr
            have e2 : s 2 = .int .i64 k := HV.out.v d2 rfl
            refine wpOp_step rfl (fun K hK => ?_)
            go_simp
            refine hK _ _ ?_
            exact ⟨upd (upd s 2 (.int .i64 k)) 3 (.int .i64 1), rfl, Sv.put (HV.out.re (j := 2) (v := .int .i64 k) e2) (fun u hu => by cases hu; rfl), ⟨hc1, hc2⟩, HC.out.keep (by decide) (by decide), HST2.out.keep (by decide) (by decide) (by decide) rfl⟩
          · have hno := off_of_no HV.out.sz (by decide) (mem_ready.1 hr).1
            have d3 := ready_dep hr (k := 3) (by kernel_rfl)
            clear hr
            have e3 : s 3 = .int .i64 1 := HV.out.v d3 rfl
            refine wpOp_step rfl (fun K hK => ?_)
            go_simp
            refine hK _ _ ?_
            exact ⟨upd (upd s 3 (.int .i64 1)) 4 (.pointer (some ⟨w.heap.size + 1, 1, none⟩)), rfl, Sv.put (HV.out.re (j := 3) (v := .int .i64 1) e3) (fun u hu => by cases hu; rfl), ⟨hc1, hc2⟩, HC.out.keep (by decide) (by decide), HST2.out.keep (by decide) (by decide) (by decide) rfl⟩
          · have hno := off_of_no HV.out.sz (by decide) (mem_ready.1 hr).1
            have d4 := ready_dep hr (k := 4) (by kernel_rfl)
            clear hr
            have e4 : s 4 = .pointer (some ⟨w.heap.size + 1, 1, none⟩) := HV.out.v d4 rfl
            have h28 : Lq.getD 28 false = false := by
              cases h : Lq.getD 28 false with
              | false => rfl
              | true => rw [(HC.out.1 h).1] at hno; cases hno
            have h30 : Lq.getD 30 false = false := by
              cases h : Lq.getD 30 false with
              | false => rfl
              | true => rw [HC.out.2 h] at h28; cases h28
            have hbk : WN.heap[w.heap.size + 1]? = some (.cells #[v0, v1] 55 (0, 0)) := by
              have h := HST2.out
              rw [h28, h30] at h
              cases h27 : Lq.getD 27 false with
              | false => rw [h27] at h; have h2 : WN = wr.drew := h; rw [h2]; exact HB.out
              | true => rw [h27] at h; have h2 : WN = (wr.alloc (.cells #[.int .i64 (if y1 < y0 then y1 else y0), .int .i64 (if y0 < y1 then y1 else y0)] 58)).drew := h; rw [h2]; exact blk_alloc HB.out _
            have bp := cell_of_blk hbk 1
            simp only [List.getElem?_toArray, List.getElem?_cons_zero, List.getElem?_cons_succ] at bp
            clear h28 h30 hbk
            refine wpOp_step rfl (fun K hK => ?_)
            go_simp
            refine hK _ _ ?_
            exact ⟨upd (upd s 4 (.pointer (some ⟨w.heap.size + 1, 1, none⟩))) 5 (v1), rfl, Sv.put (HV.out.re (j := 4) (v := .pointer (some ⟨w.heap.size + 1, 1, none⟩)) e4) (fun u hu => by cases hu; rfl), ⟨hc1, hc2⟩, HC.out.keep (by decide) (by decide), HST2.out.keep (by decide) (by decide) (by decide) rfl⟩
          · have hno := off_of_no HV.out.sz (by decide) (mem_ready.1 hr).1
            clear hr
            refine wpOp_step rfl (fun K hK => ?_)
            go_simp
            refine hK _ _ ?_
            exact ⟨upd s 6 (.slice (some ⟨b, off, none⟩) n c), rfl, Sv.put HV.out (fun u hu => by cases hu; rfl), ⟨hc1, hc2⟩, HC.out.keep (by decide) (by decide), HST2.out.keep (by decide) (by decide) (by decide) rfl⟩
          · have hno := off_of_no HV.out.sz (by decide) (mem_ready.1 hr).1
            clear hr
            refine wpOp_step rfl (fun K hK => ?_)
            go_simp
            refine hK _ _ ?_
            exact ⟨upd s 7 (.int .i64 k), rfl, Sv.put HV.out (fun u hu => by cases hu; rfl), ⟨hc1, hc2⟩, HC.out.keep (by decide) (by decide), HST2.out.keep (by decide) (by decide) (by decide) rfl⟩
          · have hno := off_of_no HV.out.sz (by decide) (mem_ready.1 hr).1
            have d7 := ready_dep hr (k := 7) (by kernel_rfl)
            clear hr
            have e7 : s 7 = .int .i64 k := HV.out.v d7 rfl
            refine wpOp_step rfl (fun K hK => ?_)
            go_simp
            refine hK _ _ ?_
            exact ⟨upd (upd s 7 (.int .i64 k)) 8 (.int .i64 q), rfl, Sv.put (HV.out.re (j := 7) (v := .int .i64 k) e7) (fun u hu => by cases hu; rfl), ⟨hc1, hc2⟩, HC.out.keep (by decide) (by decide), HST2.out.keep (by decide) (by decide) (by decide) rfl⟩
          · have hno := off_of_no HV.out.sz (by decide) (mem_ready.1 hr).1
            have d6 := ready_dep hr (k := 6) (by kernel_rfl)
            have d8 := ready_dep hr (k := 8) (by kernel_rfl)
            clear hr
            have e6 : s 6 = .slice (some ⟨b, off, none⟩) n c := HV.out.v d6 rfl
            have e8 : s 8 = .int .i64 q := HV.out.v d8 rfl
            refine wpOp_step rfl (fun K hK => ?_)
            go_simp
            refine hK _ _ ?_
            exact ⟨upd (upd (upd s 6 (.slice (some ⟨b, off, none⟩) n c)) 8 (.int .i64 q)) 9 (.pointer (some ⟨b, off + q, none⟩)), rfl, Sv.put ((HV.out.re (j := 6) (v := .slice (some ⟨b, off, none⟩) n c) e6).re (j := 8) (v := .int .i64 q) e8) (fun u hu => by cases hu; rfl), ⟨hc1, hc2⟩, HC.out.keep (by decide) (by decide), HST2.out.keep (by decide) (by decide) (by decide) rfl⟩
          · have hno := off_of_no HV.out.sz (by decide) (mem_ready.1 hr).1
            have d9 := ready_dep hr (k := 9) (by kernel_rfl)
            clear hr
            have e9 : s 9 = .pointer (some ⟨b, off + q, none⟩) := HV.out.v d9 rfl
            refine wpOp_step rfl (fun K hK => ?_)
            go_simp
            refine hK _ _ ?_
            exact ⟨upd (upd s 9 (.pointer (some ⟨b, off + q, none⟩))) 10 (.int .i64 y0), rfl, Sv.put (HV.out.re (j := 9) (v := .pointer (some ⟨b, off + q, none⟩)) e9) (fun u hu => by cases hu; rfl), ⟨hc1, hc2⟩, HC.out.keep (by decide) (by decide), HST2.out.keep (by decide) (by decide) (by decide) rfl⟩
          · have hno := off_of_no HV.out.sz (by decide) (mem_ready.1 hr).1
            clear hr
            refine wpOp_step rfl (fun K hK => ?_)
            go_simp
            refine hK _ _ ?_
            exact ⟨upd s 11 (.slice (some ⟨b, off, none⟩) n c), rfl, Sv.put HV.out (fun u hu => by cases hu; rfl), ⟨hc1, hc2⟩, HC.out.keep (by decide) (by decide), HST2.out.keep (by decide) (by decide) (by decide) rfl⟩
          · have hno := off_of_no HV.out.sz (by decide) (mem_ready.1 hr).1
            clear hr
            refine wpOp_step rfl (fun K hK => ?_)
            go_simp
            refine hK _ _ ?_
            exact ⟨upd s 12 (.int .i64 k), rfl, Sv.put HV.out (fun u hu => by cases hu; rfl), ⟨hc1, hc2⟩, HC.out.keep (by decide) (by decide), HST2.out.keep (by decide) (by decide) (by decide) rfl⟩
          · have hno := off_of_no HV.out.sz (by decide) (mem_ready.1 hr).1
            have d11 := ready_dep hr (k := 11) (by kernel_rfl)
            have d12 := ready_dep hr (k := 12) (by kernel_rfl)
            clear hr
            have e11 : s 11 = .slice (some ⟨b, off, none⟩) n c := HV.out.v d11 rfl
            have e12 : s 12 = .int .i64 k := HV.out.v d12 rfl
            refine wpOp_step rfl (fun K hK => ?_)
            go_simp
            refine hK _ _ ?_
            exact ⟨upd (upd (upd s 11 (.slice (some ⟨b, off, none⟩) n c)) 12 (.int .i64 k)) 13 (.pointer (some ⟨b, off + k, none⟩)), rfl, Sv.put ((HV.out.re (j := 11) (v := .slice (some ⟨b, off, none⟩) n c) e11).re (j := 12) (v := .int .i64 k) e12) (fun u hu => by cases hu; rfl), ⟨hc1, hc2⟩, HC.out.keep (by decide) (by decide), HST2.out.keep (by decide) (by decide) (by decide) rfl⟩
          · have hno := off_of_no HV.out.sz (by decide) (mem_ready.1 hr).1
            have d13 := ready_dep hr (k := 13) (by kernel_rfl)
            clear hr
            have e13 : s 13 = .pointer (some ⟨b, off + k, none⟩) := HV.out.v d13 rfl
            refine wpOp_step rfl (fun K hK => ?_)
            go_simp
            refine hK _ _ ?_
            exact ⟨upd (upd s 13 (.pointer (some ⟨b, off + k, none⟩))) 14 (.int .i64 y1), rfl, Sv.put (HV.out.re (j := 13) (v := .pointer (some ⟨b, off + k, none⟩)) e13) (fun u hu => by cases hu; rfl), ⟨hc1, hc2⟩, HC.out.keep (by decide) (by decide), HST2.out.keep (by decide) (by decide) (by decide) rfl⟩
          · have hno := off_of_no HV.out.sz (by decide) (mem_ready.1 hr).1
            have d10 := ready_dep hr (k := 10) (by kernel_rfl)
            have d14 := ready_dep hr (k := 14) (by kernel_rfl)
            clear hr
            have e10 : s 10 = .int .i64 y0 := HV.out.v d10 rfl
            have e14 : s 14 = .int .i64 y1 := HV.out.v d14 rfl
            refine wpOp_step rfl (fun K hK => ?_)
            go_simp
            refine hK _ _ ?_
            exact ⟨upd (upd (upd s 10 (.int .i64 y0)) 14 (.int .i64 y1)) 15 (.int .i64 (if y1 < y0 then y1 else y0)), rfl, Sv.put ((HV.out.re (j := 10) (v := .int .i64 y0) e10).re (j := 14) (v := .int .i64 y1) e14) (fun u hu => by cases hu; rfl), ⟨hc1, hc2⟩, HC.out.keep (by decide) (by decide), HST2.out.keep (by decide) (by decide) (by decide) rfl⟩
          · have hno := off_of_no HV.out.sz (by decide) (mem_ready.1 hr).1
            clear hr
            refine wpOp_step rfl (fun K hK => ?_)
            go_simp
            refine hK _ _ ?_
            exact ⟨upd s 16 (.slice (some ⟨b, off, none⟩) n c), rfl, Sv.put HV.out (fun u hu => by cases hu; rfl), ⟨hc1, hc2⟩, HC.out.keep (by decide) (by decide), HST2.out.keep (by decide) (by decide) (by decide) rfl⟩
          · have hno := off_of_no HV.out.sz (by decide) (mem_ready.1 hr).1
            clear hr
            refine wpOp_step rfl (fun K hK => ?_)
            go_simp
            refine hK _ _ ?_
            exact ⟨upd s 17 (.int .i64 k), rfl, Sv.put HV.out (fun u hu => by cases hu; rfl), ⟨hc1, hc2⟩, HC.out.keep (by decide) (by decide), HST2.out.keep (by decide) (by decide) (by decide) rfl⟩
          · have hno := off_of_no HV.out.sz (by decide) (mem_ready.1 hr).1
            have d17 := ready_dep hr (k := 17) (by kernel_rfl)
            clear hr
            have e17 : s 17 = .int .i64 k := HV.out.v d17 rfl
            refine wpOp_step rfl (fun K hK => ?_)
            go_simp
            refine hK _ _ ?_
            exact ⟨upd (upd s 17 (.int .i64 k)) 18 (.int .i64 q), rfl, Sv.put (HV.out.re (j := 17) (v := .int .i64 k) e17) (fun u hu => by cases hu; rfl), ⟨hc1, hc2⟩, HC.out.keep (by decide) (by decide), HST2.out.keep (by decide) (by decide) (by decide) rfl⟩
          · have hno := off_of_no HV.out.sz (by decide) (mem_ready.1 hr).1
            have d16 := ready_dep hr (k := 16) (by kernel_rfl)
            have d18 := ready_dep hr (k := 18) (by kernel_rfl)
            clear hr
            have e16 : s 16 = .slice (some ⟨b, off, none⟩) n c := HV.out.v d16 rfl
            have e18 : s 18 = .int .i64 q := HV.out.v d18 rfl
            refine wpOp_step rfl (fun K hK => ?_)
            go_simp
            refine hK _ _ ?_
            exact ⟨upd (upd (upd s 16 (.slice (some ⟨b, off, none⟩) n c)) 18 (.int .i64 q)) 19 (.pointer (some ⟨b, off + q, none⟩)), rfl, Sv.put ((HV.out.re (j := 16) (v := .slice (some ⟨b, off, none⟩) n c) e16).re (j := 18) (v := .int .i64 q) e18) (fun u hu => by cases hu; rfl), ⟨hc1, hc2⟩, HC.out.keep (by decide) (by decide), HST2.out.keep (by decide) (by decide) (by decide) rfl⟩
          · have hno := off_of_no HV.out.sz (by decide) (mem_ready.1 hr).1
            have d19 := ready_dep hr (k := 19) (by kernel_rfl)
            clear hr
            have e19 : s 19 = .pointer (some ⟨b, off + q, none⟩) := HV.out.v d19 rfl
            refine wpOp_step rfl (fun K hK => ?_)
            go_simp
            refine hK _ _ ?_
            exact ⟨upd (upd s 19 (.pointer (some ⟨b, off + q, none⟩))) 20 (.int .i64 y0), rfl, Sv.put (HV.out.re (j := 19) (v := .pointer (some ⟨b, off + q, none⟩)) e19) (fun u hu => by cases hu; rfl), ⟨hc1, hc2⟩, HC.out.keep (by decide) (by decide), HST2.out.keep (by decide) (by decide) (by decide) rfl⟩
          · have hno := off_of_no HV.out.sz (by decide) (mem_ready.1 hr).1
            clear hr
            refine wpOp_step rfl (fun K hK => ?_)
            go_simp
            refine hK _ _ ?_
            exact ⟨upd s 21 (.slice (some ⟨b, off, none⟩) n c), rfl, Sv.put HV.out (fun u hu => by cases hu; rfl), ⟨hc1, hc2⟩, HC.out.keep (by decide) (by decide), HST2.out.keep (by decide) (by decide) (by decide) rfl⟩
          · have hno := off_of_no HV.out.sz (by decide) (mem_ready.1 hr).1
            clear hr
            refine wpOp_step rfl (fun K hK => ?_)
            go_simp
            refine hK _ _ ?_
            exact ⟨upd s 22 (.int .i64 k), rfl, Sv.put HV.out (fun u hu => by cases hu; rfl), ⟨hc1, hc2⟩, HC.out.keep (by decide) (by decide), HST2.out.keep (by decide) (by decide) (by decide) rfl⟩
          · have hno := off_of_no HV.out.sz (by decide) (mem_ready.1 hr).1
            have d21 := ready_dep hr (k := 21) (by kernel_rfl)
            have d22 := ready_dep hr (k := 22) (by kernel_rfl)
            clear hr
            have e21 : s 21 = .slice (some ⟨b, off, none⟩) n c := HV.out.v d21 rfl
            have e22 : s 22 = .int .i64 k := HV.out.v d22 rfl
            refine wpOp_step rfl (fun K hK => ?_)
            go_simp
            refine hK _ _ ?_
            exact ⟨upd (upd (upd s 21 (.slice (some ⟨b, off, none⟩) n c)) 22 (.int .i64 k)) 23 (.pointer (some ⟨b, off + k, none⟩)), rfl, Sv.put ((HV.out.re (j := 21) (v := .slice (some ⟨b, off, none⟩) n c) e21).re (j := 22) (v := .int .i64 k) e22) (fun u hu => by cases hu; rfl), ⟨hc1, hc2⟩, HC.out.keep (by decide) (by decide), HST2.out.keep (by decide) (by decide) (by decide) rfl⟩
          · have hno := off_of_no HV.out.sz (by decide) (mem_ready.1 hr).1
            have d23 := ready_dep hr (k := 23) (by kernel_rfl)
            clear hr
            have e23 : s 23 = .pointer (some ⟨b, off + k, none⟩) := HV.out.v d23 rfl
            refine wpOp_step rfl (fun K hK => ?_)
            go_simp
            refine hK _ _ ?_
            exact ⟨upd (upd s 23 (.pointer (some ⟨b, off + k, none⟩))) 24 (.int .i64 y1), rfl, Sv.put (HV.out.re (j := 23) (v := .pointer (some ⟨b, off + k, none⟩)) e23) (fun u hu => by cases hu; rfl), ⟨hc1, hc2⟩, HC.out.keep (by decide) (by decide), HST2.out.keep (by decide) (by decide) (by decide) rfl⟩
          · have hno := off_of_no HV.out.sz (by decide) (mem_ready.1 hr).1
            have d20 := ready_dep hr (k := 20) (by kernel_rfl)
            have d24 := ready_dep hr (k := 24) (by kernel_rfl)
            clear hr
            have e20 : s 20 = .int .i64 y0 := HV.out.v d20 rfl
            have e24 : s 24 = .int .i64 y1 := HV.out.v d24 rfl
            refine wpOp_step rfl (fun K hK => ?_)
            go_simp
            refine hK _ _ ?_
            exact ⟨upd (upd (upd s 20 (.int .i64 y0)) 24 (.int .i64 y1)) 25 (.int .i64 (if y0 < y1 then y1 else y0)), rfl, Sv.put ((HV.out.re (j := 20) (v := .int .i64 y0) e20).re (j := 24) (v := .int .i64 y1) e24) (fun u hu => by cases hu; rfl), ⟨hc1, hc2⟩, HC.out.keep (by decide) (by decide), HST2.out.keep (by decide) (by decide) (by decide) rfl⟩
          · have hno := off_of_no HV.out.sz (by decide) (mem_ready.1 hr).1
            have d15 := ready_dep hr (k := 15) (by kernel_rfl)
            have d25 := ready_dep hr (k := 25) (by kernel_rfl)
            clear hr
            have e15 : s 15 = .int .i64 (if y1 < y0 then y1 else y0) := HV.out.v d15 rfl
            have e25 : s 25 = .int .i64 (if y0 < y1 then y1 else y0) := HV.out.v d25 rfl
            refine wpOp_step rfl (fun K hK => ?_)
            go_simp
            refine hK _ _ ?_
            exact ⟨upd (upd (upd s 15 (.int .i64 (if y1 < y0 then y1 else y0))) 25 (.int .i64 (if y0 < y1 then y1 else y0))) 26 (.agg #[.int .i64 (if y1 < y0 then y1 else y0), .int .i64 (if y0 < y1 then y1 else y0)]), rfl, Sv.put ((HV.out.re (j := 15) (v := .int .i64 (if y1 < y0 then y1 else y0)) e15).re (j := 25) (v := .int .i64 (if y0 < y1 then y1 else y0)) e25) (fun u hu => by cases hu; rfl), ⟨hc1, hc2⟩, HC.out.keep (by decide) (by decide), HST2.out.keep (by decide) (by decide) (by decide) rfl⟩
          · have hno := off_of_no HV.out.sz (by decide) (mem_ready.1 hr).1
            have d26 := ready_dep hr (k := 26) (by kernel_rfl)
            clear hr
            have e26 : s 26 = .agg #[.int .i64 (if y1 < y0 then y1 else y0), .int .i64 (if y0 < y1 then y1 else y0)] := HV.out.v d26 rfl
            have h28 : Lq.getD 28 false = false := by
              cases h : Lq.getD 28 false with
              | false => rfl
              | true => rw [(HC.out.1 h).2] at hno; cases hno
            have h30 : Lq.getD 30 false = false := by
              cases h : Lq.getD 30 false with
              | false => rfl
              | true => rw [HC.out.2 h] at h28; cases h28
            have hw : WN = wr.drew := by
              have h := HST2.out
              rw [hno, h28, h30] at h
              exact h
            subst hw
            refine wpOp_step rfl (fun K hK => ?_)
            go_simp
            refine hK _ _ ?_
            exact ⟨upd (upd s 26 (.agg #[.int .i64 (if y1 < y0 then y1 else y0), .int .i64 (if y0 < y1 then y1 else y0)])) 27 (.slice (some ⟨wr.heap.size, 0, none⟩) 1 1), rfl, Sv.put (HV.out.re (j := 26) (v := .agg #[.int .i64 (if y1 < y0 then y1 else y0), .int .i64 (if y0 < y1 then y1 else y0)]) e26) (fun u hu => by cases hu; rfl), ⟨al_d hc1 _, al_d hc2 _⟩, HC.out.keep (by decide) (by decide), by rw [set_self HV.out.sz (by decide), set_other (by decide), set_other (by decide), h28, h30]; rfl⟩
          · have hno := off_of_no HV.out.sz (by decide) (mem_ready.1 hr).1
            have d5 := ready_dep hr (k := 5) (by kernel_rfl)
            have d27 := ready_dep hr (k := 27) (by kernel_rfl)
            clear hr
            have e5 : s 5 = v1 := HV.out.v d5 rfl
            have e27 : s 27 = .slice (some ⟨wr.heap.size, 0, none⟩) 1 1 := HV.out.v d27 rfl
            have h30 : Lq.getD 30 false = false := by
              cases h : Lq.getD 30 false with
              | false => rfl
              | true => rw [HC.out.2 h] at hno; cases hno
            have hw : WN = (wr.alloc (.cells #[.int .i64 (if y1 < y0 then y1 else y0), .int .i64 (if y0 < y1 then y1 else y0)] 58)).drew := by
              have h := HST2.out
              rw [hno, d27, h30] at h
              exact h
            subst hw
            refine wpOp_step rfl (fun K hK => ?_)
            rw [e5, e27]
            refine step_app_tie rfl (.tmp 16) (.tmp 38) rfl w.heap.size v1 (tiesOf (fn hl) k 1).length (tcs (tiesOf (fn hl) k 1)) (if y1 < y0 then y1 else y0) (if y0 < y1 then y1 else y0) (by rfl) (HO1.out.alloc _) (hszo _) wr.heap.size (by rfl) (new_blk _ rfl) hl1 ?_
            intro v2 w2 hown3 hb2 hgr2
            obtain ⟨g6, c6, _, hv6, _, _, _, _⟩ := own_addr hown3 (Nat.succ_pos _)
            have hTC : TieC w.heap.size (w.heap.size + 1) #[v0, v1] ((tiesOf (fn hl) k 1).length + 1) (tcs (tiesOf (fn hl) k 1) ++ [Value.int .i64 (if y1 < y0 then y1 else y0), Value.int .i64 (if y0 < y1 then y1 else y0)]) v0 (tiesOf (fn hl) k 0).length (tcs (tiesOf (fn hl) k 0)) wr v2 w2 := ⟨⟨g6, c6, hv6⟩, hown3, own_app (w := (wr.alloc (.cells #[.int .i64 (if y1 < y0 then y1 else y0), .int .i64 (if y0 < y1 then y1 else y0)] 58)).drew) (HO0.out.alloc _) hgr2 HAP.out, (Apart.grow (w := (wr.alloc (.cells #[.int .i64 (if y1 < y0 then y1 else y0), .int .i64 (if y0 < y1 then y1 else y0)] 58)).drew) HAP.out.symm hgr2 (HO0.out.alloc _)), grow_blk_d HB.out hgr2 hne1, grow_blk_d HZ.out hgr2 hnz1, (((below_new wr (.cells #[.int .i64 (if y1 < y0 then y1 else y0), .int .i64 (if y0 < y1 then y1 else y0)] 58)).drew).mono hbel.size).trans hb2⟩
            refine hK _ _ ?_
            exact ⟨upd (upd (upd s 5 (v1)) 27 (.slice (some ⟨wr.heap.size, 0, none⟩) 1 1)) 28 v2, rfl, Sv.put ((HV.out.re (j := 5) (v := v1) e5).re (j := 27) (v := .slice (some ⟨wr.heap.size, 0, none⟩) 1 1) e27) (fun u hu => by cases hu), ⟨keep_c hc1 hb2 hbw, keep_c hc2 hb2 hbw⟩, ⟨fun _ => ⟨getD_set_true d5, getD_set_true d27⟩, fun _ => set_self HV.out.sz (by decide)⟩, by rw [set_self HV.out.sz (by decide), set_other (by decide), set_other (by decide), d27, h30]; exact hTC⟩
          · have hno := off_of_no HV.out.sz (by decide) (mem_ready.1 hr).1
            have d1 := ready_dep hr (k := 1) (by kernel_rfl)
            clear hr
            have e1 : s 1 = .int .i64 1 := HV.out.v d1 rfl
            refine wpOp_step rfl (fun K hK => ?_)
            go_simp
            refine hK _ _ ?_
            exact ⟨upd (upd s 1 (.int .i64 1)) 29 (.pointer (some ⟨w.heap.size + 1, 1, none⟩)), rfl, Sv.put (HV.out.re (j := 1) (v := .int .i64 1) e1) (fun u hu => by cases hu; rfl), ⟨hc1, hc2⟩, HC.out.keep (by decide) (by decide), HST2.out.keep (by decide) (by decide) (by decide) rfl⟩
          · have hno := off_of_no HV.out.sz (by decide) (mem_ready.1 hr).1
            have d29 := ready_dep hr (k := 29) (by kernel_rfl)
            have d28 := ready_dep hr (k := 28) (by kernel_rfl)
            clear hr
            have e29 : s 29 = .pointer (some ⟨w.heap.size + 1, 1, none⟩) := HV.out.v d29 rfl
            have hC : TieC w.heap.size (w.heap.size + 1) #[v0, v1] ((tiesOf (fn hl) k 1).length + 1) (tcs (tiesOf (fn hl) k 1) ++ [Value.int .i64 (if y1 < y0 then y1 else y0), Value.int .i64 (if y0 < y1 then y1 else y0)]) v0 (tiesOf (fn hl) k 0).length (tcs (tiesOf (fn hl) k 0)) wr (s 28) WN := by
              have h := HST2.out
              rw [hno, d28] at h
              exact h
            obtain ⟨g6, c6, e28⟩ := hC.f
            have HCC := Lib.hid hC
            have zc := cell_of_blk hC.b 1
            simp only [List.getElem?_toArray, List.getElem?_cons_zero, List.getElem?_cons_succ] at zc
            have zf := frozen_of_blk hC.b 1
            clear hC
            refine wpOp_step rfl (fun K hK => ?_)
            go_simp
            refine hK _ _ ?_
            exact ⟨upd (upd (upd s 29 (.pointer (some ⟨w.heap.size + 1, 1, none⟩))) 28 (.slice (some ⟨g6, 0, none⟩) ((tiesOf (fn hl) k 1).length + 1) c6)) 30 undef, rfl, Sv.put ((HV.out.re (j := 29) (v := .pointer (some ⟨w.heap.size + 1, 1, none⟩)) e29).re (j := 28) (v := .slice (some ⟨g6, 0, none⟩) ((tiesOf (fn hl) k 1).length + 1) c6) e28) (fun u hu => by cases hu), ⟨far_c hc1 hbga _, far_c hc2 hbga _⟩, ⟨fun h => ⟨getD_set_true (HC.out.1 d28).1, getD_set_true (HC.out.1 d28).2⟩, fun _ => getD_set_true d28⟩, by rw [set_self HV.out.sz (by decide)]; exact ⟨s 28, by have := HCC.out.store (f := (fun v => #[v0, v])) (by omega) 1 rfl; rw [e28] at this ⊢; exact this⟩⟩
        · intro Lq aq WN hI hrd
          obtain ⟨s, ha2, hv, _, hch, hst⟩ := hI
          have hall := all_listedM hrd hv.sz (by kernel_rfl)
          rw [hall 30 (by decide)] at hst
          obtain ⟨v2, hD⟩ : ∃ v, TieD w.heap.size (w.heap.size + 1) (fun v => #[v0, v]) ((tiesOf (fn hl) k 1).length + 1) (tcs (tiesOf (fn hl) k 1) ++ [Value.int .i64 (if y1 < y0 then y1 else y0), Value.int .i64 (if y0 < y1 then y1 else y0)]) v0 (tiesOf (fn hl) k 0).length (tcs (tiesOf (fn hl) k 0)) wr v WN := hst
          have HD := Lib.hid hD
          clear hrd hv hch hall hD
          subst ha2
          go_wp2
          go_roundw
          case rel => exact ⟨k + 1, v0, v2, by omega, by omega, by go_num, HD.out.b, HD.out.z, by rw [HS0.out]; exact HD.out.p, by rw [HS1.out, List.length_append, tcs_app]; simpa [tcs, hlo, hhi] using HD.out.o, HD.out.a.symm, hbel.trans HD.out.w, Nat.lt_of_lt_of_le hsz HD.out.w.size⟩
          case measure => simp [intOf]; omega
    · obtain rfl : k = n := by omega
      have fz := frozen_of_blk hzk 0
      have fz1 := frozen_of_blk hzk 1
      have z0 := cell_of_blk hzk 0
      have z1 := cell_of_blk hzk 1
      have y0 := cell_of_blk hblk 0
      have y1 := cell_of_blk hblk 1
      obtain ⟨A0, c0, rfl, _, _⟩ := own_slice HO0.out
      obtain ⟨A1, c1, rfl, _, _⟩ := own_slice HO1.out
      simp only [List.getElem?_toArray, List.getElem?_cons_zero, List.getElem?_cons_succ] at z0 z1 y0 y1
      have n0 := own_not HO0.out hzk (by decide)
      have n1 := own_not HO1.out hzk (by decide)
      have o0 := fun v u => own_set (own_set HO0.out (fun k hk e => n0 (by rw [hk, e])) 0 v) (fun k hk e => n0 (by rw [hk, e])) 1 u
      have o1 := fun v u => own_set (own_set HO1.out (fun k hk e => n1 (by rw [hk, e])) 0 v) (fun k hk e => n1 (by rw [hk, e])) 1 u
      have HO2 := Lib.hid o0
      have HO3 := Lib.hid o1
      have hz0s : w.heap.size < wr.heap.size := by omega
      have hb2 := blk_set (blk_set hzk 0 (.slice A0 (tiesOf (fn hl) k 0).length c0)) 1 (.slice A1 (tiesOf (fn hl) k 1).length c1)
      have r0 := cell_of_blk hb2 0
      have r1 := cell_of_blk hb2 1
      simp at r0 r1
      have R0 := Lib.hid r0
      have R1 := Lib.hid r1
      clear hb2 r0 r1
      clear n0 n1 o0 o1 hblk hzk
      go_wp2
      refine bodyPost_ret (v := .agg #[.slice A0 (tiesOf (fn hl) k 0).length c0, .slice A1 (tiesOf (fn hl) k 1).length c1]) (by simp [results, Try.results37, go_sem, R0.out, R1.out]) rfl ?_
      exact ⟨_, _, rfl, HO2.out _ _, HO3.out _ _, (hbel.setCell (Nat.le_refl _) _).setCell (Nat.le_refl _) _⟩
end Go.Proofs.Ytjikhdnlcoohbaa
