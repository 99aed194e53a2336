/- All, where the angles may be: the lists of kinds by which the ring goes. -/
import Derived.Test.YtcfeejlhhimpjaaCr10
import Derived.Shelf.Abstract
import Derived.Shelf.RegionOpen
import Derived.OwnWalkIn
import Derived.TacticsInMore
import Derived.LoopNIn
import Derived.LoopIn
namespace Go.Proofs.Ytcfeejlhhimpjaa
set_option linter.unusedSimpArgs false
set_option linter.unusedVariables false
open Go.RowKit Vx
attribute [local go_sem] Oper.semAt_some

theorem slc_info : (Try.prog.info? 22).map (fun i => (i.zero, i.size, i.bytes)) = some (some (.slice none 0 0), 1, 24) := by kernel_rfl
/-- The lists of kinds among the first m by which the ring goes. -/
noncomputable def goods (xs : List Int) (k m : Nat) : List (List Int) := ((List.range m).map (kindsOf k)).filter fun K => Fb (xs.zip K)
theorem goods_succ (xs : List Int) (k m : Nat) : goods xs k (m + 1) = goods xs k m ++ (if Fb (xs.zip (kindsOf k m)) = true then [kindsOf k m] else []) := by
  unfold goods
  rw [List.range_succ, List.map_append, List.filter_append]
  congr 1
  simp only [List.map_cons, List.map_nil, List.filter_cons, List.filter_nil]
theorem goods_zero (xs : List Int) (k : Nat) : goods xs k 0 = [] := rfl
/-- A slice's elements lead to rows that hold the lists. -/
def Rows2 (w : World) (k : Nat) (vals : List Value) (Ls : List (List Int)) : Prop :=
  vals.length = Ls.length ∧ ∀ (j : Nat) (L : List Int), Ls[j]? = some L → ∃ g, vals[j]? = some (.slice (some ⟨g, 0, none⟩) k k) ∧ w.heap[g]? = some (.cells (vis L).toArray 3 (0, 0))
theorem Rows2.below {w w' : World} {k : Nat} {vals : List Value} {Ls : List (List Int)} (h : Rows2 w k vals Ls) (hb : Below w.heap.size w w') : Rows2 w' k vals Ls :=
  ⟨h.1, fun j L hL => by
    obtain ⟨g, h1, h2⟩ := h.2 j L hL
    exact ⟨g, h1, blk_below h2 hb (blk_lt h2)⟩⟩
theorem Rows2.put {w : World} {k l : Nat} {o o' : Obj} {vals : List Value} {Ls : List (List Int)} (h : Rows2 w k vals Ls) (hl : w.heap[l]? = some o) (ho : o.isCells = false) : Rows2 (w.putObj l o') k vals Ls :=
  ⟨h.1, fun j L hL => by
    obtain ⟨g, h1, h2⟩ := h.2 j L hL
    refine ⟨g, h1, (World.putObj_heap_other ?_).trans h2⟩
    rintro rfl
    rw [h2] at hl
    rw [← Option.some.inj hl] at ho
    cases ho⟩
theorem Rows2.snoc {w : World} {k g : Nat} {vals : List Value} {Ls : List (List Int)} {L : List Int} (h : Rows2 w k vals Ls) (hg : w.heap[g]? = some (.cells (vis L).toArray 3 (0, 0))) : Rows2 w k (vals ++ [.slice (some ⟨g, 0, none⟩) k k]) (Ls ++ [L]) := by
  refine ⟨by simp [h.1], fun j L' hL => ?_⟩
  by_cases hj : j < Ls.length
  · rw [List.getElem?_append_left hj] at hL
    obtain ⟨g', h1, h2⟩ := h.2 j L' hL
    exact ⟨g', by rw [List.getElem?_append_left (by rw [h.1]; exact hj)]; exact h1, h2⟩
  · rw [List.getElem?_append_right (by omega)] at hL
    have hj2 := (List.getElem?_eq_some_iff.1 hL).1
    simp at hj2
    have : j = Ls.length := by omega
    subst this
    simp at hL
    subst hL
    exact ⟨g, by rw [List.getElem?_append_right (by rw [h.1]; exact Nat.le_refl _)]; simp [h.1], hg⟩
theorem chk_ok {xs : List Int} (h : chkE xs = 0) : 2 ≤ xs.length ∧ xs.length ≤ 8 ∧ Ring xs ∧ (∀ x ∈ xs, 1 ≤ x ∧ x ≤ 1000) := by
  unfold chkE at h
  split at h
  · exact absurd h (by decide)
  · rename_i h1
    split at h
    · exact absurd h (by decide)
    · rename_i h2
      split at h
      · exact absurd h (by decide)
      · rename_i h3
        simp [sizeBad] at h1
        have h4 : alt xs = 0 := Decidable.of_not_not h3
        refine ⟨by omega, by omega, ⟨?_, by omega, h4⟩, fun x hx => ?_⟩
        · rintro rfl
          simp at h1
        · have h5 : xs.all inR = true := by
            cases hb : xs.all inR
            · exact absurd hb h2
            · rfl
          have := List.all_eq_true.1 h5 x hx
          simpa [inR] using this
theorem rd_of_blk {w : World} {g k : Nat} {K : List Int} (h : w.heap[g]? = some (.cells (vis K).toArray 3 (0, 0))) (hk : K.length = k) : Rd w 1 (some ⟨g, 0, none⟩) k (vis K) :=
  ⟨by simp [hk], fun _ => ⟨g, 0, rfl, blk_lt h, fun j u hu => by rw [Nat.zero_add, cell_of_blk h j]; simpa using hu⟩⟩
theorem keeps_below {B : Nat} {W W' : World} (h : Below W.heap.size W W') : KeepsFrom B W W' := ⟨h.size, fun k o _ hk _ => blk_below hk h (blk_lt hk)⟩
theorem allf_in (F : Fence) (n : Nat) (hf : F.fn 21) (hro : F.round = none) (k : Nat) (w : World) :
    CallsIn F n Try.prog 21 #[.int .i64 k] w fun e w' => e = .returned (.func (.func 32) #[] #[.pointer (some ⟨w.heap.size, 0, none⟩)]) ∧ w' = w.alloc (.cells #[.int .i64 k] 3) := by
  refine callsIn_of_wp Try.func21 rfl hf ?_ hro
  simp only [Try.ntmps21, List.size_toArray, List.length_cons, List.length_nil, Nat.reduceAdd, Nat.reduceSub, Array.replicate_succ, Array.replicate_zero, List.push_toArray, List.append_toArray, List.nil_append, List.cons_append]
  gi_wp2
  go_ret
  exact ⟨rfl, rfl⟩
theorem all_mem (F : Fence) (n : Nat) (hf : F.fn 32) (hro : F.round = none) (hn : 1 ≤ n) (Bn B k : Nat) (w : World) (hB : B ≤ w.heap.size) (hBn : Bn < w.heap.size) (hc : w.cell? ⟨Bn, 0, none⟩ = some (.int .i64 k)) (hk : k ≤ 8) :
    SeqMem F n Try.prog 32 #[.pointer (some ⟨Bn, 0, none⟩)] (fun x : Nat => #[Value.slice (some ⟨x, 0, none⟩) k k]) (fun pre x W => W.heap[x]? = some (.cells (vis (kindsOf k pre.length)).toArray 3 (0, 0)) ∧ B ≤ x ∧ pre.length < 2 ^ k) (KpN Bn) (fun ys => ys.length = 2 ^ k) w :=
  fun l J W hW hJ hY h0 => all1_in F n hf hro hn l Bn B k J hJ hY W (Nat.le_trans hB hW.size) ((hW.cell (p := ⟨Bn, 0, none⟩) hBn).trans hc) hk h0
theorem Rows2.grown {w w' : World} {k : Nat} {row : Option Nat} {vals : List Value} {Ls : List (List Int)} (h : Rows2 w k vals Ls) (hg : w.grownBy w' row) (hr : ∀ j, row = some j → ∃ cs, w.heap[j]? = some (.cells cs 22 (0, 0))) : Rows2 w' k vals Ls :=
  ⟨h.1, fun j L hL => by
    obtain ⟨g, h1, h2⟩ := h.2 j L hL
    refine ⟨g, h1, (hg.block g (blk_lt h2) ?_).trans h2⟩
    intro e
    obtain ⟨cs, h3⟩ := hr g e.symm
    rw [h2] at h3
    simp at h3⟩
theorem Rows2.set {w : World} {k g0 i : Nat} {u : Value} {cs : Array Value} {vals : List Value} {Ls : List (List Int)} (h : Rows2 w k vals Ls) (h0 : w.heap[g0]? = some (.cells cs 32 (0, 0))) : Rows2 (w.setCell ⟨g0, i, none⟩ u) k vals Ls :=
  ⟨h.1, fun j L hL => by
    obtain ⟨g, h1, h2⟩ := h.2 j L hL
    refine ⟨g, h1, blk_far h2 ?_ _⟩
    rintro rfl
    rw [h2] at h0
    simp at h0⟩
theorem own_cells {w : World} {base sz n : Nat} {e : TypeId} {v : Value} {xs : List Value} (h : w.ownsRow base e sz v n xs) : ∀ j, v.ownBlock = some j → ∃ cs, w.heap[j]? = some (.cells cs e (0, 0)) := by
  intro j hj
  rcases h.2 with ⟨h0, _⟩ | ⟨g, cap, cur, rfl, h1, h2, _⟩
  · rw [h0] at hj; cases hj
  · obtain rfl : g = j := by simpa [Value.ownBlock] using hj
    exact ⟨cur, h2⟩
theorem goods_le (xs : List Int) (k m : Nat) : (goods xs k m).length ≤ m := by
  unfold goods
  exact Nat.le_trans (List.length_filter_le _ _) (by simp)
theorem one_new (w : World) (u : Value) (e : TypeId) : ∀ (j : Nat) (u' : Value), [u][j]? = some u' → (w.alloc (.cells #[u] e)).cell? ((⟨w.heap.size, 0, none⟩ : Addr).add j) = some u' := by
  intro j u' h
  rw [addr_add, Nat.zero_add, cell_of_blk (heap_alloc_new w _) j]
  simpa using h
theorem put_cells {W : World} {g l : Nat} {o o' : Obj} {cs : Array Value} {t : TypeId} (h : W.heap[g]? = some (.cells cs t (0, 0))) (hl : W.heap[l]? = some o) (ho : o.isCells = false) : (W.putObj l o').heap[g]? = some (.cells cs t (0, 0)) := by
  refine (World.putObj_heap_other ?_).trans h
  rintro rfl
  rw [h] at hl
  rw [← Option.some.inj hl] at ho
  cases ho
theorem own_put {W : World} {base l n sz : Nat} {e : TypeId} {v : Value} {xs : List Value} {o o' : Obj} (h : W.ownsRow base e sz v n xs) (hl : W.heap[l]? = some o) (ho : o.isCells = false) : (W.putObj l o').ownsRow base e sz v n xs := by
  refine ⟨h.1, ?_⟩
  rcases h.2 with h0 | ⟨g, cap, cur, rfl, h1, h2, rest⟩
  · exact .inl h0
  · exact .inr ⟨g, cap, cur, rfl, h1, put_cells h2 hl ho, rest⟩
theorem below_put {B : Nat} {w W : World} {l : Nat} {o o' : Obj} (h : Below B w W) (hB : B ≤ l) (hl : W.heap[l]? = some o) (ho : o.isCells = false) (hs : B ≤ W.heap.size) : Below B w (W.putObj l o') :=
  h.grown (grownBy_putObj' W l o') hs (fun k e => by cases e; exact hB)
/-- Between two rounds: the boxes of All; the lists found so far. -/
structure AllI (b off n c : Nat) (xs : List Int) (w : World) (B : Nat) (pre : List Nat) (W : World) (v : Value) (vals : List Value) : Prop where
  a : W.heap[w.heap.size]? = some (.cells #[.slice (some ⟨b, off, none⟩) n c] 22 (0, 0))
  o : W.heap[w.heap.size + 1]? = some (.cells #[v] 32 (0, 0))
  nb : W.heap[w.heap.size + 1 + 1]? = some (.cells #[.int .i64 n] 3 (0, 0))
  row : W.ownsRow B 22 1 v (goods xs n pre.length).length vals
  rows : Rows2 W n vals (goods xs n pre.length)
  bel : Below w.heap.size w W
  sz : B ≤ W.heap.size
theorem AllI.below {b off n c : Nat} {xs : List Int} {w : World} {B : Nat} {pre : List Nat} {W W' : World} {v : Value} {vals : List Value} (h : AllI b off n c xs w B pre W v vals) (hb : Below W.heap.size W W') : AllI b off n c xs w B pre W' v vals :=
  ⟨blk_below h.a hb (blk_lt h.a), blk_below h.o hb (blk_lt h.o), blk_below h.nb hb (blk_lt h.nb), own_below h.row hb (Nat.le_refl _), h.rows.below hb, stay_b h.bel hb, Nat.le_trans h.sz hb.size⟩
theorem AllI.put {b off n c : Nat} {xs : List Int} {w : World} {B : Nat} {pre : List Nat} {W : World} {v : Value} {vals : List Value} (h : AllI b off n c xs w B pre W v vals) {l : Nat} {o o' : Obj} (hB : w.heap.size ≤ l) (hl : W.heap[l]? = some o) (ho : o.isCells = false) : AllI b off n c xs w B pre (W.putObj l o') v vals :=
  ⟨put_cells h.a hl ho, put_cells h.o hl ho, put_cells h.nb hl ho, own_put h.row hl ho, h.rows.put hl ho, below_put h.bel hB hl ho h.bel.size, Nat.le_trans h.sz (grownBy_putObj' W l o').size⟩
set_option maxRecDepth 100000 in
set_option maxHeartbeats 3200000 in
theorem all_ok (b off n c : Nat) (xs : List Int) (w : World) (h : Rd w 1 (some ⟨b, off, none⟩) n (vis xs)) (hnc : n ≤ c) (hcc : c ≤ maxLen) (he : chkE xs = 0) :
    Calls Try.prog 12 #[.slice (some ⟨b, off, none⟩) n c] w fun e w' => ∃ v vals, e = .returned (.tuple #[v, .int .i64 0]) ∧ w'.ownsRow w.heap.size 22 1 v (goods xs n (2 ^ n)).length vals ∧ Rows2 w' n vals (goods xs n (2 ^ n)) ∧ Below w.heap.size w w' := by
  have cC := fun (w : World) (h : Rd w 1 (some ⟨b, off, none⟩) n (vis xs)) => check_any (some ⟨b, off, none⟩) n c xs w h (by unfold maxLen at hcc; omega)
  simp only [he] at cC
  have CC := Lib.hid cC
  have HR := Lib.hid h
  have HE := Lib.hid he
  have hok := chk_ok he
  have hlen := h.ints_len
  have HOK := Lib.hid hok
  have HLN := Lib.hid hlen
  clear cC h he hok hlen
  refine (callsIn_wide (n := 3)).1 ?_
  refine callsIn_of_wp_marks Try.func12 rfl trivial ?_ rfl
  simp only [Try.ntmps12, List.size_toArray, List.length_cons, List.length_nil, Nat.reduceAdd, Nat.reduceSub, Array.replicate_succ, Array.replicate_zero, List.push_toArray, List.append_toArray, List.nil_append, List.cons_append]
  gi_wp2_with (first | (refine ⟨trivial, ?_⟩; gi_at_call 15; refine (callsIn_wide.2 (CC.out _ (HR.out.alloc _))).mono ?_; rintro e w1 ⟨rfl, rfl⟩))
  refine ⟨trivial, ?_⟩
  refine (allf_in Fence.wide _ trivial rfl n _).mono ?_
  rintro e w1 ⟨rfl, rfl⟩
  gi_wp2_with (fail)
  have kA : (((w.alloc (.cells #[.slice (some ⟨b, off, none⟩) n c] 22)).alloc (.cells #[.slice none 0 0] 32)).alloc (.cells #[.int .i64 n] 3)).heap[w.heap.size]? = some (.cells #[.slice (some ⟨b, off, none⟩) n c] 22 (0, 0)) := blk_alloc (blk_alloc (new_blk _ rfl) _) _
  have kO : (((w.alloc (.cells #[.slice (some ⟨b, off, none⟩) n c] 22)).alloc (.cells #[.slice none 0 0] 32)).alloc (.cells #[.int .i64 n] 3)).heap[w.heap.size + 1]? = some (.cells #[.slice none 0 0] 32 (0, 0)) := blk_alloc (new_blk _ (by simp)) _
  have kN : (((w.alloc (.cells #[.slice (some ⟨b, off, none⟩) n c] 22)).alloc (.cells #[.slice none 0 0] 32)).alloc (.cells #[.int .i64 n] 3)).heap[w.heap.size + 1 + 1]? = some (.cells #[.int .i64 n] 3 (0, 0)) := new_blk _ (by simp)
  have hw0 : Below w.heap.size w (((w.alloc (.cells #[.slice (some ⟨b, off, none⟩) n c] 22)).alloc (.cells #[.slice none 0 0] 32)).alloc (.cells #[.int .i64 n] 3)) := ba (ba (below_new _ _) _) _
  generalize (((w.alloc (.cells #[.slice (some ⟨b, off, none⟩) n c] 22)).alloc (.cells #[.slice none 0 0] 32)).alloc (.cells #[.int .i64 n] 3)) = W0 at kA kO kN hw0 ⊢
  have cN := cell_of_blk kN 0
  simp only [List.getElem?_toArray, List.getElem?_cons_zero] at cN
  have hn8 : n ≤ 8 := by have := HOK.out.2.1; have := HLN.out; omega
  have hn2 : 2 ≤ n := by have := HOK.out.1; have := HLN.out; omega
  refine rangeFunc_mem rfl (by decide) (gf := 32) (lb := #[.pointer (some ⟨w.heap.size + 1 + 1, 0, none⟩)]) rfl trivial (enters_of Try.func32 (by kernel_rfl) rfl)
    (all_mem Fence.wide (3 - 1) trivial rfl (by decide) (w.heap.size + 1 + 1) W0.heap.size n W0 (Nat.le_refl _) (blk_lt kN) cN hn8)
    (fun h1 h2 => ⟨Nat.le_trans h1.1 h2.1, h2.2.trans h1.2⟩) ?kb (Below.refl _ _) (fun _ => rfl)
    (fun pre W => ∃ v vals, AllI b off n c xs w W0.heap.size pre W v vals)
    (fun s A C ⟨v, vals, h⟩ hb => ⟨v, vals, h.below hb⟩)
    (fun s W l o o' hB ⟨v, vals, h⟩ hl ho => ⟨v, vals, h.put (Nat.le_trans hw0.size hB) hl ho⟩)
    (fun s x W l o o' hB hG hl ho => ⟨put_cells hG.1 hl ho, hG.2⟩)
    ⟨.slice none 0 0, [], kA, kO, kN, World.ownsRow_nil _ _ _ _, ⟨rfl, fun j L h => by simp [goods] at h⟩, hw0, Nat.le_refl _⟩
    (fun x => { tmps := #[.slice (some ⟨b, off, none⟩) n c, .pointer (some ⟨w.heap.size, 0, none⟩), .slice none 0 0, .int .i64 0, .int .i64 0, .pointer (some ⟨w.heap.size + 1, 0, none⟩), .slice (some ⟨x, 0, none⟩) n n, .slice (some ⟨b, off, none⟩) n c, .int .i64 0, .int .i64 0, .bool false, undef, .slice (some ⟨b, off, none⟩) n c, .int .i64 n, .func (.func 32) #[] #[.pointer (some ⟨w.heap.size + 1 + 1, 0, none⟩)], .slice (some ⟨x, 0, none⟩) n n, undef, undef, undef, undef, undef, undef, undef, undef, undef], defers := [] }) ?assign ?body ?done
  case kb =>
    intro W l o o' hB hl ho _
    have := blk_lt kN
    exact ⟨(grownBy_putObj' W l o').size, World.cell?_of_block (World.putObj_heap_other (by simp; omega))⟩
  case assign =>
    intro l x W K hK
    gi_wp2
    exact hK
  case body =>
    rintro l pre x W ⟨v, vals, hI⟩ ⟨hG, hx, hpl⟩
    have hRa := HR.out.below hI.bel
    have hRk := rd_of_blk hG (kindsOf_len _ _)
    have cF := flat_any (n + 1) b off n c xs x 0 n (kindsOf n pre.length) W (Nat.lt_succ_self _) hn8 hRa hRk hnc hcc (Nat.le_refl _) (by unfold maxLen; omega) HOK.out.2.2.1
      (fun y hy => by have := HOK.out.2.2.2 y hy; have := Kb_le n; omega) (kindsOf_12 _ _)
    obtain ⟨fb, hfb⟩ : ∃ fb, fb = Fb (xs.zip (kindsOf n pre.length)) := ⟨_, rfl⟩
    rw [← hfb] at cF
    have HFB := Lib.hid hfb
    have CF := Lib.hid cF
    have a0 := cell_of_blk hI.a 0
    simp only [List.getElem?_toArray, List.getElem?_cons_zero] at a0
    have HI := Lib.hid hI
    clear hfb cF hRa hRk hI
    have hlo : w.heap.size + 1 + 1 < W0.heap.size := blk_lt kN
    have hp256 : 2 ^ n ≤ 256 := Nat.pow_le_pow_right (by decide) hn8
    have hgl := goods_le xs n pre.length
    cases fb with
    | false =>
      gi_wp2_with (first | (refine ⟨trivial, ?_⟩; gi_at_call 18; refine (CallsIn.inRound l (callsIn_wide.2 CF.out)).mono ?_; rintro e w1 ⟨rfl, hb⟩; have hI1 := HI.out.below hb; have o0 := cell_of_blk hI1.o 0; simp only [List.getElem?_toArray, List.getElem?_cons_zero] at o0; have HI1 := Lib.hid hI1; clear hI1))
      refine ⟨keeps_below hb, ⟨hb.size, ?_⟩, v, vals, ?_⟩
      · rw [cell_of_blk HI1.out.nb 0, cell_of_blk HI.out.nb 0]
      · have h3 := HI1.out
        have h4 : goods xs n (pre ++ [x]).length = goods xs n pre.length := by
          rw [List.length_append, List.length_singleton, goods_succ, ← HFB.out]
          simp
        exact ⟨h3.a, h3.o, h3.nb, by rw [h4]; exact h3.row, by rw [h4]; exact h3.rows, h3.bel, h3.sz⟩
    | true =>
      obtain ⟨i0, hi, hz0, hz1, hz2⟩ := info_parts slc_info
      gi_wp2_with (first | (refine ⟨trivial, ?_⟩; gi_at_call 18; refine (CallsIn.inRound l (callsIn_wide.2 CF.out)).mono ?_; rintro e w1 ⟨rfl, hb⟩; have hI1 := HI.out.below hb; have o0 := cell_of_blk hI1.o 0; simp only [List.getElem?_toArray, List.getElem?_cons_zero] at o0; have HI1 := Lib.hid hI1; clear hI1) | (gi_at_builtin; refine wpListIn_append_own _ rfl (.tmp 20) (.tmp 22) 32 rfl W0.heap.size 22 i0 (.slice none 0 0) 1 24 Try.underlying32 hi hz0 hz1 hz2 rfl (by decide) v (goods xs n pre.length).length vals rfl (own_below HI1.out.row (below_new _ _) (Nat.le_refl _)) ⟨w1.heap.size, 0, none⟩ 1 1 [.slice (some ⟨x, 0, none⟩) n n] rfl rfl (one_new w1 _ _) (fun u hu => by simp at hu; subst hu; rfl) (by unfold maxLen; omega) (by omega) (by have := HI1.out.sz; simp; omega) ?_; intro v6 w6 hown6 hgr6 _; obtain ⟨g6, c6, cur6, hv6, _, _, _, _⟩ := own_addr hown6 (by omega); subst hv6; have hB6 : Below W0.heap.size (w1.alloc (.cells #[.slice (some ⟨x, 0, none⟩) n n] 22)) w6 := (Below.refl _ _).grown hgr6 (by have := HI1.out.sz; simp; omega) (fun k hk => (HI1.out.row.lt k hk).1); have q6 := blk_below (blk_alloc HI1.out.o _) hB6 (by omega); have z6 := cell_of_blk q6 0; simp only [List.getElem?_toArray, List.getElem?_cons_zero] at z6; have f6 := frozen_of_blk q6; have l6 := blk_lt q6))
      have hrowA := own_below HI1.out.row (below_new w1 (.cells #[.slice (some ⟨x, 0, none⟩) n n] 22)) (Nat.le_refl _)
      have hcl := own_cells hrowA
      have nb3 := blk_far (p := ⟨w.heap.size + 1, 0, none⟩) (blk_below (blk_alloc HI1.out.nb _) hB6 hlo) (by simp) (.slice (some ⟨g6, 0, none⟩) ((goods xs n pre.length).length + 1) c6)
      have a3 := blk_far (p := ⟨w.heap.size + 1, 0, none⟩) (blk_below (blk_alloc HI1.out.a _) hB6 (by omega)) (by simp) (.slice (some ⟨g6, 0, none⟩) ((goods xs n pre.length).length + 1) c6)
      have h4 : goods xs n (pre ++ [x]).length = goods xs n pre.length ++ [kindsOf n pre.length] := by
        rw [List.length_append, List.length_singleton, goods_succ, ← HFB.out]
        simp
      have hsz6 : w1.heap.size ≤ w6.heap.size := by have := hB6.size; simp at this; omega
      refine ⟨?_, ⟨?_, ?_⟩, .slice (some ⟨g6, 0, none⟩) ((goods xs n pre.length).length + 1) c6, vals ++ [.slice (some ⟨x, 0, none⟩) n n], ?_⟩
      · exact (keeps_below hb).trans (((KeepsOthers.alloc _ _).trans ((KeepsOthers.of_grownBy hgr6 (fun k o hk ho => by obtain ⟨cs, h5⟩ := hcl k hk; rw [h5] at ho; rw [← Option.some.inj ho]; rfl)).trans (KeepsOthers.setCell _ _ _))).from _)
      · rw [World.size_setCell]
        exact Nat.le_trans hb.size hsz6
      · rw [cell_of_blk nb3 0, cell_of_blk HI.out.nb 0]
      · refine ⟨a3, ?_, nb3, ?_, ?_, ?_, ?_⟩
        · have := blk_set q6 0 (.slice (some ⟨g6, 0, none⟩) ((goods xs n pre.length).length + 1) c6)
          simpa using this
        · rw [h4, List.length_append, List.length_singleton]
          exact own_set hown6 (fun k hk => by have := (hown6.lt k hk).1; omega) 0 _
        · rw [h4]
          exact (((HI1.out.rows.below (below_new w1 _)).snoc (blk_alloc (blk_below hG hb (blk_lt hG)) _)).grown hgr6 hcl).set q6
        · exact (HI1.out.bel.trans (((below_new w1 _).mono HI1.out.bel.size).trans (hB6.mono (by omega)))).setCell (by simp) _
        · rw [World.size_setCell]
          exact Nat.le_trans HI1.out.sz hsz6
  case done =>
    rintro D ys W hD hys ⟨v, vals, hI⟩ hK
    have o0 := cell_of_blk hI.o 0
    simp only [List.getElem?_toArray, List.getElem?_cons_zero] at o0
    have HI := Lib.hid hI
    have HY := Lib.hid hys
    clear hI hys
    gi_wp2
    refine ⟨by simp, .inl ⟨_, _, rfl, run_takeDeferred hK, ?_⟩⟩
    have hP := HI.out.put (o' := .deferred none) (Nat.le_trans hw0.size hD) hK rfl
    have hrw := hP.row
    have hrs := hP.rows
    rw [HY.out] at hrw hrs
    exact ⟨.tuple #[v, .int .i64 0], by simp [results, Try.results12, go_sem], v, vals, rfl, own_mono hrw hw0.size, hrs, hP.bel⟩
end Go.Proofs.Ytcfeejlhhimpjaa
