/- AppendSeq of rows. -/
import Derived.Test.YtjikhdnlcoohbaaSl1
namespace Go.Proofs.Ytjikhdnlcoohbaa
set_option linter.unusedSimpArgs false
set_option linter.unusedVariables false
open Go.RowKit St
attribute [local go_sem] Oper.semAt_some

structure SlI (N : Nat) (Ls : List (List Int)) (w W0 : World) (pre : List (Nat × Nat)) (W : World) (v : Value) (vals : List Value) : Prop where
  box : W.heap[w.heap.size]? = some (.cells #[v] 32 (0, 0))
  row : W.ownsRow W0.heap.size 22 1 v pre.length vals
  rows : RowsG W W0.heap.size N vals (Ls.take pre.length)
  bel : Below w.heap.size w W
  sz : W0.heap.size ≤ W.heap.size
  le : pre.length ≤ Ls.length
theorem SlI.below {N : Nat} {Ls : List (List Int)} {w W0 : World} {pre : List (Nat × Nat)} {W W' : World} {v : Value} {vals : List Value} (h : SlI N Ls w W0 pre W v vals) (hb : Below W.heap.size W W') : SlI N Ls w W0 pre W' v vals :=
  ⟨blk_below h.box hb (blk_lt h.box), own_below h.row hb (Nat.le_refl _), h.rows.keep (fun g cs hg => blk_below hg hb (blk_lt hg)), stay_b h.bel hb, Nat.le_trans h.sz hb.size, h.le⟩
theorem SlI.put {N : Nat} {Ls : List (List Int)} {w W0 : World} {pre : List (Nat × Nat)} {W : World} {v : Value} {vals : List Value} (h : SlI N Ls w W0 pre W v vals) {l : Nat} {o o' : Obj} (hB : w.heap.size ≤ l) (hl : W.heap[l]? = some o) (ho : o.isCells = false) : SlI N Ls w W0 pre (W.putObj l o') v vals :=
  ⟨put_cells h.box hl ho, own_put h.row hl ho, h.rows.keep (ints_put hl ho), below_put h.bel hB h.bel.size, Nat.le_trans h.sz (grownBy_putObj' W l o').size, h.le⟩
set_option maxRecDepth 100000 in
set_option maxHeartbeats 3200000 in
theorem appseqL_in (n Bn N : Nat) (hN : N ≤ 8) (h1 : 1 ≤ N) (w : World) (hn : 3 ≤ n) (hBn : Bn < w.heap.size) (hc : w.cell? ⟨Bn, 0, none⟩ = some (.int .i64 N)) (Ls : List (List Int)) (hLs : Ls = growL (N - 1) [1]) (hll : Ls.length ≤ 100000) :
    CallsIn Fence.wide n Try.prog 48 #[.slice none 0 0, .func (.func 41) #[] #[.pointer (some ⟨Bn, 0, none⟩)]] w fun e w' => ∃ v vals, e = .returned v ∧ w'.ownsRow w.heap.size 22 1 v Ls.length vals ∧ RowsG w' w.heap.size N vals Ls ∧ Below w.heap.size w w' := by
  have HC := Lib.hid hc
  have HLs := Lib.hid hLs
  clear hc hLs
  refine callsIn_of_wp_marks Try.func48 rfl trivial ?_ rfl
  simp only [Try.ntmps48, List.size_toArray, List.length_cons, List.length_nil, Nat.reduceAdd, Nat.reduceSub, Array.replicate_succ, Array.replicate_zero, List.push_toArray, List.append_toArray, List.nil_append, List.cons_append]
  gi_wp2_with (fail)
  have kO : (w.alloc (.cells #[.slice none 0 0] 32)).heap[w.heap.size]? = some (.cells #[.slice none 0 0] 32 (0, 0)) := new_blk _ rfl
  have hw0 : Below w.heap.size w (w.alloc (.cells #[.slice none 0 0] 32)) := below_new _ _
  have hc0 := al_c HC.out (.cells #[.slice none 0 0] 32)
  generalize w.alloc (.cells #[.slice none 0 0] 32) = W0 at kO hw0 hc0 ⊢
  have hM := orders1_mem N Bn hN h1 (n - 1) (by omega) W0 (Nat.lt_of_lt_of_le hBn hw0.size) hc0
  rw [← HLs.out] at hM
  refine rangeFunc_mem rfl (by omega) (gf := 41) (lb := #[.pointer (some ⟨Bn, 0, none⟩)]) rfl trivial (enters_of Try.func41 (by kernel_rfl) rfl)
    hM (fun h1 h2 => h1.trans h2) ?kb (Below.refl _ _) (fun _ => rfl)
    (fun pre W => ∃ v vals, SlI N Ls w W0 pre W v vals)
    (fun s A C ⟨v, vals, h⟩ hb => ⟨v, vals, h.below hb⟩)
    (fun s W l o o' hB ⟨v, vals, h⟩ hl ho => ⟨v, vals, h.put (Nat.le_trans hw0.size hB) hl ho⟩)
    (fun s x W l o o' hB ⟨q, g1, g2, g3⟩ hl ho => ⟨q, g1, g2.keep ⟨(grownBy_putObj' W l o').size, ints_put hl ho⟩, g3⟩)
    ⟨.slice none 0 0, [], kO, World.ownsRow_nil _ _ _ _, ⟨rfl, fun j L h => by simp at h⟩, hw0, Nat.le_refl _, Nat.zero_le _⟩
    (fun x => { tmps := #[.slice none 0 0, .func (.func 41) #[] #[.pointer (some ⟨Bn, 0, none⟩)], .pointer (some ⟨w.heap.size, 0, none⟩), undef, .slice none 0 0, .slice (some ⟨x.1, 0, none⟩) N x.2, .func (.func 41) #[] #[.pointer (some ⟨Bn, 0, none⟩)], .slice (some ⟨x.1, 0, none⟩) N x.2, undef, undef, undef, undef, undef], defers := [] }) ?assign ?body ?done
  case kb =>
    intro W l o o' hB hl ho _
    exact ⟨(grownBy_putObj' W l o').size, ints_put hl ho⟩
  case assign =>
    intro l x W K hK
    gi_wp2
    exact hK
  case body =>
    rintro l pre x W ⟨v, vals, hI⟩ ⟨q, hq, hIx, hBx⟩
    have hlt := (List.getElem?_eq_some_iff.1 hq).1
    have hlo : w.heap.size < W0.heap.size := blk_lt kO
    have hWs := blk_lt hI.box
    have hWW := hI.sz
    have a0 := cell_of_blk hI.box 0
    simp only [List.getElem?_toArray, List.getElem?_cons_zero] at a0
    obtain ⟨i0, hi, hz0, hz1, hz2⟩ := info_parts slc_info
    have HI := Lib.hid hI
    have HQ := Lib.hid hq
    have HX := Lib.hid hIx
    clear hI hq hIx
    gi_wp2_with (first | (gi_at_builtin; refine wpListIn_append_own _ rfl (.tmp 8) (.tmp 10) 32 rfl W0.heap.size 22 i0 (.slice none 0 0) 1 24 Try.underlying32 hi hz0 hz1 hz2 rfl (by decide) v pre.length vals rfl (own_below HI.out.row (below_new _ _) (Nat.le_refl _)) ⟨W.heap.size, 0, none⟩ 1 1 [.slice (some ⟨x.1, 0, none⟩) N x.2] rfl rfl (one_new W _ _) (fun u hu => by simp at hu; subst hu; rfl) (by unfold maxLen; omega) (by omega) (by simp; omega) ?_; intro v6 w6 hown6 hgr6 _; obtain ⟨g6, c6, cur6, hv6, _, _, _, _⟩ := own_addr hown6 (by omega); subst hv6; have hB6 : Below W0.heap.size (W.alloc (.cells #[.slice (some ⟨x.1, 0, none⟩) N x.2] 22)) w6 := (Below.refl _ _).grown hgr6 (by simp; omega) (fun k hk => (HI.out.row.lt k hk).1); have q6 := blk_below (blk_alloc HI.out.box _) hB6 (by omega); have z6 := cell_of_blk q6 0; simp only [List.getElem?_toArray, List.getElem?_cons_zero] at z6; have f6 := frozen_of_blk q6; have l6 := blk_lt q6))
    have hrowA := own_below HI.out.row (below_new W (.cells #[.slice (some ⟨x.1, 0, none⟩) N x.2] 22)) (Nat.le_refl _)
    have hcl := own_cells hrowA
    have hall : KpI W (w6.setCell ⟨w.heap.size, 0, none⟩ (.slice (some ⟨g6, 0, none⟩) (pre.length + 1) c6)) := by
      refine ⟨by rw [World.size_setCell]; have := hB6.size; have := hgr6.size; simp at this; omega, fun g cs hg => ?_⟩
      exact ints_set q6 g cs (ints_grown hgr6 hcl g cs (blk_alloc hg _))
    refine ⟨?_, hall, .slice (some ⟨g6, 0, none⟩) (pre.length + 1) c6, vals ++ [.slice (some ⟨x.1, 0, none⟩) N x.2], ?_, ?_, ?_, ?_, ?_, by simp; omega⟩
    · exact (((KeepsOthers.alloc _ _).trans ((KeepsOthers.of_grownBy hgr6 (fun k o hk ho => by obtain ⟨cs, h5⟩ := hcl k hk; rw [h5] at ho; rw [← Option.some.inj ho]; rfl)).trans (KeepsOthers.setCell _ _ _))).from _)
    · have := blk_set q6 0 (.slice (some ⟨g6, 0, none⟩) (pre.length + 1) c6)
      simpa using this
    · rw [List.length_append, List.length_singleton]
      exact own_set hown6 (fun k hk => by have := (hown6.lt k hk).1; omega) 0 _
    · rw [List.length_append, List.length_singleton, take_succ HQ.out]
      exact (HI.out.rows.keep hall.2).snoc (HX.out.keep hall) hBx
    · exact (HI.out.bel.trans (((below_new W _).mono (show w.heap.size ≤ W.heap.size by omega)).trans (hB6.mono (show w.heap.size ≤ W0.heap.size by omega)))).setCell (by simp) _
    · exact Nat.le_trans HI.out.sz hall.1
  case done =>
    rintro D ys W hD hys ⟨v, vals, hI⟩ hK
    have o0 := cell_of_blk hI.box 0
    simp only [List.getElem?_toArray, List.getElem?_cons_zero] at o0
    have HI := Lib.hid hI
    have HY := Lib.hid hys
    clear hI hys
    gi_wp2
    refine ⟨by simp, .inl ⟨_, _, rfl, run_takeDeferred hK, ?_⟩⟩
    have hP := HI.out.put (o' := .deferred none) (Nat.le_trans hw0.size hD) hK rfl
    have hrw := hP.row
    have hrs := hP.rows
    rw [HY.out] at hrw hrs
    rw [List.take_of_length_le (Nat.le_refl _)] at hrs
    exact ⟨v, by simp [results, Try.results48, go_sem], v, vals, rfl, own_mono hrw hw0.size, ⟨hrs.1, fun j L hL => by obtain ⟨g, c, q1, q2, q3⟩ := hrs.2 j L hL; exact ⟨g, c, q1, q2, Nat.le_trans hw0.size q3⟩⟩, hP.bel⟩
end Go.Proofs.Ytjikhdnlcoohbaa
