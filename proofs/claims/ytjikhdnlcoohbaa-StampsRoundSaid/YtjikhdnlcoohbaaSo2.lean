/- slices.AppendSeq, Collect. -/
import Derived.Test.YtjikhdnlcoohbaaSo1
namespace Go.Proofs.Ytjikhdnlcoohbaa
set_option linter.unusedSimpArgs false
set_option linter.unusedVariables false
open Go.RowKit St
attribute [local go_sem] Oper.semAt_some

set_option maxRecDepth 100000 in
set_option maxHeartbeats 3200000 in
theorem appseq_in (n Bs b off len cap : Nat) (zs : List Int) (w : World) (hn : 3 ≤ n) (hr : Rd w 1 (some ⟨b, off, none⟩) len (vis zs)) (hb : b < w.heap.size)
    (hl : len ≤ 1000) (hBs : Bs < w.heap.size) (hc : w.cell? ⟨Bs, 0, none⟩ = some (.slice (some ⟨b, off, none⟩) len cap)) :
    CallsIn Fence.wide n Try.prog 54 #[.slice none 0 0, .func (.func 47) #[] #[.pointer (some ⟨Bs, 0, none⟩)]] w fun e w' => ∃ v, e = .returned v ∧ w'.ownsRow w.heap.size 3 1 v len (vis zs) ∧ Below w.heap.size w w' := by
  have hlen := hr.ints_len
  have HR := Lib.hid hr
  have HL := Lib.hid hlen
  have HC := Lib.hid hc
  clear hr hlen hc
  refine callsIn_of_wp_marks Try.func54 rfl trivial ?_ rfl
  simp only [Try.ntmps54, List.size_toArray, List.length_cons, List.length_nil, Nat.reduceAdd, Nat.reduceSub, Array.replicate_succ, Array.replicate_zero, List.push_toArray, List.append_toArray, List.nil_append, List.cons_append]
  gi_wp2_with (fail)
  have kO : (w.alloc (.cells #[.slice none 0 0] 22)).heap[w.heap.size]? = some (.cells #[.slice none 0 0] 22 (0, 0)) := new_blk _ rfl
  have hw0 : Below w.heap.size w (w.alloc (.cells #[.slice none 0 0] 22)) := below_new _ _
  have hr0 := HR.out.alloc (.cells #[.slice none 0 0] 22)
  have hc0 := al_c HC.out (.cells #[.slice none 0 0] 22)
  generalize w.alloc (.cells #[.slice none 0 0] 22) = W0 at kO hw0 hr0 hc0 ⊢
  refine rangeFunc_mem rfl (by omega) (gf := 47) (lb := #[.pointer (some ⟨Bs, 0, none⟩)]) rfl trivial (enters_of Try.func47 (by kernel_rfl) rfl)
    (values1_mem Fence.wide _ trivial rfl (by omega) Bs b off len cap w.heap.size zs W0 hr0 hb hw0.size hl (Nat.lt_of_lt_of_le hBs hw0.size) hc0)
    (fun h1 h2 => h1.trans h2) ?kb (Below.refl _ _) (fun _ => rfl)
    (fun pre W => ∃ v, W.heap[w.heap.size]? = some (.cells #[v] 22 (0, 0)) ∧ W.ownsRow W0.heap.size 3 1 v pre.length (vis pre) ∧ Below w.heap.size w W ∧ pre.length ≤ 1000 ∧ W0.heap.size ≤ W.heap.size)
    (fun s A C ⟨v, h1, h2, h3, h4, h5⟩ hb => ⟨v, blk_below h1 hb (blk_lt h1), own_below h2 hb (Nat.le_refl _), stay_b h3 hb, h4, Nat.le_trans h5 hb.size⟩)
    (fun s W l o o' hB ⟨v, h1, h2, h3, h4, h5⟩ hl ho => ⟨v, put_cells h1 hl ho, own_put h2 hl ho, below_put h3 (Nat.le_trans hw0.size hB) h3.size, h4, Nat.le_trans h5 (grownBy_putObj' W l o').size⟩)
    (fun s x W l o o' hB hG hl ho => hG)
    ⟨.slice none 0 0, kO, World.ownsRow_nil _ _ _ _, hw0, Nat.zero_le _, Nat.le_refl _⟩
    (fun x => { tmps := #[.slice none 0 0, .func (.func 47) #[] #[.pointer (some ⟨Bs, 0, none⟩)], .pointer (some ⟨w.heap.size, 0, none⟩), undef, .slice none 0 0, .int .i64 x, .func (.func 47) #[] #[.pointer (some ⟨Bs, 0, none⟩)], .int .i64 x, undef, undef, undef, undef, undef], defers := [] }) ?assign ?body ?done
  case kb =>
    intro W l o o' hB hl ho _
    have := hw0.size
    have := blk_lt hl
    exact below_put (Below.refl _ _) (by omega) (by omega)
  case assign =>
    intro l x W K hK
    gi_wp2
    exact hK
  case body =>
    rintro l pre x W ⟨v, h1, h2, h3, h4, hWW⟩ hG
    have hlt : pre.length < len := by
      have := (List.getElem?_eq_some_iff.1 hG).1
      rw [HL.out] at this
      exact this
    have hlo : w.heap.size < W0.heap.size := blk_lt kO
    have hWs := blk_lt h1
    have a0 := cell_of_blk h1 0
    simp only [List.getElem?_toArray, List.getElem?_cons_zero] at a0
    obtain ⟨i0, hi, hz0, hz1, hz2⟩ := info_parts int_info
    have H1 := Lib.hid h1
    have H2 := Lib.hid h2
    clear h1 h2 hG
    gi_wp2_with (first | (gi_at_builtin; refine wpListIn_append_own _ rfl (.tmp 8) (.tmp 10) 22 rfl W0.heap.size 3 i0 (.int .i64 0) 1 8 Try.underlying22 hi hz0 hz1 hz2 rfl (by decide) v pre.length (vis pre) rfl (own_below H2.out (below_new _ _) (Nat.le_refl _)) ⟨W.heap.size, 0, none⟩ 1 1 [.int .i64 x] rfl rfl (one_new W _ _) (fun u hu => by simp at hu; subst hu; rfl) (by unfold maxLen; omega) (by omega) (by simp; omega) ?_; intro v6 w6 hown6 hgr6 _; obtain ⟨g6, c6, cur6, hv6, _, _, _, _⟩ := own_addr hown6 (by omega); subst hv6; have hB6 : Below W0.heap.size (W.alloc (.cells #[.int .i64 x] 3)) w6 := (Below.refl _ _).grown hgr6 (by simp; omega) (fun k hk => (H2.out.lt k hk).1); have q6 := blk_below (blk_alloc H1.out _) hB6 (by omega); have z6 := cell_of_blk q6 0; simp only [List.getElem?_toArray, List.getElem?_cons_zero] at z6; have f6 := frozen_of_blk q6; have l6 := blk_lt q6))
    have hrowA := own_below H2.out (below_new W (.cells #[.int .i64 x] 3)) (Nat.le_refl _)
    have hcl := own_cells hrowA
    refine ⟨?_, ?_, .slice (some ⟨g6, 0, none⟩) (pre.length + 1) c6, ?_, ?_, ?_, by simp; omega, by rw [World.size_setCell]; have := hB6.size; simp at this; omega⟩
    · exact (((KeepsOthers.alloc _ _).trans ((KeepsOthers.of_grownBy hgr6 (fun k o hk ho => by obtain ⟨cs, h5⟩ := hcl k hk; rw [h5] at ho; rw [← Option.some.inj ho]; rfl)).trans (KeepsOthers.setCell _ _ _))).from _)
    · exact (((below_new W _).mono (show w.heap.size ≤ W.heap.size by omega)).trans (hB6.mono (show w.heap.size ≤ W0.heap.size by omega))).setCell (by simp) _
    · have := blk_set q6 0 (.slice (some ⟨g6, 0, none⟩) (pre.length + 1) c6)
      simpa using this
    · rw [List.length_append, List.length_singleton]
      rw [show vis (pre ++ [x]) = vis pre ++ [.int .i64 x] by simp [vis]]
      exact own_set hown6 (fun k hk => by have := (hown6.lt k hk).1; omega) 0 _
    · exact (h3.trans (((below_new W _).mono h3.size).trans (hB6.mono (show w.heap.size ≤ W0.heap.size by omega)))).setCell (by simp) _
  case done =>
    rintro D ys W hD rfl ⟨v, h1, h2, h3, h4, h5⟩ hK
    have o0 := cell_of_blk h1 0
    simp only [List.getElem?_toArray, List.getElem?_cons_zero] at o0
    have H1 := Lib.hid h1
    have H2 := Lib.hid h2
    clear h1 h2
    gi_wp2
    refine ⟨by simp, .inl ⟨_, _, rfl, run_takeDeferred hK, ?_⟩⟩
    have hP := own_put (o' := .deferred none) H2.out hK rfl
    have hQ := below_put (o' := .deferred none) h3 (Nat.le_trans hw0.size hD) h3.size
    exact ⟨v, by simp [results, Try.results54, go_sem], v, rfl, by rw [← HL.out]; exact own_mono hP hw0.size, hQ⟩
end Go.Proofs.Ytjikhdnlcoohbaa
