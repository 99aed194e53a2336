/- faces.Of: its closure; words for rows of rows. -/
import Derived.Test.YtoienokpchbglaaDoorSm
import Derived.WideKeyEntry
namespace Go.Proofs.YtoienokpchbglaaDoor
set_option linter.unusedSimpArgs false
set_option linter.unusedVariables false
open Go.RowKit Go.Maps

/-- which edges may be crossed within a face -/
def facF (fk : E4 → Option Int) (e : E4) : Bool := decide ((fk e).getD 0 = 0)
theorem SmT.edge {t : T3} (h : SmT t) {i : Nat} (hi : i < 3) : kE.ok (eT t i) := by
  obtain ⟨h1, h2, h3⟩ := h
  obtain ⟨x, y, e⟩ := k4_cases h3
  show inR _ ∧ inR _ ∧ inR _ ∧ inR _
  unfold inR
  rcases i3_cases hi with rfl | rfl | rfl <;> rcases e with rfl | rfl | rfl | rfl <;> simp [e00, e01, e02, e10, e11, e12, e20, e21, e22, e30, e31, e32] at h1 h2 ⊢ <;> omega
theorem of1_enter (args : Array Value) (wx : World) : (callFunc 70 args).run Tryd.prog wx = .ok (.enter 70 args) wx := by kernel_rfl
set_option maxRecDepth 100000 in
set_option maxHeartbeats 1600000 in
theorem of1_any (pb nb kb W H b1 : Nat) (vm vc vt : Value) (L : List T3) (mn mk : Nat) (fk : E4 → Option Int) (e : E4) (w : World) (hp : PapI w pb nb kb W H vm vc vt L mn mk fk) (hb : w.cell? ⟨b1, 0, none⟩ = some (.pointer (some ⟨pb, 0, none⟩))) (hk : kE.ok e) :
    Calls Tryd.prog 70 #[aggE e, .pointer (some ⟨b1, 0, none⟩)] w fun r w' => r = .returned (.bool (facF fk e)) ∧ Below w.heap.size w w' := by
  have kb0 := heap_alloc_new w (.cells #[.int .i64 e.1, .int .i64 e.2.1, .int .i64 e.2.2.1, .int .i64 e.2.2.2] 86)
  have hbw := below_new w (.cells #[.int .i64 e.1, .int .i64 e.2.1, .int .i64 e.2.2.1, .int .i64 e.2.2.2] 86)
  have e0 := cell_of_blk kb0 0
  have e1 := cell_of_blk kb0 1
  have e2 := cell_of_blk kb0 2
  have e3 := cell_of_blk kb0 3
  simp only [List.getElem?_toArray, List.getElem?_cons_zero, List.getElem?_cons_succ] at e0 e1 e2 e3
  have hp0 := hp.below hbw
  have hb0 := al_c hb (.cells #[.int .i64 e.1, .int .i64 e.2.1, .int .i64 e.2.2.1, .int .i64 e.2.2.2] 86)
  have c6 := hp0.c6
  have hl : ∀ q, (Instr.lookup 70 (.map (some kb)) (aggE e) false).run Tryd.prog ((w.alloc (.cells #[.int .i64 e.1, .int .i64 e.2.1, .int .i64 e.2.2.1, .int .i64 e.2.2.2] 86)).drewN q) = .ok (.int .i64 ((fk e).getD 0)) ((w.alloc (.cells #[.int .i64 e.1, .int .i64 e.2.1, .int .i64 e.2.2.1, .int .i64 e.2.2.2] 86)).drewN q) := fun q => (hp0.kin.below (below_drewN (Below.refl _ _) q) hp0.kin.lt).look1 hk
  have hl1 := hl 1
  obtain ⟨V, hV⟩ : ∃ V, V = (fk e).getD 0 := ⟨_, rfl⟩
  have hres : (V == 0) = facF fk e := by
    unfold facF
    rw [← hV, Bool.eq_iff_iff]
    simp
  rw [← hV] at hl1
  have hl1 : (Instr.lookup 70 (.map (some kb)) (aggE e) false).run Tryd.prog (w.alloc (.cells #[.int .i64 e.1, .int .i64 e.2.1, .int .i64 e.2.2.1, .int .i64 e.2.2.2] 86)).drew = .ok (.int .i64 V) (w.alloc (.cells #[.int .i64 e.1, .int .i64 e.2.1, .int .i64 e.2.2.1, .int .i64 e.2.2.2] 86)).drew := hl1
  have HR := Lib.hid hres
  clear hres hV hl kb0 hp hp0 hb
  go_enter Tryd.func70, Tryd.ntmps70
  go_upto_region 1 with fail
  generalize w.alloc (.cells #[.int .i64 e.1, .int .i64 e.2.1, .int .i64 e.2.2.1, .int .i64 e.2.2.2] 86) = w0 at e0 e1 e2 e3 hb0 c6 hl1 hbw ⊢
  have hS : w0.drew.cell? ⟨w.heap.size, 0, none⟩ = some (.int .i64 e.1) ∧ w0.drew.cell? ⟨w.heap.size, 1, none⟩ = some (.int .i64 e.2.1) ∧ w0.drew.cell? ⟨w.heap.size, 2, none⟩ = some (.int .i64 e.2.2.1) ∧ w0.drew.cell? ⟨w.heap.size, 3, none⟩ = some (.int .i64 e.2.2.2) ∧ w0.drew.cell? ⟨b1, 0, none⟩ = some (.pointer (some ⟨pb, 0, none⟩)) ∧ w0.drew.cell? ⟨pb, 6, none⟩ = some (.map (some kb)) ∧ w0.drew = w0.drew := ⟨e0, e1, e2, e3, hb0, c6, rfl⟩
  go_region_held3 (fun w' => w'.cell? ⟨w.heap.size, 0, none⟩ = some (.int .i64 e.1) ∧ w'.cell? ⟨w.heap.size, 1, none⟩ = some (.int .i64 e.2.1) ∧ w'.cell? ⟨w.heap.size, 2, none⟩ = some (.int .i64 e.2.2.1) ∧ w'.cell? ⟨w.heap.size, 3, none⟩ = some (.int .i64 e.2.2.2) ∧ w'.cell? ⟨b1, 0, none⟩ = some (.pointer (some ⟨pb, 0, none⟩)) ∧ w'.cell? ⟨pb, 6, none⟩ = some (.map (some kb)) ∧ w' = w0.drew)
    (first
      | with_reducible exact hS
      | with_reducible assumption)
    (first
      | fail)
  go_wp2
  go_ret
  exact ⟨ret_bool HR.out, hbw.drew⟩
theorem cross_fac (pb nb kb W H b1 : Nat) (vm vc vt : Value) (L : List T3) (mn mk : Nat) (fk : E4 → Option Int) (w : World) (hp : PapI w pb nb kb W H vm vc vt L mn mk fk) (hb : w.cell? ⟨b1, 0, none⟩ = some (.pointer (some ⟨pb, 0, none⟩))) (hL : ∀ t ∈ L, SmT t) :
    CrossR w 70 #[.pointer (some ⟨b1, 0, none⟩)] (facF fk) L := by
  intro W' t i ht hi hbl
  exact of1_any pb nb kb W H b1 vm vc vt L mn mk fk (eT t i) W' (hp.below hbl) (stay_c hb hbl (Nat.le_refl _)) ((hL t ht).edge hi)
/-! ### rows of rows -/
structure RowsT (w : World) (base : Nat) (v : Value) (fs : List (List T3)) (vs : List Value) : Prop where
  own : w.ownsRow base 28 1 v fs.length vs
  len : vs.length = fs.length
  row : ∀ (j : Nat) (f : List T3), fs[j]? = some f → ∃ vj, vs[j]? = some vj ∧ w.ownsRow base 93 3 vj f.length (tcT f)
section
variable {w w' : World} {base : Nat} {v v' : Value} {fs : List (List T3)} {vs : List Value}
theorem RowsT.nil (w : World) (base : Nat) : RowsT w base (.slice none 0 0) [] [] := ⟨World.ownsRow_nil _ _ _ _, rfl, fun j f h => by simp at h⟩
theorem RowsT.below (h : RowsT w base v fs vs) (hb : Below w.heap.size w w') : RowsT w' base v fs vs :=
  ⟨own_below h.own hb (Nat.le_refl _), h.len, fun j f hf => by
    obtain ⟨vj, h1, h2⟩ := h.row j f hf
    exact ⟨vj, h1, own_below h2 hb (Nat.le_refl _)⟩⟩
theorem own_apart {w : World} {b1 b2 : Nat} {e1 e2 : TypeId} {s1 s2 n1 n2 : Nat} {v1 v2 : Value} {x1 x2 : List Value} (h1 : w.ownsRow b1 e1 s1 v1 n1 x1) (h2 : w.ownsRow b2 e2 s2 v2 n2 x2) (hne : e1 ≠ e2) : v1.ownBlock = none ∨ v1.ownBlock ≠ v2.ownBlock := by
  cases hv : v1.ownBlock with
  | none => exact .inl rfl
  | some g =>
    right
    intro e
    obtain ⟨c1, g1⟩ := own_cells h1 g hv
    obtain ⟨c2, g2⟩ := own_cells h2 g e.symm
    rw [g1] at g2
    simp at g2
    exact hne g2.2
theorem RowsT.app (h : RowsT w base v fs vs) {f : List T3} {vf : Value} (hf : w.ownsRow base 93 3 vf f.length (tcT f)) (ho : w'.ownsRow base 28 1 v' (fs.length + 1) (vs ++ [vf])) (hg : GrowOf w w' v v') : RowsT w' base v' (fs ++ [f]) (vs ++ [vf]) := by
  refine ⟨by rw [List.length_append]; exact ho, by simp [h.len], fun j x hx => ?_⟩
  have hd : (93 : TypeId) ≠ 28 := by decide
  by_cases hj : j < fs.length
  · rw [List.getElem?_append_left hj] at hx
    obtain ⟨vj, h1, h2⟩ := h.row j x hx
    refine ⟨vj, ?_, own_grow h2 hg (own_apart h2 h.own hd)⟩
    rw [List.getElem?_append_left (by rw [h.len]; exact hj)]
    exact h1
  · have hj2 : j = fs.length := by
      have := (List.getElem?_eq_some_iff.1 hx).1
      simp at this
      omega
    subst hj2
    simp at hx
    subst hx
    refine ⟨vf, ?_, own_grow hf hg (own_apart hf h.own hd)⟩
    rw [← h.len]
    simp
theorem RowsT.grown (h : RowsT w base v fs vs) {row : Option Nat} (hg : w.grownBy w' row) (hm : ∀ b, row = some b → ∃ es c, w.heap[b]? = some (.map es c)) : RowsT w' base v fs vs := by
  have key : ∀ {e : TypeId} {s n : Nat} {u : Value} {xs : List Value}, w.ownsRow base e s u n xs → w'.ownsRow base e s u n xs := by
    intro e s n u xs hu
    refine World.ownsRow.kept hu hg ?_
    cases hv : u.ownBlock with
    | none => exact .inl rfl
    | some g =>
      right
      intro er
      exact own_notmap hu (hm g er.symm) hv
  exact ⟨key h.own, h.len, fun j f hf => by
    obtain ⟨vj, h1, h2⟩ := h.row j f hf
    exact ⟨vj, h1, key h2⟩⟩
end
end Go.Proofs.YtoienokpchbglaaDoor
