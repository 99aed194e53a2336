/- States that come in, opened.. Out of the row's condition on the listed table: 'Steps'. -/
import Derived.Test.YtpkjekedgodccaaGreatDoorK50
import Derived.Test.YtpkjekedgodccaaGreatDoorK48
import Derived.Test.YtpkjekedgodccaaGreatDoorK01
import Derived.Test.YtpkjekedgodccaaGreatDoorRows
import Derived.ProofKit
import Derived.LaidMore
import Derived.OpenShut
import Derived.Deep.Fields23
import Derived.Lib.SmallJoins
import Derived.Stop.Joined
namespace Go.Proofs.YtpkjekedgodccaaGreatDoor
set_option linter.unusedSimpArgs false
set_option linter.unusedVariables false
section
open Go.ChangeShapes Go.WideShapes Go.ChangeAt Go.RowKit Go.Joins
theorem flat_nth {β : Type} {f : β → List Value} {k : Nat} (hf : ∀ b, (f b).length = k) : ∀ {l : List β} {i j : Nat} {b : β}, l[i]? = some b → j < k → (l.flatMap f)[i * k + j]? = (f b)[j]?
 | [], i, j, b, h, _ => by simp at h
 | a :: l, 0, j, b, h, hj => by
  simp at h
  subst h
  rw [List.flatMap_cons, List.getElem?_append_left (by rw [hf]; omega)]
  simp
 | a :: l, i + 1, j, b, h, hj => by
  have := flat_nth hf (l := l) (i := i) (j := j) (b := b) (by simpa using h) hj
  rw [List.flatMap_cons, List.getElem?_append_right (by rw [hf, Nat.add_mul]; omega), hf, ← this]
  congr 1
  rw [Nat.add_mul]
  omega
theorem flat_len {β : Type} {f : β → List Value} {k : Nat} (hf : ∀ b, (f b).length = k) : ∀ (l : List β), (l.flatMap f).length = l.length * k
 | [] => by simp
 | a :: l => by
  rw [List.flatMap_cons, List.length_append, hf, flat_len hf l, List.length_cons, Nat.add_mul]
  omega
theorem inR_of {z : Int} (h : (Lit.int .i64 z).wf = true) : inR z := by
 unfold inR
 simp [Lit.wf, IntKind.min, IntKind.max, IntKind.signed, IntKind.bits] at h
 omega
section
variable {H : Type} {enc : TypeId × Value → H} {w : World} {base : Nat} {spare : Nat → Bool} {held : Bool}
theorem open_rowK {β : Type} {k : Nat} {T E : TypeId} (hT : Tryz.prog.underlying T = some (.slice E)) (hk : Tryz.prog.cellsOf E = k) (hk0 : 0 < k) (f : β → List Value) (hf : ∀ b, (f b).length = k) (Pb : β → DataW H → Prop) (z : β)
  (hcell : ∀ m cs y, DataW.trod enc Tryz.prog w base spare held m E cs = some y → ∃ b, cs = f b ∧ Pb b y.1) {fuel : Nat} {cs : List Value} {x : DataW H × List MemPlace} (h : DataW.trod enc Tryz.prog w base spare held fuel T cs = some x) :
  ∃ (A : Option Addr) (n c : Nat) (l : List β), cs = [.slice A n c] ∧ l.length = n ∧ Rd w k A n (l.flatMap f) ∧ (A = none → c = 0) ∧ n ≤ c ∧ ((x.1 = .nil ∧ n = 0) ∨ ∃ el sp, x.1 = .slice el sp ∧ el.length = n ∧ ∀ (i : Nat) (b : β), l[i]? = some b → ∃ d, el[i]? = some d ∧ Pb b d) := by
 rcases DataW.trod_slice hT h with ⟨rfl, rfl⟩ | ⟨a, len, cap, elems, rest, m, _, rfl, rfl, hb, hl, hm, hlen, hel, _, _⟩
 ·exact ⟨none, 0, 0, [], rfl, rfl, Rd.nil, fun _ => rfl, Nat.le_refl _, .inl ⟨rfl, rfl⟩⟩
 ·rw [hk] at hel
  have each : ∀ i, ∃ b : β, i < len → (∀ j, j < k → w.cell? (a.add (i * k + j)) = (f b)[j]?) ∧ ∃ d, (elems.map (·.1))[i]? = some d ∧ Pb b d := by
   intro i
   by_cases hi : i < len
   ·have h1 := hel i hi
    rw [List.getElem?_eq_getElem (by omega)] at h1
    rw [Option.bind_eq_some_iff] at h1
    obtain ⟨q, h2, h3⟩ := h1
    obtain ⟨b, rfl, hp⟩ := hcell _ _ _ h3
    refine ⟨b, fun _ => ⟨fun j hj => ?_, _, by rw [List.getElem?_map, List.getElem?_eq_getElem (by omega)]; rfl, hp⟩⟩
    have h4 := (World.cells?_some h2).2.2 j hj
    rw [← add_add2]
    exact h4
   ·exact ⟨z, fun h => absurd h hi⟩
  obtain ⟨g, hg⟩ := Classical.axiomOfChoice each
  refine ⟨some a, len, cap, (List.range len).map g, rfl, by simp, ⟨by rw [flat_len hf]; simp, fun hp => ?_⟩, fun h => (by cases h), hl, .inr ⟨_, _, rfl, by simp [hlen], fun i b hi => ?_⟩⟩
  ·have h0 := (hg 0 hp).1 0 hk0
   obtain ⟨v0, hv0⟩ : ∃ v0, (f (g 0))[0]? = some v0 := ⟨_, List.getElem?_eq_getElem (by rw [hf]; exact hk0)⟩
   rw [hv0] at h0
   obtain ⟨b, off, spot⟩ := a
   have hspot : spot = none := by simpa [Addr.add] using World.cell?_spot h0
   subst hspot
   refine ⟨b, off, rfl, by rw [addr_add] at h0; exact World.block_lt_of_cell? w _ h0, fun j u hu => ?_⟩
   have hj : j < len * k := by
    have := (List.getElem?_eq_some_iff.1 hu).1
    rw [flat_len hf] at this
    simpa using this
   have hq : j / k < len := Nat.div_lt_of_lt_mul (by rw [Nat.mul_comm]; exact hj)
   have hr : j % k < k := Nat.mod_lt _ hk0
   have hjk : j / k * k + j % k = j := by rw [Nat.mul_comm]; exact Nat.div_add_mod j k
   have h1 := (hg (j / k) hq).1 (j % k) hr
   rw [hjk, addr_add] at h1
   rw [h1, ← flat_nth hf (l := (List.range len).map g) (i := j / k) (b := g (j / k)) (by simp [hq]) hr, hjk]
   exact hu
  ·have hil := (List.getElem?_eq_some_iff.1 hi).1
   simp at hil
   simp [hil] at hi
   subst hi
   exact (hg i hil).2
set_option maxRecDepth 100000 in
theorem tri_cells {m : Nat} {cs : List Value} {y : DataW H × List MemPlace} (h : DataW.trod enc Tryz.prog w base spare held m 44 cs = some y) :
  ∃ t : T3, cs = [.int .i64 t.1, .int .i64 t.2.1, .int .i64 t.2.2] ∧ inR t.1 ∧ inR t.2.1 ∧ inR t.2.2 := by
 obtain ⟨xs, n, _, _, hcl, hl, hg⟩ := DataW.trod_struct Tryz.underlying44 h
 have hcl2 := hcl.trans (show Tryz.prog.cellsOf 44 = 3 by kernel_rfl)
 obtain ⟨c0, c1, c2, rfl⟩ : ∃ a b c, cs = [a, b, c] := by
  match cs, hcl2 with
  | [a, b, c], _ => exact ⟨a, b, c, rfl⟩
 have e1 : Tryz.prog.cellsOf 3 = 1 := by kernel_rfl
 have h0 := hg 0 _ rfl
 have h1 := hg 1 _ rfl
 have h2 := hg 2 _ rfl
 simp only [List.getElem_toArray, List.getElem_cons_zero, List.getElem_cons_succ] at h0 h1 h2
 rw [e1] at h0 h1 h2
 simp only [List.drop_zero, List.drop_succ_cons, List.take_succ_cons, List.take_zero] at h0 h1 h2
 have hl : xs.length = 3 := by assumption
 obtain ⟨a, rfl, ha⟩ := int_cell (h0.trans (List.getElem?_eq_getElem (by omega)))
 obtain ⟨b, rfl, hb⟩ := int_cell (h1.trans (List.getElem?_eq_getElem (by omega)))
 obtain ⟨c, rfl, hc⟩ := int_cell (h2.trans (List.getElem?_eq_getElem (by omega)))
 exact ⟨(a, b, c), rfl, inR_of ha, inR_of hb, inR_of hc⟩
set_option maxRecDepth 100000 in
theorem map_cells {m : Nat} {cs : List Value} {y : DataW H × List MemPlace} (h : DataW.trod enc Tryz.prog w base spare held m 63 cs = some y) :
  ∃ t : V6, cs = [.int .i64 t.1, .int .i64 t.2.1, .int .i64 t.2.2.1, .int .i64 t.2.2.2.1, .int .i64 t.2.2.2.2.1, .int .i64 t.2.2.2.2.2] := by
 obtain ⟨xs, n, _, _, hcl, hl, hg⟩ := DataW.trod_struct Tryz.underlying63 h
 have hcl2 := hcl.trans (show Tryz.prog.cellsOf 63 = 6 by kernel_rfl)
 obtain ⟨c0, c1, c2, c3, c4, c5, rfl⟩ : ∃ a b c d e f, cs = [a, b, c, d, e, f] := by
  match cs, hcl2 with
  | [a, b, c, d, e, f], _ => exact ⟨a, b, c, d, e, f, rfl⟩
 have e1 : Tryz.prog.cellsOf 3 = 1 := by kernel_rfl
 have h0 := hg 0 _ rfl
 have h1 := hg 1 _ rfl
 have h2 := hg 2 _ rfl
 have h3 := hg 3 _ rfl
 have h4 := hg 4 _ rfl
 have h5 := hg 5 _ rfl
 simp only [List.getElem_toArray, List.getElem_cons_zero, List.getElem_cons_succ] at h0 h1 h2 h3 h4 h5
 rw [e1] at h0 h1 h2 h3 h4 h5
 simp only [List.drop_zero, List.drop_succ_cons, List.take_succ_cons, List.take_zero] at h0 h1 h2 h3 h4 h5
 have hl : xs.length = 6 := by assumption
 obtain ⟨a, rfl, _⟩ := int_cell (h0.trans (List.getElem?_eq_getElem (by omega)))
 obtain ⟨b, rfl, _⟩ := int_cell (h1.trans (List.getElem?_eq_getElem (by omega)))
 obtain ⟨c, rfl, _⟩ := int_cell (h2.trans (List.getElem?_eq_getElem (by omega)))
 obtain ⟨d, rfl, _⟩ := int_cell (h3.trans (List.getElem?_eq_getElem (by omega)))
 obtain ⟨e, rfl, _⟩ := int_cell (h4.trans (List.getElem?_eq_getElem (by omega)))
 obtain ⟨f, rfl, _⟩ := int_cell (h5.trans (List.getElem?_eq_getElem (by omega)))
 exact ⟨(a, b, c, d, e, f), rfl⟩
theorem row_weight {T E : TypeId} {b : Nat} (hT : Tryz.prog.underlying T = some (.slice E)) (hb : Tryz.prog.bytesOf E = b) {d : DataW H} {n : Nat} (hd : (d = .nil ∧ n = 0) ∨ ∃ el sp, d = .slice el sp ∧ el.length = n) (hw : ∀ k ∈ d.weights Tryz.prog T, k ≤ reachBytes) : n * b ≤ 140737488351232 := by
 rcases hd with ⟨_, h⟩ | ⟨el, sp, h, hel⟩
 ·subst h; omega
 ·have h1 := hw ((el.length + sp.length) * b) (by rw [h]; simp [DataW.weights, hT, hb])
  simp only [reachBytes] at h1
  rw [Nat.add_mul] at h1
  rw [← hel]
  omega
theorem weightsAll_mem {P : Program} {e : TypeId} : ∀ {l : List (DataW H)} {d : DataW H}, d ∈ l → ∀ n ∈ d.weights P e, n ∈ DataW.weightsAll P e l
 | a :: l, d, hd, n, hn => by
  simp only [DataW.weightsAll, List.mem_append]
  rcases List.mem_cons.1 hd with rfl | hd
  ·exact .inl hn
  ·exact .inr (weightsAll_mem hd n hn)
def StkC (w : World) (b : Stk × Value) (d : DataW H) : Prop := ∃ A' c', b.2 = .slice A' b.1.2.length c' ∧ Rd w 3 A' b.1.2.length (tcT b.1.2) ∧ b.1.2.length ≤ c' ∧ (A' = none → c' = 0) ∧ ((inR b.1.1.1 ∧ inR b.1.1.2.1 ∧ inR b.1.1.2.2) ∧ ∀ t ∈ b.1.2, inR t.1 ∧ inR t.2.1 ∧ inR t.2.2) ∧ ((∀ k ∈ d.weights Tryz.prog 54, k ≤ reachBytes) → b.1.2.length * 24 ≤ 140737488351232)
def scV (b : Stk × Value) : List Value := [.int .i64 b.1.1.1, .int .i64 b.1.1.2.1, .int .i64 b.1.1.2.2, b.2]
theorem scs_flat : ∀ (l : List (Stk × Value)), scs (l.map (·.1)) (l.map (·.2)) = l.flatMap scV
 | [] => rfl
 | a :: l => by
  rw [List.flatMap_cons, ← scs_flat l]
  rfl
set_option maxRecDepth 100000 in
theorem open_tris {fuel : Nat} {cs : List Value} {x : DataW H × List MemPlace} (h : DataW.trod enc Tryz.prog w base spare held fuel 52 cs = some x) :
  ∃ (A : Option Addr) (n c : Nat) (l : List T3), cs = [.slice A n c] ∧ l.length = n ∧ Rd w 3 A n (tcT l) ∧ (A = none → c = 0) ∧ n ≤ c ∧ (∀ t ∈ l, inR t.1 ∧ inR t.2.1 ∧ inR t.2.2) ∧ ((x.1 = .nil ∧ n = 0) ∨ ∃ el sp, x.1 = .slice el sp ∧ el.length = n) := by
 obtain ⟨A, n, c, l, h1, h2, h3, h4, h5, h6⟩ := open_rowK (k := 3) Tryz.underlying52 (by kernel_rfl) (by decide) (fun t : T3 => [.int .i64 t.1, .int .i64 t.2.1, .int .i64 t.2.2]) (fun _ => rfl) (fun t _ => inR t.1 ∧ inR t.2.1 ∧ inR t.2.2) ((0, 0, 0) : T3) (fun m cs y h => by obtain ⟨t, h1, h2⟩ := tri_cells h; exact ⟨t, h1, h2⟩) h
 refine ⟨A, n, c, l, h1, h2, h3, h4, h5, ?_, ?_⟩
 ·intro t ht
  rcases h6 with ⟨_, h6⟩ | ⟨el, sp, _, _, h6⟩
  ·have : l = [] := List.length_eq_zero_iff.1 (h2.trans h6)
   subst this
   simp at ht
  ·obtain ⟨i, hi⟩ := List.getElem?_of_mem ht
   obtain ⟨d, _, h7⟩ := h6 i t hi
   exact h7
 ·rcases h6 with h6 | ⟨el, sp, h6, h7, _⟩
  ·exact .inl h6
  ·exact .inr ⟨el, sp, h6, h7⟩
set_option maxRecDepth 100000 in
theorem stack_cells {m : Nat} {cs : List Value} {y : DataW H × List MemPlace} (h : DataW.trod enc Tryz.prog w base spare held m 54 cs = some y) : ∃ b : Stk × Value, cs = scV b ∧ StkC w b y.1 := by
 obtain ⟨xs, n, _, hx, hcl, hl, hg⟩ := DataW.trod_struct Tryz.underlying54 h
 have hcl2 := hcl.trans (show Tryz.prog.cellsOf 54 = 4 by kernel_rfl)
 obtain ⟨c0, c1, c2, c3, rfl⟩ : ∃ a b c d, cs = [a, b, c, d] := by
  match cs, hcl2 with
  | [a, b, c, d], _ => exact ⟨a, b, c, d, rfl⟩
 have e3 : Tryz.prog.cellsOf 44 = 3 := by kernel_rfl
 have e1 : Tryz.prog.cellsOf 52 = 1 := by kernel_rfl
 have h0 := hg 0 _ rfl
 have h1 := hg 1 _ rfl
 simp only [List.getElem_toArray, List.getElem_cons_zero, List.getElem_cons_succ] at h0 h1
 rw [e3] at h0
 rw [e1] at h1
 simp only [List.drop_zero, List.drop_succ_cons, List.take_succ_cons, List.take_zero] at h0 h1
 have hl : xs.length = 2 := by assumption
 obtain ⟨x0, x1, rfl⟩ : ∃ a b, xs = [a, b] := by
  match xs, hl with
  | [a, b], _ => exact ⟨a, b, rfl⟩
 simp only [List.getElem?_cons_zero, List.getElem?_cons_succ] at h0 h1
 obtain ⟨t, ht, hti⟩ := tri_cells h0
 obtain ⟨A', n', c', l, hc, hln, hr, hz, hle, hi, hd⟩ := open_tris h1
 simp only [List.cons.injEq, and_true] at ht hc
 obtain ⟨rfl, rfl, rfl⟩ := ht
 subst hc
 subst hln
 refine ⟨((t, l), .slice A' l.length c'), rfl, A', c', rfl, hr, hle, hz, ⟨hti, hi⟩, fun hw => ?_⟩
 have hy : y.1 = .agg [x0.1, x1.1] := by
  have := congrArg Prod.fst hx
  simpa using this
 rw [hy] at hw
 simp only [DataW.weights, Tryz.underlying54] at hw
 exact row_weight Tryz.underlying52 (show Tryz.prog.bytesOf 44 = 24 by kernel_rfl) hd (fun k hk => hw k (DataW.weights_mem_each (j := 1) (t := 52) (d := x1.1) rfl rfl k hk))
set_option maxRecDepth 100000 in
theorem open_stacks {fuel : Nat} {cs : List Value} {x : DataW H × List MemPlace} (h : DataW.trod enc Tryz.prog w base spare held fuel 27 cs = some x) (hw : ∀ k ∈ x.1.weights Tryz.prog 27, k ≤ reachBytes) :
  ∃ (A : Option Addr) (n c : Nat) (sts : List Stk), cs = [.slice A n c] ∧ StkR w A n sts ∧ (∀ s ∈ sts, s.2.length * 24 ≤ 140737488351232) ∧ n * 48 ≤ 140737488351232 := by
 obtain ⟨A, n, c, l, h1, h2, h3, h4, h5, h6⟩ := open_rowK (k := 4) Tryz.underlying27 (by kernel_rfl) (by decide) scV (fun _ => rfl) (StkC w) ((((0, 0, 0), []), .int .i64 0) : Stk × Value) (fun m cs y h => stack_cells h) h
 have hn : n * 48 ≤ 140737488351232 := row_weight Tryz.underlying27 (show Tryz.prog.bytesOf 54 = 48 by kernel_rfl) (by
  rcases h6 with h6 | ⟨el, sp, h6, h7, _⟩
  ·exact .inl h6
  ·exact .inr ⟨el, sp, h6, h7⟩) hw
 have key : ∀ (i : Nat) (b : Stk × Value), l[i]? = some b → ∃ d : DataW H, StkC w b d ∧ ∀ k ∈ d.weights Tryz.prog 54, k ≤ reachBytes := by
  intro i b hb
  rcases h6 with ⟨_, h6⟩ | ⟨el, sp, h6, _, h7⟩
  ·have : l = [] := List.length_eq_zero_iff.1 (h2.trans h6)
   subst this
   simp at hb
  ·obtain ⟨d, hd, hp⟩ := h7 i b hb
   refine ⟨d, hp, fun k hk => hw k ?_⟩
   rw [h6]
   simp only [DataW.weights, Tryz.underlying27, List.mem_cons, List.mem_append]
   exact .inr (.inl (weightsAll_mem (List.mem_of_getElem? hd) k hk))
 have hb24 : ∀ s ∈ l.map (·.1), s.2.length * 24 ≤ 140737488351232 := by
  intro s hs
  obtain ⟨b, hb, rfl⟩ := List.mem_map.1 hs
  obtain ⟨i, hi⟩ := List.getElem?_of_mem hb
  obtain ⟨d, ⟨_, _, _, _, _, _, _, h8⟩, h9⟩ := key i b hi
  exact h8 h9
 refine ⟨A, n, c, l.map (·.1), h1, ⟨by simp [h2], ⟨l.map (·.2), by rw [scs_flat]; exact h3, fun i s hs => ?_⟩, fun s hs => ?_, by omega⟩, hb24, hn⟩
 ·rw [List.getElem?_map, Option.map_eq_some_iff] at hs
  obtain ⟨b, hb, rfl⟩ := hs
  obtain ⟨d, ⟨A', c', g1, g2, g3, g4, _, g5⟩, h9⟩ := key i b hb
  refine ⟨A', c', by rw [List.getElem?_map, hb, ← g1]; rfl, g2, by have := g5 h9; omega, g3, g4⟩
 ·obtain ⟨b, hb, rfl⟩ := List.mem_map.1 hs
  obtain ⟨i, hi⟩ := List.getElem?_of_mem hb
  obtain ⟨d, ⟨_, _, _, _, _, _, h7, _⟩, _⟩ := key i b hi
  exact h7
set_option maxRecDepth 100000 in
theorem open_maps {fuel : Nat} {cs : List Value} {x : DataW H × List MemPlace} (h : DataW.trod enc Tryz.prog w base spare held fuel 26 cs = some x) (hw : ∀ k ∈ x.1.weights Tryz.prog 26, k ≤ reachBytes) :
  ∃ (A : Option Addr) (n c : Nat) (l : List V6), cs = [.slice A n c] ∧ Rd w 6 A n (mcs l) ∧ (A = none → c = 0) ∧ n * 48 ≤ 140737488351232 := by
 obtain ⟨A, n, c, l, h1, h2, h3, h4, h5, h6⟩ := open_rowK (k := 6) Tryz.underlying26 (by kernel_rfl) (by decide) (fun t : V6 => [.int .i64 t.1, .int .i64 t.2.1, .int .i64 t.2.2.1, .int .i64 t.2.2.2.1, .int .i64 t.2.2.2.2.1, .int .i64 t.2.2.2.2.2]) (fun _ => rfl) (fun _ _ => True) zeroV (fun m cs y h => by obtain ⟨t, h1⟩ := map_cells h; exact ⟨t, h1, trivial⟩) h
 refine ⟨A, n, c, l, h1, h3, h4, row_weight Tryz.underlying26 (show Tryz.prog.bytesOf 63 = 48 by kernel_rfl) ?_ hw⟩
 rcases h6 with h6 | ⟨el, sp, h6, h7, _⟩
 ·exact .inl h6
 ·exact .inr ⟨el, sp, h6, h7⟩
set_option maxRecDepth 100000 in
theorem open_sheetT {fuel : Nat} {c0 c1 c2 c3 : Value} {x : DataW H × List MemPlace} (h : DataW.trod enc Tryz.prog w base spare held fuel 25 [c0, c1, c2, c3] = some x) (hw : ∀ k ∈ x.1.weights Tryz.prog 25, k ≤ reachBytes) :
  ∃ (W H : Int) (Am Ac : Option Addr) (nm cm nc cc : Nat) (mask : List Int) (cs : List C5), (c0 = .int .i64 W ∧ c1 = .int .i64 H ∧ c2 = .slice Am nm cm ∧ c3 = .slice Ac nc cc) ∧ Rd w 1 Am nm (vis mask) ∧ Rd w 5 Ac nc (ccs cs) ∧ (Am = none → cm = 0) ∧ (Ac = none → cc = 0) ∧ nm * 8 ≤ 140737488351232 ∧ nc * 40 ≤ 140737488351232 := by
 obtain ⟨xs, n, _, hx, _, _, hg⟩ := DataW.trod_struct Tryz.underlying25 h
 have e1 : Tryz.prog.cellsOf 3 = 1 := by kernel_rfl
 have e2 : Tryz.prog.cellsOf 22 = 1 := by kernel_rfl
 have e3 : Tryz.prog.cellsOf 23 = 1 := by kernel_rfl
 have h0 := hg 0 _ rfl
 have h1 := hg 1 _ rfl
 have h2 := hg 2 _ rfl
 have h3 := hg 3 _ rfl
 simp only [List.getElem_toArray, List.getElem_cons_zero, List.getElem_cons_succ] at h0 h1 h2 h3
 rw [e1] at h0 h1
 rw [e2] at h2
 rw [e3] at h3
 simp only [List.drop_zero, List.drop_succ_cons, List.take_succ_cons, List.take_zero] at h0 h1 h2 h3
 have hl : xs.length = 4 := by assumption
 obtain ⟨x0, x1, x2, x3, rfl⟩ := list4 hl
 simp only [List.getElem?_cons_zero, List.getElem?_cons_succ] at h0 h1 h2 h3
 obtain ⟨W, rfl, _⟩ := int_cell h0
 obtain ⟨Hh, rfl, _⟩ := int_cell h1
 obtain ⟨Am, nm, cm, mask, hm1, hm2, hm3, hm4⟩ := open_row1 h2
 obtain ⟨Ac, nc, cc, cs, hc1, hc2, hc3, hc4⟩ := open_creases h3
 simp only [List.cons.injEq, and_true] at hm1 hc1
 subst hm1 hc1
 have hd : x.1 = .agg [x0.1, x1.1, x2.1, x3.1] := by
  have := congrArg Prod.fst hx
  simpa using this
 rw [hd] at hw
 simp only [DataW.weights, Tryz.underlying25] at hw
 exact ⟨W, Hh, Am, Ac, nm, cm, nc, cc, mask, cs, ⟨rfl, rfl, rfl, rfl⟩, hm2, hc2, hm3, hc3, row_weight Tryz.underlying22 (show Tryz.prog.bytesOf 3 = 8 by kernel_rfl) hm4 (fun k hk => hw k (DataW.weights_mem_each (j := 2) (t := 22) (d := x2.1) rfl rfl k hk)), row_weight Tryz.underlying23 (show Tryz.prog.bytesOf 102 = 40 by kernel_rfl) hc4 (fun k hk => hw k (DataW.weights_mem_each (j := 3) (t := 23) (d := x3.1) rfl rfl k hk))⟩
set_option maxRecDepth 100000 in
theorem open_state {r : Reach} {b0 : Nat} {v : Value} {d : DataW H} {p : List MemPlace} (hv : Value.okWide Tryz.prog w r b0 29 v) (h : DataW.Trod enc Tryz.prog w base spare held 29 v d p) (hs : (d.weights Tryz.prog 29).all (· ≤ reachBytes) = true) :
  ∃ (W H : Int) (Am Ac Ap As : Option Addr) (nm cm nc cc np cp ns cS : Nat) (mask : List Int) (cs : List C5) (ms : List V6) (sts : List Stk), v = .agg #[.int .i64 W, .int .i64 H, .slice Am nm cm, .slice Ac nc cc, .slice Ap np cp, .slice As ns cS] ∧ Rd w 1 Am nm (vis mask) ∧ Rd w 5 Ac nc (ccs cs) ∧ Rd w 6 Ap np (mcs ms) ∧ StkR w As ns sts ∧
   (Am = none → cm = 0) ∧ (Ac = none → cc = 0) ∧ (Ap = none → cp = 0) ∧ nm * 8 ≤ 140737488351232 ∧ nc * 40 ≤ 140737488351232 ∧ np * 48 ≤ 140737488351232 ∧ (∀ s ∈ sts, s.2.length * 24 ≤ 140737488351232) ∧ ns * 48 ≤ 140737488351232 := by
 obtain ⟨cs, rfl, hsz⟩ := okWide_struct Tryz.underlying29 hv
 have hsz2 := hsz.trans (show Tryz.prog.cellsOf 29 = 6 by kernel_rfl)
 obtain ⟨c0, c1, c2, c3, c4, c5, rfl⟩ : ∃ a b c d e f, cs = #[a, b, c, d, e, f] := by
  obtain ⟨l⟩ := cs
  match l, hsz2 with
  | [a, b, c, d, e, f], _ => exact ⟨a, b, c, d, e, f, rfl⟩
 obtain ⟨fuel, hf⟩ := h
 obtain ⟨xs, n, _, hx, _, _, hg⟩ := DataW.trod_struct Tryz.underlying29 hf
 have e1 : Tryz.prog.cellsOf 25 = 4 := by kernel_rfl
 have e2 : Tryz.prog.cellsOf 26 = 1 := by kernel_rfl
 have e3 : Tryz.prog.cellsOf 27 = 1 := by kernel_rfl
 have h0 := hg 0 _ rfl
 have h1 := hg 1 _ rfl
 have h2 := hg 2 _ rfl
 simp only [List.getElem_toArray, List.getElem_cons_zero, List.getElem_cons_succ] at h0 h1 h2
 rw [e1] at h0
 rw [e2] at h1
 rw [e3] at h2
 simp only [Value.cells, List.drop_zero, List.drop_succ_cons, List.take_succ_cons, List.take_zero] at h0 h1 h2
 have hl : xs.length = 3 := by assumption
 obtain ⟨x0, x1, x2, rfl⟩ : ∃ a b c, xs = [a, b, c] := by
  match xs, hl with
  | [a, b, c], _ => exact ⟨a, b, c, rfl⟩
 simp only [List.getElem?_cons_zero, List.getElem?_cons_succ] at h0 h1 h2
 have hd : d = .agg [x0.1, x1.1, x2.1] := by
  have := congrArg Prod.fst hx
  simpa using this
 have hw : ∀ k ∈ d.weights Tryz.prog 29, k ≤ reachBytes := fun k hk => by simpa using List.all_eq_true.1 hs k hk
 rw [hd] at hw
 simp only [DataW.weights, Tryz.underlying29] at hw
 obtain ⟨W, Hh, Am, Ac, nm, cm, nc, cc, mask, crs, ⟨rfl, rfl, rfl, rfl⟩, g1, g2, g3, g4, g5, g6⟩ := open_sheetT h0 (fun k hk => hw k (DataW.weights_mem_each (j := 0) (t := 25) (d := x0.1) rfl rfl k hk))
 obtain ⟨Ap, np, cp, ms, hp1, hp2, hp3, hp4⟩ := open_maps h1 (fun k hk => hw k (DataW.weights_mem_each (j := 1) (t := 26) (d := x1.1) rfl rfl k hk))
 obtain ⟨As, ns, cS, sts, hs1, hs2, hs3, hs4⟩ := open_stacks h2 (fun k hk => hw k (DataW.weights_mem_each (j := 2) (t := 27) (d := x2.1) rfl rfl k hk))
 simp only [List.cons.injEq, and_true] at hp1 hs1
 subst hp1 hs1
 exact ⟨W, Hh, Am, Ac, Ap, As, nm, cm, nc, cc, np, cp, ns, cS, mask, crs, ms, sts, rfl, g1, g2, hp2, hs2, g3, g4, hp3, g5, g6, hp4, hs3, hs4⟩
end
end
section
open Go.Deep Go.Joins Go.ChangeShapes Go.WideShapes Go.ChangeAt Go.WideElems Go.RowKit
theorem gSteps : Tryz.prog.globalNamed "pleat/tile.steps" = some 0 := by kernel_rfl
def laid1 : List (String × DataW Unit) := [("pleat/tile.steps", Rows.laid_pleat_tile_steps)]
theorem tSteps : (Tryz.prog.globals[0]?).map (·.type) = some 145 := by kernel_rfl
theorem door_met (os : Os) (args : Array Value) : laidMetH Tryz.prog laid1 ((World.doorLaid Tryz.prog 400 os).forCall (fun _ _ => 0) ⟨#[], args, []⟩).memory :=
 laidMetH_of_parts3 (fuel := 8) (laidMet_of_run' 8 (by kernel_rfl) (by kernel_rfl)) (by kernel_rfl) (by kernel_rfl)
theorem pt_of {W : World} {m : Nat} {u v : Value} {X : DataW Unit × List MemPlace} {a b : Int} (h : DataW.trod (fun _ => ()) Tryz.prog W 0 (fun _ => true) false m 98 [u, v] = some X) (hx : DataW.agg [.lit (.int .i64 a), .lit (.int .i64 b)] = X.1) : u = .int .i64 a ∧ v = .int .i64 b := by
 obtain ⟨y0, y1, n, hX, _, h0, h1⟩ := trod_struct2 Tryz.underlying98 h
 have c3 : Tryz.prog.cellsOf 3 = 1 := by kernel_rfl
 subst hX
 simp only [DataW.agg.injEq, List.cons.injEq, and_true] at hx
 obtain ⟨a', e0, rfl, _⟩ := DataW.trod_int Tryz.underlying3 h0
 obtain ⟨b', e1, rfl, _⟩ := DataW.trod_int Tryz.underlying3 h1
 simp [c3] at e0 e1 hx
 exact ⟨by rw [e0, hx.1], by rw [e1, hx.2]⟩
theorem steps_of_laid {W : World} (h : laidMetH Tryz.prog laid1 W) : Steps W := by
 rw [MakeChecks.laidMetH_plain _ _ _ (by kernel_rfl)] at h
 obtain ⟨ps, ⟨g0, t0, cs0, f0, p0, q0, hg0, ht0, hv0, hd0, _, _⟩, _, _⟩ := h
 obtain rfl := Option.some.inj (gSteps.symm.trans hg0)
 obtain rfl := Option.some.inj (tSteps.symm.trans ht0)
 obtain ⟨xs, m1, rfl, hx1, hlen, hn3, hel⟩ := DataW.trod_array Tryz.underlying145 hd0
 have hc := World.var?_cell hg0 hv0
 have c93 : Tryz.prog.cellsOf 145 = 8 := by kernel_rfl
 have c25 : Tryz.prog.cellsOf 98 = 2 := by kernel_rfl
 have c3 : Tryz.prog.cellsOf 3 = 1 := by kernel_rfl
 rw [c93] at hlen
 rw [c25] at hel
 have e0 := hel 0 (by decide)
 have e1 := hel 1 (by decide)
 have e2 := hel 2 (by decide)
 have e3 := hel 3 (by decide)
 clear hel hd0 hv0
 obtain ⟨l⟩ := cs0
 match l, hlen, xs, hn3, hx1, e0, e1, e2, e3, hc with
 | [u0, u1, u2, u3, u4, u5, u6, u7], _, [X0, X1, X2, X3], _, hx1, e0, e1, e2, e3, hc =>
  simp at e0 e1 e2 e3
  simp [Rows.laid_pleat_tile_steps] at hx1
  obtain ⟨⟨z0, z1, z2, z3⟩, _⟩ := hx1
  obtain ⟨rfl, rfl⟩ := pt_of e0 z0
  obtain ⟨rfl, rfl⟩ := pt_of e1 z1
  obtain ⟨rfl, rfl⟩ := pt_of e2 z2
  obtain ⟨rfl, rfl⟩ := pt_of e3 z3
  exact ⟨hc 0, hc 1, hc 2, hc 3, hc 4, hc 5, hc 6, hc 7⟩
end
end Go.Proofs.YtpkjekedgodccaaGreatDoor
