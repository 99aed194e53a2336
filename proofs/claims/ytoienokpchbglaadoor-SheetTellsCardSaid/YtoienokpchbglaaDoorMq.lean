/- Papers as they lie; their maps. -/
import Derived.Test.YtoienokpchbglaaDoorSrt
import Derived.Test.YtoienokpchbglaaDoorMp
namespace Go.Proofs.YtoienokpchbglaaDoor
set_option linter.unusedSimpArgs false
set_option linter.unusedVariables false
open Go.RowKit Go.Maps

def kT : KE T3 where
  K := 93
  T := 69
  enc t := aggT3 t
  ok t := inR t.1 ∧ inR t.2.1 ∧ inR t.2.2
  law := Keyed.of_law lawT
  ht := Tryd.underlying69
  key a h := keyOf_T h.1 h.2.1 h.2.2
  inj a b h := by
    obtain ⟨a1, a2, a3⟩ := a
    obtain ⟨b1, b2, b3⟩ := b
    simp at h
    simp [h]
def kE : KE E4 where
  K := 86
  T := 70
  enc t := aggE t
  ok t := inR t.1 ∧ inR t.2.1 ∧ inR t.2.2.1 ∧ inR t.2.2.2
  law := Keyed.of_law lawE
  ht := Tryd.underlying70
  key a h := keyOf_E h.1 h.2.1 h.2.2.1 h.2.2.2
  inj a b h := by
    obtain ⟨a1, a2, a3, a4⟩ := a
    obtain ⟨b1, b2, b3, b4⟩ := b
    simp at h
    simp [h]
/-- the numbers of triangles -/
def numF (L : List T3) (t : T3) : Option Int := if t ∈ L then some ((L.idxOf t : Nat) : Int) else none
theorem numF_some (L : List T3) (t : T3) : (numF L t).isSome = decide (t ∈ L) := by
  unfold numF
  split <;> simp_all
theorem numF_nil : numF [] = fun _ => none := by funext t; simp [numF]
theorem numF_snoc {L : List T3} {t : T3} (h : t ∉ L) : setF (numF L) t (L.length : Int) = numF (L ++ [t]) := by
  funext x
  unfold setF numF
  by_cases hx : x = t
  · subst hx
    rw [if_pos rfl, if_pos (by simp), List.idxOf_append, if_neg h]
    simp
  · rw [if_neg hx]
    by_cases hm : x ∈ L
    · rw [if_pos hm, if_pos (by simp [hm]), List.idxOf_append, if_pos hm]
    · rw [if_neg hm, if_neg (by simp [hm, hx])]
/-- A paper as it lies. -/
structure PapI (w : World) (pb nb kb : Nat) (W H : Nat) (vm vc vt : Value) (L : List T3) (mn mk : Nat) (fk : E4 → Option Int) : Prop where
  blk : w.heap[pb]? = some (.cells #[.int .i64 W, .int .i64 H, vm, vc, vt, .map (some nb), .map (some kb)] 72 (0, 0))
  num : MapI kT w nb mn (numF L)
  kin : MapI kE w kb mk fk
section
variable {w w' : World} {pb nb kb W H : Nat} {vm vc vt : Value} {L : List T3} {mn mk : Nat} {fk : E4 → Option Int}
theorem PapI.below (h : PapI w pb nb kb W H vm vc vt L mn mk fk) (hb : Below w.heap.size w w') : PapI w' pb nb kb W H vm vc vt L mn mk fk :=
  ⟨blk_below h.blk hb (blk_lt h.blk), h.num.stay hb, h.kin.stay hb⟩
theorem PapI.c0 (h : PapI w pb nb kb W H vm vc vt L mn mk fk) : w.cell? ⟨pb, 0, none⟩ = some (.int .i64 W) := by rw [cell_of_blk h.blk 0]; rfl
theorem PapI.c1 (h : PapI w pb nb kb W H vm vc vt L mn mk fk) : w.cell? ⟨pb, 1, none⟩ = some (.int .i64 H) := by rw [cell_of_blk h.blk 1]; rfl
theorem PapI.c4 (h : PapI w pb nb kb W H vm vc vt L mn mk fk) : w.cell? ⟨pb, 4, none⟩ = some vt := by rw [cell_of_blk h.blk 4]; rfl
theorem PapI.c5 (h : PapI w pb nb kb W H vm vc vt L mn mk fk) : w.cell? ⟨pb, 5, none⟩ = some (.map (some nb)) := by rw [cell_of_blk h.blk 5]; rfl
theorem PapI.c6 (h : PapI w pb nb kb W H vm vc vt L mn mk fk) : w.cell? ⟨pb, 6, none⟩ = some (.map (some kb)) := by rw [cell_of_blk h.blk 6]; rfl
theorem PapI.look (h : PapI w pb nb kb W H vm vc vt L mn mk fk) {t : T3} (ht : inR t.1 ∧ inR t.2.1 ∧ inR t.2.2) :
    (Instr.lookup 69 (.map (some nb)) (aggT3 t) true).run Tryd.prog w = .ok (.tuple #[.int .i64 ((numF L t).getD 0), .bool (decide (t ∈ L))]) w := by
  have := h.num.look (a := t) ht
  rw [numF_some] at this
  exact this
end
end Go.Proofs.YtoienokpchbglaaDoor
