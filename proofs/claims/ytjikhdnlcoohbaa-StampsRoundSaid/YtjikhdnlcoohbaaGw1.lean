/- grow: the orders handed to a yield, one by one. -/
import Derived.Test.YtjikhdnlcoohbaaIn3
namespace Go.Proofs.Ytjikhdnlcoohbaa
set_option linter.unusedSimpArgs false
set_option linter.unusedVariables false
open Go.RowKit St
attribute [local go_sem] Oper.semAt_some

/-- What a round of grow hands: the block and the room of the next order's row. -/
def Gv (B N : Nat) (Ls : List (List Int)) (pre : List (Nat × Nat)) (x : Nat × Nat) (W : World) : Prop := ∃ o, Ls[pre.length]? = some o ∧ IRow W x.1 N x.2 o ∧ B ≤ x.1
def gPart (r : Nat) (o : List Int) (up : Nat) : List (List Int) := if goodO (o.insertIdx up ((o.length : Int) + 1)) = true then growL r (o.insertIdx up ((o.length : Int) + 1)) else []
def gParts (r : Nat) (o : List Int) (p : Nat) : List (List Int) := (List.range p).flatMap (gPart r o)
theorem growL_succ (r : Nat) (o : List Int) : growL (r + 1) o = gParts r o (o.length + 1) := rfl
theorem gParts_succ (r : Nat) (o : List Int) (p : Nat) : gParts r o (p + 1) = gParts r o p ++ gPart r o p := by simp [gParts, List.range_succ]
theorem gParts_split (r : Nat) (o : List Int) {p : Nat} (h : p < o.length + 1) : ∃ rest, growL (r + 1) o = gParts r o p ++ gPart r o p ++ rest := by
  rw [growL_succ]
  obtain ⟨d, hd⟩ : ∃ d, o.length + 1 = p + 1 + d := ⟨o.length - p, by omega⟩
  rw [hd, ← gParts_succ]
  unfold gParts
  rw [List.range_add, List.flatMap_append]
  exact ⟨_, rfl⟩
/-- one round's new row, its heights, its word -/
theorem goodO_gd (o : List Int) : goodO o = gd o := rfl
theorem hgood_any (g n c : Nat) (o : List Int) (w : World) (h : IRow w g n c o) (hn : n ≤ 100) (h0 : 0 < n) (hp : o.Perm (upto o.length)) :
    Calls Try.prog 24 #[.slice (some ⟨g, 0, none⟩) n c] w fun e w' => ∃ gh, e = .returned (.slice (some ⟨gh, 0, none⟩) n n) ∧ Below w.heap.size w w' ∧
      Calls Try.prog 23 #[.slice (some ⟨gh, 0, none⟩) n n] w' fun e w2 => e = .returned (.bool (goodO o)) ∧ Below w'.heap.size w' w2 := by
  have hl := h.1
  refine (heights_any (some ⟨g, 0, none⟩) n c o w h.rd hn hp).mono ?_
  rintro e w' ⟨gh, rfl, hg, _, hb⟩
  refine ⟨gh, rfl, hb, ?_⟩
  have := good_any (some ⟨gh, 0, none⟩) n n (hsOf o) w' ⟨by simp [hs_len, hl], fun _ => ⟨gh, 0, rfl, blk_lt hg, fun j u hu => by rw [Nat.zero_add, cell_of_blk hg j]; simpa using hu⟩⟩ hn h0
  rw [goodO_gd]
  unfold gd
  rw [hl]
  exact this
end Go.Proofs.Ytjikhdnlcoohbaa
