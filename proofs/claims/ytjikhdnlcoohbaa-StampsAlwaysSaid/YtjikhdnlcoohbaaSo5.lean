/- slices.Compare as the sort's word. -/
import Derived.Test.YtjikhdnlcoohbaaSo4
namespace Go.Proofs.Ytjikhdnlcoohbaa
set_option linter.unusedSimpArgs false
set_option linter.unusedVariables false
open Go.RowKit Go.Sort Go.Shelf St
/-- the rows of N numbers that lie in a world -/
def Rw (w : World) (N : Nat) : Type := { p : (Nat × Nat) × List Int // IRow w p.1.1 N p.1.2 p.2 }
def encR {w : World} {N : Nat} (p : Rw w N) : Value := .slice (some ⟨p.1.1.1, 0, none⟩) N p.1.1.2
def lstR {w : World} {N : Nat} (p : Rw w N) : List Int := p.1.2
theorem IRow.keep2 {A C : World} {g n c : Nat} {o : List Int} (h : IRow A g n c o) (hk : ∀ (g : Nat) (cs : Array Value), A.heap[g]? = some (.cells cs 3 (0, 0)) → C.heap[g]? = some (.cells cs 3 (0, 0))) : IRow C g n c o := by
  obtain ⟨h1, h2, h3, cur, h4, h5, h6⟩ := h
  exact ⟨h1, h2, h3, cur, hk g cur h4, h5, h6⟩
theorem cmpReads {w : World} {N blk size : Nat} (hN : N ≤ 8) [Inhabited (Rw w N)] {cs0 : Array Value} (h0 : w.heap[blk]? = some (.cells cs0 22 (0, 0))) :
    CmpReads Try.prog 31 #[] (encR (w := w) (N := N)) (fun x y => cmpL (lstR x) (lstR y)) blk 0 size w := by
  intro m os dk _ x y
  have hx := (x.2.keep2 (ints_sw (n := m) (os := os) encR dk h0)).rd
  have hy := (y.2.keep2 (ints_sw (n := m) (os := os) encR dk h0)).rd
  refine (compare_any _ _ N x.1.1.2 y.1.1.2 _ _ _ hx hy (by omega)).mono ?_
  rintro e w' ⟨rfl, rfl⟩
  exact ⟨rfl, 0, rfl⟩
end Go.Proofs.Ytjikhdnlcoohbaa
