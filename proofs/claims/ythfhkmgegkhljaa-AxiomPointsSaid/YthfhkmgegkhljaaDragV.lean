/- A list of points, cell by cell. -/
import Derived.Test.YthfhkmgegkhljaaDragD
namespace Go.Proofs.Ythfhkmgegkhljaa

theorem vps_at (l : List (Int × Int)) : ∀ i, (vps l)[i * 2]? = (l[i]?).map (fun p => .int .i64 p.1) := by
  induction l with
  | nil => intro i; simp
  | cons p l ih =>
    intro i
    cases i with
    | zero => simp
    | succ i =>
      have : (i + 1) * 2 = i * 2 + 1 + 1 := by omega
      rw [this]
      simp only [vps, List.flatMap_cons, List.cons_append, List.nil_append, List.getElem?_cons_succ] at ih ⊢
      exact ih i
theorem vps_at1 (l : List (Int × Int)) : ∀ i, (vps l)[i * 2 + 1]? = (l[i]?).map (fun p => .int .i64 p.2) := by
  induction l with
  | nil => intro i; simp
  | cons p l ih =>
    intro i
    cases i with
    | zero => simp
    | succ i =>
      have : (i + 1) * 2 + 1 = i * 2 + 1 + 1 + 1 := by omega
      rw [this]
      simp only [vps, List.flatMap_cons, List.cons_append, List.nil_append, List.getElem?_cons_succ] at ih ⊢
      exact ih i

end Go.Proofs.Ythfhkmgegkhljaa
