/- The walk of GridTris, its ways joined. -/
import Derived.Test.YthfhkmgegkhljaaDoorGr26
namespace Go.Proofs.YthfhkmgegkhljaaDoor
open Go.RowKit

theorem tris_walk (x y k : Int) (m : E4) (w : World) (hs : Steps w) :
    Calls Tryd.prog 3 #[aggT x y k, aggE m] w fun e w' => e = .returned (.bool true) ∧ Below w.heap.size w w' := by
  cases ht : triMayB x y k
  · exact tris_noT x y k m w ht
  cases hq : hasE x y k m
  · exact tris_none x y k m w hs ht hq
  · obtain ⟨i, hi, hm⟩ := has_one hq
    exact tris_at x y k m w hs ht i hi hm
end Go.Proofs.YthfhkmgegkhljaaDoor
