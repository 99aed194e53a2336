/- told: an answer, if all may be. -/
import Derived.Test.YthfhkmgegkhljaaDoorGr4
namespace Go.Proofs.YthfhkmgegkhljaaDoor
open Go.RowKit

set_option maxHeartbeats 800000 in
theorem toldI_no (F : Value) (w : World) :
    Calls Tryd.prog 43 #[.bool false, F] w fun e w' => e = .returned (.tuple #[.int .i64 0, .int .i64 3]) ∧ w = w' := by
  go_enter Tryd.func43, Tryd.ntmps43
  go_wp2
  go_ret2
  exact ⟨rfl, rfl⟩
set_option maxHeartbeats 800000 in
theorem toldI_ok (f : Nat) (p q : Value) (n : Int) (w : World) (hent : ∀ (args : Array Value) (wx : World), (callFunc f args).run Tryd.prog wx = .ok (.enter f args) wx)
    (hc : Calls Tryd.prog f #[p, q] w fun e w' => e = .returned (.int .i64 n) ∧ Below w.heap.size w w') :
    Calls Tryd.prog 43 #[.bool true, .func (.func f) #[] #[p, q]] w fun e w' => e = .returned (.tuple #[.int .i64 n, .int .i64 0]) ∧ Below w.heap.size w w' := by
  have HC := Lib.hid hc
  clear hc
  go_enter Tryd.func43, Tryd.ntmps43
  go_wp2_with fail
  refine HC.out.mono ?_
  rintro e w1 ⟨rfl, hb1⟩
  go_wp2
  go_ret2
  exact ⟨rfl, hb1⟩
def zm (w : World) : World := w.alloc (.cells #[.int .i64 0, .int .i64 0, .int .i64 0, .int .i64 0, .int .i64 0, .int .i64 0] 51)
set_option maxRecDepth 100000 in
set_option maxHeartbeats 1600000 in
theorem toldM_no (F : Value) (w : World) :
    Calls Tryd.prog 48 #[.bool false, F] w fun e w' => e = .returned (.tuple #[aggM (0, 0, 0, 0, 0, 0), .int .i64 3]) ∧ Below w.heap.size w w' := by
  go_enter Tryd.func48, Tryd.ntmps48
  go_wp2
  refine bodyPost_ret (v := .tuple #[aggM (0, 0, 0, 0, 0, 0), .int .i64 3]) (by simp [results, Tryd.results48, go_sem]) rfl ⟨rfl, ?_⟩
  exact ((Below.refl _ _).alloc (Nat.le_refl _) _).alloc (by simp) _
theorem set6_below {w w1 : World} (h : Below w.heap.size w w1) (g : Nat) (hg : w.heap.size ≤ g) (a b c d e f : Value) : Below w.heap.size w ((((((w1.setCell ⟨g, 0, none⟩ a).setCell ⟨g, 1, none⟩ b).setCell ⟨g, 2, none⟩ c).setCell ⟨g, 3, none⟩ d).setCell ⟨g, 4, none⟩ e).setCell ⟨g, 5, none⟩ f) :=
  (((((h.setCell hg a).setCell hg b).setCell hg c).setCell hg d).setCell hg e).setCell hg f
set_option maxRecDepth 100000 in
set_option maxHeartbeats 1600000 in
theorem toldM_ok (f : Nat) (p : Value) (m : V6) (w : World) (hent : ∀ (args : Array Value) (wx : World), (callFunc f args).run Tryd.prog wx = .ok (.enter f args) wx)
    (hc1 : Calls Tryd.prog f #[p] (zm w) fun e w' => e = .returned (aggM m) ∧ Below (zm w).heap.size (zm w) w') :
    Calls Tryd.prog 48 #[.bool true, .func (.func f) #[] #[p]] w fun e w' => e = .returned (.tuple #[aggM m, .int .i64 0]) ∧ Below w.heap.size w w' := by
  have HC := Lib.hid hc1
  clear hc1
  go_enter Tryd.func48, Tryd.ntmps48
  go_wp2_with fail
  refine (show Calls _ _ _ _ _ from HC.out).mono ?_
  rintro e w1 ⟨rfl, hb1⟩
  have k := blk_below (heap_alloc_new w (.cells #[.int .i64 0, .int .i64 0, .int .i64 0, .int .i64 0, .int .i64 0, .int .i64 0] 51)) hb1 (by simp [zm])
  have z0 := cell_of_blk k 0
  have z1 := cell_of_blk k 1
  have z2 := cell_of_blk k 2
  have z3 := cell_of_blk k 3
  have z4 := cell_of_blk k 4
  have z5 := cell_of_blk k 5
  have zf := frozen_of_blk k
  have hlt := blk_lt k
  simp only [List.getElem?_toArray, List.getElem?_cons_zero, List.getElem?_cons_succ] at z0 z1 z2 z3 z4 z5
  have hbw : Below w.heap.size w w1 := stay_b (below_new w _) hb1
  clear k hb1
  go_wp2
  exact bodyPost_ret (v := .tuple #[aggM m, .int .i64 0]) (by simp [results, Tryd.results48, go_sem, z0, z1, z2, z3, z4, z5]) rfl ⟨rfl, set6_below hbw _ (by omega) _ _ _ _ _ _⟩
end Go.Proofs.YthfhkmgegkhljaaDoor
