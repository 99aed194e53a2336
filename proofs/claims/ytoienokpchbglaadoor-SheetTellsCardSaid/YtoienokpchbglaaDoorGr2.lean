/- The corners of a triangle: the program's Corners. Printed by gen_gr2.py. -/
import Derived.Test.YtoienokpchbglaaDoorGr1
import Derived.Deep.RegionWith
namespace Go.Proofs.YtoienokpchbglaaDoor
open Go.RowKit

def cw (w : World) (x y k : Int) : World := ((w.alloc (.cells #[.int .i64 x, .int .i64 y, .int .i64 k] 93)).alloc (.cells #[.int .i64 0, .int .i64 0, .int .i64 0, .int .i64 0, .int .i64 0, .int .i64 0] 99)).alloc (.cells #[.int .i64 (2 * x + 1), .int .i64 (2 * y + 1)] 49)
theorem cw_res (w : World) (x y k : Int) : (cw w x y k).heap[w.heap.size + 1]? = some (.cells #[.int .i64 0, .int .i64 0, .int .i64 0, .int .i64 0, .int .i64 0, .int .i64 0] 99 (0, 0)) := by
  have e := heap_alloc_new (w.alloc (.cells #[.int .i64 x, .int .i64 y, .int .i64 k] 93)) (.cells #[.int .i64 0, .int .i64 0, .int .i64 0, .int .i64 0, .int .i64 0, .int .i64 0] 99)
  rw [World.size_alloc] at e
  exact blk_alloc e _
theorem cw_mid (w : World) (x y k : Int) : (cw w x y k).heap[w.heap.size + 1 + 1]? = some (.cells #[.int .i64 (2 * x + 1), .int .i64 (2 * y + 1)] 49 (0, 0)) := by
  have e := heap_alloc_new ((w.alloc (.cells #[.int .i64 x, .int .i64 y, .int .i64 k] 93)).alloc (.cells #[.int .i64 0, .int .i64 0, .int .i64 0, .int .i64 0, .int .i64 0, .int .i64 0] 99)) (.cells #[.int .i64 (2 * x + 1), .int .i64 (2 * y + 1)] 49)
  rw [World.size_alloc, World.size_alloc] at e
  exact e
theorem cw_tri (w : World) (x y k : Int) : (cw w x y k).heap[w.heap.size]? = some (.cells #[.int .i64 x, .int .i64 y, .int .i64 k] 93 (0, 0)) := blk_alloc (blk_alloc (heap_alloc_new w _) _) _
theorem cw_cell (w : World) (x y k : Int) (i : Nat) : (cw w x y k).drew.cell? ⟨w.heap.size + 1 + 1, i, none⟩ = #[Value.int .i64 (2 * x + 1), .int .i64 (2 * y + 1)][i]? := cell_of_blk (cw_mid w x y k) i
theorem stay_f {B g : Nat} {w w' : World} (h : ∀ i, w.frozen? ⟨g, i, none⟩ = false) (hg : g < B) (hb : Below B w w') : ∀ i, w'.frozen? ⟨g, i, none⟩ = false := fun i => (hb.frozen (p := ⟨g, i, none⟩) hg).trans (h i)
theorem cw_below (w : World) (x y k : Int) : Below w.heap.size w (cw w x y k).drew := ((((Below.refl _ _).alloc (Nat.le_refl _) _).alloc (by simp) _).alloc (by simp; omega) _).drew
theorem set6_below {w w1 : World} (h : Below w.heap.size w w1) (g : Nat) (hg : w.heap.size ≤ g) (a b c d e f : Value) : Below w.heap.size w ((((((w1.setCell ⟨g, 0, none⟩ a).setCell ⟨g, 1, none⟩ b).setCell ⟨g, 2, none⟩ c).setCell ⟨g, 3, none⟩ d).setCell ⟨g, 4, none⟩ e).setCell ⟨g, 5, none⟩ f) :=
  (((((h.setCell hg a).setCell hg b).setCell hg c).setCell hg d).setCell hg e).setCell hg f
theorem two_below {w u v z : World} (h : Below w.heap.size w u) (h1 : Below u.heap.size u v) (h2 : Below v.heap.size v z) : Below w.heap.size w z := stay_b (stay_b h h1) h2
theorem corner1_enter (args : Array Value) (wx : World) : (callFunc 72 args).run Tryd.prog wx = .ok (.enter 72 args) wx := by kernel_rfl
set_option maxRecDepth 100000 in
set_option maxHeartbeats 1600000 in
theorem corners_any (x y k : Int) (w : World) (hs : Steps w) (x1 : -1000000 ≤ x) (x2 : x ≤ 1000000) (y1 : -1000000 ≤ y) (y2 : y ≤ 1000000) (k1 : 0 ≤ k) (k2 : k ≤ 3) :
    Calls Tryd.prog 41 #[.agg #[.int .i64 x, .int .i64 y, .int .i64 k]] w fun e w' => e = .returned (.agg #[.int .i64 (2 * x + 1), .int .i64 (2 * y + 1), .int .i64 (cornX x k), .int .i64 (cornY y k), .int .i64 (cornX x (k + 1)), .int .i64 (cornY y (k + 1))]) ∧ Below w.heap.size w w' := by
  have hlt := hs.lt
  have hent := corner1_enter
  have hmf : ∀ (fn : Fn) (first cap : Array Value) (w : World), (Instr.makeFunc fn first cap).run Tryd.prog w = .ok (.func fn first cap) w := fun _ _ _ _ => rfl
  go_enter Tryd.func41, Tryd.ntmps41
  go_wp2_with fail
  have hsW : Steps (cw w x y k) := ((hs.alloc _).alloc _).alloc _
  have hbW : Below (cw w x y k).heap.size (cw w x y k) (cw w x y k).drew := (Below.refl _ _).drew
  have hfz : ∀ i, (cw w x y k).drew.frozen? ⟨w.heap.size + 1, i, none⟩ = false := fun i => frozen_of_blk (cw_res w x y k) i
  have hz0 : (cw w x y k).drew.heap[w.heap.size + 1]? = _ := cw_res w x y k
  have hk0 : (cw w x y k).drew.cell? ⟨w.heap.size, 2, none⟩ = some (.int .i64 k) := cell_of_blk (cw_tri w x y k) 2
  have hm0 := cw_cell w x y k 0
  have hm1 := cw_cell w x y k 1
  simp only [List.getElem?_toArray, List.getElem?_cons_zero, List.getElem?_cons_succ] at hm0 hm1
  unfold cw at hfz hm0 hm1 hz0 hk0
  have hbW2 : Below (cw w x y k).heap.size (cw w x y k) (((w.alloc (.cells #[.int .i64 x, .int .i64 y, .int .i64 k] 93)).alloc (.cells #[.int .i64 0, .int .i64 0, .int .i64 0, .int .i64 0, .int .i64 0, .int .i64 0] 99)).alloc (.cells #[.int .i64 (2 * x + 1), .int .i64 (2 * y + 1)] 49)).drew := hbW
  have hwk : IntKind.i64.wrap (k + 1) = k + 1 := IntWalk.i64_in _ (by omega)
  go_region_with (first
    | ((with_reducible refine (corner1_any (k) (2 * x + 1) (2 * y + 1) (w.heap.size + 1 + 1) _ (hsW.below hbW2) hm0 hm1 (by omega) (by omega) (by omega) (by omega)).mono ?_); rintro e wc ⟨rfl, hbc⟩; have hk2 := stay_c hk0 hbc (Nat.le_refl _); have hm2 := stay_c hm0 hbc (Nat.le_refl _); have hm3 := stay_c hm1 hbc (Nat.le_refl _))
    | ((with_reducible refine (corner1_any (k + 1) (2 * x + 1) (2 * y + 1) (w.heap.size + 1 + 1) _ (hsW.below (stay_b hbW2 hbc)) (stay_c hm0 hbc (Nat.le_refl _)) (stay_c hm1 hbc (Nat.le_refl _)) (by omega) (by omega) (by omega) (by omega)).mono ?_); rintro e wd ⟨rfl, hbd⟩; have hzr := blk_below (blk_below hz0 hbc (blk_lt hz0)) hbd (blk_lt (blk_below hz0 hbc (blk_lt hz0))); have hm4 := stay_c (stay_c hm0 hbc (Nat.le_refl _)) hbd (Nat.le_refl _); have hm5 := stay_c (stay_c hm1 hbc (Nat.le_refl _)) hbd (Nat.le_refl _); have z0 := cell_of_blk hzr 0; have z1 := cell_of_blk hzr 1; have z2 := cell_of_blk hzr 2; have z3 := cell_of_blk hzr 3; have z4 := cell_of_blk hzr 4; have z5 := cell_of_blk hzr 5; have zf := frozen_of_blk hzr; simp only [List.getElem?_toArray, List.getElem?_cons_zero, List.getElem?_cons_succ] at z0 z1 z2 z3 z4 z5; clear hzr))
  all_goals
    have hend := two_below (cw_below w x y k) hbc hbd
    clear hbW hbW2 hfz hm0 hm1 hm2 hm3 hm4 hm5 hk0 hk2 hz0 hbc hbd hsW
    go_wp2
    exact bodyPost_ret (v := .agg #[.int .i64 (2 * x + 1), .int .i64 (2 * y + 1), .int .i64 (2 * x + 1 + stepX (k % 4)), .int .i64 (2 * y + 1 + stepY (k % 4)), .int .i64 (2 * x + 1 + stepX ((k + 1) % 4)), .int .i64 (2 * y + 1 + stepY ((k + 1) % 4))]) (by simp [results, Tryd.results41, go_sem, z0, z1, z2, z3, z4, z5]) rfl ⟨rfl, set6_below hend _ (by omega) _ _ _ _ _ _⟩
end Go.Proofs.YtoienokpchbglaaDoor
