/- near: triangles that might have an edge. -/
import Derived.Test.YtoienokpchbglaaDoorCm
namespace Go.Proofs.YtoienokpchbglaaDoor
set_option linter.unusedSimpArgs false
set_option linter.unusedVariables false
open Go.RowKit

theorem keep_c {w w' : World} {B b i : Nat} {v : Value} (h : w.cell? ⟨b, i, none⟩ = some v) (hb : Below B w w') (hlt : b < B) : w'.cell? ⟨b, i, none⟩ = some v := (hb.cell (p := ⟨b, i, none⟩) hlt).trans h
def tcT (l : List T3) : List Value := l.flatMap fun t => [.int .i64 t.1, .int .i64 t.2.1, .int .i64 t.2.2]
theorem tcT_app (l m : List T3) : tcT (l ++ m) = tcT l ++ tcT m := by simp [tcT]
theorem tcT_len (l : List T3) : (tcT l).length = l.length * 3 := by
  induction l with
  | nil => rfl
  | cons t l ih => simp [tcT] at ih ⊢; omega
theorem tcT_one (x y k : Int) : tcT [(x, y, k)] = [.int .i64 x, .int .i64 y, .int .i64 k] := rfl
theorem tri_one (x y k : Int) : ∀ u ∈ [Value.int .i64 x, .int .i64 y, .int .i64 k], u.oneCell' = true := by
  intro u hu
  simp only [List.mem_cons, List.not_mem_nil, or_false] at hu
  rcases hu with rfl | rfl | rfl <;> rfl
theorem tri_info : (Tryd.prog.info? 93).map (fun i => (i.zero, i.size, i.bytes)) = some (some (.agg #[.int .i64 0, .int .i64 0, .int .i64 0]), 3, 24) := by kernel_rfl
/-- the triangles near an edge, as they come up -/
def cellN (X Y : Int) (i j c : Nat) : List T3 := (List.range c).map fun (k : Nat) => (X - 1 + i, Y - 1 + j, (k : Int))
def rowN (X Y : Int) (i b : Nat) : List T3 := (List.range b).flatMap fun j => cellN X Y i j 4
def nearP (X Y : Int) (a b c : Nat) : List T3 := (List.range a).flatMap (fun i => rowN X Y i 3) ++ rowN X Y a b ++ cellN X Y a b c
theorem nearP_c (X Y : Int) (a b c : Nat) : nearP X Y a b (c + 1) = nearP X Y a b c ++ [(X - 1 + a, Y - 1 + b, (c : Int))] := by
  simp [nearP, cellN, List.range_succ]
theorem nearP_b (X Y : Int) (a b : Nat) : nearP X Y a (b + 1) 0 = nearP X Y a b 4 := by
  simp [nearP, rowN, cellN, List.range_succ]
theorem nearP_a (X Y : Int) (a : Nat) : nearP X Y (a + 1) 0 0 = nearP X Y a 3 0 := by
  simp [nearP, rowN, cellN, List.range_succ]
theorem nearP_all (e : E4) : nearP (e.1.tdiv 2) (e.2.1.tdiv 2) 3 0 0 = nearL e := by
  have a0 : ∀ z : Int, z - 1 + ((0 : Nat) : Int) = z - 1 := fun z => by omega
  have a1 : ∀ z : Int, z - 1 + ((1 : Nat) : Int) = z := fun z => by omega
  have a2 : ∀ z : Int, z - 1 + ((2 : Nat) : Int) = z + 1 := fun z => by omega
  simp [nearP, rowN, cellN, nearL, threeL, List.range_succ, a0, a1, a2]
  omega
theorem nearP_len (X Y : Int) (a b c : Nat) : (nearP X Y a b c).length = 12 * a + 4 * b + c := by
  have h1 : ∀ i j c, (cellN X Y i j c).length = c := fun i j c => by simp [cellN]
  have h2 : ∀ i b, (rowN X Y i b).length = 4 * b := by
    intro i b
    induction b with
    | zero => rfl
    | succ b ih =>
      unfold rowN at ih ⊢
      rw [List.range_succ, List.flatMap_append, List.length_append, ih]
      simp [h1]
      omega
  have h3 : ∀ a, ((List.range a).flatMap fun i => rowN X Y i 3).length = 12 * a := by
    intro a
    induction a with
    | zero => rfl
    | succ a ih =>
      rw [List.range_succ, List.flatMap_append, List.length_append, ih]
      simp [h2]
      omega
  simp [nearP, h1, h2, h3]
  omega
/-- A paper's block. -/
def PapB (w : World) (pb : Nat) (W H : Int) (vm vc vt : Value) (nb kb : Nat) : Prop := w.heap[pb]? = some (.cells #[.int .i64 W, .int .i64 H, vm, vc, vt, .map (some nb), .map (some kb)] 72 (0, 0))
set_option maxRecDepth 100000 in
set_option maxHeartbeats 3200000 in
theorem near_no (pb : Nat) (W H : Nat) (e : E4) (w : World) (h0 : w.cell? ⟨pb, 0, none⟩ = some (.int .i64 W)) (h1 : w.cell? ⟨pb, 1, none⟩ = some (.int .i64 H)) (hW : W ≤ 8) (hH : H ≤ 8) (hg : nearG W H e = false) :
    Calls Tryd.prog 85 #[.pointer (some ⟨pb, 0, none⟩), aggE e] w fun r w' => r = .returned (.slice none 0 0) ∧ Below w.heap.size w w' := by
  obtain ⟨e1, e2, e3, e4⟩ := e
  have kb := heap_alloc_new w (.cells #[.int .i64 e1, .int .i64 e2, .int .i64 e3, .int .i64 e4] 86)
  have c1 := cell_of_blk kb 0
  have c2 := cell_of_blk kb 1
  simp only [List.getElem?_toArray, List.getElem?_cons_zero, List.getElem?_cons_succ] at c1 c2
  have a0 := al_c h0 (.cells #[.int .i64 e1, .int .i64 e2, .int .i64 e3, .int .i64 e4] 86)
  have a1 := al_c h1 (.cells #[.int .i64 e1, .int .i64 e2, .int .i64 e3, .int .i64 e4] 86)
  have hbn := below_new w (.cells #[.int .i64 e1, .int .i64 e2, .int .i64 e3, .int .i64 e4] 86)
  have hw1 : IntKind.i64.wrap (2 * (W : Int)) = 2 * (W : Int) := IntWalk.i64_in _ (by omega)
  have hw2 : IntKind.i64.wrap (2 * (H : Int)) = 2 * (H : Int) := IntWalk.i64_in _ (by omega)
  simp only [nearG, Bool.not_eq_false', Bool.or_eq_true, decide_eq_true_eq] at hg
  clear kb h0 h1
  by_cases q1 : e1 < 0
  · have d1 : decide (e1 < 0) = true := decide_eq_true q1
    clear hg
    go_enter Tryd.func85, Tryd.ntmps85
    go_upto_region 1 with fail
    go_quiet (fail)
    go_wp2
    go_ret
    exact ⟨rfl, below_drewN hbn _⟩
  · have d1 : decide (e1 < 0) = false := decide_eq_false q1
    by_cases q2 : e2 < -1
    · have d2 : decide (e2 < -1) = true := decide_eq_true q2
      clear hg
      go_enter Tryd.func85, Tryd.ntmps85
      go_upto_region 1 with fail
      go_quiet (fail)
      go_wp2
      go_ret
      exact ⟨rfl, below_drewN hbn _⟩
    · have d2 : decide (e2 < -1) = false := decide_eq_false q2
      by_cases q3 : 2 * (W : Int) < e1
      · have d3 : decide (2 * (W : Int) < e1) = true := decide_eq_true q3
        clear hg
        go_enter Tryd.func85, Tryd.ntmps85
        go_upto_region 1 with fail
        go_quiet (fail)
        go_wp2
        go_ret
        exact ⟨rfl, below_drewN hbn _⟩
      · have d3 : decide (2 * (W : Int) < e1) = false := decide_eq_false q3
        have q4 : 2 * (H : Int) < e2 := by omega
        have d4 : decide (2 * (H : Int) < e2) = true := decide_eq_true q4
        clear hg
        go_enter Tryd.func85, Tryd.ntmps85
        go_upto_region 1 with fail
        go_quiet (fail)
        go_wp2
        go_ret
        exact ⟨rfl, below_drewN hbn _⟩
set_option maxRecDepth 100000 in
set_option maxHeartbeats 6400000 in
theorem near_ok (pb : Nat) (W H : Nat) (e : E4) (w : World) (h0 : w.cell? ⟨pb, 0, none⟩ = some (.int .i64 W)) (h1 : w.cell? ⟨pb, 1, none⟩ = some (.int .i64 H)) (hW : W ≤ 8) (hH : H ≤ 8) (hg : nearG W H e = true) :
    Calls Tryd.prog 85 #[.pointer (some ⟨pb, 0, none⟩), aggE e] w fun r w' => ∃ v, r = .returned v ∧ w'.ownsRow w.heap.size 93 3 v (nearL e).length (tcT (nearL e)) ∧ Below w.heap.size w w' := by
  have hall := nearP_all e
  have hlen := nearP_len (e.1.tdiv 2) (e.2.1.tdiv 2)
  obtain ⟨e1, e2, e3, e4⟩ := e
  have kb := heap_alloc_new w (.cells #[.int .i64 e1, .int .i64 e2, .int .i64 e3, .int .i64 e4] 86)
  have c1 := cell_of_blk kb 0
  have c2 := cell_of_blk kb 1
  simp only [List.getElem?_toArray, List.getElem?_cons_zero, List.getElem?_cons_succ] at c1 c2
  have a0 := al_c h0 (.cells #[.int .i64 e1, .int .i64 e2, .int .i64 e3, .int .i64 e4] 86)
  have a1 := al_c h1 (.cells #[.int .i64 e1, .int .i64 e2, .int .i64 e3, .int .i64 e4] 86)
  have hbn := below_new w (.cells #[.int .i64 e1, .int .i64 e2, .int .i64 e3, .int .i64 e4] 86)
  have hw1 : IntKind.i64.wrap (2 * (W : Int)) = 2 * (W : Int) := IntWalk.i64_in _ (by omega)
  have hw2 : IntKind.i64.wrap (2 * (H : Int)) = 2 * (H : Int) := IntWalk.i64_in _ (by omega)
  simp only [nearG, Bool.not_eq_true', Bool.or_eq_false_iff, decide_eq_false_iff_not] at hg
  obtain ⟨⟨⟨q1, q2⟩, q3⟩, q4⟩ := hg
  have d1 : decide (e1 < 0) = false := decide_eq_false q1
  have d2 : decide (e2 < -1) = false := decide_eq_false q2
  have d3 : decide (2 * (W : Int) < e1) = false := decide_eq_false q3
  have d4 : decide (2 * (H : Int) < e2) = false := decide_eq_false q4
  have HB := Lib.hid kb
  simp only at hall hlen
  obtain ⟨X, hX⟩ : ∃ X, X = e1.tdiv 2 := ⟨_, rfl⟩
  obtain ⟨Y, hY⟩ : ∃ Y, Y = e2.tdiv 2 := ⟨_, rfl⟩
  have hXb : 0 ≤ X ∧ X ≤ 8 := by rw [hX, Int.tdiv_eq_ediv_of_nonneg (by omega)]; omega
  have hYb : -1 ≤ Y ∧ Y ≤ 8 := by
    rw [hY]
    by_cases h : 0 ≤ e2
    · rw [Int.tdiv_eq_ediv_of_nonneg h]; omega
    · have : e2 = -1 := by omega
      subst this
      decide
  rw [← hX, ← hY] at hall hlen
  have HALL := Lib.hid hall
  have HLEN := Lib.hid hlen
  have hwX : IntKind.i64.wrap (e1.tdiv 2) = X := by rw [← hX]; exact IntWalk.i64_in _ (by omega)
  have hwY : IntKind.i64.wrap (e2.tdiv 2) = Y := by rw [← hY]; exact IntWalk.i64_in _ (by omega)
  have tX : e1.tdiv 2 = X := hX.symm
  have tY : e2.tdiv 2 = Y := hY.symm
  clear hall hlen kb h0 h1 hX hY
  go_enter Tryd.func85, Tryd.ntmps85
  go_upto_region 1 with fail
  go_quiet (fail)
  go_wp2_with fail
  have hw0 : Below w.heap.size w ((w.alloc (.cells #[.int .i64 e1, .int .i64 e2, .int .i64 e3, .int .i64 e4] 86)).drewN nq) := below_drewN hbn _
  have b1 : ((w.alloc (.cells #[.int .i64 e1, .int .i64 e2, .int .i64 e3, .int .i64 e4] 86)).drewN nq).cell? ⟨w.heap.size, 0, none⟩ = some (.int .i64 e1) := c1
  have b2 : ((w.alloc (.cells #[.int .i64 e1, .int .i64 e2, .int .i64 e3, .int .i64 e4] 86)).drewN nq).cell? ⟨w.heap.size, 1, none⟩ = some (.int .i64 e2) := c2
  have hz : w.heap.size < ((w.alloc (.cells #[.int .i64 e1, .int .i64 e2, .int .i64 e3, .int .i64 e4] 86)).drewN nq).heap.size := by
    show w.heap.size < (w.alloc _).heap.size
    simp
  clear c1 c2 a0 a1 hbn HB
  generalize (w.alloc (.cells #[.int .i64 e1, .int .i64 e2, .int .i64 e3, .int .i64 e4] 86)).drewN nq = w0 at hw0 b1 b2 hz ⊢
  go_loopw [5, 6] (fun v x wr => ∃ a : Nat, a ≤ 3 ∧ x = .int .i64 (X - 1 + a) ∧ wr.ownsRow w0.heap.size 93 3 v (nearP X Y a 0 0).length (tcT (nearP X Y a 0 0)) ∧ Below w0.heap.size w0 wr) (fun _ x _ => (X + 2 - intOf x).toNat)
  case atStart => exact ⟨0, by omega, by go_num, World.ownsRow_nil _ _ _ _, Below.refl _ _⟩
  case round =>
    obtain ⟨a, ha, rfl, hown, hbel⟩ := hrel
    have x1 := keep_c b1 hbel hz
    by_cases ha3 : a < 3
    · have hle : X - 1 + (a : Int) ≤ X + 1 := by omega
      have y1 := keep_c b2 hbel hz
      have hwa : IntKind.i64.wrap (X - 1 + (a : Int) + 1) = X - 1 + ((a + 1 : Nat) : Int) := by rw [IntWalk.i64_in _ (by omega)]; omega
      obtain ⟨px, hpx⟩ : ∃ px, px = X - 1 + (a : Int) := ⟨_, rfl⟩
      rw [← hpx] at hle hwa ⊢
      have HPX := Lib.hid hpx
      have hpb : -1 ≤ px ∧ px ≤ 9 := by omega
      have hwn : X - 1 + ((a + 1 : Nat) : Int) = px + 1 := by omega
      rw [hwn] at hwa
      clear hpx hwn
      go_wp2_with fail
      go_loopw [5, 7] (fun v y wr => ∃ b : Nat, b ≤ 3 ∧ y = .int .i64 (Y - 1 + b) ∧ wr.ownsRow w0.heap.size 93 3 v (nearP X Y a b 0).length (tcT (nearP X Y a b 0)) ∧ Below w0.heap.size w0 wr) (fun _ y _ => (Y + 2 - intOf y).toNat)
      case atStart => exact ⟨0, by omega, by go_num, hown, hbel⟩
      case round =>
        obtain ⟨b, hb, rfl, hown, hbel⟩ := hrel
        have y1 := keep_c b2 hbel hz
        by_cases hb3 : b < 3
        · have hle2 : Y - 1 + (b : Int) ≤ Y + 1 := by omega
          have hwb : IntKind.i64.wrap (Y - 1 + (b : Int) + 1) = Y - 1 + ((b + 1 : Nat) : Int) := by rw [IntWalk.i64_in _ (by omega)]; omega
          obtain ⟨py, hpy⟩ : ∃ py, py = Y - 1 + (b : Int) := ⟨_, rfl⟩
          rw [← hpy] at hle2 hwb ⊢
          have HPY := Lib.hid hpy
          have hpc : -2 ≤ py ∧ py ≤ 9 := by omega
          have hwn : Y - 1 + ((b + 1 : Nat) : Int) = py + 1 := by omega
          rw [hwn] at hwb
          clear hpy hwn
          go_wp2_with fail
          go_loopw [5, 71] (fun v k wr => ∃ c : Nat, c ≤ 4 ∧ k = .int .i64 c ∧ wr.ownsRow w0.heap.size 93 3 v (nearP X Y a b c).length (tcT (nearP X Y a b c)) ∧ Below w0.heap.size w0 wr) (fun _ k _ => 4 - (intOf k).toNat)
          case atStart => exact ⟨0, by omega, rfl, hown, hbel⟩
          case round =>
            obtain ⟨c, hc, rfl, hown, hbel⟩ := hrel
            have hnl := HLEN.out a b c
            have hnc := nearP_c X Y a b c
            rw [← HPX.out, ← HPY.out] at hnc
            have HNC := Lib.hid hnc
            have HOW := Lib.hid hown
            clear hnc hown
            by_cases hc4 : c < 4
            · have hci : (c : Int) < 4 := by omega
              go_wp2_with (at_builtin; refine app_gen Tryd.underlying28 tri_info rfl (by decide) (by decide) rfl (.tmp 74) (.tmp 79) rfl w0.heap.size _ (nearP X Y a b c).length (tcT (nearP X Y a b c)) [.int .i64 px, .int .i64 py, .int .i64 c] rfl HOW.out hbel.size 1 _ rfl rfl rfl (tri_one px py c) (by omega) ?_; intro v' w' hown' hb' _)
              go_roundw
              case rel => exact ⟨c + 1, by omega, by go_num, by rw [HNC.out, List.length_append, tcT_app]; exact hown', hbel.trans hb'⟩
              case measure => simp [intOf]; omega
            · obtain rfl : c = 4 := by omega
              have hnb := nearP_b X Y a b
              have HNB := Lib.hid hnb
              clear hnb
              go_wp2
              go_roundw
              case rel => exact ⟨b + 1, by omega, by have := HPY.out; congr 1; omega, by rw [HNB.out]; exact HOW.out, hbel⟩
              case measure => have := HPY.out; simp [intOf]; omega
        · obtain rfl : b = 3 := by omega
          have hle2 : ¬ (Y - 1 + ((3 : Nat) : Int) ≤ Y + 1) := by omega
          have hna := nearP_a X Y a
          have HNA := Lib.hid hna
          have HOW := Lib.hid hown
          clear hna hown
          go_wp2
          go_roundw
          case rel => exact ⟨a + 1, by omega, by have := HPX.out; congr 1; omega, by rw [HNA.out]; exact HOW.out, hbel⟩
          case measure => have := HPX.out; simp [intOf]; omega
    · obtain rfl : a = 3 := by omega
      have hle : ¬ (X - 1 + ((3 : Nat) : Int) ≤ X + 1) := by omega
      have HOW := Lib.hid hown
      clear hown
      go_wp2
      go_ret
      rw [HALL.out] at HOW
      exact ⟨_, rfl, own_mono HOW.out hw0.size, hw0.trans (hbel.mono hw0.size)⟩
end Go.Proofs.YtoienokpchbglaaDoor
