/- cmp.Compare, cmp.Or; comparing points, edges, triangles.. near: triangles that might have an edge.. -/
import Derived.Test.YtpkjekedgodccaaGreatDoorK05
import Derived.Sort.Grow
import Derived.Deep.DeepCutAuto
import Derived.Deep.RegionWith
import Derived.Deep.RegionHeld3
import Derived.StillTailTactics
namespace Go.Proofs.YtpkjekedgodccaaGreatDoor
set_option linter.unusedSimpArgs false
set_option linter.unusedVariables false
section
open Go.RowKit
theorem cmp_any (x y : Int) (w : World) :
  Calls Tryz.prog 86 #[.int .i64 x, .int .i64 y] w fun e w' => e = .returned (.int .i64 (cmpI x y)) ∧ w = w' := by
 by_cases h1 : x < y
 ·have e : cmpI x y = -1 := by simp [cmpI, h1]
  rw [e]
  clear e
  go_enter Tryz.func86, Tryz.ntmps86
  go_wp2
  go_ret
  exact ⟨rfl, rfl⟩
 ·by_cases h2 : y < x
  ·have e : cmpI x y = 1 := by simp [cmpI, h1, h2]
   rw [e]
   clear e
   go_enter Tryz.func86, Tryz.ntmps86
   go_wp2
   go_ret
   exact ⟨rfl, rfl⟩
  ·have e : cmpI x y = 0 := by simp [cmpI, h1, h2]
   rw [e]
   clear e
   go_enter Tryz.func86, Tryz.ntmps86
   go_wp2
   go_ret
   exact ⟨rfl, rfl⟩
def orL : List Int → Int
 | [] => 0
 | a :: l => orI a (orL l)
theorem orL_at {l : List Int} {k : Nat} {z : Int} (h : l[k]? = some z) : orL (l.drop k) = orI z (orL (l.drop (k + 1))) := by
 obtain ⟨h1, rfl⟩ := List.getElem?_eq_some_iff.1 h
 rw [List.drop_eq_getElem_cons h1]
 rfl
set_option maxHeartbeats 1600000 in
theorem or_any (g n c : Nat) (zs : List Int) (w : World) (h : Rd w 1 (some ⟨g, 0, none⟩) n (vis zs)) (hn : n ≤ 1000) :
  Calls Tryz.prog 76 #[.slice (some ⟨g, 0, none⟩) n c] w fun e w' => e = .returned (.int .i64 (orL zs)) ∧ w = w' := by
 have HL := Lib.hid h.ints_len
 obtain ⟨R, hR⟩ : ∃ R, R = orL zs := ⟨_, rfl⟩
 rw [← hR]
 have HR := Lib.hid hR
 clear hR
 go_enter Tryz.func76, Tryz.ntmps76
 go_wp2
 go_loopw [8] (fun i wr => ∃ k : Nat, k ≤ n ∧ i = .int .i64 k ∧ Hid (R = orL (zs.drop k)) ∧ w = wr) (fun i _ => n - (intOf i).toNat)
 case atStart => exact ⟨0, by omega, rfl, Lib.hid (by rw [List.drop_zero]; exact HR.out), rfl⟩
 case round =>
  obtain ⟨k, hk, rfl, hr, rfl⟩ := hrel
  by_cases hkn : k < n
  ·obtain ⟨b, off, z, hA, hb, hz, hcz⟩ := h.int hkn
   cases hA
   rw [Nat.zero_add] at hcz
   have hat := orL_at hz
   have HA := Lib.hid (hr.out.trans hat)
   clear hat hz
   by_cases hz0 : z = 0
   ·subst hz0
    have hnx : R = orL (zs.drop (k + 1)) := by rw [HA.out]; simp [orI]
    have HX := Lib.hid hnx
    clear hnx
    go_wp2
    go_roundw
    case rel => exact ⟨k + 1, by omega, by go_num, HX, trivial⟩
    case measure => simp [intOf]; omega
   ·have hnx : R = z := by rw [HA.out]; simp [orI, hz0]
    have hne : (z != 0) = true := by simpa using hz0
    subst hnx
    go_wp2
    go_ret
    exact ⟨rfl, rfl⟩
  ·obtain rfl : k = n := by omega
   have h0 : R = 0 := by
    rw [hr.out, List.drop_of_length_le (by rw [HL.out]; exact Nat.le_refl _)]
    rfl
   subst h0
   go_wp2
   go_ret
   exact ⟨rfl, rfl⟩
def Gro (w w' : World) : Prop := ∃ q os, w' = Go.Sort.grow (w.drewN q) os
theorem Gro.refl (w : World) : Gro w w := ⟨0, #[], by simp [Go.Sort.grow, World.drewN]⟩
theorem Gro.alloc {w w' : World} (h : Gro w w') (o : Obj) : Gro w (w'.alloc o) := by
 obtain ⟨q, os, rfl⟩ := h
 exact ⟨q, os ++ #[o], by rw [Go.Sort.alloc_eq_grow, Go.Sort.grow_grow]⟩
theorem Gro.drewN {w w' : World} (h : Gro w w') (n : Nat) : Gro w (w'.drewN n) := by
 obtain ⟨q, os, rfl⟩ := h
 exact ⟨q + n, os, by simp [Go.Sort.grow, World.drewN, Nat.add_assoc]⟩
theorem Gro.drew {w w' : World} (h : Gro w w') : Gro w w'.drew := h.drewN 1
theorem Gro.trans {a b c : World} (h : Gro a b) (g : Gro b c) : Gro a c := by
 obtain ⟨q, os, rfl⟩ := h
 obtain ⟨p, ps, rfl⟩ := g
 exact ⟨q + p, os ++ ps, by simp [Go.Sort.grow, World.drewN, Nat.add_assoc, Array.append_assoc]⟩
theorem Gro.below {w w' : World} (h : Gro w w') : Below w.heap.size w w' := by
 obtain ⟨q, os, rfl⟩ := h
 exact ⟨rfl, rfl, rfl, by simp [Go.Sort.grow, World.drewN], fun k hk => by simp [Go.Sort.grow, World.drewN, Array.getElem?_append, hk]⟩
theorem orI_zero (a : Int) : orI a 0 = a := by unfold orI; split <;> simp_all
theorem or2 (a b : Int) : orL [a, b] = orI a b := by simp [orL, orI_zero]
theorem or3 (a b c : Int) : orL [a, b, c] = orI a (orI b c) := by simp [orL, orI_zero]
theorem lit_rd (w : World) (zs : List Int) (n : Nat) (hn : zs.length = n) : Rd (w.alloc (.cells (vis zs).toArray 3)) 1 (some ⟨w.heap.size, 0, none⟩) n (vis zs) :=
 ⟨by simp [hn], fun _ => ⟨w.heap.size, 0, rfl, by simp, fun j u hu => by rw [Nat.zero_add, cell_of_blk (heap_alloc_new w _) j]; simpa using hu⟩⟩
set_option maxRecDepth 100000 in
set_option maxHeartbeats 3200000 in
theorem cmpPoint_any (a b c d : Int) (w : World) :
  Calls Tryz.prog 77 #[aggP a b, aggP c d] w fun e w' => e = .returned (.int .i64 (cmpP a b c d)) ∧ Gro w w' := by
 have k0 := heap_alloc_new w (.cells #[.int .i64 a, .int .i64 b] 98)
 have k0' := blk_alloc k0 (.cells #[.int .i64 c, .int .i64 d] 98)
 have k1 := heap_alloc_new (w.alloc (.cells #[.int .i64 a, .int .i64 b] 98)) (.cells #[.int .i64 c, .int .i64 d] 98)
 have hg : Gro w ((w.alloc (.cells #[.int .i64 a, .int .i64 b] 98)).alloc (.cells #[.int .i64 c, .int .i64 d] 98)) := ((Gro.refl w).alloc _).alloc _
 have hz : (w.alloc (.cells #[.int .i64 a, .int .i64 b] 98)).heap.size = w.heap.size + 1 := by simp
 rw [hz] at k1
 have cO := fun (w1 : World) => or_any w1.heap.size 2 2 [cmpI a c, cmpI b d] (w1.alloc (.cells #[.int .i64 (cmpI a c), .int .i64 (cmpI b d)] 3)).drew (lit_rd w1 [cmpI a c, cmpI b d] 2 rfl).drew (by decide)
 rw [or2] at cO
 have hres : orI (cmpI a c) (cmpI b d) = cmpP a b c d := rfl
 rw [hres] at cO
 obtain ⟨R, hR⟩ : ∃ R, R = cmpP a b c d := ⟨_, rfl⟩
 rw [← hR] at cO ⊢
 have cA := fun (w1 : World) => cmp_any a c w1
 have cB := fun (w1 : World) => cmp_any b d w1
 obtain ⟨x, hx⟩ : ∃ x, x = cmpI a c := ⟨_, rfl⟩
 obtain ⟨y, hy⟩ : ∃ y, y = cmpI b d := ⟨_, rfl⟩
 rw [← hx] at cA
 rw [← hy] at cB
 simp only [← hx, ← hy] at cO
 have CO := Lib.hid cO
 have CA := Lib.hid cA
 have CB := Lib.hid cB
 clear cO cA cB hx hy hR hres hz
 go_enter Tryz.func77, Tryz.ntmps77
 go_upto_region 1 with fail
 generalize (w.alloc (.cells #[.int .i64 a, .int .i64 b] 98)).alloc (.cells #[.int .i64 c, .int .i64 d] 98) = w2 at k0' k1 hg ⊢
 have a0 := cell_of_blk k0' 0
 have a1 := cell_of_blk k0' 1
 have b0 := cell_of_blk k1 0
 have b1 := cell_of_blk k1 1
 simp only [List.getElem?_toArray, List.getElem?_cons_zero, List.getElem?_cons_succ] at a0 a1 b0 b1
 have hS : w2.drew.cell? ⟨w.heap.size, 0, none⟩ = some (.int .i64 a) ∧ w2.drew.cell? ⟨w.heap.size, 1, none⟩ = some (.int .i64 b) ∧ w2.drew.cell? ⟨w.heap.size + 1, 0, none⟩ = some (.int .i64 c) ∧ w2.drew.cell? ⟨w.heap.size + 1, 1, none⟩ = some (.int .i64 d) ∧ Gro w w2.drew := ⟨a0, a1, b0, b1, hg.drew⟩
 clear k0 k0' k1 a0 a1 b0 b1 hg
 go_region_held3 (fun w' => w'.cell? ⟨w.heap.size, 0, none⟩ = some (.int .i64 a) ∧ w'.cell? ⟨w.heap.size, 1, none⟩ = some (.int .i64 b) ∧ w'.cell? ⟨w.heap.size + 1, 0, none⟩ = some (.int .i64 c) ∧ w'.cell? ⟨w.heap.size + 1, 1, none⟩ = some (.int .i64 d) ∧ Gro w w')
  (first
   | with_reducible exact hS
   | with_reducible assumption
   | (go_split_ands; exact ⟨al_c ‹_› _, al_c ‹_› _, al_c ‹_› _, al_c ‹_› _, Gro.alloc ‹_› _⟩))
  (first
   | ((with_reducible refine (CA.out _).mono ?_); rintro e wc ⟨he, hw⟩; subst he; subst hw)
   | ((with_reducible refine (CB.out _).mono ?_); rintro e wc ⟨he, hw⟩; subst he; subst hw)
   | ((with_reducible refine (CO.out _).mono ?_); rintro e wc ⟨he, hw⟩; subst he; subst hw))
 rename_i hH
 go_wp2
 go_ret
 exact ⟨rfl, hH.2.2.2.2⟩
end
section
open Go.RowKit
theorem keep_c {w w' : World} {B b i : Nat} {v : Value} (h : w.cell? ⟨b, i, none⟩ = some v) (hb : Below B w w') (hlt : b < B) : w'.cell? ⟨b, i, none⟩ = some v := (hb.cell (p := ⟨b, i, none⟩) hlt).trans h
def tcT (l : List T3) : List Value := l.flatMap fun t => [.int .i64 t.1, .int .i64 t.2.1, .int .i64 t.2.2]
theorem tcT_app (l m : List T3) : tcT (l ++ m) = tcT l ++ tcT m := by simp [tcT]
theorem tcT_len (l : List T3) : (tcT l).length = l.length * 3 := by
 induction l with
 | nil => rfl
 | cons t l ih => simp [tcT] at ih ⊢; omega
theorem tcT_one (x y k : Int) : tcT [(x, y, k)] = [.int .i64 x, .int .i64 y, .int .i64 k] := rfl
theorem tri_one (x y k : Int) : ∀ u ∈ [Value.int .i64 x, .int .i64 y, .int .i64 k], u.oneCell' = true := by
 intro u hu
 simp only [List.mem_cons, List.not_mem_nil, or_false] at hu
 rcases hu with rfl | rfl | rfl <;> rfl
theorem tri_info : (Tryz.prog.info? 44).map (fun i => (i.zero, i.size, i.bytes)) = some (some (.agg #[.int .i64 0, .int .i64 0, .int .i64 0]), 3, 24) := by kernel_rfl
def cellN (X Y : Int) (i j c : Nat) : List T3 := (List.range c).map fun (k : Nat) => (X - 1 + i, Y - 1 + j, (k : Int))
def rowN (X Y : Int) (i b : Nat) : List T3 := (List.range b).flatMap fun j => cellN X Y i j 4
def nearP (X Y : Int) (a b c : Nat) : List T3 := (List.range a).flatMap (fun i => rowN X Y i 3) ++ rowN X Y a b ++ cellN X Y a b c
theorem nearP_c (X Y : Int) (a b c : Nat) : nearP X Y a b (c + 1) = nearP X Y a b c ++ [(X - 1 + a, Y - 1 + b, (c : Int))] := by
 simp [nearP, cellN, List.range_succ]
theorem nearP_b (X Y : Int) (a b : Nat) : nearP X Y a (b + 1) 0 = nearP X Y a b 4 := by
 simp [nearP, rowN, cellN, List.range_succ]
theorem nearP_a (X Y : Int) (a : Nat) : nearP X Y (a + 1) 0 0 = nearP X Y a 3 0 := by
 simp [nearP, rowN, cellN, List.range_succ]
theorem nearP_all (e : E4) : nearP (e.1.tdiv 2) (e.2.1.tdiv 2) 3 0 0 = nearL e := by
 have a0 : ∀ z : Int, z - 1 + ((0 : Nat) : Int) = z - 1 := fun z => by omega
 have a1 : ∀ z : Int, z - 1 + ((1 : Nat) : Int) = z := fun z => by omega
 have a2 : ∀ z : Int, z - 1 + ((2 : Nat) : Int) = z + 1 := fun z => by omega
 simp [nearP, rowN, cellN, nearL, threeL, List.range_succ, a0, a1, a2]
 omega
theorem nearP_len (X Y : Int) (a b c : Nat) : (nearP X Y a b c).length = 12 * a + 4 * b + c := by
 have h1 : ∀ i j c, (cellN X Y i j c).length = c := fun i j c => by simp [cellN]
 have h2 : ∀ i b, (rowN X Y i b).length = 4 * b := by
  intro i b
  induction b with
  | zero => rfl
  | succ b ih =>
   unfold rowN at ih ⊢
   rw [List.range_succ, List.flatMap_append, List.length_append, ih]
   simp [h1]
   omega
 have h3 : ∀ a, ((List.range a).flatMap fun i => rowN X Y i 3).length = 12 * a := by
  intro a
  induction a with
  | zero => rfl
  | succ a ih =>
   rw [List.range_succ, List.flatMap_append, List.length_append, ih]
   simp [h2]
   omega
 simp [nearP, h1, h2, h3]
 omega
set_option maxRecDepth 100000 in
set_option maxHeartbeats 3200000 in
theorem near_no (pb : Nat) (W H : Nat) (e : E4) (w : World) (h0 : w.cell? ⟨pb, 0, none⟩ = some (.int .i64 W)) (h1 : w.cell? ⟨pb, 1, none⟩ = some (.int .i64 H)) (hW : W ≤ 8) (hH : H ≤ 8) (hg : nearG W H e = false) :
  Calls Tryz.prog 78 #[.pointer (some ⟨pb, 0, none⟩), aggE e] w fun r w' => r = .returned (.slice none 0 0) ∧ Below w.heap.size w w' := by
 obtain ⟨e1, e2, e3, e4⟩ := e
 have kb := heap_alloc_new w (.cells #[.int .i64 e1, .int .i64 e2, .int .i64 e3, .int .i64 e4] 100)
 have c1 := cell_of_blk kb 0
 have c2 := cell_of_blk kb 1
 simp only [List.getElem?_toArray, List.getElem?_cons_zero, List.getElem?_cons_succ] at c1 c2
 have a0 := al_c h0 (.cells #[.int .i64 e1, .int .i64 e2, .int .i64 e3, .int .i64 e4] 100)
 have a1 := al_c h1 (.cells #[.int .i64 e1, .int .i64 e2, .int .i64 e3, .int .i64 e4] 100)
 have hbn := below_new w (.cells #[.int .i64 e1, .int .i64 e2, .int .i64 e3, .int .i64 e4] 100)
 have hw1 : IntKind.i64.wrap (2 * (W : Int)) = 2 * (W : Int) := IntWalk.i64_in _ (by omega)
 have hw2 : IntKind.i64.wrap (2 * (H : Int)) = 2 * (H : Int) := IntWalk.i64_in _ (by omega)
 simp only [nearG, Bool.not_eq_false', Bool.or_eq_true, decide_eq_true_eq] at hg
 clear kb h0 h1
 by_cases q1 : e1 < 0
 ·have d1 : decide (e1 < 0) = true := decide_eq_true q1
  clear hg
  go_enter Tryz.func78, Tryz.ntmps78
  go_upto_region 1 with fail
  go_quiet (fail)
  go_wp2
  go_ret
  exact ⟨rfl, below_drewN hbn _⟩
 ·have d1 : decide (e1 < 0) = false := decide_eq_false q1
  by_cases q2 : e2 < -1
  ·have d2 : decide (e2 < -1) = true := decide_eq_true q2
   clear hg
   go_enter Tryz.func78, Tryz.ntmps78
   go_upto_region 1 with fail
   go_quiet (fail)
   go_wp2
   go_ret
   exact ⟨rfl, below_drewN hbn _⟩
  ·have d2 : decide (e2 < -1) = false := decide_eq_false q2
   by_cases q3 : 2 * (W : Int) < e1
   ·have d3 : decide (2 * (W : Int) < e1) = true := decide_eq_true q3
    clear hg
    go_enter Tryz.func78, Tryz.ntmps78
    go_upto_region 1 with fail
    go_quiet (fail)
    go_wp2
    go_ret
    exact ⟨rfl, below_drewN hbn _⟩
   ·have d3 : decide (2 * (W : Int) < e1) = false := decide_eq_false q3
    have q4 : 2 * (H : Int) < e2 := by omega
    have d4 : decide (2 * (H : Int) < e2) = true := decide_eq_true q4
    clear hg
    go_enter Tryz.func78, Tryz.ntmps78
    go_upto_region 1 with fail
    go_quiet (fail)
    go_wp2
    go_ret
    exact ⟨rfl, below_drewN hbn _⟩
set_option maxRecDepth 100000 in
set_option maxHeartbeats 6400000 in
theorem near_ok (pb : Nat) (W H : Nat) (e : E4) (w : World) (h0 : w.cell? ⟨pb, 0, none⟩ = some (.int .i64 W)) (h1 : w.cell? ⟨pb, 1, none⟩ = some (.int .i64 H)) (hW : W ≤ 8) (hH : H ≤ 8) (hg : nearG W H e = true) :
  Calls Tryz.prog 78 #[.pointer (some ⟨pb, 0, none⟩), aggE e] w fun r w' => ∃ v, r = .returned v ∧ w'.ownsRow w.heap.size 44 3 v (nearL e).length (tcT (nearL e)) ∧ Below w.heap.size w w' := by
 have hall := nearP_all e
 have hlen := nearP_len (e.1.tdiv 2) (e.2.1.tdiv 2)
 obtain ⟨e1, e2, e3, e4⟩ := e
 have kb := heap_alloc_new w (.cells #[.int .i64 e1, .int .i64 e2, .int .i64 e3, .int .i64 e4] 100)
 have c1 := cell_of_blk kb 0
 have c2 := cell_of_blk kb 1
 simp only [List.getElem?_toArray, List.getElem?_cons_zero, List.getElem?_cons_succ] at c1 c2
 have a0 := al_c h0 (.cells #[.int .i64 e1, .int .i64 e2, .int .i64 e3, .int .i64 e4] 100)
 have a1 := al_c h1 (.cells #[.int .i64 e1, .int .i64 e2, .int .i64 e3, .int .i64 e4] 100)
 have hbn := below_new w (.cells #[.int .i64 e1, .int .i64 e2, .int .i64 e3, .int .i64 e4] 100)
 have hw1 : IntKind.i64.wrap (2 * (W : Int)) = 2 * (W : Int) := IntWalk.i64_in _ (by omega)
 have hw2 : IntKind.i64.wrap (2 * (H : Int)) = 2 * (H : Int) := IntWalk.i64_in _ (by omega)
 simp only [nearG, Bool.not_eq_true', Bool.or_eq_false_iff, decide_eq_false_iff_not] at hg
 obtain ⟨⟨⟨q1, q2⟩, q3⟩, q4⟩ := hg
 have d1 : decide (e1 < 0) = false := decide_eq_false q1
 have d2 : decide (e2 < -1) = false := decide_eq_false q2
 have d3 : decide (2 * (W : Int) < e1) = false := decide_eq_false q3
 have d4 : decide (2 * (H : Int) < e2) = false := decide_eq_false q4
 have HB := Lib.hid kb
 simp only at hall hlen
 obtain ⟨X, hX⟩ : ∃ X, X = e1.tdiv 2 := ⟨_, rfl⟩
 obtain ⟨Y, hY⟩ : ∃ Y, Y = e2.tdiv 2 := ⟨_, rfl⟩
 have hXb : 0 ≤ X ∧ X ≤ 8 := by rw [hX, Int.tdiv_eq_ediv_of_nonneg (by omega)]; omega
 have hYb : -1 ≤ Y ∧ Y ≤ 8 := by
  rw [hY]
  by_cases h : 0 ≤ e2
  ·rw [Int.tdiv_eq_ediv_of_nonneg h]; omega
  ·have : e2 = -1 := by omega
   subst this
   decide
 rw [← hX, ← hY] at hall hlen
 have HALL := Lib.hid hall
 have HLEN := Lib.hid hlen
 have hwX : IntKind.i64.wrap (e1.tdiv 2) = X := by rw [← hX]; exact IntWalk.i64_in _ (by omega)
 have hwY : IntKind.i64.wrap (e2.tdiv 2) = Y := by rw [← hY]; exact IntWalk.i64_in _ (by omega)
 have tX : e1.tdiv 2 = X := hX.symm
 have tY : e2.tdiv 2 = Y := hY.symm
 clear hall hlen kb h0 h1 hX hY
 go_enter Tryz.func78, Tryz.ntmps78
 go_upto_region 1 with fail
 go_quiet (fail)
 go_wp2_with fail
 have hw0 : Below w.heap.size w ((w.alloc (.cells #[.int .i64 e1, .int .i64 e2, .int .i64 e3, .int .i64 e4] 100)).drewN nq) := below_drewN hbn _
 have b1 : ((w.alloc (.cells #[.int .i64 e1, .int .i64 e2, .int .i64 e3, .int .i64 e4] 100)).drewN nq).cell? ⟨w.heap.size, 0, none⟩ = some (.int .i64 e1) := c1
 have b2 : ((w.alloc (.cells #[.int .i64 e1, .int .i64 e2, .int .i64 e3, .int .i64 e4] 100)).drewN nq).cell? ⟨w.heap.size, 1, none⟩ = some (.int .i64 e2) := c2
 have hz : w.heap.size < ((w.alloc (.cells #[.int .i64 e1, .int .i64 e2, .int .i64 e3, .int .i64 e4] 100)).drewN nq).heap.size := by
  show w.heap.size < (w.alloc _).heap.size
  simp
 clear c1 c2 a0 a1 hbn HB
 generalize (w.alloc (.cells #[.int .i64 e1, .int .i64 e2, .int .i64 e3, .int .i64 e4] 100)).drewN nq = w0 at hw0 b1 b2 hz ⊢
 go_loopw [5, 6] (fun v x wr => ∃ a : Nat, a ≤ 3 ∧ x = .int .i64 (X - 1 + a) ∧ wr.ownsRow w0.heap.size 44 3 v (nearP X Y a 0 0).length (tcT (nearP X Y a 0 0)) ∧ Below w0.heap.size w0 wr) (fun _ x _ => (X + 2 - intOf x).toNat)
 case atStart => exact ⟨0, by omega, by go_num, World.ownsRow_nil _ _ _ _, Below.refl _ _⟩
 case round =>
  obtain ⟨a, ha, rfl, hown, hbel⟩ := hrel
  have x1 := keep_c b1 hbel hz
  by_cases ha3 : a < 3
  ·have hle : X - 1 + (a : Int) ≤ X + 1 := by omega
   have y1 := keep_c b2 hbel hz
   have hwa : IntKind.i64.wrap (X - 1 + (a : Int) + 1) = X - 1 + ((a + 1 : Nat) : Int) := by rw [IntWalk.i64_in _ (by omega)]; omega
   obtain ⟨px, hpx⟩ : ∃ px, px = X - 1 + (a : Int) := ⟨_, rfl⟩
   rw [← hpx] at hle hwa ⊢
   have HPX := Lib.hid hpx
   have hpb : -1 ≤ px ∧ px ≤ 9 := by omega
   have hwn : X - 1 + ((a + 1 : Nat) : Int) = px + 1 := by omega
   rw [hwn] at hwa
   clear hpx hwn
   go_wp2_with fail
   go_loopw [5, 7] (fun v y wr => ∃ b : Nat, b ≤ 3 ∧ y = .int .i64 (Y - 1 + b) ∧ wr.ownsRow w0.heap.size 44 3 v (nearP X Y a b 0).length (tcT (nearP X Y a b 0)) ∧ Below w0.heap.size w0 wr) (fun _ y _ => (Y + 2 - intOf y).toNat)
   case atStart => exact ⟨0, by omega, by go_num, hown, hbel⟩
   case round =>
    obtain ⟨b, hb, rfl, hown, hbel⟩ := hrel
    have y1 := keep_c b2 hbel hz
    by_cases hb3 : b < 3
    ·have hle2 : Y - 1 + (b : Int) ≤ Y + 1 := by omega
     have hwb : IntKind.i64.wrap (Y - 1 + (b : Int) + 1) = Y - 1 + ((b + 1 : Nat) : Int) := by rw [IntWalk.i64_in _ (by omega)]; omega
     obtain ⟨py, hpy⟩ : ∃ py, py = Y - 1 + (b : Int) := ⟨_, rfl⟩
     rw [← hpy] at hle2 hwb ⊢
     have HPY := Lib.hid hpy
     have hpc : -2 ≤ py ∧ py ≤ 9 := by omega
     have hwn : Y - 1 + ((b + 1 : Nat) : Int) = py + 1 := by omega
     rw [hwn] at hwb
     clear hpy hwn
     go_wp2_with fail
     go_loopw [5, 71] (fun v k wr => ∃ c : Nat, c ≤ 4 ∧ k = .int .i64 c ∧ wr.ownsRow w0.heap.size 44 3 v (nearP X Y a b c).length (tcT (nearP X Y a b c)) ∧ Below w0.heap.size w0 wr) (fun _ k _ => 4 - (intOf k).toNat)
     case atStart => exact ⟨0, by omega, rfl, hown, hbel⟩
     case round =>
      obtain ⟨c, hc, rfl, hown, hbel⟩ := hrel
      have hnl := HLEN.out a b c
      have hnc := nearP_c X Y a b c
      rw [← HPX.out, ← HPY.out] at hnc
      have HNC := Lib.hid hnc
      have HOW := Lib.hid hown
      clear hnc hown
      by_cases hc4 : c < 4
      ·have hci : (c : Int) < 4 := by omega
       go_wp2_with (at_builtin; refine app_gen Tryz.underlying52 tri_info rfl (by decide) (by decide) rfl (.tmp 74) (.tmp 79) rfl w0.heap.size _ (nearP X Y a b c).length (tcT (nearP X Y a b c)) [.int .i64 px, .int .i64 py, .int .i64 c] rfl HOW.out hbel.size 1 _ rfl rfl rfl (tri_one px py c) (by omega) ?_; intro v' w' hown' hb' _)
       go_roundw
       case rel => exact ⟨c + 1, by omega, by go_num, by rw [HNC.out, List.length_append, tcT_app]; exact hown', hbel.trans hb'⟩
       case measure => simp [intOf]; omega
      ·obtain rfl : c = 4 := by omega
       have hnb := nearP_b X Y a b
       have HNB := Lib.hid hnb
       clear hnb
       go_wp2
       go_roundw
       case rel => exact ⟨b + 1, by omega, by have := HPY.out; congr 1; omega, by rw [HNB.out]; exact HOW.out, hbel⟩
       case measure => have := HPY.out; simp [intOf]; omega
    ·obtain rfl : b = 3 := by omega
     have hle2 : ¬ (Y - 1 + ((3 : Nat) : Int) ≤ Y + 1) := by omega
     have hna := nearP_a X Y a
     have HNA := Lib.hid hna
     have HOW := Lib.hid hown
     clear hna hown
     go_wp2
     go_roundw
     case rel => exact ⟨a + 1, by omega, by have := HPX.out; congr 1; omega, by rw [HNA.out]; exact HOW.out, hbel⟩
     case measure => have := HPX.out; simp [intOf]; omega
  ·obtain rfl : a = 3 := by omega
   have hle : ¬ (X - 1 + ((3 : Nat) : Int) ≤ X + 1) := by omega
   have HOW := Lib.hid hown
   clear hown
   go_wp2
   go_ret
   rw [HALL.out] at HOW
   exact ⟨_, rfl, own_mono HOW.out hw0.size, hw0.trans (hbel.mono hw0.size)⟩
end
end Go.Proofs.YtpkjekedgodccaaGreatDoor
