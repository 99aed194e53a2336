/- Lay: the cells of a sheet.. -/
import Derived.Test.YtpkjekedgodccaaGreatDoorK10
import Derived.Carry
namespace Go.Proofs.YtpkjekedgodccaaGreatDoor
set_option linter.unusedSimpArgs false
set_option linter.unusedVariables false
section
open Go.RowKit Go.Maps
theorem cellsB_no {W H : Int} {mask : List Int} (h : W < 1 ∨ 8 < W ∨ H < 1 ∨ 8 < H ∨ (mask.length : Int) ≠ W * H) : cellsB W H mask = false := by
 unfold cellsB
 rw [Bool.eq_false_iff]
 intro hc
 simp at hc
 omega
theorem cellsB_dim {W H : Int} {mask : List Int} (h1 : 1 ≤ W ∧ W ≤ 8) (h2 : 1 ≤ H ∧ H ≤ 8) (h3 : (mask.length : Int) = W * H) : cellsB W H mask = mask.all fun m => decide (0 ≤ m ∧ m ≤ 15) := by
 unfold cellsB
 rw [decide_eq_true h1, decide_eq_true h2, decide_eq_true h3]
 rfl
set_option maxRecDepth 100000 in
set_option maxHeartbeats 6400000 in
theorem lay_dim (A : Option Addr) (n c : Nat) (vc : Value) (W H : Int) (mask : List Int) (w : World) (h : Rd w 1 A n (vis mask)) (hn : n ≤ 140737488351232)
  (hd : W < 1 ∨ 8 < W ∨ H < 1 ∨ 8 < H ∨ (mask.length : Int) ≠ W * H) :
  Calls Tryz.prog 53 #[.agg #[.int .i64 W, .int .i64 H, .slice A n c, vc]] w fun e w' => e = .returned (.tuple #[.pointer none, .bool false]) ∧ Below w.heap.size w w' := by
 have hl := h.ints_len
 rw [hl] at hd
 have kb0 := heap_alloc_new w (.cells #[.int .i64 W, .int .i64 H, .slice A n c, vc] 25)
 have hb0 := below_new w (.cells #[.int .i64 W, .int .i64 H, .slice A n c, vc] 25)
 have e0 := cell_of_blk kb0 0
 have e1 := cell_of_blk kb0 1
 have e2 := cell_of_blk kb0 2
 have e3 := cell_of_blk kb0 3
 simp only [List.getElem?_toArray, List.getElem?_cons_zero, List.getElem?_cons_succ] at e0 e1 e2 e3
 clear h kb0 hl
 go_enter Tryz.func53, Tryz.ntmps53
 by_cases q1 : W < 1
 ·clear hd
  go_wp2
  go_ret2
  exact ⟨rfl, hb0⟩
 ·by_cases q2 : 8 < W
  ·clear hd
   go_wp2
   go_ret2
   exact ⟨rfl, hb0⟩
  ·by_cases q3 : H < 1
   ·clear hd
    go_wp2
    go_ret2
    exact ⟨rfl, hb0⟩
   ·by_cases q4 : 8 < H
    ·clear hd
     go_wp2
     go_ret2
     exact ⟨rfl, hb0⟩
    ·have q5 : (n : Int) ≠ W * H := by omega
     have hm : ((n : Int) != W * H) = true := by simpa using q5
     have hwm : IntKind.i64.wrap (W * H) = W * H := by
      have a1 : 0 ≤ W * H := Int.mul_nonneg (by omega) (by omega)
      have a2 : W * H ≤ 8 * 8 := Int.mul_le_mul (by omega) (by omega) (by omega) (by omega)
      exact IntWalk.i64_in _ (by omega)
     clear hd
     go_wp2
     go_ret2
     exact ⟨rfl, hb0⟩
theorem far3c {w : World} {b g j : Nat} {u : Value} (h : w.cell? ⟨b, j, none⟩ = some u) (hne : g ≠ b) (x y z : Value) : (((w.drew.setCell ⟨g, 0, none⟩ x).setCell ⟨g, 1, none⟩ y).setCell ⟨g, 2, none⟩ z).cell? ⟨b, j, none⟩ = some u := far1 (far1 (far1 (w := w.drew) h hne) hne) hne
set_option maxRecDepth 100000 in
set_option maxHeartbeats 6400000 in
theorem lay_cells (A : Option Addr) (n c : Nat) (vc : Value) (W H : Nat) (mask : List Int) (w : World) (h : Rd w 1 A n (vis mask)) (hW : 1 ≤ W ∧ W ≤ 8) (hH : 1 ≤ H ∧ H ≤ 8) (hd : mask.length = W * H) :
  Calls Tryz.prog 53 #[.agg #[.int .i64 W, .int .i64 H, .slice A n c, vc]] w fun e w' =>
   ((mask.all fun m => decide (0 ≤ m ∧ m ≤ 15)) = false ∧ e = .returned (.tuple #[.pointer none, .bool false]) ∧ Below w.heap.size w w') ∨
   ((mask.all fun m => decide (0 ≤ m ∧ m ≤ 15)) = true ∧ e = .returned (.tuple #[.pointer (some ⟨w.heap.size + 1 + 1 + 1, 0, none⟩), .bool true]) ∧ ∃ m vt, LayS w W H (.slice A n c) vc (trisL W mask) m vt w') := by
 obtain ⟨AB, hAB⟩ : ∃ AB, AB = mask.all fun m => decide (0 ≤ m ∧ m ≤ 15) := ⟨_, rfl⟩
 rw [← hAB]
 have HAB := Lib.hid hAB
 clear hAB
 have hl := h.ints_len
 have hn : n = W * H := by omega
 have hn64 : n ≤ 64 := by rw [hn]; exact Nat.mul_le_mul hW.2 hH.2
 have hn1 : 1 ≤ n := by rw [hn]; exact Nat.mul_le_mul hW.1 hH.1
 obtain ⟨b, off, hA, hbl, _⟩ := h.2 (by omega)
 subst hA
 have kb0 := heap_alloc_new w (.cells #[.int .i64 W, .int .i64 H, .slice (some ⟨b, off, none⟩) n c, vc] 25)
 have hb0 := below_new w (.cells #[.int .i64 W, .int .i64 H, .slice (some ⟨b, off, none⟩) n c, vc] 25)
 have e0 := cell_of_blk kb0 0
 have e1 := cell_of_blk kb0 1
 have e2 := cell_of_blk kb0 2
 have e3 := cell_of_blk kb0 3
 simp only [List.getElem?_toArray, List.getElem?_cons_zero, List.getElem?_cons_succ] at e0 e1 e2 e3
 have q1 : ¬ (W : Int) < 1 := by omega
 have q2 : ¬ 8 < (W : Int) := by omega
 have q3 : ¬ (H : Int) < 1 := by omega
 have q4 : ¬ 8 < (H : Int) := by omega
 have hmz : ((n : Int) != (W : Int) * (H : Int)) = false := by rw [hn]; simp
 have hwm : IntKind.i64.wrap ((W : Int) * (H : Int)) = (W : Int) * (H : Int) := by
  have : (W : Int) * (H : Int) = (n : Int) := by rw [hn]; simp
  rw [this]
  exact IntWalk.i64_in _ (by omega)
 have HR := Lib.hid h
 have HL := Lib.hid hl
 have HN := Lib.hid hn
 clear h hl hd hn kb0
 have hmm := @run_makeMap Tryz.prog
 go_enter Tryz.func53, Tryz.ntmps53
 go_wp2_with fail
 have hL0 : LayS w W H (.slice (some ⟨b, off, none⟩) n c) vc (partT W mask 0) 0 (.slice none 0 0) ((((w.alloc (.cells #[.int .i64 W, .int .i64 H, .slice (some ⟨b, off, none⟩) n c, vc] 25)).alloc (.map #[] 0)).alloc (.map #[] 0)).alloc (.cells #[.int .i64 W, .int .i64 H, .slice (some ⟨b, off, none⟩) n c, vc, .slice none 0 0, .map (some (w.heap.size + 1)), .map (some (w.heap.size + 1 + 1))] 72)) := by
  have z1 : (w.alloc (.cells #[.int .i64 W, .int .i64 H, .slice (some ⟨b, off, none⟩) n c, vc] 25)).heap.size = w.heap.size + 1 := by simp
  have z2 : ((w.alloc (.cells #[.int .i64 W, .int .i64 H, .slice (some ⟨b, off, none⟩) n c, vc] 25)).alloc (.map #[] 0)).heap.size = w.heap.size + 1 + 1 := by simp
  have m1 := MapI.made kT (w.alloc (.cells #[.int .i64 W, .int .i64 H, .slice (some ⟨b, off, none⟩) n c, vc] 25))
  have m2 := MapI.made kE ((w.alloc (.cells #[.int .i64 W, .int .i64 H, .slice (some ⟨b, off, none⟩) n c, vc] 25)).alloc (.map #[] 0))
  rw [z1] at m1
  rw [z2] at m2
  refine ⟨blk_alloc (blk_alloc (blk_alloc (heap_alloc_new w _) _) _) _, ⟨?_, ?_, ?_⟩, World.ownsRow_nil _ _ _ _, ba (ba (ba hb0 _) _) _⟩
  ·exact new_blk _ (by simp)
  ·have e : numF (partT W mask 0) = fun _ => none := numF_nil
   rw [e]
   exact (m1.alloc _).alloc _
  ·exact m2.alloc _
 generalize (((w.alloc (.cells #[.int .i64 W, .int .i64 H, .slice (some ⟨b, off, none⟩) n c, vc] 25)).alloc (.map #[] 0)).alloc (.map #[] 0)).alloc (.cells #[.int .i64 W, .int .i64 H, .slice (some ⟨b, off, none⟩) n c, vc, .slice none 0 0, .map (some (w.heap.size + 1)), .map (some (w.heap.size + 1 + 1))] 72) = w4 at hL0 ⊢
 clear e0 e1 e2 e3 hb0 q1 q2 q3 q4 hmz hwm
 go_loopw [46] (fun s46 wr => ∃ (i m : Nat) (vt : Value), i ≤ n ∧ s46 = .int .i64 i ∧ Hid (((mask.take i).all fun m => decide (0 ≤ m ∧ m ≤ 15)) = true) ∧ m ≤ 4 * i ∧ Hid (LayS w W H (.slice (some ⟨b, off, none⟩) n c) vc (partT W mask i) m vt wr)) (fun s46 _ => n - (intOf s46).toNat)
 case atStart => exact ⟨0, 0, .slice none 0 0, by omega, rfl, Lib.hid rfl, by omega, Lib.hid hL0⟩
 case round =>
  obtain ⟨i, m, vt, hi, rfl, hall, hm, hS⟩ := hrel
  by_cases hin : i < n
  ·obtain ⟨b1, o1, z, hA, _, hz, hcz⟩ := (HR.out.below hS.out.bel).int hin
   cases hA
   have HZ := Lib.hid hz
   have hzd : mask.getD i 0 = z := by rw [List.getD_eq_getElem?_getD, hz]; rfl
   have HZD := Lib.hid hzd
   clear hz hzd
   by_cases z1 : z < 0
   ·have hbad : AB = false := by
     rw [HAB.out, Bool.eq_false_iff]
     intro h
     have := List.all_eq_true.1 h z (List.mem_of_getElem? HZ.out)
     simp at this
     omega
    have HBAD := Lib.hid hbad
    clear hbad
    go_wp2
    go_ret2
    exact .inl ⟨HBAD.out, rfl, hS.out.bel⟩
   ·by_cases z2 : 15 < z
    ·have hbad : AB = false := by
      rw [HAB.out, Bool.eq_false_iff]
      intro h
      have := List.all_eq_true.1 h z (List.mem_of_getElem? HZ.out)
      simp at this
      omega
     have HBAD := Lib.hid hbad
     clear hbad
     go_wp2
     go_ret2
     exact .inl ⟨HBAD.out, rfl, hS.out.bel⟩
    ·go_wp2_with fail
     go_loopw [57] (fun s57 wr => ∃ (q m : Nat) (vt : Value), q ≤ 4 ∧ s57 = .int .i64 q ∧ m ≤ 4 * i + q ∧ Hid (LayS w W H (.slice (some ⟨b, off, none⟩) n c) vc (partT W mask i ++ cellK W mask i q) m vt wr)) (fun s57 _ => 4 - (intOf s57).toNat)
     case atStart => exact ⟨0, m, vt, by omega, rfl, by omega, Lib.hid (by have := hS.out; simpa [cellK] using this)⟩
     case round =>
      obtain ⟨q, m, vt, hq, rfl, hm, hS⟩ := hrel
      by_cases hq4 : q < 4
      ·have hqi : (q : Int) < 4 := by omega
       have hcs := cellK_succ W mask i q
       rw [HZD.out] at hcs
       cases hbq : bitB z q with
       | false =>
        have hbt : (bits .and .i64 (z / 2 ^ q) 1 == 1) = false := by
         rw [and1]
         have := of_decide_eq_false hbq
         simpa using this
        rw [hbq, if_neg (by decide), List.append_nil] at hcs
        have HCS := Lib.hid hcs
        clear hcs hbq
        go_wp2
        go_roundw
        case rel => exact ⟨q + 1, m, vt, by omega, by go_num, by omega, Lib.hid (by rw [HCS.out]; exact hS.out)⟩
        case measure => simp [intOf]; omega
       | true =>
        have hbt : (bits .and .i64 (z / 2 ^ q) 1 == 1) = true := by
         rw [and1]
         have := of_decide_eq_true hbq
         simpa using this
        rw [hbq, if_pos rfl] at hcs
        have HCS := Lib.hid hcs
        have bx := cell_of_blk hS.out.box 0
        simp only [List.getElem?_toArray, List.getElem?_cons_zero, List.getElem?_cons_succ] at bx
        have hWne : (W : Int) ≠ 0 := by omega
        have hWz : ((W : Int) == 0) = false := by simpa using hWne
        have hWn : ¬ W = 0 := by omega
        obtain ⟨ax, hax⟩ : ∃ ax, ax = i % W := ⟨_, rfl⟩
        obtain ⟨ay, hay⟩ : ∃ ay, ay = i / W := ⟨_, rfl⟩
        have hrm : (i : Int).tmod (W : Int) = (ax : Int) := by rw [hax]; rfl
        have hqm : IntKind.i64.wrap ((i : Int) / (W : Int)) = (ay : Int) := by
         have e : (i : Int) / (W : Int) = (ay : Int) := by rw [hay]; rfl
         have hle : ay ≤ i := by rw [hay]; exact Nat.div_le_self i W
         rw [e]
         exact IntWalk.i64_in _ (by omega)
        have hax64 : ax ≤ 64 := by rw [hax]; exact Nat.le_trans (Nat.mod_le _ _) (by omega)
        have hay64 : ay ≤ 64 := by rw [hay]; exact Nat.le_trans (Nat.div_le_self _ _) (by omega)
        have HAX := Lib.hid hax
        have HAY := Lib.hid hay
        clear hax hay
        have hne3 : wr.heap.size ≠ w.heap.size := by have := blk_lt hS.out.box; omega
        clear hcs hbq
        go_wp2_with fail
        have hS1 : wr.drew.cell? ⟨w.heap.size, 0, none⟩ = some (.int .i64 W) ∧ Below wr.heap.size wr wr.drew := ⟨bx, (Below.refl _ _).drew⟩
        go_region_held3 (fun w' => w'.cell? ⟨w.heap.size, 0, none⟩ = some (.int .i64 W) ∧ Below wr.heap.size wr w')
         (first
          | with_reducible exact hS1
          | with_reducible assumption
          | exact ⟨al_c bx _, (below_new wr _).drew⟩
          | exact ⟨far3c (al_c bx _) hne3 _ _ _, ((((below_new wr _).drew).setCell (p := ⟨wr.heap.size, 0, none⟩) (Nat.le_refl _) _).setCell (p := ⟨wr.heap.size, 1, none⟩) (Nat.le_refl _) _).setCell (p := ⟨wr.heap.size, 2, none⟩) (Nat.le_refl _) _⟩)
         (first
          | fail)
        rename_i hSS
        clear hSS hS1
        have kt := heap_alloc_new wr (.cells #[.int .i64 ax, .int .i64 ay, .int .i64 q] 44)
        have hba := (below_new wr (.cells #[.int .i64 ax, .int .i64 ay, .int .i64 q] 44)).drew
        have kt2 : (wr.alloc (.cells #[.int .i64 ax, .int .i64 ay, .int .i64 q] 44)).drew.heap[wr.heap.size]? = some (.cells #[.int .i64 ax, .int .i64 ay, .int .i64 q] 44 (0, 0)) := kt
        have hS5 := hS.out.below hba
        go_wp2_with fail
        generalize (wr.alloc (.cells #[.int .i64 ax, .int .i64 ay, .int .i64 q] 44)).drew = w5 at kt2 hba hS5 ⊢
        obtain ⟨L, hLL⟩ : ∃ L, L = partT W mask i ++ cellK W mask i q := ⟨_, rfl⟩
        have hnew : (((ax : Nat) : Int), ((ay : Nat) : Int), (q : Int)) ∉ L := by
         rw [hLL, HAX.out, HAY.out]
         exact new_tri (by omega) mask i q
        rw [← hLL] at hS5
        have HLLL := Lib.hid hLL
        have HS5 := Lib.hid hS5
        have HNEW := Lib.hid hnew
        have kp4 := hS5.pap.c4
        have kp5 := hS5.pap.c5
        have t0 := cell_of_blk kt2 0
        have t1 := cell_of_blk kt2 1
        have t2 := cell_of_blk kt2 2
        simp only [List.getElem?_toArray, List.getElem?_cons_zero, List.getElem?_cons_succ] at t0 t1 t2
        have hLlen : L.length ≤ 1000 := by
         rw [hLL]
         have := part_len W mask i q
         omega
        obtain ⟨A4, c4, hv4, hA4⟩ := own_sl0 hS5.own
        subst hv4
        clear hLL hS5 hnew
        go_still_tail 10, (by kernel_rfl)
        change wpList _ _ _ _ _ w5.drew
        go_wp2_with (at_mapUpdate; go_loud (refine wpList_putI (k := kT) rfl _ _ _ rfl HS5.out.pap.num.drew rfl (by unfold maxLen; omega) (((ax : Nat) : Int), ((ay : Nat) : Int), (q : Int)) (by simp only [kT, inR]; omega) (L.length : Int) rfl rfl (wf_of (by unfold inR; omega)) ?_); intro w6 hn6 hg6)
        have HN6 := Lib.hid hn6
        have HG6 := Lib.hid hg6
        clear hn6 hg6
        go_upto_region 15 with fail
        have hlen1 : L.length + 1 ≤ 2147483648 := by omega
        have hdist := HS5.out
        have hO6 := hdist.own6 HG6.out
        have hK6 := hdist.blk6 HG6.out
        have hR6 := hdist.lay6 HG6.out kt2 (numF_snoc HNEW.out ▸ HN6.out)
        have hszo : ∀ o, w.heap.size ≤ (w6.alloc o).drew.heap.size := fun o => by
         have := hR6.bel.size
         show w.heap.size ≤ (w6.alloc o).heap.size
         simp
         omega
        have hapart : ∀ k, (Value.slice A4 L.length c4).ownBlock = some k → k ≠ wr.heap.size := fun k hk => by
         have := (own_lt_of hS.out.own hk).2
         omega
        have happ := fun v2 w2 h1 h2 h3 => LayR.app (w := w) (W := W) (H := H) (vm := .slice (some ⟨b, off, none⟩) n c) (vc := vc) (L := L) (m := m + 1) (tb := wr.heap.size) (ax := ax) (ay := ay) (q := q) (vt := .slice A4 L.length c4) hR6 hK6 hO6 hapart v2 w2 (o := .cells #[.int .i64 ax, .int .i64 ay, .int .i64 q] 44) h1 h2 h3
        have HO6 := Lib.hid hO6
        have HK6 := Lib.hid hK6
        have HAPP := Lib.hid happ
        have HR6 := Lib.hid hR6
        have hte : triAt W i q = (((ax : Nat) : Int), ((ay : Nat) : Int), (q : Int)) := by
         rw [HAX.out, HAY.out]
         rfl
        have HTE := Lib.hid hte
        clear hdist hO6 hK6 hR6 hapart happ hte
        -- REGION15
        refine wp_region_inv (fun Lq aq WN => ∃ s : Nat → Value, aq = { tmps := #[.agg #[.int .i64 W, .int .i64 H, .slice (some ⟨b, off, none⟩) n c, vc], .pointer (some ⟨w.heap.size, 0, none⟩), u2, u3, .pointer (some ⟨w.heap.size + 1 + 1 + 1, 0, none⟩), .int .i64 i, .int .i64 z, .int .i64 q, .pointer (some ⟨wr.heap.size, 0, none⟩), .pointer (some ⟨w.heap.size, 0, none⟩), .int .i64 W, .bool false, .bool false, .pointer (some ⟨w.heap.size, 0, none⟩), .int .i64 W, .bool false, .bool false, .bool false, .pointer (some ⟨w.heap.size, 1, none⟩), .int .i64 H, .bool false, .bool false, .bool false, .pointer (some ⟨w.heap.size, 1, none⟩), .int .i64 H, .bool false, .bool false, .bool false, .pointer (some ⟨w.heap.size, 2, none⟩), .slice (some ⟨b, off, none⟩) n c, .int .i64 n, .pointer (some ⟨w.heap.size, 0, none⟩), .int .i64 W, .pointer (some ⟨w.heap.size, 1, none⟩), .int .i64 H, .int .i64 ((W : Int) * (H : Int)), .bool false, .bool false, .agg #[.int .i64 W, .int .i64 H, .slice (some ⟨b, off, none⟩) n c, vc], .map (some (w.heap.size + 1)), .map (some (w.heap.size + 1 + 1)), .agg #[.int .i64 W, .int .i64 H, .slice (some ⟨b, off, none⟩) n c, vc, .slice none 0 0, .map (some (w.heap.size + 1)), .map (some (w.heap.size + 1 + 1))], .pointer (some ⟨w.heap.size + 1 + 1 + 1, 0, none⟩), .pointer (some ⟨w.heap.size, 2, none⟩), .slice (some ⟨b, off, none⟩) n c, .int .i64 n, .int .i64 i, .bool true, .int .i64 i, .pointer (some ⟨b, off + i, none⟩), .int .i64 z, .int .i64 z, .bool false, .bool false, .int .i64 z, .bool false, .bool false, .int .i64 q, .bool true, .int .i64 q, .int .i64 z, .int .i64 q, .int .i64 (z / 2 ^ q), .int .i64 (bits .and .i64 (z / 2 ^ q) 1), .bool true, .int .i64 i, .pointer (some ⟨w.heap.size, 0, none⟩), .int .i64 W, .int .i64 ax, .int .i64 i, .pointer (some ⟨w.heap.size, 0, none⟩), .int .i64 W, .int .i64 ay, .int .i64 q, .agg #[.int .i64 ax, .int .i64 ay, .int .i64 q], .pointer (some ⟨w.heap.size + 1 + 1 + 1, 0, none⟩), .pointer (some ⟨w.heap.size + 1 + 1 + 1, 0, none⟩), .pointer (some ⟨w.heap.size + 1 + 1 + 1, 5, none⟩), .map (some (w.heap.size + 1)), .agg #[.int .i64 ax, .int .i64 ay, .int .i64 q], .pointer (some ⟨w.heap.size + 1 + 1 + 1, 0, none⟩), .pointer (some ⟨w.heap.size + 1 + 1 + 1, 0, none⟩), .pointer (some ⟨w.heap.size + 1 + 1 + 1, 4, none⟩), .slice A4 L.length c4, .int .i64 L.length, (s 0), (s 1), (s 2), (s 3), (s 4), (s 5), (s 6), (s 7), (s 8), (s 9), u95, u96, undef], defers := [] } ∧ Sv 11 [some (.pointer (some ⟨w.heap.size + 1 + 1 + 1, 0, none⟩)), some (.pointer (some ⟨w.heap.size + 1 + 1 + 1, 0, none⟩)), some (.pointer (some ⟨w.heap.size + 1 + 1 + 1, 0, none⟩)), some (.pointer (some ⟨w.heap.size + 1 + 1 + 1, 4, none⟩)), some (.slice A4 L.length c4), some (.agg #[.int .i64 ax, .int .i64 ay, .int .i64 q]), some (.slice (some ⟨w6.heap.size, 0, none⟩) 1 1), none, some (.pointer (some ⟨w.heap.size + 1 + 1 + 1, 0, none⟩)), some (.pointer (some ⟨w.heap.size + 1 + 1 + 1, 4, none⟩)), some (undef)] Lq s ∧ Chn11 Lq ∧ Stg (fun WN => WN = w6.drew) (fun WN => WN = (w6.alloc (.cells #[.int .i64 ax, .int .i64 ay, .int .i64 q] 44)).drew) (AppC w W H (.slice (some ⟨b, off, none⟩) n c) vc L (m + 1) wr.heap.size ax ay q (.slice A4 L.length c4)) (fun WN => ∃ v, AppD w W H (.slice (some ⟨b, off, none⟩) n c) vc L (m + 1) wr.heap.size ax ay q (.slice A4 L.length c4) v WN) (Lq.getD 6 false) (Lq.getD 7 false) (Lq.getD 10 false) (s 7) WN) (by kernel_rfl) ?_ ?_ ?_
        ·exact ⟨listF [u85, u86, u87, u88, u89, u90, u91, u92, u93, u94], rfl, Sv.start 11 _ _, chn11_start, rfl⟩
        ·intro Lq aq WN i0 hI hr
         obtain ⟨s, rfl, hv, hch, hst⟩ := hI
         have hi0 : i0 < 11 := ready_lt hr
         have HV := Lib.hid hv
         have HC := Lib.hid hch
         have HST2 := Lib.hid hst
         clear hv hch hst
         have hii : i0 = 0 ∨ i0 = 1 ∨ i0 = 2 ∨ i0 = 3 ∨ i0 = 4 ∨ i0 = 5 ∨ i0 = 6 ∨ i0 = 7 ∨ i0 = 8 ∨ i0 = 9 ∨ i0 = 10 := by omega
         clear hi0
         rcases hii with rfl | rfl | rfl | rfl | rfl | rfl | rfl | rfl | rfl | rfl | rfl
         ·have hno := off_of_no HV.out.sz (by decide) (mem_ready.1 hr).1
          clear hr
          refine wpOp_step rfl (fun K hK => ?_)
          go_simp
          refine hK _ _ ?_
          exact ⟨upd s 0 (.pointer (some ⟨w.heap.size + 1 + 1 + 1, 0, none⟩)), rfl, Sv.put HV.out (fun u hu => by cases hu; rfl), HC.out.keep (by decide) (by decide) (by decide), Stg.keep11 HST2.out (by decide) (by decide) (by decide) rfl⟩
         ·have hno := off_of_no HV.out.sz (by decide) (mem_ready.1 hr).1
          clear hr
          refine wpOp_step rfl (fun K hK => ?_)
          go_simp
          refine hK _ _ ?_
          exact ⟨upd s 1 (.pointer (some ⟨w.heap.size + 1 + 1 + 1, 0, none⟩)), rfl, Sv.put HV.out (fun u hu => by cases hu; rfl), HC.out.keep (by decide) (by decide) (by decide), Stg.keep11 HST2.out (by decide) (by decide) (by decide) rfl⟩
         ·have hno := off_of_no HV.out.sz (by decide) (mem_ready.1 hr).1
          have d1 := ready_dep hr (k := 1) (by kernel_rfl)
          clear hr
          have e1 : s 1 = .pointer (some ⟨w.heap.size + 1 + 1 + 1, 0, none⟩) := HV.out.v d1 rfl
          refine wpOp_step rfl (fun K hK => ?_)
          go_simp
          refine hK _ _ ?_
          exact ⟨upd (upd s 1 (.pointer (some ⟨w.heap.size + 1 + 1 + 1, 0, none⟩))) 2 (.pointer (some ⟨w.heap.size + 1 + 1 + 1, 0, none⟩)), rfl, Sv.put (HV.out.re (j := 1) (v := .pointer (some ⟨w.heap.size + 1 + 1 + 1, 0, none⟩)) e1) (fun u hu => by cases hu; rfl), HC.out.keep (by decide) (by decide) (by decide), Stg.keep11 HST2.out (by decide) (by decide) (by decide) rfl⟩
         ·have hno := off_of_no HV.out.sz (by decide) (mem_ready.1 hr).1
          have d2 := ready_dep hr (k := 2) (by kernel_rfl)
          clear hr
          have e2 : s 2 = .pointer (some ⟨w.heap.size + 1 + 1 + 1, 0, none⟩) := HV.out.v d2 rfl
          refine wpOp_step rfl (fun K hK => ?_)
          go_simp
          refine hK _ _ ?_
          exact ⟨upd (upd s 2 (.pointer (some ⟨w.heap.size + 1 + 1 + 1, 0, none⟩))) 3 (.pointer (some ⟨w.heap.size + 1 + 1 + 1, 4, none⟩)), rfl, Sv.put (HV.out.re (j := 2) (v := .pointer (some ⟨w.heap.size + 1 + 1 + 1, 0, none⟩)) e2) (fun u hu => by cases hu; rfl), HC.out.keep (by decide) (by decide) (by decide), Stg.keep11 HST2.out (by decide) (by decide) (by decide) rfl⟩
         ·have hno := off_of_no HV.out.sz (by decide) (mem_ready.1 hr).1
          have d3 := ready_dep hr (k := 3) (by kernel_rfl)
          clear hr
          have e3 : s 3 = .pointer (some ⟨w.heap.size + 1 + 1 + 1, 4, none⟩) := HV.out.v d3 rfl
          have h7 : Lq.getD 7 false = false := by
           cases h : Lq.getD 7 false with
           | false => rfl
           | true => rw [(HC.out.1 h).1] at hno; cases hno
          have h10 : Lq.getD 10 false = false := by
           cases h : Lq.getD 10 false with
           | false => rfl
           | true => rw [HC.out.2.1 h] at h7; cases h7
          have hbk : WN.heap[w.heap.size + 1 + 1 + 1]? = some (.cells #[.int .i64 W, .int .i64 H, .slice (some ⟨b, off, none⟩) n c, vc, .slice A4 L.length c4, .map (some (w.heap.size + 1)), .map (some (w.heap.size + 1 + 1))] 72 (0, 0)) := by
           have h := HST2.out
           rw [h7, h10] at h
           cases h6 : Lq.getD 6 false with
           | false => rw [h6] at h; have h2 : WN = w6.drew := h; rw [h2]; exact HK6.out
           | true => rw [h6] at h; have h2 : WN = (w6.alloc (.cells #[.int .i64 ax, .int .i64 ay, .int .i64 q] 44)).drew := h; rw [h2]; exact blk_alloc HK6.out _
          have bp := cell_of_blk hbk 4
          simp only [List.getElem?_toArray, List.getElem?_cons_zero, List.getElem?_cons_succ] at bp
          clear h7 h10 hbk
          refine wpOp_step rfl (fun K hK => ?_)
          go_simp
          refine hK _ _ ?_
          exact ⟨upd (upd s 3 (.pointer (some ⟨w.heap.size + 1 + 1 + 1, 4, none⟩))) 4 (.slice A4 L.length c4), rfl, Sv.put (HV.out.re (j := 3) (v := .pointer (some ⟨w.heap.size + 1 + 1 + 1, 4, none⟩)) e3) (fun u hu => by cases hu; rfl), HC.out.keep (by decide) (by decide) (by decide), Stg.keep11 HST2.out (by decide) (by decide) (by decide) rfl⟩
         ·have hno := off_of_no HV.out.sz (by decide) (mem_ready.1 hr).1
          clear hr
          have h6 : Lq.getD 6 false = false := by
           cases h : Lq.getD 6 false with
           | false => rfl
           | true => rw [HC.out.2.2 h] at hno; cases hno
          have h7 : Lq.getD 7 false = false := by
           cases h : Lq.getD 7 false with
           | false => rfl
           | true => rw [(HC.out.1 h).2] at h6; cases h6
          have h10 : Lq.getD 10 false = false := by
           cases h : Lq.getD 10 false with
           | false => rfl
           | true => rw [HC.out.2.1 h] at h7; cases h7
          have hw : WN = w6.drew := by
           have h := HST2.out
           rw [h6, h7, h10] at h
           exact h
          subst hw
          have ct0 : w6.drew.cell? ⟨wr.heap.size, 0, none⟩ = some (.int .i64 ax) := by have := cell_of_blk HR6.out.tri 0; simpa using this
          have ct1 : w6.drew.cell? ⟨wr.heap.size, 1, none⟩ = some (.int .i64 ay) := by have := cell_of_blk HR6.out.tri 1; simpa using this
          have ct2 : w6.drew.cell? ⟨wr.heap.size, 2, none⟩ = some (.int .i64 q) := by have := cell_of_blk HR6.out.tri 2; simpa using this
          refine wpOp_step rfl (fun K hK => ?_)
          go_simp
          refine hK _ _ ?_
          exact ⟨upd s 5 (.agg #[.int .i64 ax, .int .i64 ay, .int .i64 q]), rfl, Sv.put HV.out (fun u hu => by cases hu; rfl), HC.out.keep (by decide) (by decide) (by decide), Stg.keep11 HST2.out (by decide) (by decide) (by decide) rfl⟩
         ·have hno := off_of_no HV.out.sz (by decide) (mem_ready.1 hr).1
          have d5 := ready_dep hr (k := 5) (by kernel_rfl)
          clear hr
          have e5 : s 5 = .agg #[.int .i64 ax, .int .i64 ay, .int .i64 q] := HV.out.v d5 rfl
          have h7 : Lq.getD 7 false = false := by
           cases h : Lq.getD 7 false with
           | false => rfl
           | true => rw [(HC.out.1 h).2] at hno; cases hno
          have h10 : Lq.getD 10 false = false := by
           cases h : Lq.getD 10 false with
           | false => rfl
           | true => rw [HC.out.2.1 h] at h7; cases h7
          have hw : WN = w6.drew := by
           have h := HST2.out
           rw [hno, h7, h10] at h
           exact h
          subst hw
          refine wpOp_step rfl (fun K hK => ?_)
          go_simp
          refine hK _ _ ?_
          exact ⟨upd (upd s 5 (.agg #[.int .i64 ax, .int .i64 ay, .int .i64 q])) 6 (.slice (some ⟨w6.heap.size, 0, none⟩) 1 1), rfl, Sv.put (HV.out.re (j := 5) (v := .agg #[.int .i64 ax, .int .i64 ay, .int .i64 q]) e5) (fun u hu => by cases hu; rfl), ⟨fun h => absurd (show Lq.getD 7 false = true by rw [← h]; exact (set_other (by decide)).symm) (by rw [h7]; decide), fun h => absurd (show Lq.getD 10 false = true by rw [← h]; exact (set_other (by decide)).symm) (by rw [h10]; decide), fun _ => getD_set_true d5⟩, by rw [set_self HV.out.sz (by decide), set_other (by decide), set_other (by decide), h7, h10]; rfl⟩
         ·have hno := off_of_no HV.out.sz (by decide) (mem_ready.1 hr).1
          have d4 := ready_dep hr (k := 4) (by kernel_rfl)
          have d6 := ready_dep hr (k := 6) (by kernel_rfl)
          clear hr
          have e4 : s 4 = .slice A4 L.length c4 := HV.out.v d4 rfl
          have e6 : s 6 = .slice (some ⟨w6.heap.size, 0, none⟩) 1 1 := HV.out.v d6 rfl
          have h10 : Lq.getD 10 false = false := by
           cases h : Lq.getD 10 false with
           | false => rfl
           | true => rw [HC.out.2.1 h] at hno; cases hno
          have hw : WN = (w6.alloc (.cells #[.int .i64 ax, .int .i64 ay, .int .i64 q] 44)).drew := by
           have h := HST2.out
           rw [hno, d6, h10] at h
           exact h
          subst hw
          refine wpOp_step rfl (fun K hK => ?_)
          rw [e4, e6]
          refine step_app Tryz.underlying52 tri_info rfl (by decide) (by decide) rfl (.tmp 89) (.tmp 91) rfl w.heap.size (.slice A4 L.length c4) L.length (tcT L) [.int .i64 ax, .int .i64 ay, .int .i64 q] (by rfl) (HO6.out.alloc _) (hszo _) 1 w6.heap.size (by rfl) (new_blk _ rfl) rfl (tri_one _ _ _) hlen1 ?_
          intro v2 w2 hown3 hb2 hgr2
          have hTC := HAPP.out v2 w2 hown3 hb2 hgr2
          refine hK _ _ ?_
          exact ⟨upd (upd (upd s 4 (.slice A4 L.length c4)) 6 (.slice (some ⟨w6.heap.size, 0, none⟩) 1 1)) 7 v2, rfl, Sv.put ((HV.out.re (j := 4) (v := .slice A4 L.length c4) e4).re (j := 6) (v := .slice (some ⟨w6.heap.size, 0, none⟩) 1 1) e6) (fun u hu => by cases hu), ⟨fun _ => ⟨getD_set_true d4, getD_set_true d6⟩, fun _ => set_self HV.out.sz (by decide), fun h => getD_set_true (HC.out.2.2 d6)⟩, by rw [set_self HV.out.sz (by decide), set_other (by decide), set_other (by decide), h10, upd_eq, d6]; exact hTC⟩
         ·have hno := off_of_no HV.out.sz (by decide) (mem_ready.1 hr).1
          have d0 := ready_dep hr (k := 0) (by kernel_rfl)
          clear hr
          have e0 : s 0 = .pointer (some ⟨w.heap.size + 1 + 1 + 1, 0, none⟩) := HV.out.v d0 rfl
          refine wpOp_step rfl (fun K hK => ?_)
          go_simp
          refine hK _ _ ?_
          exact ⟨upd (upd s 0 (.pointer (some ⟨w.heap.size + 1 + 1 + 1, 0, none⟩))) 8 (.pointer (some ⟨w.heap.size + 1 + 1 + 1, 0, none⟩)), rfl, Sv.put (HV.out.re (j := 0) (v := .pointer (some ⟨w.heap.size + 1 + 1 + 1, 0, none⟩)) e0) (fun u hu => by cases hu; rfl), HC.out.keep (by decide) (by decide) (by decide), Stg.keep11 HST2.out (by decide) (by decide) (by decide) rfl⟩
         ·have hno := off_of_no HV.out.sz (by decide) (mem_ready.1 hr).1
          have d8 := ready_dep hr (k := 8) (by kernel_rfl)
          clear hr
          have e8 : s 8 = .pointer (some ⟨w.heap.size + 1 + 1 + 1, 0, none⟩) := HV.out.v d8 rfl
          refine wpOp_step rfl (fun K hK => ?_)
          go_simp
          refine hK _ _ ?_
          exact ⟨upd (upd s 8 (.pointer (some ⟨w.heap.size + 1 + 1 + 1, 0, none⟩))) 9 (.pointer (some ⟨w.heap.size + 1 + 1 + 1, 4, none⟩)), rfl, Sv.put (HV.out.re (j := 8) (v := .pointer (some ⟨w.heap.size + 1 + 1 + 1, 0, none⟩)) e8) (fun u hu => by cases hu; rfl), HC.out.keep (by decide) (by decide) (by decide), Stg.keep11 HST2.out (by decide) (by decide) (by decide) rfl⟩
         ·have hno := off_of_no HV.out.sz (by decide) (mem_ready.1 hr).1
          have d9 := ready_dep hr (k := 9) (by kernel_rfl)
          have d7 := ready_dep hr (k := 7) (by kernel_rfl)
          clear hr
          have e9 : s 9 = .pointer (some ⟨w.heap.size + 1 + 1 + 1, 4, none⟩) := HV.out.v d9 rfl
          have hC : AppC w W H (.slice (some ⟨b, off, none⟩) n c) vc L (m + 1) wr.heap.size ax ay q (.slice A4 L.length c4) (s 7) WN := by
           have h := HST2.out
           rw [hno, d7] at h
           exact h
          obtain ⟨g6, c6, e7⟩ := hC.f
          have HCC := Lib.hid hC
          have zc := cell_of_blk hC.b 4
          simp only [List.getElem?_toArray, List.getElem?_cons_zero, List.getElem?_cons_succ] at zc
          have zf := frozen_of_blk hC.b 4
          clear hC
          refine wpOp_step rfl (fun K hK => ?_)
          go_simp
          refine hK _ _ ?_
          exact ⟨upd (upd (upd s 9 (.pointer (some ⟨w.heap.size + 1 + 1 + 1, 4, none⟩))) 7 (.slice (some ⟨g6, 0, none⟩) (L.length + 1) c6)) 10 undef, rfl, Sv.put ((HV.out.re (j := 9) (v := .pointer (some ⟨w.heap.size + 1 + 1 + 1, 4, none⟩)) e9).re (j := 7) (v := .slice (some ⟨g6, 0, none⟩) (L.length + 1) c6) e7) (fun u hu => by cases hu; rfl), ⟨fun h => ⟨getD_set_true (HC.out.1 d7).1, getD_set_true (HC.out.1 d7).2⟩, fun _ => getD_set_true d7, fun h => getD_set_true (HC.out.2.2 (HC.out.1 d7).2)⟩, by rw [set_self HV.out.sz (by decide)]; exact ⟨_, (e7 ▸ HCC.out).store⟩⟩
        ·intro Lq aq WN hI hrd
         obtain ⟨s, ha2, hv, hch, hst⟩ := hI
         have hall := all_listedM hrd hv.sz (by kernel_rfl)
         rw [hall 10 (by decide)] at hst
         obtain ⟨v2, hD⟩ : ∃ v, AppD w W H (.slice (some ⟨b, off, none⟩) n c) vc L (m + 1) wr.heap.size ax ay q (.slice A4 L.length c4) v WN := hst
         have HD := Lib.hid hD
         clear hrd hv hch hall hD
         subst ha2
         go_wp2
         go_roundw
         case rel => exact ⟨q + 1, m + 1, v2, by omega, by go_num, by omega, Lib.hid (by rw [HCS.out, ← List.append_assoc, ← HLLL.out, HTE.out]; exact HD.out.lay)⟩
         case measure => simp [intOf]; omega
      ·obtain rfl : q = 4 := by omega
       have hnx : LayS w W H (.slice (some ⟨b, off, none⟩) n c) vc (partT W mask (i + 1)) m vt wr := by rw [partT_succ]; exact hS.out
       have hal : ((mask.take (i + 1)).all fun m => decide (0 ≤ m ∧ m ≤ 15)) = true := by
        rw [List.take_add_one, HZ.out, List.all_append, hall.out]
        simp
        omega
       have HNX := Lib.hid hnx
       have HAL := Lib.hid hal
       clear hnx hal
       go_wp2
       go_roundw
       case rel => exact ⟨i + 1, m, vt, by omega, by go_num, HAL, by omega, HNX⟩
       case measure => simp [intOf]; omega
  ·obtain rfl : i = n := by omega
   go_wp2
   go_ret2
   have h1 := hall.out
   rw [List.take_of_length_le (by rw [HL.out]; exact Nat.le_refl _)] at h1
   have h2 := hS.out
   rw [show partT W mask i = trisL W mask by unfold trisL; rw [HL.out]] at h2
   exact .inr ⟨HAB.out.trans h1, rfl, m, vt, h2⟩
end
end Go.Proofs.YtpkjekedgodccaaGreatDoor
