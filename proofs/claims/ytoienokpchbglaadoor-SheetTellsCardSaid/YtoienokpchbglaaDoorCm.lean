/- cmp.Compare, cmp.Or; comparing points, edges, triangles. -/
import Derived.Test.YtoienokpchbglaaDoorPl
import Derived.Sort.Grow
import Derived.Deep.DeepCutAuto
import Derived.Deep.RegionWith
import Derived.Deep.RegionHeld3
import Derived.StillTailTactics
namespace Go.Proofs.YtoienokpchbglaaDoor
set_option linter.unusedSimpArgs false
set_option linter.unusedVariables false
open Go.RowKit

theorem cmp_any (x y : Int) (w : World) :
    Calls Tryd.prog 97 #[.int .i64 x, .int .i64 y] w fun e w' => e = .returned (.int .i64 (cmpI x y)) ∧ w = w' := by
  by_cases h1 : x < y
  · have e : cmpI x y = -1 := by simp [cmpI, h1]
    rw [e]
    clear e
    go_enter Tryd.func97, Tryd.ntmps97
    go_wp2
    go_ret
    exact ⟨rfl, rfl⟩
  · by_cases h2 : y < x
    · have e : cmpI x y = 1 := by simp [cmpI, h1, h2]
      rw [e]
      clear e
      go_enter Tryd.func97, Tryd.ntmps97
      go_wp2
      go_ret
      exact ⟨rfl, rfl⟩
    · have e : cmpI x y = 0 := by simp [cmpI, h1, h2]
      rw [e]
      clear e
      go_enter Tryd.func97, Tryd.ntmps97
      go_wp2
      go_ret
      exact ⟨rfl, rfl⟩
def orL : List Int → Int
  | [] => 0
  | a :: l => orI a (orL l)
theorem orL_at {l : List Int} {k : Nat} {z : Int} (h : l[k]? = some z) : orL (l.drop k) = orI z (orL (l.drop (k + 1))) := by
  obtain ⟨h1, rfl⟩ := List.getElem?_eq_some_iff.1 h
  rw [List.drop_eq_getElem_cons h1]
  rfl
set_option maxHeartbeats 1600000 in
theorem or_any (g n c : Nat) (zs : List Int) (w : World) (h : Rd w 1 (some ⟨g, 0, none⟩) n (vis zs)) (hn : n ≤ 1000) :
    Calls Tryd.prog 84 #[.slice (some ⟨g, 0, none⟩) n c] w fun e w' => e = .returned (.int .i64 (orL zs)) ∧ w = w' := by
  have HL := Lib.hid h.ints_len
  obtain ⟨R, hR⟩ : ∃ R, R = orL zs := ⟨_, rfl⟩
  rw [← hR]
  have HR := Lib.hid hR
  clear hR
  go_enter Tryd.func84, Tryd.ntmps84
  go_wp2
  go_loopw [8] (fun i wr => ∃ k : Nat, k ≤ n ∧ i = .int .i64 k ∧ Hid (R = orL (zs.drop k)) ∧ w = wr) (fun i _ => n - (intOf i).toNat)
  case atStart => exact ⟨0, by omega, rfl, Lib.hid (by rw [List.drop_zero]; exact HR.out), rfl⟩
  case round =>
    obtain ⟨k, hk, rfl, hr, rfl⟩ := hrel
    by_cases hkn : k < n
    · obtain ⟨b, off, z, hA, hb, hz, hcz⟩ := h.int hkn
      cases hA
      rw [Nat.zero_add] at hcz
      have hat := orL_at hz
      have HA := Lib.hid (hr.out.trans hat)
      clear hat hz
      by_cases hz0 : z = 0
      · subst hz0
        have hnx : R = orL (zs.drop (k + 1)) := by rw [HA.out]; simp [orI]
        have HX := Lib.hid hnx
        clear hnx
        go_wp2
        go_roundw
        case rel => exact ⟨k + 1, by omega, by go_num, HX, trivial⟩
        case measure => simp [intOf]; omega
      · have hnx : R = z := by rw [HA.out]; simp [orI, hz0]
        have hne : (z != 0) = true := by simpa using hz0
        subst hnx
        go_wp2
        go_ret
        exact ⟨rfl, rfl⟩
    · obtain rfl : k = n := by omega
      have h0 : R = 0 := by
        rw [hr.out, List.drop_of_length_le (by rw [HL.out]; exact Nat.le_refl _)]
        rfl
      subst h0
      go_wp2
      go_ret
      exact ⟨rfl, rfl⟩
/-- Draws and new blocks: nothing else has turned. -/
def Gro (w w' : World) : Prop := ∃ q os, w' = Go.Sort.grow (w.drewN q) os
theorem Gro.refl (w : World) : Gro w w := ⟨0, #[], by simp [Go.Sort.grow, World.drewN]⟩
theorem Gro.alloc {w w' : World} (h : Gro w w') (o : Obj) : Gro w (w'.alloc o) := by
  obtain ⟨q, os, rfl⟩ := h
  exact ⟨q, os ++ #[o], by rw [Go.Sort.alloc_eq_grow, Go.Sort.grow_grow]⟩
theorem Gro.drewN {w w' : World} (h : Gro w w') (n : Nat) : Gro w (w'.drewN n) := by
  obtain ⟨q, os, rfl⟩ := h
  exact ⟨q + n, os, by simp [Go.Sort.grow, World.drewN, Nat.add_assoc]⟩
theorem Gro.drew {w w' : World} (h : Gro w w') : Gro w w'.drew := h.drewN 1
theorem Gro.trans {a b c : World} (h : Gro a b) (g : Gro b c) : Gro a c := by
  obtain ⟨q, os, rfl⟩ := h
  obtain ⟨p, ps, rfl⟩ := g
  exact ⟨q + p, os ++ ps, by simp [Go.Sort.grow, World.drewN, Nat.add_assoc, Array.append_assoc]⟩
theorem Gro.below {w w' : World} (h : Gro w w') : Below w.heap.size w w' := by
  obtain ⟨q, os, rfl⟩ := h
  exact ⟨rfl, rfl, rfl, by simp [Go.Sort.grow, World.drewN], fun k hk => by simp [Go.Sort.grow, World.drewN, Array.getElem?_append, hk]⟩
theorem orI_zero (a : Int) : orI a 0 = a := by unfold orI; split <;> simp_all
theorem or2 (a b : Int) : orL [a, b] = orI a b := by simp [orL, orI_zero]
theorem or3 (a b c : Int) : orL [a, b, c] = orI a (orI b c) := by simp [orL, orI_zero]
theorem lit_rd (w : World) (zs : List Int) (n : Nat) (hn : zs.length = n) : Rd (w.alloc (.cells (vis zs).toArray 3)) 1 (some ⟨w.heap.size, 0, none⟩) n (vis zs) :=
  ⟨by simp [hn], fun _ => ⟨w.heap.size, 0, rfl, by simp, fun j u hu => by rw [Nat.zero_add, cell_of_blk (heap_alloc_new w _) j]; simpa using hu⟩⟩
set_option maxRecDepth 100000 in
set_option maxHeartbeats 3200000 in
theorem cmpPoint_any (a b c d : Int) (w : World) :
    Calls Tryd.prog 76 #[aggP a b, aggP c d] w fun e w' => e = .returned (.int .i64 (cmpP a b c d)) ∧ Gro w w' := by
  have k0 := heap_alloc_new w (.cells #[.int .i64 a, .int .i64 b] 49)
  have k0' := blk_alloc k0 (.cells #[.int .i64 c, .int .i64 d] 49)
  have k1 := heap_alloc_new (w.alloc (.cells #[.int .i64 a, .int .i64 b] 49)) (.cells #[.int .i64 c, .int .i64 d] 49)
  have hg : Gro w ((w.alloc (.cells #[.int .i64 a, .int .i64 b] 49)).alloc (.cells #[.int .i64 c, .int .i64 d] 49)) := ((Gro.refl w).alloc _).alloc _
  have hz : (w.alloc (.cells #[.int .i64 a, .int .i64 b] 49)).heap.size = w.heap.size + 1 := by simp
  rw [hz] at k1
  have cO := fun (w1 : World) => or_any w1.heap.size 2 2 [cmpI a c, cmpI b d] (w1.alloc (.cells #[.int .i64 (cmpI a c), .int .i64 (cmpI b d)] 3)).drew (lit_rd w1 [cmpI a c, cmpI b d] 2 rfl).drew (by decide)
  rw [or2] at cO
  have hres : orI (cmpI a c) (cmpI b d) = cmpP a b c d := rfl
  rw [hres] at cO
  obtain ⟨R, hR⟩ : ∃ R, R = cmpP a b c d := ⟨_, rfl⟩
  rw [← hR] at cO ⊢
  have cA := fun (w1 : World) => cmp_any a c w1
  have cB := fun (w1 : World) => cmp_any b d w1
  obtain ⟨x, hx⟩ : ∃ x, x = cmpI a c := ⟨_, rfl⟩
  obtain ⟨y, hy⟩ : ∃ y, y = cmpI b d := ⟨_, rfl⟩
  rw [← hx] at cA
  rw [← hy] at cB
  simp only [← hx, ← hy] at cO
  have CO := Lib.hid cO
  have CA := Lib.hid cA
  have CB := Lib.hid cB
  clear cO cA cB hx hy hR hres hz
  go_enter Tryd.func76, Tryd.ntmps76
  go_upto_region 1 with fail
  generalize (w.alloc (.cells #[.int .i64 a, .int .i64 b] 49)).alloc (.cells #[.int .i64 c, .int .i64 d] 49) = w2 at k0' k1 hg ⊢
  have a0 := cell_of_blk k0' 0
  have a1 := cell_of_blk k0' 1
  have b0 := cell_of_blk k1 0
  have b1 := cell_of_blk k1 1
  simp only [List.getElem?_toArray, List.getElem?_cons_zero, List.getElem?_cons_succ] at a0 a1 b0 b1
  have hS : w2.drew.cell? ⟨w.heap.size, 0, none⟩ = some (.int .i64 a) ∧ w2.drew.cell? ⟨w.heap.size, 1, none⟩ = some (.int .i64 b) ∧ w2.drew.cell? ⟨w.heap.size + 1, 0, none⟩ = some (.int .i64 c) ∧ w2.drew.cell? ⟨w.heap.size + 1, 1, none⟩ = some (.int .i64 d) ∧ Gro w w2.drew := ⟨a0, a1, b0, b1, hg.drew⟩
  clear k0 k0' k1 a0 a1 b0 b1 hg
  go_region_held3 (fun w' => w'.cell? ⟨w.heap.size, 0, none⟩ = some (.int .i64 a) ∧ w'.cell? ⟨w.heap.size, 1, none⟩ = some (.int .i64 b) ∧ w'.cell? ⟨w.heap.size + 1, 0, none⟩ = some (.int .i64 c) ∧ w'.cell? ⟨w.heap.size + 1, 1, none⟩ = some (.int .i64 d) ∧ Gro w w')
    (first
      | with_reducible exact hS
      | with_reducible assumption
      | (go_split_ands; exact ⟨al_c ‹_› _, al_c ‹_› _, al_c ‹_› _, al_c ‹_› _, Gro.alloc ‹_› _⟩))
    (first
      | ((with_reducible refine (CA.out _).mono ?_); rintro e wc ⟨he, hw⟩; subst he; subst hw)
      | ((with_reducible refine (CB.out _).mono ?_); rintro e wc ⟨he, hw⟩; subst he; subst hw)
      | ((with_reducible refine (CO.out _).mono ?_); rintro e wc ⟨he, hw⟩; subst he; subst hw))
  rename_i hH
  go_wp2
  go_ret
  exact ⟨rfl, hH.2.2.2.2⟩
end Go.Proofs.YtoienokpchbglaaDoor
