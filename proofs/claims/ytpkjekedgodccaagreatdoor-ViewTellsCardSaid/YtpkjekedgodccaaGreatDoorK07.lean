/- Comparing edges, triangles. Contracts of the library laid at this dump (printed by the kit's lay-plain.mjs): slices.SortFunc[[]pleat/api.Tri,pleat/api.Tri].. slices.SortFunc over triangles.. -/
import Derived.Test.YtpkjekedgodccaaGreatDoorK06
import Derived.Shelf.SlSortCmp.WholeK
import Derived.Ground.SlsfProg
import Derived.Test.YtpkjekedgodccaaGreatDoorProg
import Derived.Shelf.SlSortCmp.NoneTotal
namespace Go.Proofs.YtpkjekedgodccaaGreatDoor
set_option linter.unusedSimpArgs false
set_option linter.unusedVariables false
section
open Go.RowKit
set_option maxRecDepth 100000 in
set_option maxHeartbeats 6400000 in
theorem cmpEdge_any (a b c d a1 b1 c1 d1 : Int) (w : World) :
  Calls Tryz.prog 54 #[.agg #[.int .i64 a, .int .i64 b, .int .i64 c, .int .i64 d], .agg #[.int .i64 a1, .int .i64 b1, .int .i64 c1, .int .i64 d1]] w fun e w' => e = .returned (.int .i64 (cmpE (a, b, c, d) (a1, b1, c1, d1))) ∧ Gro w w' := by
 have k0 := heap_alloc_new w (.cells #[.int .i64 a, .int .i64 b, .int .i64 c, .int .i64 d] 100)
 have k0' := blk_alloc k0 (.cells #[.int .i64 a1, .int .i64 b1, .int .i64 c1, .int .i64 d1] 100)
 have k1 := heap_alloc_new (w.alloc (.cells #[.int .i64 a, .int .i64 b, .int .i64 c, .int .i64 d] 100)) (.cells #[.int .i64 a1, .int .i64 b1, .int .i64 c1, .int .i64 d1] 100)
 have hg : Gro w ((w.alloc (.cells #[.int .i64 a, .int .i64 b, .int .i64 c, .int .i64 d] 100)).alloc (.cells #[.int .i64 a1, .int .i64 b1, .int .i64 c1, .int .i64 d1] 100)) := ((Gro.refl w).alloc _).alloc _
 have hz : (w.alloc (.cells #[.int .i64 a, .int .i64 b, .int .i64 c, .int .i64 d] 100)).heap.size = w.heap.size + 1 := by simp
 rw [hz] at k1
 have cO := fun (w1 : World) => or_any w1.heap.size 2 2 [cmpP a b a1 b1, cmpP c d c1 d1] (w1.alloc (.cells #[.int .i64 (cmpP a b a1 b1), .int .i64 (cmpP c d c1 d1)] 3)) (lit_rd w1 [cmpP a b a1 b1, cmpP c d c1 d1] 2 rfl) (by decide)
 rw [or2] at cO
 have hres : orI (cmpP a b a1 b1) (cmpP c d c1 d1) = cmpE (a, b, c, d) (a1, b1, c1, d1) := rfl
 rw [hres] at cO
 obtain ⟨R, hR⟩ : ∃ R, R = cmpE (a, b, c, d) (a1, b1, c1, d1) := ⟨_, rfl⟩
 rw [← hR] at cO ⊢
 have fc0 := fun (w1 : World) => cmpPoint_any a b a1 b1 w1
 have fc1 := fun (w1 : World) => cmpPoint_any c d c1 d1 w1
 obtain ⟨x, hx⟩ : ∃ x, x = cmpP a b a1 b1 := ⟨_, rfl⟩
 rw [← hx] at fc0
 obtain ⟨y, hy⟩ : ∃ x, x = cmpP c d c1 d1 := ⟨_, rfl⟩
 rw [← hy] at fc1
 simp only [← hx, ← hy] at cO
 have CO := Lib.hid cO
 have C0 := Lib.hid fc0
 have C1 := Lib.hid fc1
 clear cO fc0 hx fc1 hy hR hres hz
 go_enter Tryz.func54, Tryz.ntmps54
 go_upto_region 1 with fail
 generalize (w.alloc (.cells #[.int .i64 a, .int .i64 b, .int .i64 c, .int .i64 d] 100)).alloc (.cells #[.int .i64 a1, .int .i64 b1, .int .i64 c1, .int .i64 d1] 100) = w2 at k0' k1 hg ⊢
 have q00 := cell_of_blk k0' 0
 have q01 := cell_of_blk k0' 1
 have q02 := cell_of_blk k0' 2
 have q03 := cell_of_blk k0' 3
 have q10 := cell_of_blk k1 0
 have q11 := cell_of_blk k1 1
 have q12 := cell_of_blk k1 2
 have q13 := cell_of_blk k1 3
 simp only [List.getElem?_toArray, List.getElem?_cons_zero, List.getElem?_cons_succ] at q00 q01 q02 q03 q10 q11 q12 q13
 have hS : w2.drew.cell? ⟨w.heap.size, 0, none⟩ = some (.int .i64 a) ∧ w2.drew.cell? ⟨w.heap.size, 1, none⟩ = some (.int .i64 b) ∧ w2.drew.cell? ⟨w.heap.size, 2, none⟩ = some (.int .i64 c) ∧ w2.drew.cell? ⟨w.heap.size, 3, none⟩ = some (.int .i64 d) ∧ w2.drew.cell? ⟨w.heap.size + 1, 0, none⟩ = some (.int .i64 a1) ∧ w2.drew.cell? ⟨w.heap.size + 1, 1, none⟩ = some (.int .i64 b1) ∧ w2.drew.cell? ⟨w.heap.size + 1, 2, none⟩ = some (.int .i64 c1) ∧ w2.drew.cell? ⟨w.heap.size + 1, 3, none⟩ = some (.int .i64 d1) ∧ Gro w w2.drew := ⟨q00, q01, q02, q03, q10, q11, q12, q13, hg.drew⟩
 clear k0 k0' k1 q00 q01 q02 q03 q10 q11 q12 q13 hg
 go_region_held3 (fun w' => w'.cell? ⟨w.heap.size, 0, none⟩ = some (.int .i64 a) ∧ w'.cell? ⟨w.heap.size, 1, none⟩ = some (.int .i64 b) ∧ w'.cell? ⟨w.heap.size, 2, none⟩ = some (.int .i64 c) ∧ w'.cell? ⟨w.heap.size, 3, none⟩ = some (.int .i64 d) ∧ w'.cell? ⟨w.heap.size + 1, 0, none⟩ = some (.int .i64 a1) ∧ w'.cell? ⟨w.heap.size + 1, 1, none⟩ = some (.int .i64 b1) ∧ w'.cell? ⟨w.heap.size + 1, 2, none⟩ = some (.int .i64 c1) ∧ w'.cell? ⟨w.heap.size + 1, 3, none⟩ = some (.int .i64 d1) ∧ Gro w w')
  (first
   | with_reducible exact hS
   | with_reducible assumption
   | (go_split_ands; exact ⟨al_c ‹_› _, al_c ‹_› _, al_c ‹_› _, al_c ‹_› _, al_c ‹_› _, al_c ‹_› _, al_c ‹_› _, al_c ‹_› _, Gro.alloc ‹_› _⟩)
   | (go_split_ands; exact ⟨sd ‹_› hbc.below, sd ‹_› hbc.below, sd ‹_› hbc.below, sd ‹_› hbc.below, sd ‹_› hbc.below, sd ‹_› hbc.below, sd ‹_› hbc.below, sd ‹_› hbc.below, Gro.trans ‹_› hbc⟩))
  (first
   | ((with_reducible refine (C0.out _).mono ?_); rintro e wc ⟨he, hbc⟩; subst he)
   | ((with_reducible refine (C1.out _).mono ?_); rintro e wc ⟨he, hbc⟩; subst he)
   | ((with_reducible refine (CO.out _).mono ?_); rintro e wc ⟨he, hw⟩; subst he; subst hw))
 rename_i hH
 go_wp2
 go_ret
 exact ⟨rfl, hH.2.2.2.2.2.2.2.2⟩
set_option maxRecDepth 100000 in
set_option maxHeartbeats 6400000 in
theorem cmpTri_any (a b c a1 b1 c1 : Int) (w : World) :
  Calls Tryz.prog 67 #[.agg #[.int .i64 a, .int .i64 b, .int .i64 c], .agg #[.int .i64 a1, .int .i64 b1, .int .i64 c1]] w fun e w' => e = .returned (.int .i64 (cmpT (a, b, c) (a1, b1, c1))) ∧ Gro w w' := by
 have k0 := heap_alloc_new w (.cells #[.int .i64 a, .int .i64 b, .int .i64 c] 44)
 have k0' := blk_alloc k0 (.cells #[.int .i64 a1, .int .i64 b1, .int .i64 c1] 44)
 have k1 := heap_alloc_new (w.alloc (.cells #[.int .i64 a, .int .i64 b, .int .i64 c] 44)) (.cells #[.int .i64 a1, .int .i64 b1, .int .i64 c1] 44)
 have hg : Gro w ((w.alloc (.cells #[.int .i64 a, .int .i64 b, .int .i64 c] 44)).alloc (.cells #[.int .i64 a1, .int .i64 b1, .int .i64 c1] 44)) := ((Gro.refl w).alloc _).alloc _
 have hz : (w.alloc (.cells #[.int .i64 a, .int .i64 b, .int .i64 c] 44)).heap.size = w.heap.size + 1 := by simp
 rw [hz] at k1
 have cO := fun (w1 : World) => or_any w1.heap.size 3 3 [cmpI b b1, cmpI a a1, cmpI c c1] (w1.alloc (.cells #[.int .i64 (cmpI b b1), .int .i64 (cmpI a a1), .int .i64 (cmpI c c1)] 3)).drew (lit_rd w1 [cmpI b b1, cmpI a a1, cmpI c c1] 3 rfl).drew (by decide)
 rw [or3] at cO
 have hres : orI (cmpI b b1) (orI (cmpI a a1) (cmpI c c1)) = cmpT (a, b, c) (a1, b1, c1) := rfl
 rw [hres] at cO
 obtain ⟨R, hR⟩ : ∃ R, R = cmpT (a, b, c) (a1, b1, c1) := ⟨_, rfl⟩
 rw [← hR] at cO ⊢
 have fc0 := fun (w1 : World) => cmp_any b b1 w1
 have fc1 := fun (w1 : World) => cmp_any a a1 w1
 have fc2 := fun (w1 : World) => cmp_any c c1 w1
 obtain ⟨x, hx⟩ : ∃ x, x = cmpI b b1 := ⟨_, rfl⟩
 rw [← hx] at fc0
 obtain ⟨y, hy⟩ : ∃ x, x = cmpI a a1 := ⟨_, rfl⟩
 rw [← hy] at fc1
 obtain ⟨v, hv⟩ : ∃ x, x = cmpI c c1 := ⟨_, rfl⟩
 rw [← hv] at fc2
 simp only [← hx, ← hy, ← hv] at cO
 have CO := Lib.hid cO
 have C0 := Lib.hid fc0
 have C1 := Lib.hid fc1
 have C2 := Lib.hid fc2
 clear cO fc0 hx fc1 hy fc2 hv hR hres hz
 go_enter Tryz.func67, Tryz.ntmps67
 go_upto_region 1 with fail
 generalize (w.alloc (.cells #[.int .i64 a, .int .i64 b, .int .i64 c] 44)).alloc (.cells #[.int .i64 a1, .int .i64 b1, .int .i64 c1] 44) = w2 at k0' k1 hg ⊢
 have q00 := cell_of_blk k0' 0
 have q01 := cell_of_blk k0' 1
 have q02 := cell_of_blk k0' 2
 have q10 := cell_of_blk k1 0
 have q11 := cell_of_blk k1 1
 have q12 := cell_of_blk k1 2
 simp only [List.getElem?_toArray, List.getElem?_cons_zero, List.getElem?_cons_succ] at q00 q01 q02 q10 q11 q12
 have hS : w2.drew.cell? ⟨w.heap.size, 0, none⟩ = some (.int .i64 a) ∧ w2.drew.cell? ⟨w.heap.size, 1, none⟩ = some (.int .i64 b) ∧ w2.drew.cell? ⟨w.heap.size, 2, none⟩ = some (.int .i64 c) ∧ w2.drew.cell? ⟨w.heap.size + 1, 0, none⟩ = some (.int .i64 a1) ∧ w2.drew.cell? ⟨w.heap.size + 1, 1, none⟩ = some (.int .i64 b1) ∧ w2.drew.cell? ⟨w.heap.size + 1, 2, none⟩ = some (.int .i64 c1) ∧ Gro w w2.drew := ⟨q00, q01, q02, q10, q11, q12, hg.drew⟩
 clear k0 k0' k1 q00 q01 q02 q10 q11 q12 hg
 go_region_held3 (fun w' => w'.cell? ⟨w.heap.size, 0, none⟩ = some (.int .i64 a) ∧ w'.cell? ⟨w.heap.size, 1, none⟩ = some (.int .i64 b) ∧ w'.cell? ⟨w.heap.size, 2, none⟩ = some (.int .i64 c) ∧ w'.cell? ⟨w.heap.size + 1, 0, none⟩ = some (.int .i64 a1) ∧ w'.cell? ⟨w.heap.size + 1, 1, none⟩ = some (.int .i64 b1) ∧ w'.cell? ⟨w.heap.size + 1, 2, none⟩ = some (.int .i64 c1) ∧ Gro w w')
  (first
   | with_reducible exact hS
   | with_reducible assumption
   | (go_split_ands; exact ⟨al_c ‹_› _, al_c ‹_› _, al_c ‹_› _, al_c ‹_› _, al_c ‹_› _, al_c ‹_› _, Gro.alloc ‹_› _⟩)
   | (go_split_ands; exact ⟨sd ‹_› hbc.below, sd ‹_› hbc.below, sd ‹_› hbc.below, sd ‹_› hbc.below, sd ‹_› hbc.below, sd ‹_› hbc.below, Gro.trans ‹_› hbc⟩))
  (first
   | ((with_reducible refine (C0.out _).mono ?_); rintro e wc ⟨he, hw⟩; subst he; subst hw)
   | ((with_reducible refine (C1.out _).mono ?_); rintro e wc ⟨he, hw⟩; subst he; subst hw)
   | ((with_reducible refine (C2.out _).mono ?_); rintro e wc ⟨he, hw⟩; subst he; subst hw)
   | ((with_reducible refine (CO.out _).mono ?_); rintro e wc ⟨he, hw⟩; subst he; subst hw))
 rename_i hH
 go_wp2
 go_ret
 exact ⟨rfl, hH.2.2.2.2.2.2⟩
end
section
open Go.Shelf
def sortT_ren : Go.Shelf.Ren := ⟨fun | 6 => 89 | 15 => 93 | 14 => 92 | 28 => 102 | 29 => 103 | 20 => 94 | 21 => 95 | 22 => 96 | 23 => 97 | 24 => 98 | 25 => 99 | 26 => 100 | 27 => 101 | 46 => 104 | 47 => 105 | 48 => 106 | 49 => 107 | 50 => 108 | 57 => 109 | n => n, fun | 22 => 52 | 24 => 44 | 25 => 131 | 3 => 3 | 39 => 154 | 0 => 0 | 53 => 166 | 55 => 168 | 4 => 4 | 46 => 160 | 45 => 159 | 50 => 128 | 5 => 5 | 9 => 9 | 66 => 169 | 70 => 173 | 76 => 175 | 77 => 176 | n => n, fun | n => n⟩
theorem sortT : Go.Proofs.SlLaysF0.n6 Tryz.prog sortT_ren := {
 mixed := by kernel_rfl
 f6 := ⟨Tryz.f89.name, by decide, Tryz.func89.trans (congrArg some (by kernel_rfl))⟩
 f14 := ⟨Tryz.f92.name, by decide, Tryz.func92.trans (congrArg some (by kernel_rfl))⟩
 f15 := Tryz.func93.trans (congrArg some (by kernel_rfl))
 f20 := ⟨Tryz.f94.name, by decide, Tryz.func94.trans (congrArg some (by kernel_rfl))⟩
 f21 := ⟨Tryz.f95.name, by decide, Tryz.func95.trans (congrArg some (by kernel_rfl))⟩
 f22 := ⟨Tryz.f96.name, by decide, Tryz.func96.trans (congrArg some (by kernel_rfl))⟩
 f23 := ⟨Tryz.f97.name, by decide, Tryz.func97.trans (congrArg some (by kernel_rfl))⟩
 f24 := ⟨Tryz.f98.name, by decide, Tryz.func98.trans (congrArg some (by kernel_rfl))⟩
 f25 := ⟨Tryz.f99.name, by decide, Tryz.func99.trans (congrArg some (by kernel_rfl))⟩
 f26 := ⟨Tryz.f100.name, by decide, Tryz.func100.trans (congrArg some (by kernel_rfl))⟩
 f27 := ⟨Tryz.f101.name, by decide, Tryz.func101.trans (congrArg some (by kernel_rfl))⟩
 f28 := Tryz.func102.trans (congrArg some (by kernel_rfl))
 f29 := Tryz.func103.trans (congrArg some (by kernel_rfl))
 f46 := ⟨Tryz.f104.name, by decide, Tryz.func104.trans (congrArg some (by kernel_rfl))⟩
 f47 := Tryz.func105.trans (congrArg some (by kernel_rfl))
 f48 := Tryz.func106.trans (congrArg some (by kernel_rfl))
 f49 := ⟨Tryz.f107.name, by decide, Tryz.func107.trans (congrArg some (by kernel_rfl))⟩
 f50 := ⟨Tryz.f108.name, by decide, Tryz.func108.trans (congrArg some (by kernel_rfl))⟩
 f57 := ⟨Tryz.f109.name, by decide, Tryz.func109.trans (congrArg some (by kernel_rfl))⟩
 t0 := Tryz.underlying0
 a0 := Tryz.isAgg0
 z0 := Tryz.sizeOf0
 v0 := Tryz.zeroValue0
 t3 := Tryz.underlying3
 a3 := Tryz.isAgg3
 z3 := Tryz.sizeOf3
 v3 := Tryz.zeroValue3
 t4 := Tryz.underlying4
 a4 := Tryz.isAgg4
 z4 := Tryz.sizeOf4
 v4 := Tryz.zeroValue4
 t5 := Tryz.underlying5
 a5 := Tryz.isAgg5
 z5 := Tryz.sizeOf5
 v5 := Tryz.zeroValue5
 t9 := Tryz.underlying9
 a9 := Tryz.isAgg9
 z9 := Tryz.sizeOf9
 v9 := Tryz.zeroValue9
 t22 := Tryz.underlying52
 a22 := Tryz.isAgg52
 z22 := Tryz.sizeOf52
 v22 := Tryz.zeroValue52
 t25 := Tryz.underlying131
 a25 := Tryz.isAgg131
 z25 := Tryz.sizeOf131
 v25 := Tryz.zeroValue131
 t39 := Tryz.underlying154
 a39 := Tryz.isAgg154
 z39 := Tryz.sizeOf154
 v39 := Tryz.zeroValue154
 t45 := Tryz.underlying159
 a45 := Tryz.isAgg159
 z45 := Tryz.sizeOf159
 v45 := Tryz.zeroValue159
 t46 := Tryz.underlying160
 a46 := Tryz.isAgg160
 z46 := Tryz.sizeOf160
 v46 := Tryz.zeroValue160
 t50 := Tryz.underlying128
 a50 := Tryz.isAgg128
 z50 := Tryz.sizeOf128
 v50 := Tryz.zeroValue128
 t53 := Tryz.underlying166
 a53 := Tryz.isAgg166
 z53 := Tryz.sizeOf166
 v53 := Tryz.zeroValue166
 t55 := Tryz.underlying168
 a55 := Tryz.isAgg168
 z55 := Tryz.sizeOf168
 v55 := Tryz.zeroValue168
 t66 := Tryz.underlying169
 a66 := Tryz.isAgg169
 z66 := Tryz.sizeOf169
 v66 := Tryz.zeroValue169
 t70 := Tryz.underlying173
 a70 := Tryz.isAgg173
 z70 := Tryz.sizeOf173
 v70 := Tryz.zeroValue173
 t76 := Tryz.underlying175
 a76 := Tryz.isAgg175
 z76 := Tryz.sizeOf175
 v76 := Tryz.zeroValue175
 t77 := Tryz.underlying176
 a77 := Tryz.isAgg176
 z77 := Tryz.sizeOf176
 v77 := Tryz.zeroValue176 }
end
section
open Go.RowKit Go.Sort Go.Shelf
theorem heap_sw {α : Type} [Inhabited α] (enc : α → Value) {w : World} {g n : Nat} {os : Array Obj} {cur : Array Value} {e : TypeId} {fr : Nat × Nat} (d : Array α) (hb : w.heap[g]? = some (.cells cur e fr)) :
  (sortWorld enc w g 0 n d os).heap[g]? = some (.cells (putCells enc 0 d cur) e fr) := by
 unfold sortWorld
 have hg : g < w.heap.size := (Array.getElem?_eq_some_iff.1 hb).1
 rw [heap_grow_old _ _ (by simpa using hg)]
 simp [putRow, mapBlock, Sort.ahead, Array.getElem?_modify, hb, onCells]
theorem grownBy_sw {α : Type} [Inhabited α] (enc : α → Value) (w : World) (g n : Nat) (os : Array Obj) (d : Array α) : w.grownBy (sortWorld enc w g 0 n d os) (some g) := by
 unfold sortWorld
 refine ⟨rfl, rfl, rfl, by simp, fun k hk hne => ?_⟩
 rw [heap_grow_old _ _ (by simpa using hk)]
 have : g ≠ k := fun e => hne (by rw [e])
 simp [putRow, mapBlock, Sort.ahead, Array.getElem?_modify, this]
theorem holds_row {α : Type} [Inhabited α] {enc : α → Value} {w : World} {g : Nat} {cur : Array Value} {e : TypeId} {ss : List α} (hb : w.heap[g]? = some (.cells cur e (0, 0))) (ht : cur.toList.take ss.length = ss.map enc) : Holds enc w g 0 ss.toArray := by
 intro j hj
 have hj' : j < ss.length := by simpa using hj
 refine ⟨?_, by simp [World.frozen?, hb]⟩
 have h1 : (cur.toList.take ss.length)[j]? = (ss.map enc)[j]? := by rw [ht]
 rw [List.getElem?_take_of_lt hj'] at h1
 simp only [World.cell?, hb, Nat.zero_add]
 simp only [Option.isSome_none, Bool.false_eq_true, if_false]
 rw [← Array.getElem?_toList, h1]
 simp [hj']
theorem take_putR {α : Type} [Inhabited α] (enc : α → Value) (cur : Array Value) (ts : Array α) (h : ts.size ≤ cur.size) : (putCells enc 0 ts cur).toList.take ts.size = ts.toList.map enc := by
 apply List.ext_getElem?
 intro j
 by_cases hj : j < ts.size
 ·rw [List.getElem?_take_of_lt hj, Array.getElem?_toList]
  simp [putCells, hj, show j < cur.size by omega]
 ·rw [List.getElem?_take_eq_none (by omega), List.getElem?_eq_none (by simp; omega)]
def encT (t : T3) : List Value := [.int .i64 t.1, .int .i64 t.2.1, .int .i64 t.2.2]
theorem tcT_at : ∀ (l : List T3) (i j : Nat) (t : T3), l[i]? = some t → j < 3 → (tcT l)[3 * i + j]? = (encT t)[j]?
 | [], i, j, t, h, _ => by simp at h
 | a :: l, 0, j, t, h, hj => by
  simp at h
  subst h
  simp only [tcT, List.flatMap_cons, Nat.mul_zero, Nat.zero_add]
  rw [List.getElem?_append_left (by simpa using hj)]
  rfl
 | a :: l, i + 1, j, t, h, hj => by
  rw [List.getElem?_cons_succ] at h
  have ih := tcT_at l i j t h hj
  simp only [tcT, List.flatMap_cons] at ih ⊢
  rw [List.getElem?_append_right (by simp; omega)]
  simp only [List.length_cons, List.length_nil]
  rw [show 3 * (i + 1) + j - (0 + 1 + 1 + 1) = 3 * i + j by omega]
  exact ih
theorem flat_tcT (l : List T3) : flatK encT 3 l.toArray = (tcT l).toArray := by
 apply Array.ext_getElem?
 intro j
 by_cases hj : j < l.length * 3
 ·have hd : j / 3 < l.length := by omega
  have h1 := tcT_at l (j / 3) (j % 3) (l[j / 3]) (List.getElem?_eq_getElem hd) (Nat.mod_lt _ (by decide))
  rw [show 3 * (j / 3) + j % 3 = j by omega] at h1
  have hs : j < (flatK encT 3 l.toArray).size := by simpa using hj
  have h2 := get_flatK encT 3 l.toArray j (by simpa using hj)
  rw [getElem!_pos (flatK encT 3 l.toArray) j hs, getElem!_pos l.toArray (j / 3) (by simpa using hd)] at h2
  rw [Array.getElem?_eq_getElem hs, h2, List.getElem?_toArray, h1]
  have h3 : j % 3 < 3 := Nat.mod_lt _ (by decide)
  have h4 : j % 3 = 0 ∨ j % 3 = 1 ∨ j % 3 = 2 := by omega
  simp only [List.getElem_toArray]
  rcases h4 with h4 | h4 | h4 <;> rw [h4] <;> rfl
 ·rw [Array.getElem?_eq_none (by simp; omega), List.getElem?_toArray, List.getElem?_eq_none (by rw [tcT_len]; omega)]
theorem swoT : SWO (ltOf cmpT) where
 irrefl x := decide_eq_false (fun h => triLt_irrefl _ ((cmpT_lt _ _).1 h))
 trans x y z h1 h2 := decide_eq_true ((cmpT_lt _ _).2 (triLt_trans ((cmpT_lt _ _).1 (of_decide_eq_true h1)) ((cmpT_lt _ _).1 (of_decide_eq_true h2))))
 ntrans x y z h1 h2 := by
  have n1 : ¬ triLt x y := fun h => of_decide_eq_false h1 ((cmpT_lt _ _).2 h)
  have n2 : ¬ triLt y z := fun h => of_decide_eq_false h2 ((cmpT_lt _ _).2 h)
  refine decide_eq_false fun h => ?_
  have h3 := (cmpT_lt _ _).1 h
  unfold triLt at *
  omega
theorem totT (x y : T3) (h1 : ltOf cmpT x y = false) (h2 : ltOf cmpT y x = false) : x = y := by
 rcases triLt_tri x y with h | h | h
 ·exact absurd ((cmpT_lt _ _).2 h) (of_decide_eq_false h1)
 ·exact h
 ·exact absurd ((cmpT_lt _ _).2 h) (of_decide_eq_false h2)
def srtT (l : List T3) : List T3 := l.mergeSort fun x y => !(ltOf cmpT) y x
theorem srtT_perm (l : List T3) : (srtT l).Perm l := List.mergeSort_perm _ _
theorem srtT_sorted {l : List T3} (h : l.Nodup) : (srtT l).Pairwise triLt := by
 have h1 := List.pairwise_mergeSort (le := fun x y : T3 => !(ltOf cmpT) y x) (fun a b c h1 h2 => by
  simp only [Bool.not_eq_true'] at h1 h2 ⊢
  exact swoT.ntrans _ _ _ h2 h1) (fun a b => by
  by_cases h : ltOf cmpT b a = true
  ·have : ltOf cmpT a b = false := by
    refine decide_eq_false fun h2 => ?_
    exact triLt_irrefl _ (triLt_trans ((cmpT_lt _ _).1 (of_decide_eq_true h)) ((cmpT_lt _ _).1 h2))
   simp [this]
  ·simp [h]) l
 have h2 : (srtT l).Nodup := (srtT_perm l).nodup_iff.2 h
 unfold srtT at h2 ⊢
 refine (h1.and h2).imp ?_
 rintro a b ⟨h3, h4⟩
 rcases triLt_tri a b with h5 | h5 | h5
 ·exact h5
 ·exact absurd h5 h4
 ·have h6 : ltOf cmpT b a = true := decide_eq_true ((cmpT_lt _ _).2 h5)
  rw [h6] at h3
  cases h3
theorem cmpLaysT (w : World) (blk size : Nat) : CmpLays Tryz.prog 67 #[] encT 3 cmpT blk 0 size w := by
 intro m os dk _ x y
 refine (cmpTri_any x.1 x.2.1 x.2.2 y.1 y.2.1 y.2.2 _).mono ?_
 rintro e w' ⟨rfl, q, os', h⟩
 exact ⟨rfl, q, os', h⟩
theorem isAggT (w : World) : (isAgg 44).run Tryz.prog w = .ok true w := by kernel_rfl
theorem sizeT (w : World) : (Go.sizeOf 44).run Tryz.prog w = .ok 3 w := by kernel_rfl
set_option maxHeartbeats 1000000 in
theorem sortT_any (g cap n B : Nat) (l : List T3) (w : World) (hn : n = l.length) (hown : w.ownsRow B 44 3 (.slice (some ⟨g, 0, none⟩) n cap) n (tcT l)) (hb : n ≤ 1000000) :
  Calls Tryz.prog 89 #[.slice (some ⟨g, 0, none⟩) n cap, .func (.func 67) #[] #[]] w fun e w' =>
   e = .returned (.tuple #[]) ∧ w'.ownsRow B 44 3 (.slice (some ⟨g, 0, none⟩) n cap) n (tcT (srtT l)) ∧ w.grownBy w' (some g) := by
 subst hn
 rcases hown.2 with ⟨e, _⟩ | ⟨g', cap', cur, e, hB, hg, r1, r2, r3, r4⟩
 ·cases e
 ·cases e
  have hH : HoldsK encT 3 w g 0 l.toArray := by
   unfold HoldsK
   rw [flat_tcT]
   refine holds_row (enc := id) hg ?_
   rw [tcT_len, List.map_id]
   exact r4
  have hgl : g < w.heap.size := (Array.getElem?_eq_some_iff.1 hg).1
  have hc := AnyQ.slices_SortFunc_total sortT 3 isAggT sizeT encT (fun _ => rfl) (fun x v hv => tri_one _ _ _ v hv) cmpT swoT 67 #[] g 0 cap l.toArray w (enters_of Tryz.func67 (by kernel_rfl) rfl) (cmpLaysT w g l.toArray.size) hH hgl (by simp; omega) totT
  refine hc.mono ?_
  rintro e w' ⟨rfl, q, os, rfl⟩
  have hw : sortWorldK encT 3 w g 0 q (srtT l).toArray os = sortWorld id w g 0 q (tcT (srtT l)).toArray os := by
   rw [← flat_tcT]
   rfl
  have hlen : (srtT l).length = l.length := (srtT_perm l).length_eq
  have h2 : (l.toArray.toList.mergeSort fun x y => !(ltOf cmpT) y x) = srtT l := rfl
  rw [h2, hw]
  refine ⟨rfl, ⟨by rw [tcT_len, hlen], .inr ⟨g, cap, _, rfl, hB, heap_sw id _ hg, r1, r2, by simp [putCells, r3], ?_⟩⟩, grownBy_sw id w g q os _⟩
  have := take_putR id cur (tcT (srtT l)).toArray (by simp [tcT_len, hlen]; rw [r3]; exact Nat.mul_le_mul_right 3 r1)
  simp only [List.size_toArray, tcT_len, hlen, List.map_id] at this
  exact this
end
end Go.Proofs.YtpkjekedgodccaaGreatDoor
