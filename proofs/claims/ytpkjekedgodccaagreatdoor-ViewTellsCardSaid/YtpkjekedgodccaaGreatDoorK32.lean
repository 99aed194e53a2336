/- Contracts of the library's: strings.Builder, strings.Join, laid at this dump (printed by the kit's lay-plain.mjs).. Words for pictures being drawn.. -/
import Derived.Shelf.Strings.OnBuilder
import Derived.Shelf.Strings.BuilderK
import Derived.Test.YtpkjekedgodccaaGreatDoorProg
import Derived.Test.YtpkjekedgodccaaGreatDoorK31
import Derived.Test.YtpkjekedgodccaaGreatDoorK22
import Derived.Test.YtpkjekedgodccaaGreatDoorK15
import Derived.WideKeyEntry
namespace Go.Proofs.YtpkjekedgodccaaGreatDoor
set_option linter.unusedSimpArgs false
set_option linter.unusedVariables false
section
open Go.Shelf
def shl166_ren : Go.Shelf.Ren := ⟨fun | 166 => 34 | 240 => 68 | 276 => 87 | n => n, fun | 70 => 86 | 9 => 9 | 3 => 3 | 75 => 93 | 0 => 0 | 72 => 89 | 37 => 87 | 4 => 4 | 164 => 151 | 80 => 91 | 5 => 5 | n => n, fun | n => n⟩
theorem shl166 : Go.Proofs.Lays.n166 Tryz.prog shl166_ren := {
 mixed := by kernel_rfl
 f166 := Tryz.func34.trans (congrArg some (by kernel_rfl))
 f240 := Tryz.func68.trans (congrArg some (by kernel_rfl))
 f276 := Tryz.func87.trans (congrArg some (by kernel_rfl))
 t0 := Tryz.underlying0
 a0 := Tryz.isAgg0
 z0 := Tryz.sizeOf0
 v0 := Tryz.zeroValue0
 t3 := Tryz.underlying3
 a3 := Tryz.isAgg3
 z3 := Tryz.sizeOf3
 v3 := Tryz.zeroValue3
 t4 := Tryz.underlying4
 a4 := Tryz.isAgg4
 z4 := Tryz.sizeOf4
 v4 := Tryz.zeroValue4
 t9 := Tryz.underlying9
 a9 := Tryz.isAgg9
 z9 := Tryz.sizeOf9
 v9 := Tryz.zeroValue9
 t20 := Tryz.underlying20
 a20 := Tryz.isAgg20
 z20 := Tryz.sizeOf20
 v20 := Tryz.zeroValue20
 t37 := Tryz.underlying87
 a37 := Tryz.isAgg87
 z37 := Tryz.sizeOf87
 v37 := Tryz.zeroValue87
 t70 := Tryz.underlying86
 a70 := Tryz.isAgg86
 z70 := Tryz.sizeOf86
 v70 := Tryz.zeroValue86
 t72 := Tryz.underlying89
 a72 := Tryz.isAgg89
 z72 := Tryz.sizeOf89
 v72 := Tryz.zeroValue89
 t75 := Tryz.underlying93
 a75 := Tryz.isAgg93
 z75 := Tryz.sizeOf93
 v75 := Tryz.zeroValue93
 t164 := Tryz.underlying151
 a164 := Tryz.isAgg151
 z164 := Tryz.sizeOf151
 v164 := Tryz.zeroValue151 }
theorem shx166 : Builder.Extra Tryz.prog shl166_ren := {
 sizeBuilder := by kernel_rfl
 liesBuilder := by kernel_rfl
 t5 := Tryz.underlying5
 a5 := Tryz.isAgg5
 z5 := Tryz.sizeOf5
 v5 := Tryz.zeroValue5
 infoByte := by kernel_rfl
 cellsByte := by kernel_rfl
 sizeByte := by kernel_rfl
 neB5 := by decide }
def shl169_ren : Go.Shelf.Ren := ⟨fun | 169 => 36 | n => n, fun | 70 => 86 | 9 => 9 | 0 => 0 | 72 => 89 | 37 => 87 | 127 => 133 | 3 => 3 | 5 => 5 | n => n, fun | n => n⟩
theorem shl169 : Go.Proofs.Lays.n169 Tryz.prog shl169_ren := {
 mixed := by kernel_rfl
 f169 := Tryz.func36.trans (congrArg some (by kernel_rfl))
 t0 := Tryz.underlying0
 a0 := Tryz.isAgg0
 z0 := Tryz.sizeOf0
 v0 := Tryz.zeroValue0
 t3 := Tryz.underlying3
 a3 := Tryz.isAgg3
 z3 := Tryz.sizeOf3
 v3 := Tryz.zeroValue3
 t9 := Tryz.underlying9
 a9 := Tryz.isAgg9
 z9 := Tryz.sizeOf9
 v9 := Tryz.zeroValue9
 t37 := Tryz.underlying87
 a37 := Tryz.isAgg87
 z37 := Tryz.sizeOf87
 v37 := Tryz.zeroValue87
 t70 := Tryz.underlying86
 a70 := Tryz.isAgg86
 z70 := Tryz.sizeOf86
 v70 := Tryz.zeroValue86
 t72 := Tryz.underlying89
 a72 := Tryz.isAgg89
 z72 := Tryz.sizeOf89
 v72 := Tryz.zeroValue89
 t127 := Tryz.underlying133
 a127 := Tryz.isAgg133
 z127 := Tryz.sizeOf133
 v127 := Tryz.zeroValue133 }
theorem shx169 : Builder.Extra Tryz.prog shl169_ren := {
 sizeBuilder := by kernel_rfl
 liesBuilder := by kernel_rfl
 t5 := Tryz.underlying5
 a5 := Tryz.isAgg5
 z5 := Tryz.sizeOf5
 v5 := Tryz.zeroValue5
 infoByte := by kernel_rfl
 cellsByte := by kernel_rfl
 sizeByte := by kernel_rfl
 neB5 := by decide }
def shl156_ren : Go.Shelf.Ren := ⟨fun | 156 => 35 | 165 => 69 | 166 => 34 | 169 => 36 | 240 => 68 | 241 => 88 | 276 => 87 | 277 => 91 | n => n, fun | 31 => 90 | 9 => 9 | 3 => 3 | 4 => 4 | 0 => 0 | 20 => 20 | 72 => 89 | 76 => 94 | 70 => 86 | 37 => 87 | 75 => 93 | 127 => 133 | 164 => 151 | 5 => 5 | 80 => 91 | n => n, fun | n => n⟩
theorem shl156 : Go.Proofs.Lays.n156 Tryz.prog shl156_ren := {
 mixed := by kernel_rfl
 f156 := Tryz.func35.trans (congrArg some (by kernel_rfl))
 f165 := Tryz.func69.trans (congrArg some (by kernel_rfl))
 f166 := Tryz.func34.trans (congrArg some (by kernel_rfl))
 f169 := Tryz.func36.trans (congrArg some (by kernel_rfl))
 f240 := Tryz.func68.trans (congrArg some (by kernel_rfl))
 f241 := Tryz.func88.trans (congrArg some (by kernel_rfl))
 f276 := Tryz.func87.trans (congrArg some (by kernel_rfl))
 f277 := Tryz.func91.trans (congrArg some (by kernel_rfl))
 t0 := Tryz.underlying0
 a0 := Tryz.isAgg0
 z0 := Tryz.sizeOf0
 v0 := Tryz.zeroValue0
 t3 := Tryz.underlying3
 a3 := Tryz.isAgg3
 z3 := Tryz.sizeOf3
 v3 := Tryz.zeroValue3
 t4 := Tryz.underlying4
 a4 := Tryz.isAgg4
 z4 := Tryz.sizeOf4
 v4 := Tryz.zeroValue4
 t9 := Tryz.underlying9
 a9 := Tryz.isAgg9
 z9 := Tryz.sizeOf9
 v9 := Tryz.zeroValue9
 t20 := Tryz.underlying20
 a20 := Tryz.isAgg20
 z20 := Tryz.sizeOf20
 v20 := Tryz.zeroValue20
 t31 := Tryz.underlying90
 a31 := Tryz.isAgg90
 z31 := Tryz.sizeOf90
 v31 := Tryz.zeroValue90
 t37 := Tryz.underlying87
 a37 := Tryz.isAgg87
 z37 := Tryz.sizeOf87
 v37 := Tryz.zeroValue87
 t70 := Tryz.underlying86
 a70 := Tryz.isAgg86
 z70 := Tryz.sizeOf86
 v70 := Tryz.zeroValue86
 t72 := Tryz.underlying89
 a72 := Tryz.isAgg89
 z72 := Tryz.sizeOf89
 v72 := Tryz.zeroValue89
 t75 := Tryz.underlying93
 a75 := Tryz.isAgg93
 z75 := Tryz.sizeOf93
 v75 := Tryz.zeroValue93
 t76 := Tryz.underlying94
 a76 := Tryz.isAgg94
 z76 := Tryz.sizeOf94
 v76 := Tryz.zeroValue94
 t127 := Tryz.underlying133
 a127 := Tryz.isAgg133
 z127 := Tryz.sizeOf133
 v127 := Tryz.zeroValue133
 t164 := Tryz.underlying151
 a164 := Tryz.isAgg151
 z164 := Tryz.sizeOf151
 v164 := Tryz.zeroValue151 }
theorem shx156 : Builder.Extra Tryz.prog shl156_ren := {
 sizeBuilder := by kernel_rfl
 liesBuilder := by kernel_rfl
 t5 := Tryz.underlying5
 a5 := Tryz.isAgg5
 z5 := Tryz.sizeOf5
 v5 := Tryz.zeroValue5
 infoByte := by kernel_rfl
 cellsByte := by kernel_rfl
 sizeByte := by kernel_rfl
 neB5 := by decide }
open Go.RowKit
theorem sbWrite (B b : Nat) (bs : List Value) (s : ByteArray) (w : World) (h : Lib.IsBuilderF 89 5 B b bs w) (hlen : bs.length + s.size ≤ 140737488355328) (hBw : B ≤ w.heap.size) :
  Calls Tryz.prog 34 #[.pointer (some ⟨b, 0, none⟩), .string s] w fun e w' => e = .returned (.tuple #[.int .i64 s.size, .nilIface]) ∧ (Lib.BuilderAtF 89 5 B b (.pointer (some ⟨b, 0, none⟩)) (bs ++ Lib.strCells s) w' ∧ Below B w w' ∧ Lib.OthersKept 5 (some b) w w') := Any.Builder_WriteString_k shl166 shx166 B b bs s w h hlen hBw
theorem sbString (B b : Nat) (l : List UInt8) (w : World) (h : Lib.IsBuilderF 89 5 B b (Lib.byteCells l) w) (hBw : B ≤ w.heap.size) :
  Calls Tryz.prog 36 #[.pointer (some ⟨b, 0, none⟩)] w fun e w' => e = .returned (.string ⟨l.toArray⟩) ∧ (Lib.IsBuilderF 89 5 B b (Lib.byteCells l) w' ∧ Below B w w' ∧ Lib.OthersKept 5 (some b) w w') := Any.Builder_String_any_k shl169 shx169 B b l w h hBw
theorem sbJoin (bk o c : Nat) (xs : List ByteArray) (sep : ByteArray) (w : World) (hcells : ∀ (j : Nat) x, xs[j]? = some x → w.cell? ⟨bk, o + j, none⟩ = some (.string x)) (hbk : bk < w.heap.size) (hN : xs.length ≤ 140737488355328) (hcap : xs.length ≤ c) (hlen : (Lib.join (xs.map (·.data.toList)) sep.data.toList).length ≤ 140737488355328) :
  Calls Tryz.prog 35 #[.slice (some ⟨bk, o, none⟩) xs.length c, .string sep] w fun e w' => e = .returned (.string ⟨(Lib.join (xs.map (·.data.toList)) sep.data.toList).toArray⟩) ∧ Below w.heap.size w w' := Any.strings_Join shl156 shx156 bk o c xs sep w hcells hbk hN hcap hlen
end
section
open Go.RowKit Go.Maps
theorem lawCl : WideMaps.KeyLaw Tryz.prog 83 := deep_law_laid laidO (m := 3) (by omega) (of_decide_eq_true (by kernel_rfl)) (by kernel_rfl) (by kernel_rfl)
theorem cCl : Tryz.prog.cellsOf 83 = 2 := by kernel_rfl
theorem ktCl : Tryz.prog.keyType 83 = true := by kernel_rfl
theorem zeroShn (w : World) : (zeroValue 85).run Tryz.prog w = .ok (.agg #[.int .i64 0, .int .i64 0]) w := by kernel_rfl
theorem kl_Cl (d : Nat) {x y : Int} (hx : inR x) (hy : inR y) : Tryz.prog.keyLits (d + 2) 83 [.int .i64 x, .int .i64 y] = some [.int .i64 x, .int .i64 y] := by
 unfold Program.keyLits
 rw [Tryz.underlying83]
 simp [cCl, cI, kl_int _ hx, kl_int _ hy]
theorem keyOf_Cl {a b : Int} (ha : inR a) (hb : inR b) : ∃ l, keyOf Tryz.prog 83 (.agg #[.int .i64 a, .int .i64 b]) = some l := by
 obtain ⟨d, hd⟩ := typesz
 unfold keyOf
 have h := kl_Cl (d + 2) ha hb
 simp [Tryz.underlying83, ktCl, Value.formed, cCl, hd, Value.cells, h]
def kSH : KV (Int × Int) (Int × Int) where
 K := 83
 enc c := .agg #[.int .i64 c.1, .int .i64 c.2]
 ok c := inR c.1 ∧ inR c.2
 law := Keyed.of_law lawCl
 key a h := keyOf_Cl h.1 h.2
 inj a b h := by
  obtain ⟨a1, a2⟩ := a
  obtain ⟨b1, b2⟩ := b
  simp at h
  simp [h]
 T := 81
 E := 85
 val v := .agg #[.int .i64 v.1, .int .i64 v.2]
 z := (0, 0)
 ht := Tryz.underlying81
 hz := zeroShn
def IsW (b : Nat) (l : List UInt8) (w : World) : Prop := Lib.IsBuilderF 89 5 b b (Lib.byteCells l) w
theorem IsW.below {b B : Nat} {l : List UInt8} {w w' : World} (h : IsW b l w) (hb : Below B w w') (hB : w.heap.size ≤ B) : IsW b l w' := by
 have key : ∀ p, Lib.BuilderAtF 89 5 b b p (Lib.byteCells l) w → Lib.BuilderAtF 89 5 b b p (Lib.byteCells l) w' := by
  rintro p ⟨h1, v, h2, h3, h4⟩
  refine ⟨h1, v, blk_below h2 hb (Nat.lt_of_lt_of_le (blk_lt h2) hB), ⟨h3.1, ?_⟩, h4⟩
  rcases h3.2 with h0 | ⟨g, cap, cur, fz, rfl, g1, g2, rest⟩
  ·exact .inl h0
  ·exact .inr ⟨g, cap, cur, fz, rfl, g1, (hb.block g (Nat.lt_of_lt_of_le (Array.getElem?_eq_some_iff.1 g2).1 hB)).trans g2, rest⟩
 exact h.elim (fun x => .inl (key _ x)) (fun x => .inr (key _ x))
theorem IsW.lt {b : Nat} {l : List UInt8} {w : World} (h : IsW b l w) : b < w.heap.size := h.elim (fun x => x.lt) (fun x => x.lt)
theorem IsW.write {b : Nat} {l m : List UInt8} {w : World} (h : Lib.BuilderAtF 89 5 b b (.pointer (some ⟨b, 0, none⟩)) (Lib.byteCells l ++ Lib.strCells ⟨m.toArray⟩) w) : IsW b (l ++ m) w := by
 refine .inr ?_
 rw [Lib.byteCells_append]
 exact h
def ClB (w : World) (g : Nat) (x y : Int) : Prop := w.heap[g]? = some (.cells #[.int .i64 x, .int .i64 y] 83 (0, 0))
structure DrI (w : World) (mb g4 g5 : Nat) (l : List Sn) (i : Nat) (wr : World) : Prop where
 map : MapV kSH wr mb i (cellF (l.take i))
 lo : ClB wr g4 (loX l i) (loY l i)
 hi : ClB wr g5 (hiX l i) (hiY l i)
 bel : Below w.heap.size w wr
 ge : w.heap.size ≤ mb ∧ w.heap.size ≤ g4 ∧ w.heap.size ≤ g5 ∧ g4 ≠ g5
section
variable {w w' wr : World} {mb g4 g5 : Nat} {l : List Sn} {i : Nat}
theorem ClB.below {g : Nat} {x y : Int} (h : ClB w g x y) (hb : Below w.heap.size w w') : ClB w' g x y := blk_below h hb (blk_lt h)
theorem ClB.c0 {g : Nat} {x y : Int} (h : ClB w g x y) : w.cell? ⟨g, 0, none⟩ = some (.int .i64 x) := (cell_of_blk (show w.heap[g]? = _ from h) 0).trans rfl
theorem ClB.c1 {g : Nat} {x y : Int} (h : ClB w g x y) : w.cell? ⟨g, 1, none⟩ = some (.int .i64 y) := (cell_of_blk (show w.heap[g]? = _ from h) 1).trans rfl
theorem ClB.fz {g : Nat} {x y : Int} (h : ClB w g x y) (j : Nat) : w.frozen? ⟨g, j, none⟩ = false := frozen_of_blk (show w.heap[g]? = _ from h) j
theorem ClB.set {g : Nat} {x y : Int} (h : ClB w g x y) (x' y' : Int) : ClB ((w.setCell ⟨g, 0, none⟩ (.int .i64 x')).setCell ⟨g, 1, none⟩ (.int .i64 y')) g x' y' := by
 have := blk_set (blk_set (show w.heap[g]? = _ from h) 0 (.int .i64 x')) 1 (.int .i64 y')
 unfold ClB
 rw [this]
 simp
theorem ClB.far {g h' : Nat} {x y : Int} (h : ClB w g x y) (hne : g ≠ h') (a b : Value) : ClB ((w.setCell ⟨h', 0, none⟩ a).setCell ⟨h', 1, none⟩ b) g x y := blk_far (blk_far h hne _) hne _
theorem DrI.below (h : DrI w mb g4 g5 l i wr) (hb : Below wr.heap.size wr w') : DrI w mb g4 g5 l i w' := ⟨h.map.stay hb, h.lo.below hb, h.hi.below hb, stay_b h.bel hb, h.ge⟩
end
theorem lo0 {l : List Sn} (h : 0 < l.length) : loX l 0 = l[0].1.1 ∧ loY l 0 = l[0].1.2.1 ∧ hiX l 0 = l[0].1.1 ∧ hiY l 0 = l[0].1.2.1 := by
 cases l with
 | nil => simp at h
 | cons a l => exact ⟨rfl, rfl, rfl, rfl⟩
theorem lo_step {l : List Sn} {i : Nat} {s : Sn} (hs : l[i]? = some s) : loX l (i + 1) = min (loX l i) s.1.1 ∧ loY l (i + 1) = min (loY l i) s.1.2.1 ∧ hiX l (i + 1) = max (hiX l i) s.1.1 ∧ hiY l (i + 1) = max (hiY l i) s.1.2.1 := by
 have h1 := fold_step (fun (m : Int) (s : Sn) => if s.1.1 < m then s.1.1 else m) ((l.map (·.1.1)).headD 0) hs
 have h2 := fold_step (fun (m : Int) (s : Sn) => if s.1.2.1 < m then s.1.2.1 else m) ((l.map (·.1.2.1)).headD 0) hs
 have h3 := fold_step (fun (m : Int) (s : Sn) => if m < s.1.1 then s.1.1 else m) ((l.map (·.1.1)).headD 0) hs
 have h4 := fold_step (fun (m : Int) (s : Sn) => if m < s.1.2.1 then s.1.2.1 else m) ((l.map (·.1.2.1)).headD 0) hs
 refine ⟨h1.trans ?_, h2.trans ?_, h3.trans ?_, h4.trans ?_⟩
 ·show (if s.1.1 < loX l i then s.1.1 else loX l i) = _
  split <;> omega
 ·show (if s.1.2.1 < loY l i then s.1.2.1 else loY l i) = _
  split <;> omega
 ·show (if hiX l i < s.1.1 then s.1.1 else hiX l i) = _
  split <;> omega
 ·show (if hiY l i < s.1.2.1 then s.1.2.1 else hiY l i) = _
  split <;> omega
theorem ext_bd {l : List Sn} (h : 0 < l.length) (hb : ∀ s ∈ l, (-1000000 ≤ s.1.1 ∧ s.1.1 ≤ 1000000) ∧ (-1000000 ≤ s.1.2.1 ∧ s.1.2.1 ≤ 1000000)) : (-1000000 ≤ loX l l.length ∧ loX l l.length ≤ hiX l l.length ∧ hiX l l.length ≤ 1000000) ∧ (-1000000 ≤ loY l l.length ∧ loY l l.length ≤ hiY l l.length ∧ hiY l l.length ≤ 1000000) := by
 have hq := hb _ (List.getElem_mem h)
 have h0 := lo0 h
 have e1 : (l.map (·.1.1)).headD 0 = l[0].1.1 := h0.1
 have e2 : (l.map (·.1.2.1)).headD 0 = l[0].1.2.1 := h0.2.1
 have a1 : -1000000 ≤ loX l l.length ∧ loX l l.length ≤ l[0].1.1 := fold_bd (p := fun m => -1000000 ≤ m ∧ m ≤ l[0].1.1) (l := l) (by rw [e1]; exact ⟨hq.1.1, Int.le_refl _⟩) (fun m s hm hs => by have := hb s hs; split <;> omega) _
 have a2 : hiX l l.length ≤ 1000000 ∧ l[0].1.1 ≤ hiX l l.length := fold_bd (p := fun m => m ≤ 1000000 ∧ l[0].1.1 ≤ m) (l := l) (by rw [e1]; exact ⟨hq.1.2, Int.le_refl _⟩) (fun m s hm hs => by have := hb s hs; split <;> omega) _
 have a3 : -1000000 ≤ loY l l.length ∧ loY l l.length ≤ l[0].1.2.1 := fold_bd (p := fun m => -1000000 ≤ m ∧ m ≤ l[0].1.2.1) (l := l) (by rw [e2]; exact ⟨hq.2.1, Int.le_refl _⟩) (fun m s hm hs => by have := hb s hs; split <;> omega) _
 have a4 : hiY l l.length ≤ 1000000 ∧ l[0].1.2.1 ≤ hiY l l.length := fold_bd (p := fun m => m ≤ 1000000 ∧ l[0].1.2.1 ≤ m) (l := l) (by rw [e2]; exact ⟨hq.2.2, Int.le_refl _⟩) (fun m s hm hs => by have := hb s hs; split <;> omega) _
 omega
def txV (xs : List (List UInt8)) : List Value := xs.map fun x => .string ⟨x.toArray⟩
theorem txV_snoc (xs : List (List UInt8)) (x : List UInt8) : txV (xs ++ [x]) = txV xs ++ [.string ⟨x.toArray⟩] := by simp [txV]
theorem str_info : (Tryz.prog.info? 9).map (fun i => (i.zero, i.size, i.bytes)) = some (some (.string ⟨#[]⟩), 1, 16) := by kernel_rfl
theorem join_row {w : World} {B g n c : Nat} {xs : List (List UInt8)} (h : w.ownsRow B 9 1 (.slice (some ⟨g, 0, none⟩) n c) n (txV xs)) (hn : n = xs.length) (h0 : 0 < n) (hc : n ≤ c) (hl : n ≤ 10000000) (hj : (Lib.join xs [32]).length ≤ 140737488355328) :
  Calls Tryz.prog 35 #[.slice (some ⟨g, 0, none⟩) n c, .string ⟨#[32]⟩] w fun e w' => e = .returned (.string ⟨(Lib.join xs [32]).toArray⟩) ∧ Below w.heap.size w w' := by
 subst hn
 obtain ⟨b, off, e, hb, hcl⟩ := (Rd.of_own h).2 h0
 cases e
 have he : (xs.map fun x => (⟨x.toArray⟩ : ByteArray)).map (·.data.toList) = xs := by rw [List.map_map]; exact List.map_id xs
 have := sbJoin g 0 c (xs.map fun x => ⟨x.toArray⟩) ⟨#[32]⟩ w (fun j x hx => by
  rw [List.getElem?_map] at hx
  obtain ⟨y, hy, rfl⟩ := Option.map_eq_some_iff.1 hx
  exact hcl j _ (by simp [txV, hy])) hb (by simp; omega) (by simpa using hc) (by rw [he]; exact hj)
 rw [he] at this
 simpa using this
theorem txt_app (l m : List UInt8) : (⟨l.toArray⟩ : ByteArray) ++ ⟨m.toArray⟩ = ⟨(l ++ m).toArray⟩ := ByteArray.mk_append_mk _ _
theorem txt_sz (l : List UInt8) : (⟨l.toArray⟩ : ByteArray).size = l.length := by simp [ByteArray.size]
theorem pic_small {l : List Sn} {x0 y1 : Int} {n k : Nat} (hn : n ≤ 2000001) (hk : k ≤ 2000001) : (picT l x0 y1 n k).length ≤ 13000000000000 := by
 have h1 := picT_len l x0 y1 n k
 have h2 : k * (3 * n + 1) ≤ 2000001 * 6000004 := Nat.mul_le_mul hk (by omega)
 omega
theorem cellF_nil : cellF [] = fun _ => none := by funext c; simp [cellF, anyB]
theorem MapV.far {w : World} {b n : Nat} {f : Int × Int → Option (Int × Int)} (h : MapV kSH w b n f) {p : Addr} (hne : b ≠ p.block) (v : Value) : MapV kSH (w.setCell p v) b n f := h.heap (Below.heap_setCell w p v b hne)
theorem or_bits {c k : Int} {f : Int → Bool} (hk : 0 ≤ k ∧ k ≤ 3) (hc : c = sumK f) (h0 : f k = false) : bits BinOp.or IntKind.i64 c (pw k) = c + pw k := by
 have h1 := sumK_bd f
 have h2 := sumK_bit hk h0
 rw [← hc] at h1 h2
 have hh : k = 0 ∨ k = 1 ∨ k = 2 ∨ k = 3 := by omega
 obtain ⟨n, rfl⟩ := Int.eq_ofNat_of_zero_le h1.1
 have hn : n < 16 := by omega
 have key : ∀ m : Fin 16, ((m.val : Int)).toNat ||| (pw k).toNat = ((m.val : Int) + pw k).toNat → bits BinOp.or IntKind.i64 (m.val : Int) (pw k) = (m.val : Int) + pw k := by
  rcases hh with rfl | rfl | rfl | rfl <;> decide
 exact key ⟨n, hn⟩ h2
theorem shl_run {k : Int} (hk : 0 ≤ k ∧ k ≤ 3) (w : World) : (Op.shift BinOp.shl IntKind.i64 1 IntKind.i64 k).run Tryz.prog w = .ok (.int .i64 (pw k)) w := by
 have hh : k = 0 ∨ k = 1 ∨ k = 2 ∨ k = 3 := by omega
 rcases hh with rfl | rfl | rfl | rfl <;> (simp [Op.shift, go_sem, pw]; try decide)
end
end Go.Proofs.YtpkjekedgodccaaGreatDoor
