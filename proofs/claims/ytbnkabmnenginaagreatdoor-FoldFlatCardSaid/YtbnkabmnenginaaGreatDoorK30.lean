/- What holds while stacks are being laid (lies).. Contracts of the library laid at this dump (printed by the kit's lay-plain.mjs): slices.SortFunc[[]int,int].. slices.SortFunc over numbers, by any total comparison.. -/
import Derived.Test.YtbnkabmnenginaaGreatDoorK29
import Derived.Shelf.SlSortCmp.Whole1
import Derived.Ground.SlsfProg
import Derived.Test.YtbnkabmnenginaaGreatDoorProg
import Derived.Test.YtbnkabmnenginaaGreatDoorK08
import Derived.Test.YtbnkabmnenginaaGreatDoorK19
import Derived.Test.YtbnkabmnenginaaGreatDoorK09
namespace Go.Proofs.YtbnkabmnenginaaGreatDoor
set_option linter.unusedSimpArgs false
set_option linter.unusedVariables false
section
open Go.RowKit Go.Maps
structure Kp2 (w w' : World) (gl mb : Nat) : Prop where
 os : w'.os = w.os
 tape : w'.tape = w.tape
 output : w'.output = w.output
 size : w.heap.size ≤ w'.heap.size
 blk : ∀ k, k < w.heap.size → k ≠ gl → k ≠ mb → w'.heap[k]? = w.heap[k]?
section
variable {w w1 w2 : World} {gl mb : Nat}
theorem Kp2.refl (w : World) (gl mb : Nat) : Kp2 w w gl mb := ⟨rfl, rfl, rfl, Nat.le_refl _, fun _ _ _ _ => rfl⟩
theorem Kp2.below (h : Kp2 w w1 gl mb) (hb : Below w1.heap.size w1 w2) : Kp2 w w2 gl mb :=
 ⟨hb.os.trans h.os, hb.tape.trans h.tape, hb.output.trans h.output, Nat.le_trans h.size hb.size, fun k hk h1 h2 => (hb.block k (Nat.lt_of_lt_of_le hk h.size)).trans (h.blk k hk h1 h2)⟩
theorem Kp2.grown (h : Kp2 w w1 gl mb) {r : Option Nat} (hg : w1.grownBy w2 r) (hr : ∀ b, r = some b → b = gl ∨ b = mb ∨ w.heap.size ≤ b) : Kp2 w w2 gl mb :=
 ⟨hg.os.trans h.os, hg.tape.trans h.tape, hg.output.trans h.output, Nat.le_trans h.size hg.size, fun k hk h1 h2 => (hg.block k (Nat.lt_of_lt_of_le hk h.size) (fun e => by
  rcases hr k e.symm with h3 | h3 | h3
  ·exact h1 h3
  ·exact h2 h3
  ·omega)).trans (h.blk k hk h1 h2)⟩
theorem Kp2.set (h : Kp2 w w1 gl mb) (i : Nat) (v : Value) : Kp2 w (w1.setCell ⟨gl, i, none⟩ v) gl mb :=
 ⟨h.os, h.tape, h.output, by simpa using h.size, fun k hk h1 h2 => (Below.heap_setCell w1 ⟨gl, i, none⟩ v k h1).trans (h.blk k hk h1 h2)⟩
theorem Kp2.out (h : Kp2 w w1 gl mb) {B : Nat} (hg : B ≤ gl) (hm : B ≤ mb) (hB : B ≤ w.heap.size) : Below B w w1 :=
 ⟨h.os, h.tape, h.output, h.size, fun k hk => h.blk k (by omega) (by omega) (by omega)⟩
theorem Kp2.cell (h : Kp2 w w1 gl mb) {b o : Nat} {v : Value} (hc : w.cell? ⟨b, o, none⟩ = some v) (h1 : b ≠ gl) (h2 : b ≠ mb) : w1.cell? ⟨b, o, none⟩ = some v := by
 have hb := World.block_lt_of_cell? w _ hc
 rw [← hc]
 exact World.cell?_of_block (h.blk b hb h1 h2)
theorem Kp2.ob (h : Kp2 w w1 gl mb) {b : Nat} {o : Obj} (hc : w.heap[b]? = some o) (h1 : b ≠ gl) (h2 : b ≠ mb) : w1.heap[b]? = some o := (h.blk b (blk_lt hc) h1 h2).trans hc
end
def grpL (L : List T3) (sts : List Stk) (i q : Nat) (x : T3) : List Nat :=
 if (sts.take i).any (fun s => decide (s.1 = x)) = true then (((sts.take i).find? fun s => decide (s.1 = x)).map fun s => s.2.map L.idxOf).getD []
 else match sts[i]? with
  | some s => if s.1 = x then (s.2.take q).map L.idxOf else []
  | none => []
def levP (L : List T3) (sts : List Stk) (i q : Nat) (ls : List Nat) : Prop := ∀ (j : Nat) (s : Stk) (p : Nat) (t : T3), (j < i ∨ j = i ∧ p < q) → sts[j]? = some s → s.2[p]? = some t → ls[L.idxOf t]? = some p
structure LiX (w : World) (pb : Nat) (vm va : Value) (L : List T3) (sts : List Stk) (xb gl mb i ql qm : Nat) (wr : World) : Prop where
 pil : PilB wr xb pb vm va (.slice (some ⟨gl, 0, none⟩) L.length L.length) mb
 lev : ∃ ls : List Nat, ls.length = L.length ∧ wr.heap[gl]? = some (.cells (visN ls).toArray 3 (0, 0)) ∧ levP L sts i ql ls
 map : ∃ (n : Nat) (f : T3 → Option Value), n ≤ (earl sts i qm).length ∧ PilM wr w.heap.size mb n f (grpL L sts i qm)
 kp : Kp2 w wr gl mb
section
variable {w wr w' : World} {pb : Nat} {vm va : Value} {L : List T3} {ms : List V6} {sts : List Stk} {xb gl mb sb i q ql qm : Nat}
theorem LiX.below (h : LiX w pb vm va L sts xb gl mb i ql qm wr) (hb : Below wr.heap.size wr w') : LiX w pb vm va L sts xb gl mb i ql qm w' := by
 obtain ⟨ls, l1, l2, l3⟩ := h.lev
 obtain ⟨n, f, m1, m2⟩ := h.map
 exact ⟨h.pil.below hb, ⟨ls, l1, blk_below l2 hb (blk_lt l2), l3⟩, ⟨n, f, m1, m2.below hb⟩, h.kp.below hb⟩
theorem LiX.level (h : LiX w pb vm va L sts xb gl mb i ql qm wr) (hgm : gl ≠ mb) {k r : Nat} (hk : k < L.length) {q' : Nat} (hp : ∀ ls : List Nat, ls.length = L.length → levP L sts i ql ls → levP L sts i q' (ls.set k r)) (hwl : gl < w.heap.size) : LiX w pb vm va L sts xb gl mb i q' qm (wr.setCell ⟨gl, k, none⟩ (.int .i64 ((r : Nat) : Int))) := by
 obtain ⟨ls, l1, l2, l3⟩ := h.lev
 obtain ⟨n, f, m1, m2⟩ := h.map
 have hx : xb ≠ gl := fun e => by have h1 : wr.heap[xb]? = _ := h.pil; rw [e, l2] at h1; simp at h1
 refine ⟨blk_far h.pil hx _, ⟨ls.set k r, by simpa using l1, ?_, hp ls l1 l3⟩, ⟨n, f, m1, ⟨m2.map.heap (Below.heap_setCell _ _ _ _ (fun e => hgm e.symm)), m2.no, fun t v hv => ⟨own_set (m2.row t v hv).1 (fun b hb e => ?_) _ _, (m2.row t v hv).2⟩, m2.far⟩⟩, h.kp.set _ _⟩
 ·have := blk_set l2 k (.int .i64 ((r : Nat) : Int))
  rw [visN_set] at this
  exact this
 ·have := ((m2.row t v hv).1.lt b hb).1
  omega
end
theorem LieI.mem {L : List T3} {ms : List V6} {sts : List Stk} {i q : Nat} (h : LieI L ms sts i q) {t : T3} (ht : t ∈ earl sts i q) : t ∈ L := by
 rcases mem_earl ht with ⟨j, a, hj, ha, hta⟩ | ⟨s, hs, hts⟩
 ·obtain ⟨p, hp⟩ := List.getElem?_of_mem hta
  exact (h.tri j a p t (.inl hj) ha hp).1
 ·obtain ⟨p, hp⟩ := List.getElem?_of_mem hts
  rw [List.getElem?_take] at hp
  split at hp
  ·exact (h.tri i s p t (.inr ⟨rfl, by assumption⟩) hs hp).1
  ·cases hp
def scs : List Stk → List Value → List Value
 | s :: ss, v :: vs => .int .i64 s.1.1 :: .int .i64 s.1.2.1 :: .int .i64 s.1.2.2 :: v :: scs ss vs
 | _, _ => []
theorem scs_at : ∀ {ss : List Stk} {vs : List Value} {i : Nat} {s : Stk} {v : Value}, ss[i]? = some s → vs[i]? = some v → (scs ss vs)[i * 4]? = some (.int .i64 s.1.1) ∧ (scs ss vs)[i * 4 + 1]? = some (.int .i64 s.1.2.1) ∧ (scs ss vs)[i * 4 + 2]? = some (.int .i64 s.1.2.2) ∧ (scs ss vs)[i * 4 + 3]? = some v
 | [], _, i, s, v, h, _ => by simp at h
 | _ :: _, [], i, s, v, _, h => by simp at h
 | a :: ss, u :: vs, 0, s, v, h1, h2 => by
  simp at h1 h2
  subst h1 h2
  exact ⟨rfl, rfl, rfl, rfl⟩
 | a :: ss, u :: vs, i + 1, s, v, h1, h2 => by
  have := scs_at (ss := ss) (vs := vs) (i := i) (by simpa using h1) (by simpa using h2)
  rw [show (i + 1) * 4 = i * 4 + 1 + 1 + 1 + 1 by omega]
  simpa [scs] using this
structure StkR (w : World) (A : Option Addr) (n : Nat) (sts : List Stk) : Prop where
 len : n = sts.length
 ex : ∃ vs : List Value, Rd w 4 A n (scs sts vs) ∧ ∀ (i : Nat) (s : Stk), sts[i]? = some s → ∃ A' c', vs[i]? = some (.slice A' s.2.length c') ∧ Rd w 3 A' s.2.length (tcT s.2) ∧ s.2.length ≤ 140737488351232 ∧ s.2.length ≤ c' ∧ (A' = none → c' = 0)
 ok : ∀ s ∈ sts, (inR s.1.1 ∧ inR s.1.2.1 ∧ inR s.1.2.2) ∧ ∀ t ∈ s.2, inR t.1 ∧ inR t.2.1 ∧ inR t.2.2
 sz : n ≤ 140737488351232
theorem StkR.below {w w' : World} {A : Option Addr} {n : Nat} {sts : List Stk} (h : StkR w A n sts) (hb : Below w.heap.size w w') : StkR w' A n sts := by
 obtain ⟨vs, h1, h2⟩ := h.ex
 exact ⟨h.len, ⟨vs, h1.below hb, fun i s hs => by obtain ⟨A', c', h3, h4, h5⟩ := h2 i s hs; exact ⟨A', c', h3, h4.below hb, h5⟩⟩, h.ok, h.sz⟩
theorem StkR.at_ {w : World} {A : Option Addr} {n : Nat} {sts : List Stk} (h : StkR w A n sts) {i : Nat} {s : Stk} (hs : sts[i]? = some s) : ∃ b off A' c', A = some ⟨b, off, none⟩ ∧ Rd w 3 A' s.2.length (tcT s.2) ∧
  w.cell? ⟨b, off + i * 4, none⟩ = some (.int .i64 s.1.1) ∧ w.cell? ⟨b, off + i * 4 + 1, none⟩ = some (.int .i64 s.1.2.1) ∧ w.cell? ⟨b, off + i * 4 + 2, none⟩ = some (.int .i64 s.1.2.2) ∧ w.cell? ⟨b, off + i * 4 + 3, none⟩ = some (.slice A' s.2.length c') := by
 obtain ⟨vs, h1, h2⟩ := h.ex
 obtain ⟨A', c', h3, h4, _⟩ := h2 i s hs
 have hi := (List.getElem?_eq_some_iff.1 hs).1
 obtain ⟨b, off, e, _, hc⟩ := h1.2 (by rw [h.len]; omega)
 obtain ⟨e0, e1, e2, e3⟩ := scs_at hs h3
 refine ⟨b, off, A', c', e, h4, hc _ _ e0, ?_, ?_, ?_⟩ <;> (rw [Nat.add_assoc]; exact hc _ _ (by assumption))
theorem StkR.at2 {w : World} {A : Option Addr} {n : Nat} {sts : List Stk} (h : StkR w A n sts) {i : Nat} {s : Stk} (hs : sts[i]? = some s) : ∃ b off A' c', A = some ⟨b, off, none⟩ ∧ Rd w 3 A' s.2.length (tcT s.2) ∧ (s.2.length ≤ 140737488351232 ∧ s.2.length ≤ c') ∧
  w.cell? ⟨b, off + i * 4, none⟩ = some (.int .i64 s.1.1) ∧ w.cell? ⟨b, off + i * 4 + 1, none⟩ = some (.int .i64 s.1.2.1) ∧ w.cell? ⟨b, off + i * 4 + 2, none⟩ = some (.int .i64 s.1.2.2) ∧ w.cell? ⟨b, off + i * 4 + 3, none⟩ = some (.slice A' s.2.length c') := by
 obtain ⟨vs, h1, h2⟩ := h.ex
 obtain ⟨A', c', h3, h4, h50, h51, _⟩ := h2 i s hs
 have h5 := And.intro h50 h51
 have hi := (List.getElem?_eq_some_iff.1 hs).1
 obtain ⟨b, off, e, _, hc⟩ := h1.2 (by rw [h.len]; omega)
 obtain ⟨e0, e1, e2, e3⟩ := scs_at hs h3
 refine ⟨b, off, A', c', e, h4, h5, hc _ _ e0, ?_, ?_, ?_⟩ <;> (rw [Nat.add_assoc]; exact hc _ _ (by assumption))
theorem Rd.tr {w : World} {A : Option Addr} {n : Nat} {l : List T3} (h : Rd w 3 A n (tcT l)) {i : Nat} {t : T3} (ht : l[i]? = some t) (hn : n = l.length) : ∃ b off, A = some ⟨b, off, none⟩ ∧ w.cell? ⟨b, off + i * 3, none⟩ = some (.int .i64 t.1) ∧ w.cell? ⟨b, off + i * 3 + 1, none⟩ = some (.int .i64 t.2.1) ∧ w.cell? ⟨b, off + i * 3 + 2, none⟩ = some (.int .i64 t.2.2) := by
 have hi := (List.getElem?_eq_some_iff.1 ht).1
 obtain ⟨b, off, e, _, hc⟩ := h.2 (by omega)
 have h0 := hc _ _ (tcT_at l i 0 t ht (by decide))
 have h1 := hc _ _ (tcT_at l i 1 t ht (by decide))
 have h2 := hc _ _ (tcT_at l i 2 t ht (by decide))
 rw [show off + (3 * i + 0) = off + i * 3 by omega] at h0
 rw [show off + (3 * i + 1) = off + i * 3 + 1 by omega] at h1
 rw [show off + (3 * i + 2) = off + i * 3 + 2 by omega] at h2
 exact ⟨b, off, e, h0, h1, h2⟩
end
section
open Go.Shelf
def sortI_ren : Go.Shelf.Ren := ⟨fun | 6 => 29 | 15 => 58 | 14 => 57 | 28 => 82 | 29 => 83 | 20 => 74 | 21 => 75 | 22 => 76 | 23 => 77 | 24 => 78 | 25 => 79 | 26 => 80 | 27 => 81 | 46 => 89 | 47 => 90 | 48 => 91 | 49 => 92 | 50 => 93 | 57 => 102 | n => n, fun | 22 => 22 | 24 => 3 | 25 => 45 | 3 => 3 | 39 => 113 | 0 => 0 | 53 => 141 | 55 => 143 | 4 => 4 | 46 => 135 | 45 => 134 | 50 => 102 | 5 => 5 | 9 => 9 | 66 => 149 | 70 => 153 | 76 => 160 | 77 => 161 | n => n, fun | n => n⟩
theorem sortI : Go.Proofs.SlLaysF.n6 Tryz.prog sortI_ren := {
 mixed := by kernel_rfl
 f6 := ⟨Tryz.f29.name, by decide, Tryz.func29.trans (congrArg some (by kernel_rfl))⟩
 f14 := ⟨Tryz.f57.name, by decide, Tryz.func57.trans (congrArg some (by kernel_rfl))⟩
 f15 := Tryz.func58.trans (congrArg some (by kernel_rfl))
 f20 := ⟨Tryz.f74.name, by decide, Tryz.func74.trans (congrArg some (by kernel_rfl))⟩
 f21 := ⟨Tryz.f75.name, by decide, Tryz.func75.trans (congrArg some (by kernel_rfl))⟩
 f22 := ⟨Tryz.f76.name, by decide, Tryz.func76.trans (congrArg some (by kernel_rfl))⟩
 f23 := ⟨Tryz.f77.name, by decide, Tryz.func77.trans (congrArg some (by kernel_rfl))⟩
 f24 := ⟨Tryz.f78.name, by decide, Tryz.func78.trans (congrArg some (by kernel_rfl))⟩
 f25 := ⟨Tryz.f79.name, by decide, Tryz.func79.trans (congrArg some (by kernel_rfl))⟩
 f26 := ⟨Tryz.f80.name, by decide, Tryz.func80.trans (congrArg some (by kernel_rfl))⟩
 f27 := ⟨Tryz.f81.name, by decide, Tryz.func81.trans (congrArg some (by kernel_rfl))⟩
 f28 := Tryz.func82.trans (congrArg some (by kernel_rfl))
 f29 := Tryz.func83.trans (congrArg some (by kernel_rfl))
 f46 := ⟨Tryz.f89.name, by decide, Tryz.func89.trans (congrArg some (by kernel_rfl))⟩
 f47 := Tryz.func90.trans (congrArg some (by kernel_rfl))
 f48 := Tryz.func91.trans (congrArg some (by kernel_rfl))
 f49 := ⟨Tryz.f92.name, by decide, Tryz.func92.trans (congrArg some (by kernel_rfl))⟩
 f50 := ⟨Tryz.f93.name, by decide, Tryz.func93.trans (congrArg some (by kernel_rfl))⟩
 f57 := ⟨Tryz.f102.name, by decide, Tryz.func102.trans (congrArg some (by kernel_rfl))⟩
 t0 := Tryz.underlying0
 a0 := Tryz.isAgg0
 z0 := Tryz.sizeOf0
 v0 := Tryz.zeroValue0
 t3 := Tryz.underlying3
 a3 := Tryz.isAgg3
 z3 := Tryz.sizeOf3
 v3 := Tryz.zeroValue3
 t4 := Tryz.underlying4
 a4 := Tryz.isAgg4
 z4 := Tryz.sizeOf4
 v4 := Tryz.zeroValue4
 t5 := Tryz.underlying5
 a5 := Tryz.isAgg5
 z5 := Tryz.sizeOf5
 v5 := Tryz.zeroValue5
 t9 := Tryz.underlying9
 a9 := Tryz.isAgg9
 z9 := Tryz.sizeOf9
 v9 := Tryz.zeroValue9
 t22 := Tryz.underlying22
 a22 := Tryz.isAgg22
 z22 := Tryz.sizeOf22
 v22 := Tryz.zeroValue22
 a24 := Tryz.isAgg3
 z24 := Tryz.sizeOf3
 t25 := Tryz.underlying45
 a25 := Tryz.isAgg45
 z25 := Tryz.sizeOf45
 v25 := Tryz.zeroValue45
 t39 := Tryz.underlying113
 a39 := Tryz.isAgg113
 z39 := Tryz.sizeOf113
 v39 := Tryz.zeroValue113
 t45 := Tryz.underlying134
 a45 := Tryz.isAgg134
 z45 := Tryz.sizeOf134
 v45 := Tryz.zeroValue134
 t46 := Tryz.underlying135
 a46 := Tryz.isAgg135
 z46 := Tryz.sizeOf135
 v46 := Tryz.zeroValue135
 t50 := Tryz.underlying102
 a50 := Tryz.isAgg102
 z50 := Tryz.sizeOf102
 v50 := Tryz.zeroValue102
 t53 := Tryz.underlying141
 a53 := Tryz.isAgg141
 z53 := Tryz.sizeOf141
 v53 := Tryz.zeroValue141
 t55 := Tryz.underlying143
 a55 := Tryz.isAgg143
 z55 := Tryz.sizeOf143
 v55 := Tryz.zeroValue143
 t66 := Tryz.underlying149
 a66 := Tryz.isAgg149
 z66 := Tryz.sizeOf149
 v66 := Tryz.zeroValue149
 t70 := Tryz.underlying153
 a70 := Tryz.isAgg153
 z70 := Tryz.sizeOf153
 v70 := Tryz.zeroValue153
 t76 := Tryz.underlying160
 a76 := Tryz.isAgg160
 z76 := Tryz.sizeOf160
 v76 := Tryz.zeroValue160
 t77 := Tryz.underlying161
 a77 := Tryz.isAgg161
 z77 := Tryz.sizeOf161
 v77 := Tryz.zeroValue161 }
end
section
open Go.RowKit Go.Sort Go.Shelf
def encI (i : Nat) : Value := .int .i64 ((i : Nat) : Int)
theorem encI_one : OneCell encI := fun _ => rfl
theorem pair_sorted (cf : Nat → Nat → Int) (d : Array Nat) (h : SortedIn (ltOf cf) 0 d.size d) : d.toList.Pairwise fun a b => ltOf cf b a = false := by
 rw [List.pairwise_iff_getElem]
 intro i j hi hj hij
 have h1 := h i j (Nat.zero_le _) hij (by simpa using hj)
 have e1 : d[i]! = d.toList[i] := by rw [getElem!_pos d i (by simpa using hi)]; simp
 have e2 : d[j]! = d.toList[j] := by rw [getElem!_pos d j (by simpa using hj)]; simp
 rw [e1, e2] at h1
 exact h1
set_option maxHeartbeats 1000000 in
theorem sortI_any (gf : Nat) (cb : Array Value) (cf : Nat → Nat → Int) (hO : SWO (ltOf cf)) (eg : ∀ args w, (callFunc gf args).run Tryz.prog w = .ok (.enter gf args) w) (g cap n B : Nat) (l : List Nat) (w : World) (hn : n = l.length) (hown : w.ownsRow B 3 1 (.slice (some ⟨g, 0, none⟩) n cap) n (visN l)) (hb : n ≤ 1000000) (hcmp : CmpLays1 Tryz.prog gf cb encI cf g 0 l.toArray.size w) :
  Calls Tryz.prog 29 #[.slice (some ⟨g, 0, none⟩) n cap, .func (.func gf) #[] cb] w fun e w' =>
   e = .returned (.tuple #[]) ∧ (∃ l' : List Nat, l'.Perm l ∧ l'.Pairwise (fun a b => ltOf cf b a = false) ∧ w'.ownsRow B 3 1 (.slice (some ⟨g, 0, none⟩) n cap) n (visN l')) ∧ w.grownBy w' (some g) := by
 subst hn
 rcases hown.2 with ⟨e, _⟩ | ⟨g', cap', cur, e, hB, hg, r1, r2, r3, r4⟩
 ·cases e
 ·cases e
  have hev : ∀ m : List Nat, visN m = m.map encI := fun m => rfl
  have hH : Holds encI w g 0 l.toArray := holds_row hg (by rw [← hev]; simpa using r4)
  have hgl : g < w.heap.size := (Array.getElem?_eq_some_iff.1 hg).1
  have hc := Any.slices_SortFunc sortI encI encI_one cf hO gf cb g 0 cap l.toArray w eg hcmp hH hgl (by simp; omega)
  simp only [List.size_toArray] at hc
  refine hc.mono ?_
  rintro e w' ⟨rfl, d', q, os, hp, hs, rfl⟩
  have hd's : d'.size = l.length := by have := hp.1; simpa using this
  have hpm : d'.toList.Perm l := by
   have h3 := hp.2.2
   have e1 : d'.extract 0 l.length = d' := by rw [← hd's]; simp
   have e2 : l.toArray.extract 0 l.length = l.toArray := by simp
   rw [e1, e2] at h3
   exact h3
  refine ⟨rfl, ⟨d'.toList, hpm, pair_sorted cf d' (by rw [hd's]; exact hs), by rw [visN_len, hpm.length_eq, Nat.mul_one], .inr ⟨g, cap, _, rfl, hB, heap_sw encI d' hg, r1, r2, by simp [putCells, r3], ?_⟩⟩, grownBy_sw encI w g q os d'⟩
  rw [Nat.mul_one, ← hd's, hev]
  exact take_putR encI cur d' (by rw [hd's, r3, Nat.mul_one]; exact r1)
theorem cmpReadsI (g size : Nat) (w : World) : CmpLays1 Tryz.prog 13 #[] encI (fun a b => cmpI a b) g 0 size w := by
 refine CmpReads.lays (fun m os dk _ x y => (cmp_any ((x : Nat) : Int) ((y : Nat) : Int) _).mono ?_)
 rintro e w' ⟨rfl, rfl⟩
 exact ⟨rfl, 0, rfl⟩
theorem swoI : SWO (ltOf fun a b : Nat => cmpI a b) := by
 have h : ∀ x y : Nat, ltOf (fun a b : Nat => cmpI a b) x y = decide (x < y) := fun x y => by
  unfold ltOf cmpI
  refine decide_eq_decide.2 ?_
  show (if ((x : Nat) : Int) < y then (-1 : Int) else if ((y : Nat) : Int) < x then 1 else 0) < 0 ↔ x < y
  (repeat' split) <;> omega
 exact ⟨fun x => by rw [h]; simp, fun x y z h1 h2 => by rw [h] at *; simp at *; omega, fun x y z h1 h2 => by rw [h] at *; simp at *; omega⟩
end
end Go.Proofs.YtbnkabmnenginaaGreatDoor
