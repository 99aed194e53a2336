/- The walk of DragonOnce. -/
import Derived.Test.YthfhkmgegkhljaaDragN
import Derived.OpenShut
import Derived.OwnWalk
import Derived.RegionTactic
import Derived.BigRegion
namespace Go.Proofs.Ythfhkmgegkhljaa
open Go.RowKit

theorem bool_info : (Try.prog.info? 4).map (fun i => (i.zero, i.size, i.bytes)) = some (some (.bool false), 1, 1) := by kernel_rfl
theorem sq_hi {x : Int} (h1 : -2000 ≤ x) (h2 : x ≤ 2000) : x * x ≤ 4000000 := by
  rcases Int.le_total 0 x with h | h
  · have := Int.mul_le_mul h2 h2 h (by decide)
    omega
  · have h3 : -x ≤ 2000 := by omega
    have := Int.mul_le_mul h3 h3 (by omega) (by decide)
    rw [Int.neg_mul_neg] at this
    omega
/-- The steps ahead of the j-th are marked, and no others. -/
def Marked (L : List (V2 × V2)) (j : Nat) (xs : List Value) : Prop :=
  xs.length = 131072 ∧ ∀ s : Nat, s < 131072 → ∃ m : Bool, xs[s]? = some (.bool m) ∧ (m = true ↔ ∃ i e, i < j ∧ L[i]? = some e ∧ idxE e = (s : Int))
theorem marked_zero (L : List (V2 × V2)) : Marked L 0 (madeCells (Value.bool false).cells (131072 * 1)).toList := by
  have : (madeCells (Value.bool false).cells (131072 * 1)).toList = List.replicate 131072 (.bool false) := toList_madeCells_one _ _
  rw [this]
  refine ⟨List.length_replicate, fun s hs => ⟨false, by rw [List.getElem?_replicate, if_pos hs], ?_⟩⟩
  constructor
  · intro h; cases h
  · rintro ⟨i, e, h, _⟩; omega
theorem marked_no {L : List (V2 × V2)} {m j : Nat} {xs : List Value} {e : V2 × V2} (h : Marked L j xs) (hs : Steps4 L m) (he : L[j]? = some e) : xs[(idxE e).toNat]? = some (.bool false) ∧ 0 ≤ idxE e ∧ idxE e < 131072 := by
  obtain ⟨h1, h2, h3⟩ := hs.fine e (List.mem_of_getElem? he)
  have hb := idxV_bd (lowE_near h2 h3) (lowE_flag e)
  rw [← idxE_low] at hb
  refine ⟨?_, hb⟩
  obtain ⟨b, hb1, hb2⟩ := h.2 (idxE e).toNat (by omega)
  cases b
  · exact hb1
  · obtain ⟨i, f, hi, hf, hx⟩ := hb2.1 rfl
    exact absurd (by rw [hx]; omega) (hs.apart i j f e hf he hi)
theorem marked_succ {L : List (V2 × V2)} {j : Nat} {xs : List Value} {e : V2 × V2} (h : Marked L j xs) (he : L[j]? = some e) (h0 : 0 ≤ idxE e) : Marked L (j + 1) (xs.set (idxE e).toNat (.bool true)) := by
  refine ⟨by rw [List.length_set]; exact h.1, fun s hs => ?_⟩
  obtain ⟨m, hm1, hm2⟩ := h.2 s hs
  by_cases hse : (idxE e).toNat = s
  · refine ⟨true, by rw [hse, List.getElem?_set_self (by rw [h.1]; exact hs)], fun _ => ⟨j, e, by omega, he, by omega⟩, fun _ => rfl⟩
  · refine ⟨m, by rw [List.getElem?_set_ne hse]; exact hm1, hm2.trans ⟨?_, ?_⟩⟩
    · rintro ⟨i, f, hi, hf, hx⟩; exact ⟨i, f, by omega, hf, hx⟩
    · rintro ⟨i, f, hi, hf, hx⟩
      rcases Nat.lt_or_ge i j with hij | hij
      · exact ⟨i, f, hij, hf, hx⟩
      · have : i = j := by omega
        subst this
        rw [he] at hf
        injection hf with hf
        subst hf
        omega
theorem once_below (wr : World) (o o' : Obj) (m : Nat) : Below wr.heap.size wr (((wr.alloc o).alloc o').drewN m) :=
  below_drewN (((Below.refl _ _).alloc (Nat.le_refl _) o).alloc (by simp) o') m
theorem once_end {w wr Wx : World} {base gs b off s : Nat} {e : TypeId} {xs P : List Value} {u : Value} (hown : wr.ownsRow base e 1 (.slice (some ⟨gs, 0, none⟩) 131072 131072) 131072 xs) (hbel : Below w.heap.size w wr)
    (hx : Below wr.heap.size wr Wx) (hg : w.heap.size ≤ gs) (hb : b < gs) (HC : Hid (∀ (j : Nat) (u : Value), P[j]? = some u → wr.cell? ⟨b, off + j, none⟩ = some u)) :
    (Wx.setCell ⟨gs, s, none⟩ u).ownsRow base e 1 (.slice (some ⟨gs, 0, none⟩) 131072 131072) 131072 (xs.set s u) ∧ Below w.heap.size w (Wx.setCell ⟨gs, s, none⟩ u) ∧
      Hid (∀ (j : Nat) (x : Value), P[j]? = some x → (Wx.setCell ⟨gs, s, none⟩ u).cell? ⟨b, off + j, none⟩ = some x) := by
  refine ⟨((own_below hown hx (Nat.le_refl _)).stored s u).1, (hbel.trans (hx.mono hbel.size)).setCell hg u, fun j x hj => ?_⟩
  have h1 := HC.out j x hj
  have h2 := World.block_lt_of_cell? wr _ h1
  rw [World.cell?_of_block (w := Wx) (Below.heap_setCell Wx ⟨gs, s, none⟩ u b (by simp; omega)), hx.cell (p := ⟨b, off + j, none⟩) h2]
  exact h1
theorem vps_at (l : List (Int × Int)) : ∀ i, (vps l)[i * 2]? = (l[i]?).map (fun p => .int .i64 p.1) := by
  induction l with
  | nil => intro i; simp
  | cons p l ih =>
    intro i
    cases i with
    | zero => simp
    | succ i =>
      have : (i + 1) * 2 = i * 2 + 1 + 1 := by omega
      rw [this]
      simp only [vps, List.flatMap_cons, List.cons_append, List.nil_append, List.getElem?_cons_succ] at ih ⊢
      exact ih i
theorem vps_at1 (l : List (Int × Int)) : ∀ i, (vps l)[i * 2 + 1]? = (l[i]?).map (fun p => .int .i64 p.2) := by
  induction l with
  | nil => intro i; simp
  | cons p l ih =>
    intro i
    cases i with
    | zero => simp
    | succ i =>
      have : (i + 1) * 2 + 1 = i * 2 + 1 + 1 + 1 := by omega
      rw [this]
      simp only [vps, List.flatMap_cons, List.cons_append, List.nil_append, List.getElem?_cons_succ] at ih ⊢
      exact ih i

set_option maxRecDepth 100000 in
set_option maxHeartbeats 1600000 in
theorem once_walk (A : Option Addr) (n c : Nat) (zs : List Int) (w : World) (h : Rd w 1 A n (vis zs)) (hn : n ≤ 9223372036854775807)
    (hz : ∀ z ∈ zs, -9223372036854775808 ≤ z ∧ z ≤ 9223372036854775807) :
    Calls Try.prog 3 #[.slice A n c] w fun e w' => e = .returned (.bool true) ∧ Below w.heap.size w w' := by
  go_enter Try.func3, Try.ntmps3
  go_wp2_with fail
  refine (kinds_any A n c zs 10 w h hn (by decide) hz).mono ?_
  rintro e w1 ⟨v1, rfl, hown1, hbel1⟩
  obtain ⟨A1, c1, rfl, hc1, hc1'⟩ := own_slice hown1
  have hrd1 := Rd.of_own hown1
  obtain ⟨r, hr⟩ : ∃ r, r = ((zs.take 10).map kindOfRaw).reverse := ⟨_, rfl⟩
  have hrev : (zs.take 10).map kindOfRaw = r.reverse := by rw [hr, List.reverse_reverse]
  rw [hrev] at hown1 hrd1
  have hkd : Kinded r := by
    intro z hz
    rw [hr, List.mem_reverse, List.mem_map] at hz
    obtain ⟨y, _, rfl⟩ := hz
    have h1 := pick_lo y 2 (by omega)
    have h2 := pick_hi y 2 (by omega)
    unfold kindOfRaw
    omega
  obtain ⟨m, hm⟩ : ∃ m, m = min n 10 := ⟨_, rfl⟩
  rw [← hm] at hown1 hrd1 hc1 ⊢
  have hm10 : m ≤ 10 := by omega
  have hrl : r.length = m := by have := hrd1.ints_len; simpa using this
  have hchk : checkE r.reverse = 0 := by
    unfold checkE
    rw [if_neg (by simp; omega), if_neg]
    intro h
    rw [List.any_eq_true] at h
    obtain ⟨z, hz, hs⟩ := h
    have := hkd z (by simpa using hz)
    rcases this with rfl | rfl <;> simp [strangeB] at hs
  have HR := Lib.hid hr
  have HM := Lib.hid hm
  have HRL := Lib.hid hrl
  have HRV := Lib.hid hrev
  clear hr hm hrl hrev
  go_wp2_with fail
  refine (path_yes r A1 m c1 w1 hrd1 hm10 hc1 hkd hchk).mono ?_
  rintro e w2 ⟨v2, rfl, hown2, hbel2⟩
  obtain ⟨N, hN⟩ : ∃ N, N = 2 ^ m := ⟨_, rfl⟩
  have hNb : N ≤ 1024 := by have h2 : 2 ^ m ≤ 2 ^ 10 := Nat.pow_le_pow_right (by decide) hm10; omega
  have hN1 : 1 ≤ N := by have : 0 < 2 ^ m := Nat.pow_pos (by decide); omega
  have hlen : (dw r).length + 2 = N + 1 := by have := dw_len r; rw [HRL.out] at this; omega
  rw [hlen] at hown2
  have hpow : wrap64 (2 ^ m) = (N : Int) := by
    have : (2 : Int) ^ m = (N : Int) := by rw [hN]; push_cast; rfl
    rw [this]; exact IntWalk.wrap64_in _ ⟨by omega, by omega⟩
  have HN := Lib.hid hN
  clear hN hlen
  have hst := dragon_steps hkd (by have := HRL.out; omega)
  rw [HRL.out, ← HN.out] at hst
  have hps := pathS_eq r
  obtain ⟨L, hL⟩ : ∃ L, L = trail (0, 0) (1, 0) (dw r) := ⟨_, rfl⟩
  have hnx := fun i e => trail_next (dw r) (0, 0) (1, 0) i e
  rw [← hL] at hst hps hnx
  obtain ⟨⟨fx, fy⟩, hF⟩ : ∃ F, F = fin (0, 0) (1, 0) (dw r) := ⟨_, rfl⟩
  have hfn := dragon_fin hkd
  rw [← hF] at hps hnx hfn
  rw [hps] at hown2
  have HPS := Lib.hid hps
  have HNX := Lib.hid hnx
  have HST := Lib.hid hst
  have HFN : Hid (fx * fx + fy * fy = (N : Int)) := by
    have : nrm (fx, fy) = fx * fx + fy * fy := rfl
    rw [← this, hfn, HRL.out, HN.out]; push_cast; rfl
  have hfb : (-2000 ≤ fx ∧ fx ≤ 2000) ∧ (-2000 ≤ fy ∧ fy ≤ 2000) := nrm_comp (p := (fx, fy)) (c := 2000) (by decide) (by
    have : nrm (fx, fy) = fx * fx + fy * fy := rfl
    rw [this, HFN.out]; omega)
  clear hps hnx hst hfn hL hF
  obtain ⟨⟨f1, f2⟩, f3, f4⟩ := hfb
  obtain ⟨A2, c2, rfl, hc2, hc2'⟩ := own_slice hown2
  have hrd2 := Rd.of_own hown2
  have hLl : L.length = N := HST.out.len
  have HLL := Lib.hid hLl
  clear hLl
  obtain ⟨b, off, hA2, hb2, hcs⟩ := hrd2.at_ (by omega)
  subst hA2
  have HCS := Lib.hid hcs
  have cx : w2.cell? ⟨b, off + N * 2, none⟩ = some (.int .i64 fx) := hcs _ _ (by
    rw [vps_at]; simp [HLL.out])
  have cy : w2.cell? ⟨b, off + N * 2 + 1, none⟩ = some (.int .i64 fy) := by
    rw [Nat.add_assoc]; exact hcs _ _ (by rw [vps_at1]; simp [HLL.out])
  clear hcs
  have hsx : 0 ≤ fx * fx ∧ fx * fx ≤ 4000000 := ⟨(nrm_nonneg (fx, fy)).1, sq_hi f1 f2⟩
  have hsy : 0 ≤ fy * fy ∧ fy * fy ≤ 4000000 := ⟨(nrm_nonneg (fx, fy)).2, sq_hi f3 f4⟩
  obtain ⟨sx, hx1⟩ : ∃ s, s = fx * fx := ⟨_, rfl⟩
  obtain ⟨sy, hy1⟩ : ∃ s, s = fy * fy := ⟨_, rfl⟩
  rw [← hx1] at hsx
  rw [← hy1] at hsy
  have hwx : wrap64 (fx * fx) = sx := by rw [← hx1]; exact IntWalk.wrap64_in _ ⟨by omega, by omega⟩
  have hwy : wrap64 (fy * fy) = sy := by rw [← hy1]; exact IntWalk.wrap64_in _ ⟨by omega, by omega⟩
  have htest : (sx + sy != (N : Int)) = false := by have := HFN.out; rw [← hx1, ← hy1] at this; simpa using this
  clear hx1 hy1
  obtain ⟨sx1, sx2⟩ := hsx
  obtain ⟨sy1, sy2⟩ := hsy
  obtain ⟨i0, hi, hz0, hz1, hz2⟩ := info_parts bool_info
  have hbelA : Below w.heap.size w (w2.alloc (.cells #[.int .i64 fx, .int .i64 fy] 29)) := (hbel1.trans (hbel2.mono hbel1.size)).alloc (by have := hbel1.size; have := hbel2.size; omega) _
  go_wp2_with (at_make; refine wpList_make_full _ rfl _ _ 30 rfl w2.heap.size 4 i0 (.bool false) 1 Try.underlying30 hi hz0 hz1 .i64 .i64 _ _ 131072 rfl rfl rfl rfl (by rw [hz2]; omega) (by unfold maxLen; omega) (by simp) ?_; intro w3 hown3 hgrow3)
  have hmark0 : Marked L 0 (madeCells (Value.bool false).cells (131072 * 1)).toList := marked_zero L
  have hbel3 : Below w.heap.size w w3 := hbelA.grown hgrow3 (by have := hbel1.size; have := hbel2.size; simp; omega) (fun k hk => by cases hk)
  have hcs3 : ∀ (j : Nat) (u : Value), (vps (L.map (fun x => x.fst) ++ [(fx, fy)]))[j]? = some u → w3.cell? ⟨b, off + j, none⟩ = some u := fun j u hu =>
    hgrow3.cell (World.cell?_alloc_past _ _ _ (by exact hb2) ▸ HCS.out j u hu) (by simp)
  have hbg : b < w2.heap.size + 1 := by omega
  obtain ⟨gs, hgs⟩ : ∃ g, g = (w2.alloc (.cells #[.int .i64 fx, .int .i64 fy] 29)).heap.size := ⟨_, rfl⟩
  have hgs' : gs = w2.heap.size + 1 := by rw [hgs]; simp
  have hgsb : w.heap.size ≤ gs ∧ b < gs := by have := hbel1.size; have := hbel2.size; omega
  simp only [← hgs] at hown3
  rw [← hgs']
  have HGS := Lib.hid hgs'
  have hst3 := HST.out
  have HC3 := Lib.hid hcs3
  have HM0 := Lib.hid hmark0
  clear hgs hgs' hcs3 hst3 hmark0 hi hz0 hz1 hz2
  go_loopw [9] (fun i wr => ∃ (k : Nat) (xs : List Value), k ≤ N ∧ i = .int .i64 k ∧ Marked L k xs ∧ wr.ownsRow w2.heap.size 4 1 (.slice (some ⟨gs, 0, none⟩) 131072 131072) 131072 xs ∧ Below w.heap.size w wr ∧ Hid (∀ (j : Nat) (u : Value), (vps (L.map (fun x => x.fst) ++ [(fx, fy)]))[j]? = some u → wr.cell? ⟨b, off + j, none⟩ = some u)) (fun i _ => N - (intOf i).toNat)
  case atStart => exact ⟨0, _, Nat.zero_le _, rfl, HM0.out, hown3, hbel3, HC3⟩
  case round =>
    obtain ⟨k, xs, hk, rfl, hmk, hownr, hbelr, HCr⟩ := hrel
    by_cases hlt : k < N
    · obtain ⟨⟨⟨ax, ay⟩, d⟩, he⟩ : ∃ e, L[k]? = some e := ⟨_, List.getElem?_eq_getElem (by rw [HLL.out]; exact hlt)⟩
      have hnext := HNX.out k _ he
      have hfin := HST.out.fine _ (List.mem_of_getElem? he)
      have hno := marked_no hmk HST.out he
      have hsuc := marked_succ hmk he hno.2.1
      have q0 : wr.cell? ⟨b, off + k * 2, none⟩ = some (.int .i64 ax) := HCr.out _ _ (by rw [vps_at, List.getElem?_append_left (by rw [List.length_map, HLL.out]; exact hlt), List.getElem?_map, he]; rfl)
      have q1 : wr.cell? ⟨b, off + k * 2 + 1, none⟩ = some (.int .i64 ay) := by
        rw [Nat.add_assoc]; exact HCr.out _ _ (by rw [vps_at1, List.getElem?_append_left (by rw [List.length_map, HLL.out]; exact hlt), List.getElem?_map, he]; rfl)
      have q2 : wr.cell? ⟨b, off + (k + 1) * 2, none⟩ = some (.int .i64 (addV (ax, ay) d).1) := HCr.out _ _ (by rw [vps_at, hnext]; rfl)
      have q3 : wr.cell? ⟨b, off + (k + 1) * 2 + 1, none⟩ = some (.int .i64 (addV (ax, ay) d).2) := by
        rw [Nat.add_assoc]; exact HCr.out _ _ (by rw [vps_at1, hnext]; rfl)
      have q4 := hownr.cellAt (idxE ((ax, ay), d)).toNat (by omega)
      rw [hno.1] at q4
      have q5 := hownr.frozenAt (idxE ((ax, ay), d)).toNat
      obtain ⟨hu, ⟨⟨n1, n2⟩, n3, n4⟩, ⟨⟨n5, n6⟩, n7, n8⟩⟩ := hfin
      simp only at n1 n2 n3 n4
      have HE := Lib.hid he
      have HS := Lib.hid hsuc
      have hgr : gs < wr.heap.size := by have := World.block_lt_of_cell? wr _ q4; exact this
      have hbr : b < wr.heap.size := World.block_lt_of_cell? wr _ q0
      have hk1 : (k : Int) < (N : Int) + 1 := by omega
      have hk2 : (k : Int) + 1 < (N : Int) + 1 := by omega
      clear he hsuc hnext hno
      rcases hu with hu | hu | hu | hu
      · simp only at hu
        subst hu
        simp only [addV, idxE, idxV, reduceIte, Prod.mk.injEq, reduceCtorEq, Int.reduceNeg, Int.reduceEq, and_true, and_false, false_and, true_and, Int.add_zero] at q2 q3 q4 q5 n5 n6 n7 n8
        go_wp2_with fail
        go_region
        all_goals
          go_wp2_with fail
          go_quiet (fail)
          go_wp2_with fail
        all_goals
          refine ⟨⟨k + 1, _, by omega, by go_num, ?_, once_end hownr hbelr (once_below wr _ _ _) hgsb.1 hgsb.2 HCr⟩, by simp [intOf]; omega⟩
          refine (congrArg (fun t : Int => Marked L (k + 1) (xs.set t.toNat (.bool true))) ?_).mp HS.out
          simp [idxE, idxV, addV] <;> omega
      · simp only at hu
        subst hu
        simp only [addV, idxE, idxV, reduceIte, Prod.mk.injEq, reduceCtorEq, Int.reduceNeg, Int.reduceEq, and_true, and_false, false_and, true_and, Int.add_zero] at q2 q3 q4 q5 n5 n6 n7 n8
        go_wp2_with fail
        go_region
        all_goals
          go_wp2_with fail
          go_quiet (fail)
          go_wp2_with fail
        all_goals
          refine ⟨⟨k + 1, _, by omega, by go_num, ?_, once_end hownr hbelr (once_below wr _ _ _) hgsb.1 hgsb.2 HCr⟩, by simp [intOf]; omega⟩
          refine (congrArg (fun t : Int => Marked L (k + 1) (xs.set t.toNat (.bool true))) ?_).mp HS.out
          simp [idxE, idxV, addV] <;> omega
      · simp only at hu
        subst hu
        simp only [addV, idxE, idxV, reduceIte, Prod.mk.injEq, reduceCtorEq, Int.reduceNeg, Int.reduceEq, and_true, and_false, false_and, true_and, Int.add_zero] at q2 q3 q4 q5 n5 n6 n7 n8
        go_wp2_with fail
        go_region
        all_goals
          go_wp2_with fail
          go_quiet (fail)
          go_wp2_with fail
        all_goals
          refine ⟨⟨k + 1, _, by omega, by go_num, ?_, once_end hownr hbelr (once_below wr _ _ _) hgsb.1 hgsb.2 HCr⟩, by simp [intOf]; omega⟩
          refine (congrArg (fun t : Int => Marked L (k + 1) (xs.set t.toNat (.bool true))) ?_).mp HS.out
          simp [idxE, idxV, addV] <;> omega
      · simp only at hu
        subst hu
        simp only [addV, idxE, idxV, reduceIte, Prod.mk.injEq, reduceCtorEq, Int.reduceNeg, Int.reduceEq, and_true, and_false, false_and, true_and, Int.add_zero] at q2 q3 q4 q5 n5 n6 n7 n8
        go_wp2_with fail
        go_region
        all_goals
          go_wp2_with fail
          go_quiet (fail)
          go_wp2_with fail
        all_goals
          refine ⟨⟨k + 1, _, by omega, by go_num, ?_, once_end hownr hbelr (once_below wr _ _ _) hgsb.1 hgsb.2 HCr⟩, by simp [intOf]; omega⟩
          refine (congrArg (fun t : Int => Marked L (k + 1) (xs.set t.toNat (.bool true))) ?_).mp HS.out
          simp [idxE, idxV, addV] <;> omega
    · go_wp2
      go_ret
      exact ⟨rfl, hbelr⟩
end Go.Proofs.Ythfhkmgegkhljaa
