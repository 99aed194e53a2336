/- The document's KindOf and PlaceOf. -/
import Derived.Test.YtoienokpchbglaaDoorRf2
namespace Go.Proofs.YtoienokpchbglaaDoor
set_option linter.unusedSimpArgs false
set_option linter.unusedVariables false
open Go.RowKit Go.Maps

/-- the kind of the first crease at an edge -/
def kindD (cs : List C5) (e : E4) : Int := match cs with
 | [] => 0
 | c :: cs => if c.1 = e then c.2 else kindD cs e
theorem kindD_at {cs : List C5} {e : E4} : ∀ {j : Nat} {c : C5}, cs[j]? = some c → (∀ d ∈ cs.take j, d.1 ≠ e) → c.1 = e → kindD cs e = c.2 := by
 induction cs with
 | nil => intro j c h; simp at h
 | cons a cs ih =>
  intro j c h hn hc
  cases j with
  | zero =>
   simp at h
   subst h
   simp [kindD, hc]
  | succ j =>
   have h1 : a.1 ≠ e := hn a (by simp)
   unfold kindD
   rw [if_neg h1]
   exact ih (by simpa using h) (fun d hd => hn d (by simp [hd])) hc
theorem kindD_no {cs : List C5} {e : E4} (h : ∀ d ∈ cs, d.1 ≠ e) : kindD cs e = 0 := by
 induction cs with
 | nil => rfl
 | cons a cs ih =>
  unfold kindD
  rw [if_neg (h a (by simp))]
  exact ih (fun d hd => h d (by simp [hd]))
theorem eqE_dec (a b : E4) : (eqL [(a.1, b.1), (a.2.1, b.2.1), (a.2.2.1, b.2.2.1), (a.2.2.2, b.2.2.2)]) = decide (a = b) := by
 have h := eqE4_iff a b
 unfold eqE4 at h
 rw [Bool.eq_iff_iff, h, decide_eq_true_eq]
theorem eqT_dec (a b : T3) : (eqL [(a.1, b.1), (a.2.1, b.2.1), (a.2.2, b.2.2)]) = decide (a = b) := by
 obtain ⟨a1, a2, a3⟩ := a
 obtain ⟨b1, b2, b3⟩ := b
 rw [Bool.eq_iff_iff, decide_eq_true_eq]
 simp [eqL]
theorem take_no {α : Type} {P : α → Prop} {l : List α} {j : Nat} {c : α} (hc : l[j]? = some c) (h : ∀ d ∈ l.take j, P d) (hn : P c) : ∀ d ∈ l.take (j + 1), P d := by
 intro d hd
 rw [List.take_add_one, hc] at hd
 rcases List.mem_append.1 hd with hd | hd
 ·exact h d hd
 ·simp at hd
  subst hd
  exact hn
set_option maxRecDepth 100000 in
set_option maxHeartbeats 3200000 in
theorem kindOf_any (W H : Nat) (Am Ac : Option Addr) (nm cm nc cc : Nat) (mask : List Int) (cs : List C5) (e : E4) (w : World) (hS : ShM w W H Am nm mask Ac nc cs) :
  Calls Tryd.prog 47 #[shV W H Am nm cm Ac nc cc, aggE e] w fun r w' => r = .returned (.int .i64 (kindD cs e)) ∧ Below w.heap.size w w' := by
 have hnc := hS.nb
 have hcl := hS.rc.creases_len
 have kb0 := heap_alloc_new w (.cells #[.int .i64 W, .int .i64 H, .slice Am nm cm, .slice Ac nc cc] 25)
 have kb1 := blk_alloc kb0 (.cells #[.int .i64 e.1, .int .i64 e.2.1, .int .i64 e.2.2.1, .int .i64 e.2.2.2] 86)
 have ke := heap_alloc_new (w.alloc (.cells #[.int .i64 W, .int .i64 H, .slice Am nm cm, .slice Ac nc cc] 25)) (.cells #[.int .i64 e.1, .int .i64 e.2.1, .int .i64 e.2.2.1, .int .i64 e.2.2.2] 86)
 rw [World.size_alloc] at ke
 have hbw : Below w.heap.size w ((w.alloc (.cells #[.int .i64 W, .int .i64 H, .slice Am nm cm, .slice Ac nc cc] 25)).alloc (.cells #[.int .i64 e.1, .int .i64 e.2.1, .int .i64 e.2.2.1, .int .i64 e.2.2.2] 86)) := ba (below_new _ _) _
 have a3 := cell_of_blk kb1 3
 have e0 := cell_of_blk ke 0
 have e1 := cell_of_blk ke 1
 have e2 := cell_of_blk ke 2
 have e3 := cell_of_blk ke 3
 simp only [List.getElem?_toArray, List.getElem?_cons_zero, List.getElem?_cons_succ] at a3 e0 e1 e2 e3
 have hrc := hS.rc.below hbw
 obtain ⟨R, hR⟩ : ∃ R, R = kindD cs e := ⟨_, rfl⟩
 rw [← hR]
 have HRC := Lib.hid hrc
 have HR := Lib.hid hR
 clear hS kb0 kb1 ke hrc hR
 go_enter Tryd.func47, Tryd.ntmps47
 go_wp2_with fail
 generalize (w.alloc (.cells #[.int .i64 W, .int .i64 H, .slice Am nm cm, .slice Ac nc cc] 25)).alloc (.cells #[.int .i64 e.1, .int .i64 e.2.1, .int .i64 e.2.2.1, .int .i64 e.2.2.2] 86) = w0 at a3 e0 e1 e2 e3 hbw HRC
 have hz1 : w.heap.size + 1 < w0.heap.size := World.block_lt_of_cell? _ _ e0
 have hz0 : w.heap.size < w0.heap.size := by omega
 go_loopw [5] (fun i wr => ∃ j : Nat, j ≤ nc ∧ i = .int .i64 j ∧ Hid (∀ d ∈ cs.take j, d.1 ≠ e) ∧ Below w0.heap.size w0 wr) (fun i _ => nc - (intOf i).toNat)
 case atStart => exact ⟨0, by omega, rfl, Lib.hid (by simp), Below.refl _ _⟩
 case round =>
  obtain ⟨j, hj, rfl, hall, hbr⟩ := hrel
  have f3 := keep_c a3 hbr hz0
  by_cases hjn : j < nc
  ·have hji : (j : Int) < (nc : Int) := by omega
   have hj0 : (0 : Int) ≤ (j : Int) := by omega
   obtain ⟨c, hc⟩ : ∃ c, cs[j]? = some c := ⟨_, List.getElem?_eq_getElem (by omega)⟩
   obtain ⟨b, off, hA, hbl, _⟩ := HRC.out.2 (by omega)
   subst hA
   obtain ⟨x0, x1, x2, x3, x4⟩ := (HRC.out.below hbr).crease hc
   have hq : ∀ w', (binOp .eql 86 (.agg #[.int .i64 c.1.1, .int .i64 c.1.2.1, .int .i64 c.1.2.2.1, .int .i64 c.1.2.2.2]) (.agg #[.int .i64 e.1, .int .i64 e.2.1, .int .i64 e.2.2.1, .int .i64 e.2.2.2])).run Tryd.prog w' = .ok (.bool (decide (c.1 = e))) w' := fun w' => by
    have h := eqE c.1.1 c.1.2.1 c.1.2.2.1 c.1.2.2.2 e.1 e.2.1 e.2.2.1 e.2.2.2 w'
    rw [eqE_dec] at h
    exact h
   have k0 := keep_c e0 hbr hz1
   have k1 := keep_c e1 hbr hz1
   have k2 := keep_c e2 hbr hz1
   have k3 := keep_c e3 hbr hz1
   have HC := Lib.hid hc
   clear hc
   by_cases hce : c.1 = e
   ·rw [decide_eq_true hce] at hq
    have hres : R = c.2 := by rw [HR.out]; exact kindD_at HC.out hall.out hce
    have HRES := Lib.hid hres
    clear hres hce
    go_wp2_with fail
    have hSS : wr.drew.cell? ⟨w.heap.size, 3, none⟩ = some (.slice (some ⟨b, off, none⟩) nc cc) ∧ wr.drew.cell? ⟨b, off + j * 5, none⟩ = some (.int .i64 c.1.1) ∧ wr.drew.cell? ⟨b, off + j * 5 + 1, none⟩ = some (.int .i64 c.1.2.1) ∧ wr.drew.cell? ⟨b, off + j * 5 + 2, none⟩ = some (.int .i64 c.1.2.2.1) ∧ wr.drew.cell? ⟨b, off + j * 5 + 3, none⟩ = some (.int .i64 c.1.2.2.2) ∧ wr.drew.cell? ⟨b, off + j * 5 + 4, none⟩ = some (.int .i64 c.2) ∧ wr.drew.cell? ⟨w.heap.size + 1, 0, none⟩ = some (.int .i64 e.1) ∧ wr.drew.cell? ⟨w.heap.size + 1, 1, none⟩ = some (.int .i64 e.2.1) ∧ wr.drew.cell? ⟨w.heap.size + 1, 2, none⟩ = some (.int .i64 e.2.2.1) ∧ wr.drew.cell? ⟨w.heap.size + 1, 3, none⟩ = some (.int .i64 e.2.2.2) ∧ Below w0.heap.size w0 wr.drew := ⟨f3, x0, x1, x2, x3, x4, k0, k1, k2, k3, hbr.drew⟩
    go_region_held3 (fun w' => w'.cell? ⟨w.heap.size, 3, none⟩ = some (.slice (some ⟨b, off, none⟩) nc cc) ∧ w'.cell? ⟨b, off + j * 5, none⟩ = some (.int .i64 c.1.1) ∧ w'.cell? ⟨b, off + j * 5 + 1, none⟩ = some (.int .i64 c.1.2.1) ∧ w'.cell? ⟨b, off + j * 5 + 2, none⟩ = some (.int .i64 c.1.2.2.1) ∧ w'.cell? ⟨b, off + j * 5 + 3, none⟩ = some (.int .i64 c.1.2.2.2) ∧ w'.cell? ⟨b, off + j * 5 + 4, none⟩ = some (.int .i64 c.2) ∧ w'.cell? ⟨w.heap.size + 1, 0, none⟩ = some (.int .i64 e.1) ∧ w'.cell? ⟨w.heap.size + 1, 1, none⟩ = some (.int .i64 e.2.1) ∧ w'.cell? ⟨w.heap.size + 1, 2, none⟩ = some (.int .i64 e.2.2.1) ∧ w'.cell? ⟨w.heap.size + 1, 3, none⟩ = some (.int .i64 e.2.2.2) ∧ Below w0.heap.size w0 w')
     (first
      | with_reducible exact hSS
      | with_reducible assumption)
     (first
      | fail)
    rename_i hSE
    have hbe : Below w0.heap.size w0 _ := hSE.2.2.2.2.2.2.2.2.2.2
    clear hSS hSE
    go_wp2
    go_ret
    exact ⟨ret_int HRES.out.symm, stay_b hbw hbe⟩
   ·rw [decide_eq_false hce] at hq
    have hnx := take_no (P := fun d : C5 => d.1 ≠ e) HC.out hall.out hce
    have HNX := Lib.hid hnx
    clear hnx hce
    go_wp2_with fail
    have hSS : wr.drew.cell? ⟨w.heap.size, 3, none⟩ = some (.slice (some ⟨b, off, none⟩) nc cc) ∧ wr.drew.cell? ⟨b, off + j * 5, none⟩ = some (.int .i64 c.1.1) ∧ wr.drew.cell? ⟨b, off + j * 5 + 1, none⟩ = some (.int .i64 c.1.2.1) ∧ wr.drew.cell? ⟨b, off + j * 5 + 2, none⟩ = some (.int .i64 c.1.2.2.1) ∧ wr.drew.cell? ⟨b, off + j * 5 + 3, none⟩ = some (.int .i64 c.1.2.2.2) ∧ wr.drew.cell? ⟨b, off + j * 5 + 4, none⟩ = some (.int .i64 c.2) ∧ wr.drew.cell? ⟨w.heap.size + 1, 0, none⟩ = some (.int .i64 e.1) ∧ wr.drew.cell? ⟨w.heap.size + 1, 1, none⟩ = some (.int .i64 e.2.1) ∧ wr.drew.cell? ⟨w.heap.size + 1, 2, none⟩ = some (.int .i64 e.2.2.1) ∧ wr.drew.cell? ⟨w.heap.size + 1, 3, none⟩ = some (.int .i64 e.2.2.2) ∧ Below w0.heap.size w0 wr.drew := ⟨f3, x0, x1, x2, x3, x4, k0, k1, k2, k3, hbr.drew⟩
    go_region_held3 (fun w' => w'.cell? ⟨w.heap.size, 3, none⟩ = some (.slice (some ⟨b, off, none⟩) nc cc) ∧ w'.cell? ⟨b, off + j * 5, none⟩ = some (.int .i64 c.1.1) ∧ w'.cell? ⟨b, off + j * 5 + 1, none⟩ = some (.int .i64 c.1.2.1) ∧ w'.cell? ⟨b, off + j * 5 + 2, none⟩ = some (.int .i64 c.1.2.2.1) ∧ w'.cell? ⟨b, off + j * 5 + 3, none⟩ = some (.int .i64 c.1.2.2.2) ∧ w'.cell? ⟨b, off + j * 5 + 4, none⟩ = some (.int .i64 c.2) ∧ w'.cell? ⟨w.heap.size + 1, 0, none⟩ = some (.int .i64 e.1) ∧ w'.cell? ⟨w.heap.size + 1, 1, none⟩ = some (.int .i64 e.2.1) ∧ w'.cell? ⟨w.heap.size + 1, 2, none⟩ = some (.int .i64 e.2.2.1) ∧ w'.cell? ⟨w.heap.size + 1, 3, none⟩ = some (.int .i64 e.2.2.2) ∧ Below w0.heap.size w0 w')
     (first
      | with_reducible exact hSS
      | with_reducible assumption)
     (first
      | fail)
    rename_i hSE
    have hbe : Below w0.heap.size w0 _ := hSE.2.2.2.2.2.2.2.2.2.2
    clear hSS hSE
    go_wp2
    go_roundw
    case rel => exact ⟨j + 1, by omega, by go_num, HNX, hbe⟩
    case measure => simp [intOf]; omega
  ·obtain rfl : j = nc := by omega
   have hres : R = 0 := by
    rw [HR.out]
    refine kindD_no ?_
    have := hall.out
    rwa [List.take_of_length_le (by omega)] at this
   have HRES := Lib.hid hres
   clear hres
   go_wp2
   go_ret
   exact ⟨ret_int HRES.out.symm, stay_b hbw hbr⟩
/-- where a triangle stands in a list; -1: nowhere -/
def placeI (l : List T3) (t : T3) : Int := if t ∈ l then (l.idxOf t : Nat) else -1
theorem placeI_at {l : List T3} {t : T3} {j : Nat} (h : l[j]? = some t) (hn : ∀ d ∈ l.take j, d ≠ t) : placeI l t = j := by
 unfold placeI
 rw [if_pos (List.mem_of_getElem? h)]
 have hj := (List.getElem?_eq_some_iff.1 h).1
 have h1 : l = l.take j ++ l.drop j := (List.take_append_drop j l).symm
 have h2 : t ∉ l.take j := fun hm => hn t hm rfl
 have h3 : l.drop j = t :: l.drop (j + 1) := by
  rw [List.drop_eq_getElem_cons hj]
  rw [List.getElem?_eq_getElem hj] at h
  cases h
  rfl
 have h4 : l.idxOf t = (l.take j).length + (l.drop j).idxOf t := by
  conv => lhs; rw [h1]
  rw [List.idxOf_append, if_neg h2, Nat.add_comm]
 rw [h4, h3, List.idxOf_cons_self, List.length_take]
 omega
theorem placeI_no {l : List T3} {t : T3} (hn : ∀ d ∈ l, d ≠ t) : placeI l t = -1 := by
 unfold placeI
 rw [if_neg (fun h => hn t h rfl)]
set_option maxRecDepth 100000 in
set_option maxHeartbeats 3200000 in
theorem placeOf_any (B : Nat) (A : Option Addr) (c : Nat) (L : List T3) (t : T3) (w : World) (ho : w.ownsRow B 93 3 (.slice A L.length c) L.length (tcT L)) (hL : L.length ≤ 1000) :
  Calls Tryd.prog 52 #[.slice A L.length c, aggT3 t] w fun r w' => r = .returned (.int .i64 (placeI L t)) ∧ Below w.heap.size w w' := by
 have ke := heap_alloc_new w (.cells #[.int .i64 t.1, .int .i64 t.2.1, .int .i64 t.2.2] 93)
 have hbw : Below w.heap.size w (w.alloc (.cells #[.int .i64 t.1, .int .i64 t.2.1, .int .i64 t.2.2] 93)) := below_new _ _
 have e0 := cell_of_blk ke 0
 have e1 := cell_of_blk ke 1
 have e2 := cell_of_blk ke 2
 simp only [List.getElem?_toArray, List.getElem?_cons_zero, List.getElem?_cons_succ] at e0 e1 e2
 have hrc := own_below ho hbw (Nat.le_refl _)
 obtain ⟨R, hR⟩ : ∃ R, R = placeI L t := ⟨_, rfl⟩
 rw [← hR]
 have HRC := Lib.hid hrc
 have HR := Lib.hid hR
 clear ho ke hrc hR
 go_enter Tryd.func52, Tryd.ntmps52
 go_wp2_with fail
 generalize (w.alloc (.cells #[.int .i64 t.1, .int .i64 t.2.1, .int .i64 t.2.2] 93)) = w0 at e0 e1 e2 hbw HRC
 have hz0 : w.heap.size < w0.heap.size := World.block_lt_of_cell? _ _ e0
 go_loopw [5] (fun i wr => ∃ j : Nat, j ≤ L.length ∧ i = .int .i64 j ∧ Hid (∀ d ∈ L.take j, d ≠ t) ∧ Below w0.heap.size w0 wr) (fun i _ => L.length - (intOf i).toNat)
 case atStart => exact ⟨0, by omega, rfl, Lib.hid (by simp), Below.refl _ _⟩
 case round =>
  obtain ⟨j, hj, rfl, hall, hbr⟩ := hrel
  by_cases hjn : j < L.length
  ·have hji : (j : Int) < (L.length : Int) := by omega
   have hj0 : (0 : Int) ≤ (j : Int) := by omega
   obtain ⟨u, hu⟩ : ∃ u, L[j]? = some u := ⟨_, List.getElem?_eq_getElem (by omega)⟩
   obtain ⟨gv, cv2, curv, hv2, _, _, _, _⟩ := own_addr HRC.out (by omega)
   cases hv2
   obtain ⟨x0, x1, x2⟩ := own_tri (own_below HRC.out hbr (Nat.le_refl _)) hu
   have hq : ∀ w', (binOp .eql 93 (.agg #[.int .i64 u.1, .int .i64 u.2.1, .int .i64 u.2.2]) (.agg #[.int .i64 t.1, .int .i64 t.2.1, .int .i64 t.2.2])).run Tryd.prog w' = .ok (.bool (decide (u = t))) w' := fun w' => by
    have h := eqT u.1 u.2.1 u.2.2 t.1 t.2.1 t.2.2 w'
    rw [eqT_dec] at h
    exact h
   have k0 := keep_c e0 hbr hz0
   have k1 := keep_c e1 hbr hz0
   have k2 := keep_c e2 hbr hz0
   have HC := Lib.hid hu
   clear hu
   by_cases hce : u = t
   ·rw [decide_eq_true hce] at hq
    have hres : R = j := by rw [HR.out]; exact placeI_at (hce ▸ HC.out) hall.out
    have HRES := Lib.hid hres
    clear hres hce
    go_wp2_with fail
    have hSS : wr.drew.cell? ⟨gv, j * 3, none⟩ = some (.int .i64 u.1) ∧ wr.drew.cell? ⟨gv, j * 3 + 1, none⟩ = some (.int .i64 u.2.1) ∧ wr.drew.cell? ⟨gv, j * 3 + 2, none⟩ = some (.int .i64 u.2.2) ∧ wr.drew.cell? ⟨w.heap.size, 0, none⟩ = some (.int .i64 t.1) ∧ wr.drew.cell? ⟨w.heap.size, 1, none⟩ = some (.int .i64 t.2.1) ∧ wr.drew.cell? ⟨w.heap.size, 2, none⟩ = some (.int .i64 t.2.2) ∧ Below w0.heap.size w0 wr.drew := ⟨x0, x1, x2, k0, k1, k2, hbr.drew⟩
    go_region_held3 (fun w' => w'.cell? ⟨gv, j * 3, none⟩ = some (.int .i64 u.1) ∧ w'.cell? ⟨gv, j * 3 + 1, none⟩ = some (.int .i64 u.2.1) ∧ w'.cell? ⟨gv, j * 3 + 2, none⟩ = some (.int .i64 u.2.2) ∧ w'.cell? ⟨w.heap.size, 0, none⟩ = some (.int .i64 t.1) ∧ w'.cell? ⟨w.heap.size, 1, none⟩ = some (.int .i64 t.2.1) ∧ w'.cell? ⟨w.heap.size, 2, none⟩ = some (.int .i64 t.2.2) ∧ Below w0.heap.size w0 w')
     (first
      | with_reducible exact hSS
      | with_reducible assumption)
     (first
      | fail)
    rename_i hSE
    have hbe : Below w0.heap.size w0 _ := hSE.2.2.2.2.2.2
    clear hSS hSE
    go_wp2
    go_ret
    exact ⟨ret_int HRES.out.symm, stay_b hbw hbe⟩
   ·rw [decide_eq_false hce] at hq
    have hnx := take_no (P := fun d : T3 => d ≠ t) HC.out hall.out hce
    have HNX := Lib.hid hnx
    clear hnx hce
    go_wp2_with fail
    have hSS : wr.drew.cell? ⟨gv, j * 3, none⟩ = some (.int .i64 u.1) ∧ wr.drew.cell? ⟨gv, j * 3 + 1, none⟩ = some (.int .i64 u.2.1) ∧ wr.drew.cell? ⟨gv, j * 3 + 2, none⟩ = some (.int .i64 u.2.2) ∧ wr.drew.cell? ⟨w.heap.size, 0, none⟩ = some (.int .i64 t.1) ∧ wr.drew.cell? ⟨w.heap.size, 1, none⟩ = some (.int .i64 t.2.1) ∧ wr.drew.cell? ⟨w.heap.size, 2, none⟩ = some (.int .i64 t.2.2) ∧ Below w0.heap.size w0 wr.drew := ⟨x0, x1, x2, k0, k1, k2, hbr.drew⟩
    go_region_held3 (fun w' => w'.cell? ⟨gv, j * 3, none⟩ = some (.int .i64 u.1) ∧ w'.cell? ⟨gv, j * 3 + 1, none⟩ = some (.int .i64 u.2.1) ∧ w'.cell? ⟨gv, j * 3 + 2, none⟩ = some (.int .i64 u.2.2) ∧ w'.cell? ⟨w.heap.size, 0, none⟩ = some (.int .i64 t.1) ∧ w'.cell? ⟨w.heap.size, 1, none⟩ = some (.int .i64 t.2.1) ∧ w'.cell? ⟨w.heap.size, 2, none⟩ = some (.int .i64 t.2.2) ∧ Below w0.heap.size w0 w')
     (first
      | with_reducible exact hSS
      | with_reducible assumption)
     (first
      | fail)
    rename_i hSE
    have hbe : Below w0.heap.size w0 _ := hSE.2.2.2.2.2.2
    clear hSS hSE
    go_wp2
    go_roundw
    case rel => exact ⟨j + 1, by omega, by go_num, HNX, hbe⟩
    case measure => simp [intOf]; omega
  ·obtain rfl : j = L.length := by omega
   have hres : R = -1 := by
    rw [HR.out]
    refine placeI_no ?_
    have := hall.out
    rwa [List.take_length] at this
   have HRES := Lib.hid hres
   clear hres
   go_wp2
   go_ret
   exact ⟨ret_int HRES.out.symm, stay_b hbw hbr⟩
end Go.Proofs.YtoienokpchbglaaDoor
