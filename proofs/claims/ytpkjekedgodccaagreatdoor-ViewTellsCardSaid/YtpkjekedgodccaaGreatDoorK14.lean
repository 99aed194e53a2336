/- The document's KindOf and PlaceOf.. Plain laws of the document's groups.. -/
import Derived.Test.YtpkjekedgodccaaGreatDoorK13
namespace Go.Proofs.YtpkjekedgodccaaGreatDoor
set_option linter.unusedSimpArgs false
set_option linter.unusedVariables false
section
open Go.RowKit Go.Maps
def kindD (cs : List C5) (e : E4) : Int := match cs with
 | [] => 0
 | c :: cs => if c.1 = e then c.2 else kindD cs e
theorem kindD_at {cs : List C5} {e : E4} : ∀ {j : Nat} {c : C5}, cs[j]? = some c → (∀ d ∈ cs.take j, d.1 ≠ e) → c.1 = e → kindD cs e = c.2 := by
 induction cs with
 | nil => intro j c h; simp at h
 | cons a cs ih =>
  intro j c h hn hc
  cases j with
  | zero =>
   simp at h
   subst h
   simp [kindD, hc]
  | succ j =>
   have h1 : a.1 ≠ e := hn a (by simp)
   unfold kindD
   rw [if_neg h1]
   exact ih (by simpa using h) (fun d hd => hn d (by simp [hd])) hc
theorem kindD_no {cs : List C5} {e : E4} (h : ∀ d ∈ cs, d.1 ≠ e) : kindD cs e = 0 := by
 induction cs with
 | nil => rfl
 | cons a cs ih =>
  unfold kindD
  rw [if_neg (h a (by simp))]
  exact ih (fun d hd => h d (by simp [hd]))
theorem eqE_dec (a b : E4) : (eqL [(a.1, b.1), (a.2.1, b.2.1), (a.2.2.1, b.2.2.1), (a.2.2.2, b.2.2.2)]) = decide (a = b) := by
 have h := eqE4_iff a b
 unfold eqE4 at h
 rw [Bool.eq_iff_iff, h, decide_eq_true_eq]
theorem eqT_dec (a b : T3) : (eqL [(a.1, b.1), (a.2.1, b.2.1), (a.2.2, b.2.2)]) = decide (a = b) := by
 obtain ⟨a1, a2, a3⟩ := a
 obtain ⟨b1, b2, b3⟩ := b
 rw [Bool.eq_iff_iff, decide_eq_true_eq]
 simp [eqL]
theorem take_no {α : Type} {P : α → Prop} {l : List α} {j : Nat} {c : α} (hc : l[j]? = some c) (h : ∀ d ∈ l.take j, P d) (hn : P c) : ∀ d ∈ l.take (j + 1), P d := by
 intro d hd
 rw [List.take_add_one, hc] at hd
 rcases List.mem_append.1 hd with hd | hd
 ·exact h d hd
 ·simp at hd
  subst hd
  exact hn
set_option maxRecDepth 100000 in
set_option maxHeartbeats 3200000 in
theorem kindOf_any (W H : Nat) (Am Ac : Option Addr) (nm cm nc cc : Nat) (mask : List Int) (cs : List C5) (e : E4) (w : World) (hS : ShM w W H Am nm mask Ac nc cs) :
  Calls Tryz.prog 45 #[shV W H Am nm cm Ac nc cc, aggE e] w fun r w' => r = .returned (.int .i64 (kindD cs e)) ∧ Below w.heap.size w w' := by
 have hnc := hS.nb
 have hcl := hS.rc.creases_len
 have kb0 := heap_alloc_new w (.cells #[.int .i64 W, .int .i64 H, .slice Am nm cm, .slice Ac nc cc] 25)
 have kb1 := blk_alloc kb0 (.cells #[.int .i64 e.1, .int .i64 e.2.1, .int .i64 e.2.2.1, .int .i64 e.2.2.2] 100)
 have ke := heap_alloc_new (w.alloc (.cells #[.int .i64 W, .int .i64 H, .slice Am nm cm, .slice Ac nc cc] 25)) (.cells #[.int .i64 e.1, .int .i64 e.2.1, .int .i64 e.2.2.1, .int .i64 e.2.2.2] 100)
 rw [World.size_alloc] at ke
 have hbw : Below w.heap.size w ((w.alloc (.cells #[.int .i64 W, .int .i64 H, .slice Am nm cm, .slice Ac nc cc] 25)).alloc (.cells #[.int .i64 e.1, .int .i64 e.2.1, .int .i64 e.2.2.1, .int .i64 e.2.2.2] 100)) := ba (below_new _ _) _
 have a3 := cell_of_blk kb1 3
 have e0 := cell_of_blk ke 0
 have e1 := cell_of_blk ke 1
 have e2 := cell_of_blk ke 2
 have e3 := cell_of_blk ke 3
 simp only [List.getElem?_toArray, List.getElem?_cons_zero, List.getElem?_cons_succ] at a3 e0 e1 e2 e3
 have hrc := hS.rc.below hbw
 obtain ⟨R, hR⟩ : ∃ R, R = kindD cs e := ⟨_, rfl⟩
 rw [← hR]
 have HRC := Lib.hid hrc
 have HR := Lib.hid hR
 clear hS kb0 kb1 ke hrc hR
 go_enter Tryz.func45, Tryz.ntmps45
 go_wp2_with fail
 generalize (w.alloc (.cells #[.int .i64 W, .int .i64 H, .slice Am nm cm, .slice Ac nc cc] 25)).alloc (.cells #[.int .i64 e.1, .int .i64 e.2.1, .int .i64 e.2.2.1, .int .i64 e.2.2.2] 100) = w0 at a3 e0 e1 e2 e3 hbw HRC
 have hz1 : w.heap.size + 1 < w0.heap.size := World.block_lt_of_cell? _ _ e0
 have hz0 : w.heap.size < w0.heap.size := by omega
 go_loopw [5] (fun i wr => ∃ j : Nat, j ≤ nc ∧ i = .int .i64 j ∧ Hid (∀ d ∈ cs.take j, d.1 ≠ e) ∧ Below w0.heap.size w0 wr) (fun i _ => nc - (intOf i).toNat)
 case atStart => exact ⟨0, by omega, rfl, Lib.hid (by simp), Below.refl _ _⟩
 case round =>
  obtain ⟨j, hj, rfl, hall, hbr⟩ := hrel
  have f3 := keep_c a3 hbr hz0
  by_cases hjn : j < nc
  ·have hji : (j : Int) < (nc : Int) := by omega
   have hj0 : (0 : Int) ≤ (j : Int) := by omega
   obtain ⟨c, hc⟩ : ∃ c, cs[j]? = some c := ⟨_, List.getElem?_eq_getElem (by omega)⟩
   obtain ⟨b, off, hA, hbl, _⟩ := HRC.out.2 (by omega)
   subst hA
   obtain ⟨x0, x1, x2, x3, x4⟩ := (HRC.out.below hbr).crease hc
   have hq : ∀ w', (binOp .eql 100 (.agg #[.int .i64 c.1.1, .int .i64 c.1.2.1, .int .i64 c.1.2.2.1, .int .i64 c.1.2.2.2]) (.agg #[.int .i64 e.1, .int .i64 e.2.1, .int .i64 e.2.2.1, .int .i64 e.2.2.2])).run Tryz.prog w' = .ok (.bool (decide (c.1 = e))) w' := fun w' => by
    have h := eqE c.1.1 c.1.2.1 c.1.2.2.1 c.1.2.2.2 e.1 e.2.1 e.2.2.1 e.2.2.2 w'
    rw [eqE_dec] at h
    exact h
   have k0 := keep_c e0 hbr hz1
   have k1 := keep_c e1 hbr hz1
   have k2 := keep_c e2 hbr hz1
   have k3 := keep_c e3 hbr hz1
   have HC := Lib.hid hc
   clear hc
   by_cases hce : c.1 = e
   ·rw [decide_eq_true hce] at hq
    have hres : R = c.2 := by rw [HR.out]; exact kindD_at HC.out hall.out hce
    have HRES := Lib.hid hres
    clear hres hce
    go_wp2_with fail
    have hSS : wr.drew.cell? ⟨w.heap.size, 3, none⟩ = some (.slice (some ⟨b, off, none⟩) nc cc) ∧ wr.drew.cell? ⟨b, off + j * 5, none⟩ = some (.int .i64 c.1.1) ∧ wr.drew.cell? ⟨b, off + j * 5 + 1, none⟩ = some (.int .i64 c.1.2.1) ∧ wr.drew.cell? ⟨b, off + j * 5 + 2, none⟩ = some (.int .i64 c.1.2.2.1) ∧ wr.drew.cell? ⟨b, off + j * 5 + 3, none⟩ = some (.int .i64 c.1.2.2.2) ∧ wr.drew.cell? ⟨b, off + j * 5 + 4, none⟩ = some (.int .i64 c.2) ∧ wr.drew.cell? ⟨w.heap.size + 1, 0, none⟩ = some (.int .i64 e.1) ∧ wr.drew.cell? ⟨w.heap.size + 1, 1, none⟩ = some (.int .i64 e.2.1) ∧ wr.drew.cell? ⟨w.heap.size + 1, 2, none⟩ = some (.int .i64 e.2.2.1) ∧ wr.drew.cell? ⟨w.heap.size + 1, 3, none⟩ = some (.int .i64 e.2.2.2) ∧ Below w0.heap.size w0 wr.drew := ⟨f3, x0, x1, x2, x3, x4, k0, k1, k2, k3, hbr.drew⟩
    go_region_held3 (fun w' => w'.cell? ⟨w.heap.size, 3, none⟩ = some (.slice (some ⟨b, off, none⟩) nc cc) ∧ w'.cell? ⟨b, off + j * 5, none⟩ = some (.int .i64 c.1.1) ∧ w'.cell? ⟨b, off + j * 5 + 1, none⟩ = some (.int .i64 c.1.2.1) ∧ w'.cell? ⟨b, off + j * 5 + 2, none⟩ = some (.int .i64 c.1.2.2.1) ∧ w'.cell? ⟨b, off + j * 5 + 3, none⟩ = some (.int .i64 c.1.2.2.2) ∧ w'.cell? ⟨b, off + j * 5 + 4, none⟩ = some (.int .i64 c.2) ∧ w'.cell? ⟨w.heap.size + 1, 0, none⟩ = some (.int .i64 e.1) ∧ w'.cell? ⟨w.heap.size + 1, 1, none⟩ = some (.int .i64 e.2.1) ∧ w'.cell? ⟨w.heap.size + 1, 2, none⟩ = some (.int .i64 e.2.2.1) ∧ w'.cell? ⟨w.heap.size + 1, 3, none⟩ = some (.int .i64 e.2.2.2) ∧ Below w0.heap.size w0 w')
     (first
      | with_reducible exact hSS
      | with_reducible assumption)
     (first
      | fail)
    rename_i hSE
    have hbe : Below w0.heap.size w0 _ := hSE.2.2.2.2.2.2.2.2.2.2
    clear hSS hSE
    go_wp2
    go_ret
    exact ⟨ret_int HRES.out.symm, stay_b hbw hbe⟩
   ·rw [decide_eq_false hce] at hq
    have hnx := take_no (P := fun d : C5 => d.1 ≠ e) HC.out hall.out hce
    have HNX := Lib.hid hnx
    clear hnx hce
    go_wp2_with fail
    have hSS : wr.drew.cell? ⟨w.heap.size, 3, none⟩ = some (.slice (some ⟨b, off, none⟩) nc cc) ∧ wr.drew.cell? ⟨b, off + j * 5, none⟩ = some (.int .i64 c.1.1) ∧ wr.drew.cell? ⟨b, off + j * 5 + 1, none⟩ = some (.int .i64 c.1.2.1) ∧ wr.drew.cell? ⟨b, off + j * 5 + 2, none⟩ = some (.int .i64 c.1.2.2.1) ∧ wr.drew.cell? ⟨b, off + j * 5 + 3, none⟩ = some (.int .i64 c.1.2.2.2) ∧ wr.drew.cell? ⟨b, off + j * 5 + 4, none⟩ = some (.int .i64 c.2) ∧ wr.drew.cell? ⟨w.heap.size + 1, 0, none⟩ = some (.int .i64 e.1) ∧ wr.drew.cell? ⟨w.heap.size + 1, 1, none⟩ = some (.int .i64 e.2.1) ∧ wr.drew.cell? ⟨w.heap.size + 1, 2, none⟩ = some (.int .i64 e.2.2.1) ∧ wr.drew.cell? ⟨w.heap.size + 1, 3, none⟩ = some (.int .i64 e.2.2.2) ∧ Below w0.heap.size w0 wr.drew := ⟨f3, x0, x1, x2, x3, x4, k0, k1, k2, k3, hbr.drew⟩
    go_region_held3 (fun w' => w'.cell? ⟨w.heap.size, 3, none⟩ = some (.slice (some ⟨b, off, none⟩) nc cc) ∧ w'.cell? ⟨b, off + j * 5, none⟩ = some (.int .i64 c.1.1) ∧ w'.cell? ⟨b, off + j * 5 + 1, none⟩ = some (.int .i64 c.1.2.1) ∧ w'.cell? ⟨b, off + j * 5 + 2, none⟩ = some (.int .i64 c.1.2.2.1) ∧ w'.cell? ⟨b, off + j * 5 + 3, none⟩ = some (.int .i64 c.1.2.2.2) ∧ w'.cell? ⟨b, off + j * 5 + 4, none⟩ = some (.int .i64 c.2) ∧ w'.cell? ⟨w.heap.size + 1, 0, none⟩ = some (.int .i64 e.1) ∧ w'.cell? ⟨w.heap.size + 1, 1, none⟩ = some (.int .i64 e.2.1) ∧ w'.cell? ⟨w.heap.size + 1, 2, none⟩ = some (.int .i64 e.2.2.1) ∧ w'.cell? ⟨w.heap.size + 1, 3, none⟩ = some (.int .i64 e.2.2.2) ∧ Below w0.heap.size w0 w')
     (first
      | with_reducible exact hSS
      | with_reducible assumption)
     (first
      | fail)
    rename_i hSE
    have hbe : Below w0.heap.size w0 _ := hSE.2.2.2.2.2.2.2.2.2.2
    clear hSS hSE
    go_wp2
    go_roundw
    case rel => exact ⟨j + 1, by omega, by go_num, HNX, hbe⟩
    case measure => simp [intOf]; omega
  ·obtain rfl : j = nc := by omega
   have hres : R = 0 := by
    rw [HR.out]
    refine kindD_no ?_
    have := hall.out
    rwa [List.take_of_length_le (by omega)] at this
   have HRES := Lib.hid hres
   clear hres
   go_wp2
   go_ret
   exact ⟨ret_int HRES.out.symm, stay_b hbw hbr⟩
def placeI (l : List T3) (t : T3) : Int := if t ∈ l then (l.idxOf t : Nat) else -1
theorem placeI_at {l : List T3} {t : T3} {j : Nat} (h : l[j]? = some t) (hn : ∀ d ∈ l.take j, d ≠ t) : placeI l t = j := by
 unfold placeI
 rw [if_pos (List.mem_of_getElem? h)]
 have hj := (List.getElem?_eq_some_iff.1 h).1
 have h1 : l = l.take j ++ l.drop j := (List.take_append_drop j l).symm
 have h2 : t ∉ l.take j := fun hm => hn t hm rfl
 have h3 : l.drop j = t :: l.drop (j + 1) := by
  rw [List.drop_eq_getElem_cons hj]
  rw [List.getElem?_eq_getElem hj] at h
  cases h
  rfl
 have h4 : l.idxOf t = (l.take j).length + (l.drop j).idxOf t := by
  conv => lhs; rw [h1]
  rw [List.idxOf_append, if_neg h2, Nat.add_comm]
 rw [h4, h3, List.idxOf_cons_self, List.length_take]
 omega
theorem placeI_no {l : List T3} {t : T3} (hn : ∀ d ∈ l, d ≠ t) : placeI l t = -1 := by
 unfold placeI
 rw [if_neg (fun h => hn t h rfl)]
set_option maxRecDepth 100000 in
set_option maxHeartbeats 3200000 in
theorem placeOf_any (B : Nat) (A : Option Addr) (c : Nat) (L : List T3) (t : T3) (w : World) (ho : w.ownsRow B 44 3 (.slice A L.length c) L.length (tcT L)) (hL : L.length ≤ 1000) :
  Calls Tryz.prog 20 #[.slice A L.length c, aggT3 t] w fun r w' => r = .returned (.int .i64 (placeI L t)) ∧ Below w.heap.size w w' := by
 have ke := heap_alloc_new w (.cells #[.int .i64 t.1, .int .i64 t.2.1, .int .i64 t.2.2] 44)
 have hbw : Below w.heap.size w (w.alloc (.cells #[.int .i64 t.1, .int .i64 t.2.1, .int .i64 t.2.2] 44)) := below_new _ _
 have e0 := cell_of_blk ke 0
 have e1 := cell_of_blk ke 1
 have e2 := cell_of_blk ke 2
 simp only [List.getElem?_toArray, List.getElem?_cons_zero, List.getElem?_cons_succ] at e0 e1 e2
 have hrc := od ho hbw
 obtain ⟨R, hR⟩ : ∃ R, R = placeI L t := ⟨_, rfl⟩
 rw [← hR]
 have HRC := Lib.hid hrc
 have HR := Lib.hid hR
 clear ho ke hrc hR
 go_enter Tryz.func20, Tryz.ntmps20
 go_wp2_with fail
 generalize (w.alloc (.cells #[.int .i64 t.1, .int .i64 t.2.1, .int .i64 t.2.2] 44)) = w0 at e0 e1 e2 hbw HRC
 have hz0 : w.heap.size < w0.heap.size := World.block_lt_of_cell? _ _ e0
 go_loopw [5] (fun i wr => ∃ j : Nat, j ≤ L.length ∧ i = .int .i64 j ∧ Hid (∀ d ∈ L.take j, d ≠ t) ∧ Below w0.heap.size w0 wr) (fun i _ => L.length - (intOf i).toNat)
 case atStart => exact ⟨0, by omega, rfl, Lib.hid (by simp), Below.refl _ _⟩
 case round =>
  obtain ⟨j, hj, rfl, hall, hbr⟩ := hrel
  by_cases hjn : j < L.length
  ·have hji : (j : Int) < (L.length : Int) := by omega
   have hj0 : (0 : Int) ≤ (j : Int) := by omega
   obtain ⟨u, hu⟩ : ∃ u, L[j]? = some u := ⟨_, List.getElem?_eq_getElem (by omega)⟩
   obtain ⟨gv, cv2, curv, hv2, _, _, _, _⟩ := own_addr HRC.out (by omega)
   cases hv2
   obtain ⟨x0, x1, x2⟩ := own_tri (od HRC.out hbr) hu
   have hq : ∀ w', (binOp .eql 44 (.agg #[.int .i64 u.1, .int .i64 u.2.1, .int .i64 u.2.2]) (.agg #[.int .i64 t.1, .int .i64 t.2.1, .int .i64 t.2.2])).run Tryz.prog w' = .ok (.bool (decide (u = t))) w' := fun w' => by
    have h := eqT u.1 u.2.1 u.2.2 t.1 t.2.1 t.2.2 w'
    rw [eqT_dec] at h
    exact h
   have k0 := keep_c e0 hbr hz0
   have k1 := keep_c e1 hbr hz0
   have k2 := keep_c e2 hbr hz0
   have HC := Lib.hid hu
   clear hu
   by_cases hce : u = t
   ·rw [decide_eq_true hce] at hq
    have hres : R = j := by rw [HR.out]; exact placeI_at (hce ▸ HC.out) hall.out
    have HRES := Lib.hid hres
    clear hres hce
    go_wp2_with fail
    have hSS : wr.drew.cell? ⟨gv, j * 3, none⟩ = some (.int .i64 u.1) ∧ wr.drew.cell? ⟨gv, j * 3 + 1, none⟩ = some (.int .i64 u.2.1) ∧ wr.drew.cell? ⟨gv, j * 3 + 2, none⟩ = some (.int .i64 u.2.2) ∧ wr.drew.cell? ⟨w.heap.size, 0, none⟩ = some (.int .i64 t.1) ∧ wr.drew.cell? ⟨w.heap.size, 1, none⟩ = some (.int .i64 t.2.1) ∧ wr.drew.cell? ⟨w.heap.size, 2, none⟩ = some (.int .i64 t.2.2) ∧ Below w0.heap.size w0 wr.drew := ⟨x0, x1, x2, k0, k1, k2, hbr.drew⟩
    go_region_held3 (fun w' => w'.cell? ⟨gv, j * 3, none⟩ = some (.int .i64 u.1) ∧ w'.cell? ⟨gv, j * 3 + 1, none⟩ = some (.int .i64 u.2.1) ∧ w'.cell? ⟨gv, j * 3 + 2, none⟩ = some (.int .i64 u.2.2) ∧ w'.cell? ⟨w.heap.size, 0, none⟩ = some (.int .i64 t.1) ∧ w'.cell? ⟨w.heap.size, 1, none⟩ = some (.int .i64 t.2.1) ∧ w'.cell? ⟨w.heap.size, 2, none⟩ = some (.int .i64 t.2.2) ∧ Below w0.heap.size w0 w')
     (first
      | with_reducible exact hSS
      | with_reducible assumption)
     (first
      | fail)
    rename_i hSE
    have hbe : Below w0.heap.size w0 _ := hSE.2.2.2.2.2.2
    clear hSS hSE
    go_wp2
    go_ret
    exact ⟨ret_int HRES.out.symm, stay_b hbw hbe⟩
   ·rw [decide_eq_false hce] at hq
    have hnx := take_no (P := fun d : T3 => d ≠ t) HC.out hall.out hce
    have HNX := Lib.hid hnx
    clear hnx hce
    go_wp2_with fail
    have hSS : wr.drew.cell? ⟨gv, j * 3, none⟩ = some (.int .i64 u.1) ∧ wr.drew.cell? ⟨gv, j * 3 + 1, none⟩ = some (.int .i64 u.2.1) ∧ wr.drew.cell? ⟨gv, j * 3 + 2, none⟩ = some (.int .i64 u.2.2) ∧ wr.drew.cell? ⟨w.heap.size, 0, none⟩ = some (.int .i64 t.1) ∧ wr.drew.cell? ⟨w.heap.size, 1, none⟩ = some (.int .i64 t.2.1) ∧ wr.drew.cell? ⟨w.heap.size, 2, none⟩ = some (.int .i64 t.2.2) ∧ Below w0.heap.size w0 wr.drew := ⟨x0, x1, x2, k0, k1, k2, hbr.drew⟩
    go_region_held3 (fun w' => w'.cell? ⟨gv, j * 3, none⟩ = some (.int .i64 u.1) ∧ w'.cell? ⟨gv, j * 3 + 1, none⟩ = some (.int .i64 u.2.1) ∧ w'.cell? ⟨gv, j * 3 + 2, none⟩ = some (.int .i64 u.2.2) ∧ w'.cell? ⟨w.heap.size, 0, none⟩ = some (.int .i64 t.1) ∧ w'.cell? ⟨w.heap.size, 1, none⟩ = some (.int .i64 t.2.1) ∧ w'.cell? ⟨w.heap.size, 2, none⟩ = some (.int .i64 t.2.2) ∧ Below w0.heap.size w0 w')
     (first
      | with_reducible exact hSS
      | with_reducible assumption)
     (first
      | fail)
    rename_i hSE
    have hbe : Below w0.heap.size w0 _ := hSE.2.2.2.2.2.2
    clear hSS hSE
    go_wp2
    go_roundw
    case rel => exact ⟨j + 1, by omega, by go_num, HNX, hbe⟩
    case measure => simp [intOf]; omega
  ·obtain rfl : j = L.length := by omega
   have hres : R = -1 := by
    rw [HR.out]
    refine placeI_no ?_
    have := hall.out
    rwa [List.take_length] at this
   have HRES := Lib.hid hres
   clear hres
   go_wp2
   go_ret
   exact ⟨ret_int HRES.out.symm, stay_b hbw hbr⟩
end
section
open Go.RowKit
structure GI (l : List T3) (c : E4 → Bool) (who : List Nat) : Prop where
 len : who.length = l.length
 le : ∀ i, i < l.length → who.getD i 0 ≤ i
 rch : ∀ i t, l[i]? = some t → ∃ u, l[who.getD i 0]? = some u ∧ Rch l c t u
def ClAt (l : List T3) (c : E4 → Bool) (who : List Nat) (i k : Nat) : Prop := ∀ t j, l[i]? = some t → c (eT t k) = true → l[j]? = some (nT t k) → who.getD i 0 ≤ who.getD j 0
structure GP (l : List T3) (c : E4 → Bool) (who0 who : List Nat) (ch : Bool) (i k : Nat) : Prop where
 inv : GI l c who
 st : (ch = true ∧ who.sum < who0.sum) ∨ (ch = false ∧ who = who0 ∧ ∀ i' k', (i' < i ∨ i' = i ∧ k' < k) → k' < 3 → ClAt l c who i' k')
theorem sum_set : ∀ {l : List Nat} {i v : Nat}, i < l.length → v < l.getD i 0 → (l.set i v).sum < l.sum
 | a :: l, 0, v, _, h => by simp at h ⊢; omega
 | a :: l, i + 1, v, hi, h => by
  have := sum_set (l := l) (i := i) (v := v) (by simpa using hi) (by simpa using h)
  simp
  omega
theorem getD_set (l : List Nat) (i j v : Nat) : (l.set i v).getD j 0 = if i = j ∧ i < l.length then v else l.getD j 0 := by
 simp only [List.getD_eq_getElem?_getD, List.getElem?_set]
 by_cases h : i = j
 ·subst h
  by_cases hl : i < l.length
  ·simp [hl]
  ·simp [hl]
 ·simp [h]
theorem GI.start (l : List T3) (c : E4 → Bool) : GI l c (List.range l.length) := by
 have h : ∀ i, i < l.length → (List.range l.length).getD i 0 = i := by
  intro i hi
  simp [List.getD_eq_getElem?_getD, hi]
 refine ⟨by simp, fun i hi => by rw [h i hi]; exact Nat.le_refl i, fun i t ht => ?_⟩
 rw [h i (List.getElem?_eq_some_iff.1 ht).1]
 exact ⟨t, ht, .refl⟩
section
variable {l : List T3} {c : E4 → Bool} {who0 who : List Nat} {ch : Bool} {i j k : Nat} {t : T3}
theorem GP.start (h : GI l c who) : GP l c who who false 0 0 := ⟨h, .inr ⟨rfl, rfl, fun i' k' h => by omega⟩⟩
theorem GP.skip (h : GP l c who0 who ch i k) (hc : ClAt l c who i k) : GP l c who0 who ch i (k + 1) := by
 refine ⟨h.inv, h.st.imp id ?_⟩
 rintro ⟨h1, h2, h3⟩
 refine ⟨h1, h2, fun i' k' h4 h5 => ?_⟩
 by_cases h6 : i' < i ∨ i' = i ∧ k' < k
 ·exact h3 i' k' h6 h5
 ·have h7 : i' = i ∧ k' = k := by omega
  obtain ⟨rfl, rfl⟩ := h7
  exact hc
theorem GP.row (h : GP l c who0 who ch i 3) : GP l c who0 who ch (i + 1) 0 :=
 ⟨h.inv, h.st.imp id fun ⟨h1, h2, h3⟩ => ⟨h1, h2, fun i' k' h4 h5 => h3 i' k' (by omega) h5⟩⟩
theorem GI.set (h : GI l c who) (ht : l[i]? = some t) (hk : k < 3) (hc : c (eT t k) = true) (hj : l[j]? = some (nT t k)) (hlt : who.getD j 0 < who.getD i 0) : GI l c (who.set i (who.getD j 0)) := by
 have hi := (List.getElem?_eq_some_iff.1 ht).1
 have hiw : i < who.length := by rw [h.len]; exact hi
 have hile := h.le i hi
 refine ⟨by rw [List.length_set]; exact h.len, fun m hm => ?_, fun m u hu => ?_⟩
 ·rw [getD_set]
  split
  ·rename_i e
   obtain ⟨rfl, _⟩ := e
   omega
  ·exact h.le m hm
 ·rw [getD_set]
  split
  ·rename_i e
   obtain ⟨rfl, _⟩ := e
   rw [ht] at hu
   cases hu
   obtain ⟨v, hv, hr⟩ := h.rch j _ hj
   exact ⟨v, hv, (Rch.step .refl hk hc (List.mem_of_getElem? hj)).trans hr⟩
  ·exact h.rch m u hu
theorem GP.set (h : GP l c who0 who ch i k) (ht : l[i]? = some t) (hk : k < 3) (hc : c (eT t k) = true) (hj : l[j]? = some (nT t k)) (hlt : who.getD j 0 < who.getD i 0) (k' : Nat) : GP l c who0 (who.set i (who.getD j 0)) true i k' := by
 have hi := (List.getElem?_eq_some_iff.1 ht).1
 have hs := sum_set (l := who) (i := i) (v := who.getD j 0) (by rw [h.inv.len]; exact hi) hlt
 refine ⟨h.inv.set ht hk hc hj hlt, .inl ⟨rfl, ?_⟩⟩
 rcases h.st with ⟨_, h1⟩ | ⟨_, rfl, _⟩ <;> omega
theorem GP.done (h : GP l c who0 who false i 0) (hi : l.length ≤ i) (hl : ∀ t ∈ l, K4 t) : who = who0 ∧ Grp l c who := by
 rcases h.st with ⟨h1, _⟩ | ⟨_, h2, h3⟩
 ·cases h1
 ·refine ⟨h2, h.inv.len, h.inv.le, h.inv.rch, fun i' j' t k hi' hk hc hj' => ?_⟩
  have hi2 := (List.getElem?_eq_some_iff.1 hi').1
  have hj2 := (List.getElem?_eq_some_iff.1 hj').1
  have a1 := h3 i' k (by omega) hk t j' hi' hc hj'
  have hs := e_sym (hl t (List.mem_of_getElem? hi')) hk
  have a2 := h3 j' (bk k) (by omega) (bk_lt k) (nT t k) i' hj' (by rw [hs.2]; exact hc) (by rw [hs.1]; exact hi')
  omega
theorem GP.more (h : GP l c who0 who true i k) : GI l c who ∧ who.sum < who0.sum := by
 rcases h.st with ⟨_, h1⟩ | ⟨h1, _⟩
 ·exact ⟨h.inv, h1⟩
 ·cases h1
theorem clAt_no (ht : l[i]? = some t) (hc : c (eT t k) = false ∨ nT t k ∉ l) : ClAt l c who i k := by
 intro u j hu h1 h2
 rw [ht] at hu
 cases hu
 rcases hc with hc | hc
 ·rw [hc] at h1
  cases h1
 ·exact absurd (List.mem_of_getElem? h2) hc
theorem clAt_ge (hnd : l.Nodup) (ht : l[i]? = some t) (hj : l[j]? = some (nT t k)) (hge : ¬ who.getD j 0 < who.getD i 0) : ClAt l c who i k := by
 intro u m hu h1 h2
 rw [ht] at hu
 cases hu
 have : j = m := (List.getElem?_inj (List.getElem?_eq_some_iff.1 hj).1 hnd).1 (hj.trans h2.symm)
 subst this
 omega
end
end
end Go.Proofs.YtpkjekedgodccaaGreatDoor
