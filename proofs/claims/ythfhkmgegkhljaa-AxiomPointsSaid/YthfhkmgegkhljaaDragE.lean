/- The path of folds. -/
import Derived.Test.YthfhkmgegkhljaaDragD
namespace Go.Proofs.Ythfhkmgegkhljaa
open Go.RowKit

/-- The path; the folds are told from the last one on. -/
def pathS (r : List Int) : List (Int × Int) := (0, 0) :: (1, 0) :: pts (1, 0) (1, 0) (dw r)

set_option maxHeartbeats 800000 in
theorem path_no (A : Option Addr) (n c : Nat) (zs : List Int) (w : World) (h : Rd w 1 A n (vis zs)) (hn : n ≤ 9223372036854775807) (hc : checkE zs ≠ 0) :
    Calls Try.prog 11 #[.slice A n c] w fun e w' => e = .returned (.tuple #[.slice none 0 0, .int .i64 (checkE zs)]) ∧ Below w.heap.size w w' := by
  have hb : (checkE zs != 0) = true := by simpa using hc
  go_enter Try.func11, Try.ntmps11
  go_wp2_with (go_at_call 33; refine (dcheck_any A n c zs w h hn).mono ?_; rintro e w1 ⟨rfl, rfl⟩)
  go_ret2
  exact ⟨rfl, Below.refl _ _⟩

theorem hv_keep {w w' : World} {g0 g2 g : Nat} {v v' : Value} (h : StepKeep w w' g0 g2 v v') (_ : True) (hv : v.ownBlock ≠ some g) (hg : g < w.heap.size) : v'.ownBlock ≠ some g := by
  intro e
  rcases h.at_ with h1 | ⟨k, h1, hge⟩
  · exact hv (h1.symm.trans e)
  · have h2 : some k = some g := h1.symm.trans e
    injection h2 with h2
    omega

/-- What holds in the path's loop behind j creases: g0 the point, g0 + 1 the way, g0 + 3 the list. -/
def PathInv (g0 : Nat) (w : World) (A : Option Addr) (q : Nat) (word : List Int) (j : Nat) (wr : World) : Prop :=
  ∃ v, wr.heap[g0]? = some (.cells #[.int .i64 (endP (1, 0) (1, 0) (word.take j)).1.1, .int .i64 (endP (1, 0) (1, 0) (word.take j)).1.2] 29 (0, 0)) ∧
    wr.heap[g0 + 1]? = some (.cells #[.int .i64 (endP (1, 0) (1, 0) (word.take j)).2.1, .int .i64 (endP (1, 0) (1, 0) (word.take j)).2.2] 29 (0, 0)) ∧
    wr.heap[g0 + 1 + 1 + 1]? = some (.cells #[v] 24 (0, 0)) ∧
    wr.ownsRow g0 29 2 v (j + 2) (vps ((0, 0) :: (1, 0) :: pts (1, 0) (1, 0) (word.take j))) ∧ Below g0 w wr ∧ Rd wr 1 A q (vis word) ∧
    (∀ a, A = some a → g0 + 1 + 1 + 1 < a.block) ∧ v.ownBlock ≠ some g0 ∧ v.ownBlock ≠ some (g0 + 1) ∧ v.ownBlock ≠ some (g0 + 1 + 1 + 1) ∧ Off v A

theorem blk_farC {w : World} {g b : Nat} {o : Obj} (h : w.heap[g]? = some o) (hp : g ≠ b) (i : Nat) (u : Value) : (w.setCell ⟨b, i, none⟩ u).heap[g]? = some o := blk_far h hp u
theorem own_farC {w : World} {base b : Nat} {e : TypeId} {sz n : Nat} {v : Value} {xs : List Value} (h : w.ownsRow base e sz v n xs) (ha : v.ownBlock ≠ some b) (i : Nat) (u : Value) : (w.setCell ⟨b, i, none⟩ u).ownsRow base e sz v n xs := own_setCell_off h ha u
theorem Rd.setCell_off {w : World} {sz n : Nat} {A : Option Addr} {xs : List Value} (h : Rd w sz A n xs) {p : Addr} (hp : ∀ a, A = some a → a.block ≠ p.block) (u : Value) : Rd (w.setCell p u) sz A n xs :=
  ⟨h.1, fun hn => by
    obtain ⟨b, off, e, hlt, hc⟩ := h.2 hn
    have hne : b ≠ p.block := hp _ e
    exact ⟨b, off, e, by simpa using hlt, fun j x hx => (World.cell?_of_block (Below.heap_setCell w p u b hne)).trans (hc j x hx)⟩⟩
theorem Rd.farC {w : World} {sz n b : Nat} {A : Option Addr} {xs : List Value} (h : Rd w sz A n xs) (hp : ∀ a, A = some a → a.block ≠ b) (i : Nat) (u : Value) : Rd (w.setCell ⟨b, i, none⟩ u) sz A n xs := h.setCell_off hp u
theorem Rd.stepKeep {w w' : World} {sz n g0 g2 : Nat} {v v' : Value} {A : Option Addr} {xs : List Value} (h : Rd w sz A n xs) (hk : StepKeep w w' g0 g2 v v')
    (h0 : ∀ a, A = some a → a.block ≠ g0 ∧ a.block ≠ g2) (ho : Off v A) : Rd w' sz A n xs :=
  ⟨h.1, fun hn => by
    obtain ⟨b, off, e, hlt, hc⟩ := h.2 hn
    exact ⟨b, off, e, Nat.lt_of_lt_of_le hlt hk.size, fun j x hx => (World.cell?_of_block (hk.block b hlt (h0 _ e).1 (h0 _ e).2 (ho _ e))).trans (hc j x hx)⟩⟩
theorem pathInv_next {g0 q j : Nat} {w wt w2 : World} {A : Option Addr} {word : List Int} {k x y dx dy : Int} {D : Int × Int} {v v2 : Value}
    (ht : word.take (j + 1) = word.take j ++ [k]) (hS : endP (1, 0) (1, 0) (word.take j) = ((x, y), (dx, dy))) (hD : turnV k (dx, dy) = D)
    (k0 : w2.heap[g0]? = some (.cells #[.int .i64 (addV (x, y) D).1, .int .i64 (addV (x, y) D).2] 29 (0, 0))) (k1 : w2.heap[g0 + 1]? = some (.cells #[.int .i64 D.1, .int .i64 D.2] 29 (0, 0)))
    (k2 : w2.heap[g0 + 1 + 1 + 1]? = some (.cells #[v2] 24 (0, 0)))
    (hown2 : w2.ownsRow g0 29 2 v2 (j + 2 + 1) (vps (((0, 0) :: (1, 0) :: pts (1, 0) (1, 0) (word.take j)) ++ [addV (x, y) D])))
    (hbel : Below g0 w wt) (hbel2 : Below g0 wt w2) (hkp : StepKeep wt w2 g0 (g0 + 1 + 1 + 1) v v2) (hrd : Rd wt 1 A q (vis word)) (hq : 0 < q)
    (hA : ∀ a, A = some a → g0 + 1 + 1 + 1 < a.block) (hr0 : v.ownBlock ≠ some g0) (hr1 : v.ownBlock ≠ some (g0 + 1)) (hr2 : v.ownBlock ≠ some (g0 + 1 + 1 + 1)) (hoff : Off v A)
    (hs : g0 + 1 + 1 + 1 < wt.heap.size) : PathInv g0 w A q word (j + 1) w2 := by
  have he : endP (1, 0) (1, 0) (word.take (j + 1)) = (addV (x, y) D, D) := by rw [ht, endP_snoc, hS]; simp only [hD]
  refine ⟨v2, ?_, ?_, k2, ?_, hbel.trans hbel2, hrd.stepKeep hkp (fun a ha => by have := hA a ha; omega) hoff, hA, hv_keep hkp trivial hr0 (by omega), hv_keep hkp trivial hr1 (by omega), hv_keep hkp trivial hr2 hs, ?_⟩
  · rw [he]; exact k0
  · rw [he]; exact k1
  · rw [ht, pts_snoc, hS]; simp only [hD]; exact hown2
  · intro a ha e
    rcases hkp.at_ with h1 | ⟨g, h1, hge⟩
    · exact hoff a ha (h1.symm.trans e)
    · have h2 : some g = some a.block := h1.symm.trans e
      injection h2 with h2
      have := hrd.lt hq a ha
      omega

set_option maxHeartbeats 800000 in
theorem path_yes (r : List Int) (A : Option Addr) (n c : Nat) (w : World) (h : Rd w 1 A n (vis r.reverse)) (hn : n ≤ 10) (hnc : n ≤ c) (hk : Kinded r) (hchk : checkE r.reverse = 0) :
    Calls Try.prog 11 #[.slice A n c] w fun e w' => ∃ v, e = .returned (.tuple #[v, .int .i64 0]) ∧
      w'.ownsRow w.heap.size 29 2 v ((dw r).length + 2) (vps (pathS r)) ∧ Below w.heap.size w w' := by
  have HC := Lib.hid hchk
  clear hchk
  have hmf : ∀ (fn : Fn) (first cap : Array Value) (w : World), (Instr.makeFunc fn first cap).run Try.prog w = .ok (.func fn first cap) w := fun _ _ _ _ => rfl
  have hent : ∀ args (wx : World), (callFunc 34 args).run Try.prog wx = .ok (.enter 34 args) wx := fun args wx => by kernel_rfl
  have h0 := blk_alloc (blk_alloc (blk_alloc (heap_alloc_new w (.cells #[.int .i64 0, .int .i64 0] 29)) (.cells #[.int .i64 1, .int .i64 0] 29)) (.cells #[.int .i64 0, .int .i64 0] 29)) (.cells #[.slice (some ⟨w.heap.size + 1 + 1, 0, none⟩) 1 1] 24)
  have h1 := blk_alloc (blk_alloc (heap_alloc_new (w.alloc (.cells #[.int .i64 0, .int .i64 0] 29)) (.cells #[.int .i64 1, .int .i64 0] 29)) (.cells #[.int .i64 0, .int .i64 0] 29)) (.cells #[.slice (some ⟨w.heap.size + 1 + 1, 0, none⟩) 1 1] 24)
  have h2 := heap_alloc_new (((w.alloc (.cells #[.int .i64 0, .int .i64 0] 29)).alloc (.cells #[.int .i64 1, .int .i64 0] 29)).alloc (.cells #[.int .i64 0, .int .i64 0] 29)) (.cells #[.slice (some ⟨w.heap.size + 1 + 1, 0, none⟩) 1 1] 24)
  have hown0 := own_mono ((World.ownsRow_lit (base := w.heap.size + 1 + 1) (e := 29) (size := 2) ((w.alloc (.cells #[.int .i64 0, .int .i64 0] 29)).alloc (.cells #[.int .i64 1, .int .i64 0] 29)) #[.int .i64 0, .int .i64 0] 1 (by simp) (by simp [maxLen]) rfl).alloc (.cells #[.slice (some ⟨w.heap.size + 1 + 1, 0, none⟩) 1 1] 24)) (base' := w.heap.size) (by omega)
  have hbel0 : Below w.heap.size w ((((w.alloc (.cells #[.int .i64 0, .int .i64 0] 29)).alloc (.cells #[.int .i64 1, .int .i64 0] 29)).alloc (.cells #[.int .i64 0, .int .i64 0] 29)).alloc (.cells #[.slice (some ⟨w.heap.size + 1 + 1, 0, none⟩) 1 1] 24)) :=
    ((((Below.refl _ _).alloc (Nat.le_refl _) _).alloc (by simp) _).alloc (by simp; omega) _).alloc (by simp; omega) _
  simp only [World.size_alloc] at h1 h2 hown0
  have hv0 : (Value.slice (some ⟨w.heap.size + 1 + 1, 0, none⟩) 1 1).ownBlock ≠ some w.heap.size := by
    intro e; simp [Value.ownBlock] at e; omega
  have hv1 : (Value.slice (some ⟨w.heap.size + 1 + 1, 0, none⟩) 1 1).ownBlock ≠ some (w.heap.size + 1) := by simp [Value.ownBlock]
  have hv2 : (Value.slice (some ⟨w.heap.size + 1 + 1, 0, none⟩) 1 1).ownBlock ≠ some (w.heap.size + 1 + 1 + 1) := by simp [Value.ownBlock]
  have H0 := Lib.hid h0
  have H1 := Lib.hid h1
  have H2 := Lib.hid h2
  clear h0 h1 h2
  go_enter Try.func11, Try.ntmps11
  go_wp2_with fail
  refine (dcheck_any A n c _ w h (by omega)).mono ?_
  rintro e w1 ⟨rfl, rfl⟩
  rw [HC.out]
  go_wp2_with fail
  refine (step_any w.heap.size _ _ _ (0, 0) (1, 0) _ 1 [(0, 0)] _ (by decide) (by decide) (by decide) H0.out H1.out H2.out (Nat.le_refl _) (by omega) (by omega) hown0 hv0 hv1 hv2).mono ?_
  rintro e w2 ⟨rfl, v1, k0, k1, k2, hown1, hbel1, hkp1⟩
  have hn0 := hv_keep hkp1 trivial hv0 (by simp <;> omega)
  have hn1 := hv_keep hkp1 trivial hv1 (by simp <;> omega)
  have hn2 := hv_keep hkp1 trivial hv2 (by simp <;> omega)
  have hbel2 := hbel0.trans hbel1
  have hR := h.below hbel2
  have K0 := Lib.hid k0
  have K1 := Lib.hid k1
  have K2 := Lib.hid k2
  clear k0 k1 k2
  go_wp2_with fail
  refine (word_any r A n c w2 hR hn hnc hk).mono ?_
  rintro e w3 ⟨v3, rfl, hown3, hbel3⟩
  obtain ⟨A3, c3, rfl, hc31, hc32⟩ := own_slice hown3
  have hrd3 := Rd.of_own hown3
  have hlt3 := own_lt hown3
  have hds := dw_small r (by have := h.ints_len; simp at this; omega)
  have hkdw := Lib.hid (kinded_dw hk)
  have b0 := blk_below K0.out hbel3 (blk_lt K0.out)
  have b1 := blk_below K1.out hbel3 (blk_lt K1.out)
  have b2 := blk_below K2.out hbel3 (blk_lt K2.out)
  have hownv := own_below hown1 hbel3 (Nat.le_refl _)
  have hbelv := hbel2.trans (hbel3.mono hbel2.size)
  have hoff : Off v1 A3 := by
    intro a ha e
    have h1 := (hlt3 a ha).1
    have h2 := (hown1.lt _ e).2
    omega
  have hg3 : ∀ a, A3 = some a → w.heap.size + 1 + 1 + 1 < a.block := by
    intro a ha
    have h1 := (hlt3 a ha).1
    have h2 := blk_lt K2.out
    omega
  have HG3 := Lib.hid hg3
  have HLT3 := Lib.hid hlt3
  clear hg3 hlt3
  obtain ⟨q, hq⟩ : ∃ q, q = (dw r).length := ⟨_, rfl⟩
  rw [← hq] at hown3 hrd3 hds hc31 ⊢
  have HQ := Lib.hid hq
  clear hq
  have B0 := Lib.hid b0
  have B1 := Lib.hid b1
  have B2 := Lib.hid b2
  clear b0 b1 b2
  go_wp2_with fail
  go_loopw [26] (fun i wr => ∃ j : Nat, j ≤ q ∧ i = .int .i64 j ∧ PathInv w.heap.size w A3 q (dw r) j wr) (fun i _ => q - (intOf i).toNat)
  case atStart => exact ⟨0, Nat.zero_le _, rfl, v1, B0.out, B1.out, B2.out, hownv, hbelv, hrd3, HG3.out, hn0, hn1, hn2, hoff⟩
  case round =>
    obtain ⟨j, hj, rfl, hinv⟩ := hrel
    obtain ⟨v, b0, b1, b2, hownr, hbelr, hrdr, hgr, hr0, hr1, hr2, hoffr⟩ := hinv
    by_cases hlt : j < q
    · obtain ⟨b, off, k, hA3, hb3, hk3, hc3⟩ := hrdr.int hlt
      have hkk := hkdw.out k (List.mem_of_getElem? hk3)
      have hbd := endP_bd ((dw r).take j) (1, 0) (1, 0) 1 (by decide) (by decide)
      have hlj : ((dw r).take j).length = j := by rw [List.length_take]; have := HQ.out; omega
      rw [hlj] at hbd
      have ht : (dw r).take (j + 1) = (dw r).take j ++ [k] := by rw [List.take_add_one, hk3]; rfl
      have HT := Lib.hid ht
      have HA3 := Lib.hid hA3
      have hrg := HG3.out
      have B0 := Lib.hid b0
      have B1 := Lib.hid b1
      have B2 := Lib.hid b2
      have c10 := cell_of_blk b1 0
      have c11 := cell_of_blk b1 1
      have f1 := frozen_of_blk b1
      clear ht hk3 hlj hrg hgr b0 b1 b2
      generalize hS : endP (1, 0) (1, 0) ((dw r).take j) = S at *
      obtain ⟨⟨x, y⟩, dx, dy⟩ := S
      have HS := Lib.hid hS
      clear hS
      simp only [List.getElem?_toArray, List.getElem?_cons_zero, List.getElem?_cons_succ] at c10 c11
      obtain ⟨⟨e1, e2, e3, e4⟩, e5, e6, e7, e8⟩ := hbd
      simp only at e1 e2 e3 e4 e5 e6 e7 e8
      have hp : w.heap.size ≠ w.heap.size + 1 := by omega
      have hp2 : w.heap.size + 1 + 1 + 1 ≠ w.heap.size + 1 := by omega
      have ha : ∀ a, A3 = some a → a.block ≠ w.heap.size + 1 := fun a ha => by have := HG3.out a ha; omega
      have HA := Lib.hid ha
      clear ha
      rcases hkk with rfl | rfl
      · subst hA3
        go_wp2_with fail
        have z0 := blk_farC (blk_farC (blk_farC (blk_farC B0.out hp 0 (.int .i64 (-dy))) hp 1 (.int .i64 dx)) hp 0 (.int .i64 dy)) hp 1 (.int .i64 (-dx))
        have z1 := blk_set (blk_set (blk_set (blk_set B1.out 0 (.int .i64 (-dy))) 1 (.int .i64 dx)) 0 (.int .i64 dy)) 1 (.int .i64 (-dx))
        have z2 := blk_farC (blk_farC (blk_farC (blk_farC B2.out hp2 0 (.int .i64 (-dy))) hp2 1 (.int .i64 dx)) hp2 0 (.int .i64 dy)) hp2 1 (.int .i64 (-dx))
        have zo := own_farC (own_farC (own_farC (own_farC hownr hr1 0 (.int .i64 (-dy))) hr1 1 (.int .i64 dx)) hr1 0 (.int .i64 dy)) hr1 1 (.int .i64 (-dx))
        have zb := (((hbelr.setCell (p := ⟨w.heap.size + 1, 0, none⟩) (by simp) (.int .i64 (-dy))).setCell (p := ⟨w.heap.size + 1, 1, none⟩) (by simp) (.int .i64 dx)).setCell (p := ⟨w.heap.size + 1, 0, none⟩) (by simp) (.int .i64 dy)).setCell (p := ⟨w.heap.size + 1, 1, none⟩) (by simp) (.int .i64 (-dx))
        have zr := (((hrdr.farC HA.out 0 (.int .i64 (-dy))).farC HA.out 1 (.int .i64 dx)).farC HA.out 0 (.int .i64 dy)).farC HA.out 1 (.int .i64 (-dx))
        refine (step_any w.heap.size _ _ _ (x, y) (dy, -dx) v (j + 2) _ _ (by simp only; omega) (by simp only; omega) (by omega) z0 z1 z2 (Nat.le_refl _) (by omega) (by omega) zo hr0 hr1 hr2).mono ?_
        rintro e w2 ⟨rfl, v2, k0, k1, k2, hown2, hbel2, hkp2⟩
        have hinv := pathInv_next HT.out HS.out (D := (dy, -dx)) (by simp [turnV]) k0 k1 k2 hown2 zb hbel2 hkp2 zr (by omega) HG3.out hr0 hr1 hr2 hoffr (by have := blk_lt z2; exact this)
        clear z0 z1 z2 zo zb zr k0 k1 k2 hown2 hbel2 hkp2
        go_wp2
        go_roundw
        case rel => exact ⟨j + 1, by omega, by go_num, hinv⟩
        case measure => simp [intOf]; omega
      · subst hA3
        go_wp2_with fail
        have z0 := blk_farC (blk_farC B0.out hp 0 (.int .i64 (-dy))) hp 1 (.int .i64 dx)
        have z1 := blk_set (blk_set B1.out 0 (.int .i64 (-dy))) 1 (.int .i64 dx)
        have z2 := blk_farC (blk_farC B2.out hp2 0 (.int .i64 (-dy))) hp2 1 (.int .i64 dx)
        have zo := own_farC (own_farC hownr hr1 0 (.int .i64 (-dy))) hr1 1 (.int .i64 dx)
        have zb := (hbelr.setCell (p := ⟨w.heap.size + 1, 0, none⟩) (by simp) (.int .i64 (-dy))).setCell (p := ⟨w.heap.size + 1, 1, none⟩) (by simp) (.int .i64 dx)
        have zr := (hrdr.farC HA.out 0 (.int .i64 (-dy))).farC HA.out 1 (.int .i64 dx)
        refine (step_any w.heap.size _ _ _ (x, y) (-dy, dx) v (j + 2) _ _ (by simp only; omega) (by simp only; omega) (by omega) z0 z1 z2 (Nat.le_refl _) (by omega) (by omega) zo hr0 hr1 hr2).mono ?_
        rintro e w2 ⟨rfl, v2, k0, k1, k2, hown2, hbel2, hkp2⟩
        have hinv := pathInv_next HT.out HS.out (D := (-dy, dx)) (by simp [turnV]) k0 k1 k2 hown2 zb hbel2 hkp2 zr (by omega) HG3.out hr0 hr1 hr2 hoffr (by have := blk_lt z2; exact this)
        clear z0 z1 z2 zo zb zr k0 k1 k2 hown2 hbel2 hkp2
        go_wp2
        go_roundw
        case rel => exact ⟨j + 1, by omega, by go_num, hinv⟩
        case measure => simp [intOf]; omega
    · have c20 := cell_of_blk b2 0
      have : j = q := by omega
      subst this
      have ht : (dw r).take j = dw r := List.take_of_length_le (by have := HQ.out; omega)
      rw [ht] at hownr
      simp only [List.getElem?_toArray, List.getElem?_cons_zero] at c20
      clear b0 b1 b2
      go_wp2
      go_ret2
      exact ⟨v, rfl, by rw [← HQ.out]; exact hownr, hbelr⟩
end Go.Proofs.Ythfhkmgegkhljaa
