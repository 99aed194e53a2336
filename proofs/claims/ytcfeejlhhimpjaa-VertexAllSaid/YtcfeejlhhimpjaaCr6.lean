/- flat: the walk, up to its turn. -/
import Derived.Test.YtcfeejlhhimpjaaCr4
import Derived.Test.YtcfeejlhhimpjaaCr5
import Derived.StillTailTactics
namespace Go.Proofs.Ytcfeejlhhimpjaa
set_option linter.unusedSimpArgs false
set_option linter.unusedVariables false
open Go.RowKit Vx

theorem set2_blk {w : World} {g : Nat} {t : TypeId} {a b : Value} (h : w.heap[g]? = some (.cells #[a, b] t (0, 0))) (u v : Value) : ((w.setCell ⟨g, 0, none⟩ u).setCell ⟨g, 1, none⟩ v).heap[g]? = some (.cells #[u, v] t (0, 0)) := by
  have h1 := blk_set h 0 u
  have h2 := blk_set h1 1 v
  simpa using h2
theorem Rd.addr {w : World} {A : Option Addr} {n : Nat} {xs : List Value} (h : Rd w 1 A n xs) (hn : 0 < n) : ∃ b off, A = some ⟨b, off, none⟩ := by
  obtain ⟨b, off, e, _⟩ := h.2 hn
  exact ⟨b, off, e⟩
theorem own_store0 {w : World} {base g n c : Nat} {e : TypeId} {x u : Value} {xs : List Value} (h : w.ownsRow base e 1 (.slice (some ⟨g, 0, none⟩) n c) n (x :: xs)) : Rd (w.setCell ⟨g, 0, none⟩ u) 1 (some ⟨g, 0, none⟩) n (u :: xs) := by
  have hr := Rd.of_own h
  have hn : 0 < n := by have := hr.1; simp at this; omega
  obtain ⟨b, off, e1, hb, hc⟩ := hr.2 hn
  simp only [Option.some.injEq, Addr.mk.injEq, and_true] at e1
  obtain ⟨rfl, rfl⟩ := e1
  rcases h.2 with ⟨h0, _⟩ | ⟨g', cap, cur, hv, _, hg, _⟩
  · simp at h0
  · simp only [Value.slice.injEq, Option.some.injEq, Addr.mk.injEq, and_true, true_and] at hv
    obtain ⟨rfl, rfl⟩ := hv
    refine ⟨by have := hr.1; simpa using this, fun _ => ⟨_, 0, rfl, by simpa [World.size_setCell] using hb, fun j u' hu => ?_⟩⟩
    have hs := blk_set hg 0 u
    rw [Nat.zero_add, cell_of_blk hs j]
    cases j with
    | zero =>
      simp only [List.getElem?_cons_zero, Option.some.injEq] at hu
      subst hu
      have h2 := hc 0 x (by simp)
      rw [Nat.zero_add, cell_of_blk hg 0] at h2
      have h3 := (Array.getElem?_eq_some_iff.1 h2).1
      simp [h3]
    | succ j =>
      have h2 := hc (j + 1) u' (by simpa using hu)
      rw [Nat.zero_add, cell_of_blk hg (j + 1)] at h2
      rw [← h2]
      simp
theorem own_addr {w : World} {base n : Nat} {e : TypeId} {v : Value} {xs : List Value} (h : w.ownsRow base e 1 v n xs) (hn : 0 < n) : ∃ g c cur, v = .slice (some ⟨g, 0, none⟩) n c ∧ n ≤ c ∧ c ≤ maxLen ∧ base ≤ g ∧ w.heap[g]? = some (.cells cur e (0, 0)) := by
  rcases h.2 with ⟨_, h0⟩ | ⟨g, cap, cur, hv, h1, h2, h3, h4, _⟩
  · omega
  · exact ⟨g, cap, cur, hv, h3, h4, h1, h2⟩
theorem keep_c {B : Nat} {w w' : World} {a : Addr} {v : Value} (h : w.cell? a = some v) (hb : Below B w w') (hlt : a.block < B) : w'.cell? a = some v := (hb.cell (p := a) hlt).trans h
theorem al_d {w : World} {a : Addr} {v : Value} (h : w.drew.cell? a = some v) (o : Obj) : (w.alloc o).drew.cell? a = some v := (show (w.alloc o).cell? a = some v from al_c (show w.cell? a = some v from h) o)
theorem bd {v w : World} {B : Nat} (h : Below B v w.drew) (hB : B ≤ w.heap.size) (o : Obj) : Below B v (w.alloc o).drew := h.alloc hB o
theorem off_of {g k n c : Nat} (h : k ≠ g) : Off (.slice (some ⟨g, 0, none⟩) n c) (some ⟨k, 0, none⟩) := by
  intro a ha
  obtain rfl := Option.some.inj ha
  show some g ≠ some k
  simp
  omega
def Kb (n : Nat) : Int := if 8 ≤ n then 1000 else if 6 ≤ n then 2000 else if 4 ≤ n then 4000 else if 2 ≤ n then 8000 else 16000
theorem and1 (n : Int) : bits .and .i64 n 1 = n % 2 := by
  have h : (BitVec.ofInt 64 1).toNat = 2 ^ 1 - 1 := by decide
  have key : (BitVec.ofInt 64 n &&& BitVec.ofInt 64 1).toNat = (n % ((2 ^ 64 : Nat) : Int)).toNat % 2 ^ 1 := by
    rw [BitVec.toNat_and, BitVec.toNat_ofInt, h, Nat.and_two_pow_sub_one_eq_mod]
  show IntKind.i64.wrap ((BitVec.ofInt 64 n &&& BitVec.ofInt 64 1).toNat : Nat) = n % 2
  rw [key, IntKind.wrap_i64]
  omega
theorem Kb_two {n m : Nat} (h : m + 2 ≤ n) (hn : n ≤ 8) : 2 * Kb n ≤ Kb m := by
  unfold Kb
  (repeat' split) <;> omega
theorem Kb_mono {n m : Nat} (h : m ≤ n) : Kb n ≤ Kb m := by
  unfold Kb
  (repeat' split) <;> omega
theorem Kb_le (n : Nat) : Kb n ≤ 16000 ∧ 1000 ≤ Kb n := by
  unfold Kb
  (repeat' split) <;> omega
def Bd (n : Nat) (xs : List Int) : Prop := ∀ x ∈ xs, 1 ≤ x ∧ x ≤ Kb n

set_option maxRecDepth 100000 in
set_option maxHeartbeats 6400000 in
theorem flat_any (N : Nat) : ∀ (b off n c : Nat) (xs : List Int) (b' off' c' : Nat) (ys : List Int) (w : World), n < N → n ≤ 8 → Rd w 1 (some ⟨b, off, none⟩) n (vis xs) → Rd w 1 (some ⟨b', off', none⟩) n (vis ys) → n ≤ c → c ≤ maxLen → n ≤ c' → c' ≤ maxLen → Ring xs → Bd n xs → (∀ z ∈ ys, z = 1 ∨ z = 2) →
    Calls Try.prog 18 #[.agg #[.slice (some ⟨b, off, none⟩) n c, .slice (some ⟨b', off', none⟩) n c']] w fun e w' => e = .returned (.bool (Fb (xs.zip ys))) ∧ Below w.heap.size w w' := by
  induction N with
  | zero => intros; omega
  | succ N ih =>
    intro b off n c xs b' off' c' ys w hN hn8 h h' hnc hcc hnc' hcc' hR hB hk
    have IH := Lib.hid ih
    clear ih
    have hl := h.ints_len
    have hl' := h'.ints_len
    have hne := hR.ne
    have hn0 : 0 < n := by rw [← hl]; exact List.length_pos_iff.2 hne
    have hmin := minL_mem hne
    have hLb := hB _ hmin.1
    have hKb := Kb_le n
    have HAL := Lib.hid (fun e => alike (ys := ys) hne (by rw [hl, hl']) e)
    have HUN := Lib.hid (fun e => unlike hne e)
    have cMin := fun (w : World) (h : Rd w 1 (some ⟨b, off, none⟩) n (vis xs)) => min_any (some ⟨b, off, none⟩) n c xs w h (by omega) hn0
    have cMax := fun (w : World) (h : Rd w 1 (some ⟨b, off, none⟩) n (vis xs)) => max_any (some ⟨b, off, none⟩) n c xs w h (by omega) hn0
    obtain ⟨L, hL⟩ : ∃ L, L = minL xs := ⟨_, rfl⟩
    obtain ⟨M, hM⟩ : ∃ M, M = maxL xs := ⟨_, rfl⟩
    rw [← hL] at hmin hLb
    simp only [← hL] at cMin
    simp only [← hM] at cMax
    have CMin := Lib.hid cMin
    have CMax := Lib.hid cMax
    have HL := Lib.hid hL
    have HM := Lib.hid hM
    have HR := Lib.hid h
    have HR' := Lib.hid h'
    have HRing := Lib.hid hR
    have HB := Lib.hid hB
    have HK := Lib.hid hk
    have Hmin := Lib.hid hmin
    have Hl := Lib.hid hl
    have Hl' := Lib.hid hl'
    clear cMin cMax hL hM h h' hR hB hk hmin hl hl' hne
    go_enter Try.func18, Try.ntmps18
    go_wp2_with fail
    refine (CMin.out _ (HR.out.alloc _)).mono ?_
    rintro e w1 ⟨rfl, rfl⟩
    go_upto_region 3 with fail
    have k0 : ((w.alloc (.cells #[.slice (some ⟨b, off, none⟩) n c, .slice (some ⟨b', off', none⟩) n c'] 43)).alloc (.cells #[.int .i64 L] 3)).heap[w.heap.size]? = some (.cells #[.slice (some ⟨b, off, none⟩) n c, .slice (some ⟨b', off', none⟩) n c'] 43 (0, 0)) := blk_alloc (new_blk _ rfl) _
    have k1 : ((w.alloc (.cells #[.slice (some ⟨b, off, none⟩) n c, .slice (some ⟨b', off', none⟩) n c'] 43)).alloc (.cells #[.int .i64 L] 3)).heap[w.heap.size + 1]? = some (.cells #[.int .i64 L] 3 (0, 0)) := new_blk _ (by simp)
    have hw0 : Below w.heap.size w ((w.alloc (.cells #[.slice (some ⟨b, off, none⟩) n c, .slice (some ⟨b', off', none⟩) n c'] 43)).alloc (.cells #[.int .i64 L] 3)) := ba (below_new _ _) _
    generalize ((w.alloc (.cells #[.slice (some ⟨b, off, none⟩) n c, .slice (some ⟨b', off', none⟩) n c'] 43)).alloc (.cells #[.int .i64 L] 3)) = w0 at k0 k1 hw0 ⊢
    have c0 := cell_of_blk k0 0
    have c1 := cell_of_blk k0 1
    have d0 := cell_of_blk k1 0
    simp only [List.getElem?_toArray, List.getElem?_cons_zero, List.getElem?_cons_succ] at c0 c1 d0
    go_quiet ((go_at_call 24; exact Calls.quiet_of_same ((CMax.out _ ((HR.out.below hw0).drewN _)).mono (fun _ _ hh => ⟨hh.1, hh.2.symm⟩))))
    by_cases hML : M = L
    · -- all alike
      subst hML
      have hal := HAL.out (by rw [← HM.out, ← HL.out])
      have hbs := ks_bd HK.out
      have hlen := Hl'.out
      rw [hlen] at hbs
      obtain ⟨S, hS⟩ : ∃ S, S = ks ys := ⟨_, rfl⟩
      have cMore := fun (w : World) (h : Rd w 1 (some ⟨b', off', none⟩) n (vis ys)) => more_any (some ⟨b', off', none⟩) n c' ys w h (by omega) HK.out
      rw [← hS] at hal hbs
      simp only [← hS] at cMore
      have CMore := Lib.hid cMore
      have HA2 := Lib.hid hal
      clear hal hS cMore hlen
      have hres : ((if S < -S then -S else S) == 2) = decide (S = 2 ∨ S = -2) := by
        by_cases h2 : S = 2
        · subst h2; decide
        · by_cases h3 : S = -2
          · subst h3; decide
          · simp [h2, h3]; split <;> omega
      have cSize := fun w => size_any S w (by omega) (by omega)
      obtain ⟨Z, hZ⟩ : ∃ Z, Z = (if S < -S then -S else S) := ⟨_, rfl⟩
      simp only [← hZ] at cSize hres
      have CSize := Lib.hid cSize
      have HRes := Lib.hid hres
      clear hres cSize hZ
      go_wp2_with fail
      refine (CMore.out _ ((HR'.out.below hw0).drewN _)).mono ?_
      rintro e w2 ⟨rfl, rfl⟩
      go_wp2_with fail
      refine (CSize.out _).mono ?_
      rintro e w2 ⟨rfl, rfl⟩
      go_wp2
      go_ret
      exact ⟨by rw [HA2.out, ← HRes.out]; rfl, below_drewN hw0 _⟩
    · have hbm : (M == L) = false := by simp [hML]
      simp only [hbm]
      clear hbm
      have hun := HUN.out (by rw [← HM.out, ← HL.out]; exact hML)
      rw [← HL.out] at hun
      have hst := some_start Hl.out Hmin.out.1 hun
      have HST := Lib.hid hst
      clear hun hst hML
      go_wp2_with fail
      go_loopw [27] (fun v wr => ∃ i : Nat, i ≤ n ∧ v = .int .i64 i ∧ (∀ j, j < i → ¬ (xs[j]? = some L ∧ ∀ z, xs[(j + n - 1) % n]? = some z → z ≠ L)) ∧ Below w0.heap.size w0 wr) (fun v _ => n - (intOf v).toNat)
      case atStart => exact ⟨0, by omega, rfl, fun j hj => by omega, below_drewN (Below.refl _ _) _⟩
      case round =>
        obtain ⟨i, hi, rfl, hno, hbel⟩ := hrel
        have HNO := Lib.hid hno
        clear hno
        by_cases hin : i < n
        · obtain ⟨bb, oo, z0, hA, hb0, hz0, hc0⟩ := ((HR.out.below hw0).below hbel).int hin
          simp only [Option.some.injEq, Addr.mk.injEq, and_true] at hA
          obtain ⟨rfl, rfl⟩ := hA
          obtain ⟨p, hp⟩ : ∃ p, p = (i + n - 1) % n := ⟨_, rfl⟩
          have hpn : p < n := by rw [hp]; exact Nat.mod_lt _ hn0
          obtain ⟨bb, oo, z1, hA, hb1, hz1, hc1⟩ := ((HR.out.below hw0).below hbel).int hpn
          simp only [Option.some.injEq, Addr.mk.injEq, and_true] at hA
          obtain ⟨rfl, rfl⟩ := hA
          have e0 := stay_c c0 hbel (Nat.le_refl _)
          have e1 := stay_c c1 hbel (Nat.le_refl _)
          have g0 := stay_c d0 hbel (Nat.le_refl _)
          have hwn1 : IntKind.i64.wrap ((i : Int) + n) = i + n := IntWalk.i64_in _ (by omega)
          have hwn2 : IntKind.i64.wrap ((i : Int) + n - 1) = i + n - 1 := IntWalk.i64_in _ (by omega)
          have htm : ((i : Int) + n - 1).tmod n = p := by
            rw [show ((i : Int) + n - 1) = ((i + n - 1 : Nat) : Int) by omega, ← Int.ofNat_tmod, ← hp]
          have hwp : IntKind.i64.wrap (p : Int) = p := IntWalk.i64_in _ (by omega)
          have hnz : ((n : Int) == 0) = false := by simp; omega
          have hnx : ∀ j, j < i → ¬ (xs[j]? = some L ∧ ∀ z, xs[(j + n - 1) % n]? = some z → z ≠ L) := HNO.out
          have HP := Lib.hid hp
          have HZ0 := Lib.hid hz0
          have HZ1 := Lib.hid hz1
          clear hp hz0 hz1 hnx
          by_cases q0 : z0 = L
          · subst q0
            by_cases q1 : z1 = z0
            · -- the one ahead is as small: on
              subst q1
              go_wp2_with fail
              go_quiet (fail)
              go_wp2
              go_roundw
              case rel => exact ⟨i + 1, by omega, by go_num, fun j hj => by
                by_cases hji : j < i
                · exact HNO.out j hji
                · obtain rfl : j = i := by omega
                  rintro ⟨_, h4⟩
                  exact h4 z1 (by rw [← HP.out]; exact HZ1.out) rfl, below_drewN hbel _⟩
              case measure => simp [intOf]; omega
            · have hq1 : (z1 == z0) = false := by simp [q1]
              go_wp2_with fail
              go_quiet (fail)
              go_wp2_with fail
              have k0r := blk_below k0 hbel (blk_lt k0)
              have k1r := blk_below k1 hbel (blk_lt k1)
              have hwr : Below w.heap.size w wr := stay_b hw0 hbel
              have hcn : c ≤ maxLen := hcc
              refine (turn_any b off n c xs b' off' c' ys i _ ((HR.out.below hwr).drewN _) ((HR'.out.below hwr).drewN _) (by omega) hnc hcc hnc' hcc' hin).mono ?_
              rintro e w2 ⟨A1, c1', A2, c2', rfl, ho1, ho2, hb2⟩
              have k02 := blk_below (show (wr.drewN nq).heap[w.heap.size]? = _ from k0r) hb2 (blk_lt k0r)
              have k12 := blk_below (show (wr.drewN nq).heap[w.heap.size + 1]? = _ from k1r) hb2 (blk_lt k1r)
              have u0 := cell_of_blk k02 0
              have u1 := cell_of_blk k02 1
              simp only [List.getElem?_toArray, List.getElem?_cons_zero, List.getElem?_cons_succ] at u0 u1
              have uf := frozen_of_blk k02
              have ul := blk_lt k02
              clear CMin CMax hwn1 hwn2 htm hwp hnz hc0 hc1 e0 e1 g0 c0 c1 d0 hq1
              go_upto_region 11 with fail
              have hsz := hwr.size
              have lt0 : w.heap.size + 1 < wr.heap.size := blk_lt k1r
              have lA : ∀ k', (Value.slice A1 n c1').ownBlock = some k' → k' ≠ w.heap.size := fun k' hk' => by have this : wr.heap.size ≤ k' := (ho1.lt k' hk').1; omega
              have lK : ∀ k', (Value.slice A2 n c2').ownBlock = some k' → k' ≠ w.heap.size := fun k' hk' => by have this : wr.heap.size ≤ k' := (ho2.lt k' hk').1; omega
              have fA := Rd.of_own (own_set (own_set ho1 lA 0 (.slice A1 n c1')) lA 1 (.slice A2 n c2'))
              have fK := Rd.of_own (own_set (own_set ho2 lK 0 (.slice A1 n c1')) lK 1 (.slice A2 n c2'))
              have k03 := set2_blk k02 (.slice A1 n c1') (.slice A2 n c2')
              have k13 := blk_far (p := ⟨w.heap.size, 1, none⟩) (blk_far (p := ⟨w.heap.size, 0, none⟩) k12 (by simp) (.slice A1 n c1')) (by simp) (.slice A2 n c2')
              have hw3 : Below w.heap.size w ((w2.setCell ⟨w.heap.size, 0, none⟩ (.slice A1 n c1')).setCell ⟨w.heap.size, 1, none⟩ (.slice A2 n c2')) := ((hwr.trans ((below_drewN (Below.refl _ wr) nq).trans (hb2.mono (show w.heap.size ≤ (wr.drewN _).heap.size from hsz)))).setCell (Nat.le_refl _) _).setCell (Nat.le_refl _) _
              obtain ⟨_, cc1, hx1, hcn1, hcm1⟩ := own_slice ho1
              obtain ⟨_, cc2, hx2, hcn2, hcm2⟩ := own_slice ho2
              simp only [Value.slice.injEq] at hx1 hx2
              obtain ⟨-, -, rfl⟩ := hx1
              obtain ⟨-, -, rfl⟩ := hx2
              clear lA lK ho1 ho2 k02 k12 k0r k1r u0 u1 uf ul hb2 hwr hbel lt0 hsz
              generalize ((w2.setCell ⟨w.heap.size, 0, none⟩ (.slice A1 n c1')).setCell ⟨w.heap.size, 1, none⟩ (.slice A2 n c2')) = w3 at fA fK k03 k13 hw3 ⊢
              obtain ⟨b1, o1, rfl⟩ := fA.addr hn0
              obtain ⟨b2, o2, rfl⟩ := fK.addr hn0
              obtain ⟨Ra, d, Ea, Rk, kd, Ek, P⟩ := parts_of (ys := ys) Hl.out Hl'.out hin HZ0.out (fun z hz => by rw [← HP.out, HZ1.out] at hz; rw [← Option.some.inj hz]; exact q1) (fun x hx => (Hmin.out).2 x hx) HRing.out
              have hra : Rd w3 1 (some ⟨b1, o1, none⟩) n (vis (Ra ++ d :: Ea)) := by rw [← P.a]; exact fA
              have hrk : Rd w3 1 (some ⟨b2, o2, none⟩) n (vis (Rk ++ kd :: Ek)) := by rw [← P.k]; exact fK
              have hlen : Ra.length + (Ea.length + 1) = n := by have := hra.ints_len; simp at this; omega
              have hr0 : 0 < Ra.length := List.length_pos_iff.2 P.ne
              obtain ⟨r, hr⟩ : ∃ r, r = Ra.length := ⟨_, rfl⟩
              have hBd : ∀ x ∈ Ra ++ d :: Ea, 1 ≤ x ∧ x ≤ Kb n := fun x hx => HB.out x (by
                rw [← P.a] at hx
                simp only [rotL, List.mem_append] at hx
                rcases hx with hx | hx
                · exact List.mem_of_mem_drop hx
                · exact List.mem_of_mem_take hx)
              have hKk : ∀ x ∈ Rk ++ kd :: Ek, x = 1 ∨ x = 2 := fun x hx => HK.out x (by
                rw [← P.k] at hx
                simp only [rotL, List.mem_append] at hx
                rcases hx with hx | hx
                · exact List.mem_of_mem_drop hx
                · exact List.mem_of_mem_take hx)
              have hmL : ∀ x ∈ Ra ++ d :: Ea, z0 ≤ x := fun x hx => (Hmin.out).2 x (by
                rw [← P.a] at hx
                simp only [rotL, List.mem_append] at hx
                rcases hx with hx | hx
                · exact List.mem_of_mem_drop hx
                · exact List.mem_of_mem_take hx)
              have hrn : r < n := by omega
              have v0 := cell_of_blk k03 0
              have v1 := cell_of_blk k03 1
              have vL := cell_of_blk k13 0
              simp only [List.getElem?_toArray, List.getElem?_cons_zero, List.getElem?_cons_succ] at v0 v1 vL
              have cIx := indexFunc_any (some ⟨b1, o1, none⟩) n c1' (Ra ++ d :: Ea) z0 (w.heap.size + 1) r w3 hra (by omega) vL hrn
                (fun j z hj hz => P.all z (by rw [List.getElem?_append_left (by omega)] at hz; exact List.mem_of_getElem? hz))
                (fun z hz => by rw [hr, List.getElem?_append_right (by omega)] at hz; simp at hz; rw [← hz]; exact P.cL)
              have hlk2 : Rk.length = r := by rw [P.lk, hr]
              have hle2 : Ek.length = Ea.length := P.le
              have hsub := hrk.sub (lo := 0) (hi := r + 1) (by omega) (by omega)
              have hte : ((Rk ++ kd :: Ek).drop 0).take (r + 1 - 0) = Rk ++ [kd] := by
                rw [List.drop_zero, Nat.sub_zero, show r + 1 = Rk.length + 1 by omega, List.take_length_add_append]; rfl
              rw [hte] at hsub
              simp only [Nat.add_zero, Nat.sub_zero] at hsub
              have hSb := ks_bd (l := Rk ++ [kd]) (fun z hz => hKk z (by simp at hz ⊢; rcases hz with hz | hz; exact .inl hz; exact .inr (.inl hz)))
              simp only [List.length_append, List.length_cons, List.length_nil, hlk2] at hSb
              have cMr := more_any (some ⟨b2, o2, none⟩) (r + 1) c2' (Rk ++ [kd]) w3 hsub (by omega) (fun z hz => hKk z (by simp at hz ⊢; rcases hz with hz | hz; exact .inl hz; exact .inr (.inl hz)))
              obtain ⟨S, hS⟩ : ∃ S, S = ks (Rk ++ [kd]) := ⟨_, rfl⟩
              rw [← hS] at cMr hSb
              have hSb1 : -100 ≤ S ∧ S ≤ 100 := by omega
              have hrc2 : r + 1 ≤ c2' := by omega
              have hrw : IntKind.i64.wrap ((r : Int) + 1) = r + 1 := IntWalk.i64_in _ (by omega)
              have HRa := Lib.hid hr
              have HLn := Lib.hid hlen
              have HB1 := Lib.hid hBd
              have HK1 := Lib.hid hKk
              have HmL := Lib.hid hmL
              have Hlk := Lib.hid hlk2
              have Hle := Lib.hid hle2
              have HS := Lib.hid hS
              have CIx := Lib.hid cIx
              have CMr := Lib.hid cMr
              have HP1 := Lib.hid P
              have HRA := Lib.hid hra
              have HRK := Lib.hid hrk
              have hf1 := flat1_enter
              have HF1 := Lib.hid hf1
              clear hr hlen hBd hKk hmL hlk2 hle2 hS cIx cMr P hte hsub hSb hra hrk fA fK hf1 HRing HB HK Hl Hl' HAL HUN HM HR HR' HNO HZ0 HZ1 HP k0 k1 hw0 hnc hcc hnc' hcc' hb0 hb1 hpn hi
              go_wp2_with fail
              refine (CIx.out).mono ?_
              rintro e w4 ⟨rfl, rfl⟩
              go_wp2_with fail
              refine (CMr.out).mono ?_
              rintro e w4 ⟨rfl, rfl⟩
              by_cases hpar : r % 2 = 1
              · have ha1 : bits .and .i64 (r : Int) 1 = 1 := by rw [and1]; omega
                by_cases hS0 : S = 0
                · subst hS0
                  obtain ⟨Ma, y, Mk, ky, hEa, hEk, hmm, hRg, hFb⟩ := HP1.out.odd_yes (by rw [← HRa.out]; exact hpar) HS.out.symm
                  have hra2 := HRA.out
                  have hrk2 := HRK.out
                  rw [hEa] at hra2
                  rw [hEk] at hrk2
                  have hln := HLn.out
                  rw [hEa] at hln
                  simp only [List.length_append, List.length_cons, List.length_nil] at hln
                  have hrr := HRa.out
                  have hkk := Hlk.out
                  have hca : ((Ra ++ d :: (Ma ++ [y])).drop r).take (n - 1 - r) = d :: Ma := by
                    rw [List.drop_append_of_le_length (by omega), List.drop_of_length_le (by omega), List.nil_append, show n - 1 - r = Ma.length + 1 by omega, List.take_succ_cons, List.take_append_of_le_length (Nat.le_refl _), List.take_of_length_le (Nat.le_refl _)]
                  have hck : ((Rk ++ kd :: (Mk ++ [ky])).drop (r + 1)).take (n - 1 - (r + 1)) = Mk := by
                    rw [show r + 1 = Rk.length + 1 by omega, List.drop_length_add_append]
                    simp only [List.drop_succ_cons, List.drop_zero]
                    rw [List.take_append_of_le_length (by omega), List.take_of_length_le (by omega)]
                  have hsa := hra2.sub (lo := r) (hi := n - 1) (by omega) (by omega)
                  have hsk := hrk2.sub (lo := r + 1) (hi := n - 1) (by omega) (by omega)
                  rw [hca] at hsa
                  rw [hck] at hsk
                  have hya : w3.cell? ⟨b1, o1 + (n - 1), none⟩ = some (.int .i64 y) := by
                    obtain ⟨bb, oo, z, hA, _, hz, hc⟩ := hra2.int (show n - 1 < n by omega)
                    simp only [Option.some.injEq, Addr.mk.injEq, and_true] at hA
                    obtain ⟨rfl, rfl⟩ := hA
                    rw [show n - 1 = (Ra ++ d :: Ma).length by simp; omega, show Ra ++ d :: (Ma ++ [y]) = (Ra ++ d :: Ma) ++ [y] by simp] at hz
                    simp at hz
                    rw [hc, hz]
                  have hyk : w3.cell? ⟨b2, o2 + (n - 1), none⟩ = some (.int .i64 ky) := by
                    obtain ⟨bb, oo, z, hA, _, hz, hc⟩ := hrk2.int (show n - 1 < n by omega)
                    simp only [Option.some.injEq, Addr.mk.injEq, and_true] at hA
                    obtain ⟨rfl, rfl⟩ := hA
                    rw [show n - 1 = (Rk ++ kd :: Mk).length by simp; omega, show Rk ++ kd :: (Mk ++ [ky]) = (Rk ++ kd :: Mk) ++ [ky] by simp] at hz
                    simp at hz
                    rw [hc, hz]
                  have hbd := HB1.out
                  have hkd := HK1.out
                  have hml := HmL.out
                  rw [hEa] at hbd hml
                  rw [hEk] at hkd
                  have bd1 := hbd d (by simp)
                  have bd2 := hbd y (by simp)
                  have bd3 := hml d (by simp)
                  have bd4 := hml y (by simp)
                  have bd5 : Bd (n - 1 - r) ((y + d - z0) :: Ma) := by
                    intro x hx
                    have h2 := Kb_two (n := n) (m := n - 1 - r) (by omega) hn8
                    rcases List.mem_cons.1 hx with rfl | hx
                    · omega
                    · have := hbd x (by simp [hx]); omega
                  have bd6 : ∀ z ∈ ky :: Mk, z = 1 ∨ z = 2 := fun z hz => hkd z (by simp at hz ⊢; rcases hz with rfl | hz; exact .inr (.inr (.inr rfl)); exact .inr (.inr (.inl hz)))
                  obtain ⟨q, hq⟩ : ∃ q, q = n - 1 := ⟨_, rfl⟩
                  have hwq : IntKind.i64.wrap ((n : Int) - 1) = (q : Int) := by
                    rw [IntWalk.i64_in _ (by omega)]; omega
                  rw [← hq] at hsa hsk hya hyk
                  rw [← hq] at bd5
                  obtain ⟨m, hm⟩ : ∃ m, m = q - r := ⟨_, rfl⟩
                  have hm1 : m = Ma.length + 1 := by omega
                  have hm2 : q - (r + 1) = m - 1 := by omega
                  rw [← hm] at hsa bd5
                  have hmn : m < N ∧ m ≤ 8 ∧ r + m + 1 = n := by omega
                  have hFB := Lib.hid hFb
                  have HRg := Lib.hid hRg
                  have HM1 := Lib.hid hm1
                  have HMM := Lib.hid hmm
                  have HBD := Lib.hid bd5
                  have HKD := Lib.hid bd6
                  have HSA := Lib.hid hsa
                  have HSK := Lib.hid hsk
                  have HYA := Lib.hid hya
                  have HYK := Lib.hid hyk
                  have Hm := Lib.hid hm
                  have HMN := Lib.hid hmn
                  have hcl1 : r ≤ q := by omega
                  have hcl2 : q ≤ c1' := by omega
                  have hcl3 : r ≤ c1' := by omega
                  have hcl4 : q < n := by omega
                  have hcl5 : q < c1' := by omega
                  have hcl6 : r + 1 ≤ q := by omega
                  have hcl7 : q ≤ c2' := by omega
                  have hcl8 : q < c2' := by omega
                  clear hEa hEk hmm hRg hFb hra2 hrk2 hln hrr hkk hca hck hsa hsk hya hyk hbd hkd hml bd5 bd6 hm1 hm2 hmn hq hm HP1 HB1 HK1 HmL
                  go_wp2_with fail
                  rw [← Hm.out]
                  refine (clone_any b1 (o1 + r) m (c1' - r) (d :: Ma) w3 HSA.out (by have := HMN.out; omega)).mono ?_
                  rintro e w4 ⟨v, rfl, hov, hb4⟩
                  have hm0 : 0 < m := by have := HM1.out; omega
                  obtain ⟨g, c3, cur, hv, hc31, hc32, hg3, hgb⟩ := own_addr hov hm0
                  subst hv
                  have hfr := frozen_of_blk hgb
                  have hgl := blk_lt hgb
                  have x0 : w4.cell? ⟨g, 0, none⟩ = some (.int .i64 d) := by
                    obtain ⟨bb, oo, z, hA, _, hz, hc⟩ := (Rd.of_own (xs := vis (d :: Ma)) hov).int hm0
                    simp only [Option.some.injEq, Addr.mk.injEq, and_true] at hA
                    obtain ⟨rfl, rfl⟩ := hA
                    simp at hz
                    rw [hc, hz]
                  have v04 := stay_c v0 hb4 (Nat.le_refl _)
                  have v14 := stay_c v1 hb4 (Nat.le_refl _)
                  have vL4 := stay_c vL hb4 (Nat.le_refl _)
                  have hya4 := stay_c HYA.out hb4 (Nat.le_refl _)
                  have hw4 := stay_b hw3 hb4
                  have wr1 : IntKind.i64.wrap (y - z0) = y - z0 := IntWalk.i64_in _ (by omega)
                  have wr2 : IntKind.i64.wrap (d + (y - z0)) = d + (y - z0) := IntWalk.i64_in _ (by omega)
                  go_wp2_with fail
                  have HV0 := Lib.hid v0
                  have HV1 := Lib.hid v1
                  clear v0 v1 vL
                  go_still_tail 13, (by kernel_rfl)
                  change wpList _ _ _ _ _ w4.drew
                  go_upto_region 18 with fail
                  have hB5 : Below w3.heap.size w3 ((w4.setCell ⟨g, 0, none⟩ (.int .i64 (d + (y - z0)))).drew) := (hb4.setCell (p := ⟨g, 0, none⟩) hg3 _).drew
                  have hRA : Rd ((w4.setCell ⟨g, 0, none⟩ (.int .i64 (d + (y - z0)))).drew) 1 (some ⟨g, 0, none⟩) m (vis ((y + d - z0) :: Ma)) := by
                    rw [show y + d - z0 = d + (y - z0) by omega]
                    exact (own_store0 (xs := vis Ma) hov).drew
                  clear x0 v04 v14 vL4 hya4 hgb hfr hgl wr1 wr2 hb4 hov hw4
                  generalize (w4.setCell ⟨g, 0, none⟩ (.int .i64 (d + (y - z0)))).drew = w5 at hB5 hRA ⊢
                  have hw5 := stay_b hw3 hB5
                  have f1 := stay_c HV1.out hB5 (Nat.le_refl _)
                  have f2 := stay_c HYK.out hB5 (Nat.le_refl _)
                  have hRK := HSK.out.below hB5
                  have l1 : w.heap.size < w5.heap.size := World.block_lt_of_cell? w5 _ f1
                  have l2 : b2 < w5.heap.size := World.block_lt_of_cell? w5 _ f2
                  have HRA5 := Lib.hid hRA
                  have HRK5 := Lib.hid hRK
                  have hm11 : 1 + (q - (r + 1)) = m := by have := Hm.out; omega
                  have Hm11 := Lib.hid hm11
                  have hmb : m ≤ 100 := by have := HMN.out; omega
                  have hown0 : (w5.alloc (.cells #[.int .i64 ky] 3)).drew.ownsRow w5.heap.size 3 1 (.slice (some ⟨w5.heap.size, 0, none⟩) 1 1) 1 (vis [ky]) := World.ownsRow_lit w5 #[.int .i64 ky] 1 (Nat.le_refl _) (by decide) rfl
                  have HO0 := Lib.hid hown0
                  have hS : w5.drew.cell? ⟨w.heap.size, 1, none⟩ = some (.slice (some ⟨b2, o2, none⟩) n c2') ∧ w5.drew.cell? ⟨b2, o2 + q, none⟩ = some (.int .i64 ky) ∧ Below w5.heap.size w5 w5.drew := ⟨f1, f2, (Below.refl _ _).drew⟩
                  have HFa := Lib.hid f1
                  have HFb := Lib.hid f2
                  clear hRA hRK hm11 hown0 f1 f2
                  have hj1 : (r : Int) + 1 ≤ (q : Int) := by omega
                  have hj2 : (q : Int) ≤ (c2' : Int) := by omega
                  have hj3 : (0 : Int) ≤ (r : Int) + 1 := by omega
                  have hj4 : (r : Int) + 1 ≤ (c2' : Int) := by omega
                  have hj5 : r + 1 ≠ c2' := by omega
                  have hj6 : c2' ≠ r + 1 := by omega
                  go_region_held3 (fun w' => w'.cell? ⟨w.heap.size, 1, none⟩ = some (.slice (some ⟨b2, o2, none⟩) n c2') ∧ w'.cell? ⟨b2, o2 + q, none⟩ = some (.int .i64 ky) ∧ Below w5.heap.size w5 w')
                    (first
                      | with_reducible exact hS
                      | (go_split_ands; with_reducible exact ⟨al_d ‹_› _, al_d ‹_› _, bd ‹_› (Nat.le_refl _) _⟩)
                      | (go_split_ands; with_reducible exact ⟨al_c ‹_› _, al_c ‹_› _, ba ‹_› _⟩)
                      | exact ⟨keep_c HFa.out ((below_new w5 _).drew.trans hbp) l1, keep_c HFb.out ((below_new w5 _).drew.trans hbp) l2, (below_new w5 _).drew.trans hbp⟩
                      | (go_split_ands; exact ⟨stay_c ‹_› hbc (Nat.le_refl _), stay_c ‹_› hbc (Nat.le_refl _), stay_b ‹_› hbc⟩))
                    (first
                      | ((refine step_app_rd rfl (.tmp 97) (.tmp 104) rfl w5.heap.size _ 1 [ky] Mk rfl HO0.out (by simp) b2 (o2 + (r + 1)) (q - (r + 1)) (c2' - (r + 1)) rfl ((HRK5.out.alloc _).drew) (by omega) ?_); intro v6 w6 hown6 hbp hgr6; rw [Hm11.out] at hown6; obtain ⟨g6, c6, cur6, hv6, hc61, hc62, _, _⟩ := own_addr hown6 hm0; subst hv6)
                      | (go_split_ands; (with_reducible refine (IH.out g 0 m c3 _ g6 0 c6 (ky :: Mk) _ HMN.out.1 HMN.out.2.1 (HRA5.out.below (by assumption)) (Rd.of_own hown6) hc31 hc32 hc61 hc62 HRg.out HBD.out HKD.out).mono ?_); rintro e w7 ⟨he, hbc⟩; subst he))
                  all_goals
                    rename_i hH
                    obtain ⟨_, _, hbf⟩ := hH
                    have hfin := stay_b hw5 hbf
                    clear hbf
                    go_wp2
                    go_ret
                    exact ⟨by rw [hFB.out]; rfl, hfin⟩
                · have hno := HP1.out.odd_no (by rw [← HRa.out]; exact hpar) (by rw [← HS.out]; exact hS0)
                  have HNo := Lib.hid hno
                  clear hno
                  have hS1 : (S == 0) = false := by simp [hS0]
                  go_wp2
                  go_ret
                  exact ⟨by rw [HNo.out]; rfl, hw3⟩
              · have ha1 : bits .and .i64 (r : Int) 1 = 0 := by rw [and1]; omega
                have hpar0 : r % 2 = 0 := by omega
                have hrk2 := HRK.out
                have hra2 := HRA.out
                have hln := HLn.out
                have hrr := HRa.out
                have hkk := Hlk.out
                have hca : ((Ra ++ d :: Ea).drop r).take (n - r) = d :: Ea := by
                  rw [List.drop_append_of_le_length (by omega), List.drop_of_length_le (by omega), List.nil_append, List.take_of_length_le (by simp; omega)]
                have hck : ((Rk ++ kd :: Ek).drop (r + 1)).take (n - (r + 1)) = Ek := by
                  have := Hle.out
                  rw [show r + 1 = Rk.length + 1 by omega, List.drop_length_add_append]
                  simp only [List.drop_succ_cons, List.drop_zero]
                  rw [List.take_of_length_le (by omega)]
                have hsa := hra2.sub (lo := r) (hi := n) (by omega) (Nat.le_refl _)
                have hsk := hrk2.sub (lo := r + 1) (hi := n) (by omega) (Nat.le_refl _)
                rw [hca] at hsa
                rw [hck] at hsk
                have hbd := HB1.out
                have hkd := HK1.out
                obtain ⟨m, hm⟩ : ∃ m, m = n - r := ⟨_, rfl⟩
                have bd5 : Bd m (d :: Ea) := by
                  intro x hx
                  have h2 := Kb_mono (n := n) (m := m) (by omega)
                  have := hbd x (by simp at hx ⊢; exact .inr hx)
                  omega
                rw [← hm] at hsa
                have hm11 : 1 + (n - (r + 1)) = m := by omega
                have hmn : m < N ∧ m ≤ 8 ∧ 0 < m ∧ m ≤ 100 := by omega
                have HSA := Lib.hid hsa
                have HSK := Lib.hid hsk
                have HBD := Lib.hid bd5
                have HKD := Lib.hid hkd
                have Hm := Lib.hid hm
                have Hm11 := Lib.hid hm11
                have HMN := Lib.hid hmn
                have hev := HP1.out.ring.even
                simp only [List.length_append, List.length_cons] at hev
                have hcl1 : r ≤ n := by omega
                have hcl2 : r ≤ c1' := by omega
                have hcl3 : c1' ≠ r := by omega
                have hcl4 : r + 1 ≤ n := by omega
                have hcl5 : c2' ≠ r + 1 := by omega
                have hj1 : (r : Int) + 1 ≤ (n : Int) := by omega
                have hj3 : (0 : Int) ≤ (r : Int) + 1 := by omega
                have hj4 : (r : Int) + 1 ≤ (c2' : Int) := by omega
                clear hev hrk2 hra2 hln hrr hkk hca hck hsa hsk hbd hkd bd5 hm hm11 hmn
                by_cases hSv : S = 1
                · subst hSv
                  obtain ⟨hRg, hFb⟩ := HP1.out.even_yes (by rw [← HRa.out]; exact hpar0) (k := 1) (by rw [← HS.out]; exact .inl ⟨rfl, rfl⟩)
                  have hkd2 : ∀ z ∈ (1 : Int) :: Ek, z = 1 ∨ z = 2 := fun z hz => by
                    rcases List.mem_cons.1 hz with rfl | hz
                    · exact .inl rfl
                    · exact HKD.out z (by simp [hz])
                  have hFB := Lib.hid hFb
                  have HRg := Lib.hid hRg
                  have HKE := Lib.hid hkd2
                  clear hRg hFb hkd2
                  go_wp2_with fail
                  refine (size_any 1 _ (by decide) (by decide)).mono ?_
                  rintro e w4 ⟨rfl, rfl⟩
                  simp only [show (if (1 : Int) < -(1) then -(1) else (1)) = 1 from by decide]
                  go_upto_region 24 with fail
                  have hS : w3.drew.cell? ⟨w.heap.size, 0, none⟩ = some (.slice (some ⟨b1, o1, none⟩) n c1') ∧ w3.drew.cell? ⟨w.heap.size, 1, none⟩ = some (.slice (some ⟨b2, o2, none⟩) n c2') ∧ Below w3.heap.size w3 w3.drew := ⟨v0, v1, (Below.refl _ _).drew⟩
                  have l1 : w.heap.size < w3.heap.size := World.block_lt_of_cell? w3 _ v1
                  have HFa := Lib.hid v0
                  have HFb := Lib.hid v1
                  clear v0 v1 vL
                  have hm0 : 0 < m := HMN.out.2.2.1
                  go_region_held3 (fun w' => w'.cell? ⟨w.heap.size, 0, none⟩ = some (.slice (some ⟨b1, o1, none⟩) n c1') ∧ w'.cell? ⟨w.heap.size, 1, none⟩ = some (.slice (some ⟨b2, o2, none⟩) n c2') ∧ Below w3.heap.size w3 w')
                    (first
                      | with_reducible exact hS
                      | (go_split_ands; with_reducible exact ⟨al_d ‹_› _, al_d ‹_› _, bd ‹_› (Nat.le_refl _) _⟩)
                      | (go_split_ands; with_reducible exact ⟨al_c ‹_› _, al_c ‹_› _, ba ‹_› _⟩)
                      | exact ⟨keep_c HFa.out (hbt.trans hbp) l1, keep_c HFb.out (hbt.trans hbp) l1, hbt.trans hbp⟩
                      | exact ⟨keep_c HFa.out ((hbt.trans ((below_new wC _).mono hbt.size)).trans hbp) l1, keep_c HFb.out ((hbt.trans ((below_new wC _).mono hbt.size)).trans hbp) l1, (hbt.trans ((below_new wC _).mono hbt.size)).trans hbp⟩
                      | (go_split_ands; exact ⟨stay_c ‹_› hbc (Nat.le_refl _), stay_c ‹_› hbc (Nat.le_refl _), stay_b ‹_› hbc⟩))
                    (first
                      | ((refine step_app_rd rfl (.tmp 119) (.tmp 124) rfl w3.heap.size _ 1 [1] Ek rfl hownS (by have := hbt.size; simp; omega) b2 (o2 + (r + 1)) (n - (r + 1)) (c2' - (r + 1)) rfl ((HSK.out.below hbt).alloc _) (by omega) ?_); intro v6 w6 hown6 hbp hgr6; rw [Hm11.out] at hown6; have hRC6 : Rd w6 1 (some ⟨gC, 0, none⟩) m (vis (d :: Ea)) := Rd.grow ((Rd.of_own hownC).alloc _) hgr6 (off_of (Nat.ne_of_lt hlC)); obtain ⟨g6, c6, cur6, hv6, hc61, hc62, _, _⟩ := own_addr hown6 hm0; subst hv6)
                      | ((refine step_app_rd rfl (.tmp 119) (.tmp 124) rfl w3.heap.size _ 1 [1] Ek rfl hownT hbt.size b2 (o2 + (r + 1)) (n - (r + 1)) (c2' - (r + 1)) rfl (HSK.out.below hbt) (by omega) ?_); intro v6 w6 hown6 hbp hgr6; rw [Hm11.out] at hown6; have hRC6 : Rd w6 1 (some ⟨gC, 0, none⟩) m (vis (d :: Ea)) := Rd.grow (Rd.of_own hownC) hgr6 (off_of (by simp at hgC0; omega)); obtain ⟨g6, c6, cur6, hv6, hc61, hc62, _, _⟩ := own_addr hown6 hm0; subst hv6)
                      | ((rw [← Hm.out]); (first | ((with_reducible refine (clone_any b1 (o1 + r) m (c1' - r) (d :: Ea) _ HSA.out.drew (by have := HMN.out; omega)).mono ?_)) | ((with_reducible refine (clone_any b1 (o1 + r) m (c1' - r) (d :: Ea) _ (HSA.out.alloc _).drew (by have := HMN.out; omega)).mono ?_))); rintro e wC ⟨vC, he, hownC, hbc⟩; subst he; obtain ⟨gC, cC, curC, hvC, hcC1, hcC2, hgC0, hgCb⟩ := own_addr hownC hm0; subst hvC; have hlC := blk_lt hgCb; have hbC := hbc; (first | have hbt : Below w3.heap.size w3 wC := (Below.refl _ w3).drew.trans hbc | have hbt : Below w3.heap.size w3 wC := (below_new w3 _).drew.trans (hbc.mono (by simp))); have hownS : (wC.alloc (.cells #[.int .i64 1] 3)).ownsRow w3.heap.size 3 1 (.slice (some ⟨wC.heap.size, 0, none⟩) 1 1) 1 (vis [1]) := World.ownsRow_lit wC #[.int .i64 1] 1 hbt.size (by decide) rfl; (first | have hownT : wC.ownsRow w3.heap.size 3 1 (.slice (some ⟨w3.heap.size, 0, none⟩) 1 1) 1 (vis [1]) := own_below (show (w3.alloc (.cells #[.int .i64 1] 3)).drew.ownsRow w3.heap.size 3 1 (.slice (some ⟨w3.heap.size, 0, none⟩) 1 1) 1 (vis [1]) from World.ownsRow_lit w3 #[.int .i64 1] 1 (Nat.le_refl _) (by decide) rfl) hbC (Nat.le_refl _) | skip))
                      | (go_split_ands; (with_reducible refine (IH.out gC 0 m cC (d :: Ea) g6 0 c6 (1 :: Ek) _ HMN.out.1 HMN.out.2.1 hRC6 (Rd.of_own hown6) hcC1 hcC2 hc61 hc62 HRg.out HBD.out HKE.out).mono ?_); rintro e w7 ⟨he, hbc⟩; subst he))
                  all_goals
                    rename_i hH
                    obtain ⟨_, _, hbf⟩ := hH
                    have hfin := stay_b hw3 hbf
                    clear hbf
                    go_wp2
                    go_ret
                    exact ⟨by rw [hFB.out]; rfl, hfin⟩
                · by_cases hSw : S = -1
                  · subst hSw
                    obtain ⟨hRg, hFb⟩ := HP1.out.even_yes (by rw [← HRa.out]; exact hpar0) (k := 2) (by rw [← HS.out]; exact .inr ⟨rfl, rfl⟩)
                    have hkd2 : ∀ z ∈ (2 : Int) :: Ek, z = 1 ∨ z = 2 := fun z hz => by
                      rcases List.mem_cons.1 hz with rfl | hz
                      · exact .inr rfl
                      · exact HKD.out z (by simp [hz])
                    have hFB := Lib.hid hFb
                    have HRg := Lib.hid hRg
                    have HKE := Lib.hid hkd2
                    clear hRg hFb hkd2
                    go_wp2_with fail
                    refine (size_any (-1) _ (by decide) (by decide)).mono ?_
                    rintro e w4 ⟨rfl, rfl⟩
                    simp only [show (if (-1 : Int) < -(-1) then -(-1) else (-1)) = 1 from by decide]
                    go_upto_region 24 with fail
                    have hS : w3.drew.cell? ⟨w.heap.size, 0, none⟩ = some (.slice (some ⟨b1, o1, none⟩) n c1') ∧ w3.drew.cell? ⟨w.heap.size, 1, none⟩ = some (.slice (some ⟨b2, o2, none⟩) n c2') ∧ Below w3.heap.size w3 w3.drew := ⟨v0, v1, (Below.refl _ _).drew⟩
                    have l1 : w.heap.size < w3.heap.size := World.block_lt_of_cell? w3 _ v1
                    have HFa := Lib.hid v0
                    have HFb := Lib.hid v1
                    clear v0 v1 vL
                    have hm0 : 0 < m := HMN.out.2.2.1
                    go_region_held3 (fun w' => w'.cell? ⟨w.heap.size, 0, none⟩ = some (.slice (some ⟨b1, o1, none⟩) n c1') ∧ w'.cell? ⟨w.heap.size, 1, none⟩ = some (.slice (some ⟨b2, o2, none⟩) n c2') ∧ Below w3.heap.size w3 w')
                      (first
                        | with_reducible exact hS
                        | (go_split_ands; with_reducible exact ⟨al_d ‹_› _, al_d ‹_› _, bd ‹_› (Nat.le_refl _) _⟩)
                        | (go_split_ands; with_reducible exact ⟨al_c ‹_› _, al_c ‹_› _, ba ‹_› _⟩)
                        | exact ⟨keep_c HFa.out (hbt.trans hbp) l1, keep_c HFb.out (hbt.trans hbp) l1, hbt.trans hbp⟩
                        | exact ⟨keep_c HFa.out ((hbt.trans ((below_new wC _).mono hbt.size)).trans hbp) l1, keep_c HFb.out ((hbt.trans ((below_new wC _).mono hbt.size)).trans hbp) l1, (hbt.trans ((below_new wC _).mono hbt.size)).trans hbp⟩
                        | (go_split_ands; exact ⟨stay_c ‹_› hbc (Nat.le_refl _), stay_c ‹_› hbc (Nat.le_refl _), stay_b ‹_› hbc⟩))
                      (first
                        | ((refine step_app_rd rfl (.tmp 119) (.tmp 124) rfl w3.heap.size _ 1 [2] Ek rfl hownS (by have := hbt.size; simp; omega) b2 (o2 + (r + 1)) (n - (r + 1)) (c2' - (r + 1)) rfl ((HSK.out.below hbt).alloc _) (by omega) ?_); intro v6 w6 hown6 hbp hgr6; rw [Hm11.out] at hown6; have hRC6 : Rd w6 1 (some ⟨gC, 0, none⟩) m (vis (d :: Ea)) := Rd.grow ((Rd.of_own hownC).alloc _) hgr6 (off_of (Nat.ne_of_lt hlC)); obtain ⟨g6, c6, cur6, hv6, hc61, hc62, _, _⟩ := own_addr hown6 hm0; subst hv6)
                        | ((refine step_app_rd rfl (.tmp 119) (.tmp 124) rfl w3.heap.size _ 1 [2] Ek rfl hownT hbt.size b2 (o2 + (r + 1)) (n - (r + 1)) (c2' - (r + 1)) rfl (HSK.out.below hbt) (by omega) ?_); intro v6 w6 hown6 hbp hgr6; rw [Hm11.out] at hown6; have hRC6 : Rd w6 1 (some ⟨gC, 0, none⟩) m (vis (d :: Ea)) := Rd.grow (Rd.of_own hownC) hgr6 (off_of (by simp at hgC0; omega)); obtain ⟨g6, c6, cur6, hv6, hc61, hc62, _, _⟩ := own_addr hown6 hm0; subst hv6)
                        | ((rw [← Hm.out]); (first | ((with_reducible refine (clone_any b1 (o1 + r) m (c1' - r) (d :: Ea) _ HSA.out.drew (by have := HMN.out; omega)).mono ?_)) | ((with_reducible refine (clone_any b1 (o1 + r) m (c1' - r) (d :: Ea) _ (HSA.out.alloc _).drew (by have := HMN.out; omega)).mono ?_))); rintro e wC ⟨vC, he, hownC, hbc⟩; subst he; obtain ⟨gC, cC, curC, hvC, hcC1, hcC2, hgC0, hgCb⟩ := own_addr hownC hm0; subst hvC; have hlC := blk_lt hgCb; have hbC := hbc; (first | have hbt : Below w3.heap.size w3 wC := (Below.refl _ w3).drew.trans hbc | have hbt : Below w3.heap.size w3 wC := (below_new w3 _).drew.trans (hbc.mono (by simp))); have hownS : (wC.alloc (.cells #[.int .i64 2] 3)).ownsRow w3.heap.size 3 1 (.slice (some ⟨wC.heap.size, 0, none⟩) 1 1) 1 (vis [2]) := World.ownsRow_lit wC #[.int .i64 2] 1 hbt.size (by decide) rfl; (first | have hownT : wC.ownsRow w3.heap.size 3 1 (.slice (some ⟨w3.heap.size, 0, none⟩) 1 1) 1 (vis [2]) := own_below (show (w3.alloc (.cells #[.int .i64 2] 3)).drew.ownsRow w3.heap.size 3 1 (.slice (some ⟨w3.heap.size, 0, none⟩) 1 1) 1 (vis [2]) from World.ownsRow_lit w3 #[.int .i64 2] 1 (Nat.le_refl _) (by decide) rfl) hbC (Nat.le_refl _) | skip))
                        | (go_split_ands; (with_reducible refine (IH.out gC 0 m cC (d :: Ea) g6 0 c6 (2 :: Ek) _ HMN.out.1 HMN.out.2.1 hRC6 (Rd.of_own hown6) hcC1 hcC2 hc61 hc62 HRg.out HBD.out HKE.out).mono ?_); rintro e w7 ⟨he, hbc⟩; subst he))
                    all_goals
                      rename_i hH
                      obtain ⟨_, _, hbf⟩ := hH
                      have hfin := stay_b hw3 hbf
                      clear hbf
                      go_wp2
                      go_ret
                      exact ⟨by rw [hFB.out]; rfl, hfin⟩
                  · have hno := HP1.out.even_no (by rw [← HRa.out]; exact hpar0) (by rw [← HS.out]; exact hSv) (by rw [← HS.out]; exact hSw)
                    have HNo := Lib.hid hno
                    clear hno
                    have cSz := fun w => size_any S w (by omega) (by omega)
                    obtain ⟨Z, hZ⟩ : ∃ Z, Z = (if S < -S then -S else S) := ⟨_, rfl⟩
                    have hZ1 : (Z == 1) = false := by
                      rw [hZ]
                      have : (if S < -S then -S else S) ≠ 1 := by split <;> omega
                      simpa using this
                    simp only [← hZ] at cSz
                    have CSz := Lib.hid cSz
                    clear cSz hZ
                    go_wp2_with fail
                    refine (CSz.out _).mono ?_
                    rintro e w4 ⟨rfl, rfl⟩
                    go_wp2
                    go_ret
                    exact ⟨by rw [HNo.out]; rfl, hw3⟩
          · have hq0 : (z0 == L) = false := by simp [q0]
            go_wp2_with fail
            go_quiet (fail)
            go_wp2
            go_roundw
            case rel => exact ⟨i + 1, by omega, by go_num, fun j hj => by
              by_cases hji : j < i
              · exact HNO.out j hji
              · obtain rfl : j = i := by omega
                rintro ⟨h4, _⟩
                rw [HZ0.out] at h4
                exact q0 (Option.some.inj h4), below_drewN hbel _⟩
            case measure => simp [intOf]; omega
        · exfalso
          obtain ⟨j, h1, h2, h3⟩ := HST.out
          exact HNO.out j (by omega) ⟨h2, h3⟩
end Go.Proofs.Ytcfeejlhhimpjaa
