/- The reference's path is the program's path. -/
import Derived.Test.YthfhkmgegkhljaaDragT2
import Derived.Test.YthfhkmgegkhljaaDragV
import Derived.Deep.RegionHeld3
import Derived.Test.YthfhkmgegkhljaaDragM
namespace Go.Proofs.Ythfhkmgegkhljaa
open Go.RowKit

def dirV (d : Nat) : V2 := match d with | 0 => (1, 0) | 1 => (0, 1) | 2 => (-1, 0) | _ => (0, -1)
theorem turn_dir (d : Nat) (hd : d < 4) : turnV 2 (dirV d) = dirV ((d + 1) % 4) ∧ turnV 1 (dirV d) = dirV ((d + 3) % 4) := by
  match d, hd with
  | 0, _ => decide
  | 1, _ => decide
  | 2, _ => decide
  | 3, _ => decide
theorem dir_bd (d : Nat) : -1 ≤ (dirV d).1 ∧ (dirV d).1 ≤ 1 ∧ -1 ≤ (dirV d).2 ∧ (dirV d).2 ≤ 1 := by
  unfold dirV; split <;> decide
theorem pts_last (l : List Int) : ∀ p d : V2, (p :: pts p d l)[l.length]? = some (endP p d l).1 := by
  induction l with
  | nil => intro p d; rfl
  | cons k l ih => intro p d; simp only [List.length_cons, List.getElem?_cons_succ, pts, endP]; exact ih _ _
theorem dir_cells (g : Nat) (w : World) (d : Nat) (hd : d < 4) (h : w.heap[g]? = some (.cells #[.int .i64 1, .int .i64 0, .int .i64 (-1), .int .i64 0] 3 (0, 0))) : w.cell? ⟨g, d, none⟩ = some (.int .i64 (dirV d).1) := by
  rw [cell_of_blk h]
  match d, hd with
  | 0, _ => rfl
  | 1, _ => rfl
  | 2, _ => rfl
  | 3, _ => rfl
theorem dir_cells' (g : Nat) (w : World) (d : Nat) (hd : d < 4) (h : w.heap[g]? = some (.cells #[.int .i64 0, .int .i64 1, .int .i64 0, .int .i64 (-1)] 3 (0, 0))) : w.cell? ⟨g, d, none⟩ = some (.int .i64 (dirV d).2) := by
  rw [cell_of_blk h]
  match d, hd with
  | 0, _ => rfl
  | 1, _ => rfl
  | 2, _ => rfl
  | 3, _ => rfl

theorem GrowOf.cell {w w' : World} {v v' u : Value} {b i : Nat} (h : GrowOf w w' v v') (hc : w.cell? ⟨b, i, none⟩ = some u) (hne : v.ownBlock ≠ some b) : w'.cell? ⟨b, i, none⟩ = some u :=
  h.grown.cell hc (fun e => hne e.symm)
theorem blk_new2 (w : World) (o o' : Obj) : ((w.alloc o).alloc o').drew.heap[w.heap.size + 1]? = some o' := by
  have := heap_alloc_new (w.alloc o) o'
  rw [World.size_alloc] at this
  exact this
theorem GrowOf.ne {w w' : World} {v v' : Value} {g : Nat} (h : GrowOf w w' v v') (hv : v.ownBlock ≠ some g) (hg : g < w.heap.size) : v'.ownBlock ≠ some g := by
  intro e
  rcases h.at_ with h1 | ⟨k, h1, hge⟩
  · exact hv (h1.symm.trans e)
  · have h2 : some k = some g := h1.symm.trans e
    injection h2 with h2
    omega
theorem vps_append (l m : List (Int × Int)) : vps (l ++ m) = vps l ++ vps m := by simp [vps]
theorem blk_drew {w : World} {g : Nat} {o : Obj} (h : w.heap[g]? = some o) : w.drew.heap[g]? = some o := h
theorem foldsMay_any (A : Option Addr) (n c : Nat) (zs : List Int) (w : World) (h : Rd w 1 A n (vis zs)) (hn : n ≤ 9223372036854775807) :
    Calls Try.prog 14 #[.slice A n c] w fun e w' => e = .returned (.int .i64 (checkE zs)) ∧ w = w' := by
  have HL := Lib.hid h.ints_len
  by_cases h10 : 10 < n
  · go_enter Try.func14, Try.ntmps14
    go_wp2
    go_ret
    exact ⟨ret_int (by unfold checkE; rw [if_pos (by rw [HL.out]; exact h10)]), rfl⟩
  · go_enter Try.func14, Try.ntmps14
    go_wp2
    go_loop [3] (fun i => ∃ k : Nat, k ≤ n ∧ i = .int .i64 k ∧ NoneBefore strangeB zs k) (fun i => n - (intOf i).toNat)
    case atStart => exact ⟨0, Nat.zero_le _, rfl, by intro z hz; simp at hz⟩
    case round =>
      obtain ⟨k, hk, rfl, hnb⟩ := hrel
      by_cases hlt : k < n
      · obtain ⟨b, off, z, rfl, hb, hz, hc⟩ := h.int hlt
        have HZ := Lib.hid hz
        clear hz
        by_cases z1 : z = 1
        · subst z1
          go_wp2
          go_round
          case rel => exact ⟨k + 1, by omega, by go_num, noneBefore_succ hnb HZ.out (by decide)⟩
          case measure => simp [intOf]; omega
        · by_cases z2 : z = 2
          · subst z2
            go_wp2
            go_round
            case rel => exact ⟨k + 1, by omega, by go_num, noneBefore_succ hnb HZ.out (by decide)⟩
            case measure => simp [intOf]; omega
          · have e1 : (z != 1) = true := by simpa using z1
            have e2 : (z != 2) = true := by simpa using z2
            have hs : Hid (strangeB z = true) := Lib.hid (by simp [strangeB, e1, e2])
            clear z1 z2
            go_wp2
            go_ret
            exact ⟨ret_int (by unfold checkE; rw [if_neg (by rw [HL.out]; exact h10), noneBefore_idx HZ.out hs.out]; rfl), rfl⟩
      · go_wp2
        go_ret
        have : k = zs.length := by have := HL.out; omega
        subst this
        exact ⟨ret_int (by unfold checkE; rw [if_neg (by rw [HL.out]; exact h10), noneBefore_all hnb]; rfl), rfl⟩

theorem Word_no (A : Option Addr) (n c : Nat) (zs : List Int) (w : World) (h : Rd w 1 A n (vis zs)) (hn : n ≤ 9223372036854775807) (hc : checkE zs ≠ 0) :
    Calls Try.prog 12 #[.slice A n c] w fun e w' => e = .returned (.tuple #[.slice none 0 0, .int .i64 (checkE zs)]) ∧ w = w' := by
  have hb : (checkE zs != 0) = true := by simpa using hc
  go_enter Try.func12, Try.ntmps12
  go_wp2_with (go_at_call 33; refine (dcheck_any A n c zs w h hn).mono ?_; rintro e w1 ⟨rfl, rfl⟩)
  go_ret2
  exact ⟨rfl, rfl⟩
theorem Word_yes (r : List Int) (A : Option Addr) (n c : Nat) (w : World) (h : Rd w 1 A n (vis r.reverse)) (hn : n ≤ 10) (hnc : n ≤ c) (hk : Kinded r) (hchk : checkE r.reverse = 0) :
    Calls Try.prog 12 #[.slice A n c] w fun e w' => ∃ v, e = .returned (.tuple #[v, .int .i64 0]) ∧ w'.ownsRow w.heap.size 3 1 v (dw r).length (vis (dw r)) ∧ Below w.heap.size w w' := by
  have HC := Lib.hid hchk
  clear hchk
  go_enter Try.func12, Try.ntmps12
  go_wp2_with fail
  refine (dcheck_any A n c _ w h (by omega)).mono ?_
  rintro e w1 ⟨rfl, rfl⟩
  rw [HC.out]
  go_wp2_with fail
  refine (word_any r A n c w h hn hnc hk).mono ?_
  rintro e w1 ⟨v, rfl, hown, hbel⟩
  go_wp2
  go_ret2
  exact ⟨_, rfl, hown, hbel⟩

set_option maxRecDepth 100000 in
set_option maxHeartbeats 1600000 in
theorem pathOf_any (r : List Int) (A : Option Addr) (n c : Nat) (w : World) (h : Rd w 1 A n (vis r.reverse)) (hn : n ≤ 10) (hk : Kinded r) :
    Calls Try.prog 15 #[.slice A n c] w fun e w' => ∃ v, e = .returned v ∧
      w'.ownsRow w.heap.size 29 2 v ((dw r).length + 2) (vps (pathS r)) ∧ Below w.heap.size w w' := by
  go_enter Try.func15, Try.ntmps15
  go_wp2_with fail
  refine (wordOf_any r A n c w h hn hk).mono ?_
  rintro e w1 ⟨v1, rfl, hown1, hbel1⟩
  obtain ⟨A1, c1, rfl, hc1, hc1'⟩ := own_slice hown1
  have hrd1 := Rd.of_own hown1
  have hds := dw_small r (by have := h.ints_len; simp at this; omega)
  have hkdw := Lib.hid (kinded_dw hk)
  obtain ⟨q, hq⟩ : ∃ q, q = (dw r).length := ⟨_, rfl⟩
  rw [← hq] at hown1 hrd1 hds hc1 ⊢
  have HQ := Lib.hid hq
  clear hq
  have hs1 := hbel1.size
  have b0 := blk_alloc (blk_alloc (heap_alloc_new w1 (.cells #[.int .i64 1, .int .i64 0, .int .i64 (-1), .int .i64 0] 3)) (.cells #[.int .i64 0, .int .i64 1, .int .i64 0, .int .i64 (-1)] 3)) (.cells #[.int .i64 0, .int .i64 0, .int .i64 1, .int .i64 0] 29)
  have b1 := blk_alloc (heap_alloc_new (w1.alloc (.cells #[.int .i64 1, .int .i64 0, .int .i64 (-1), .int .i64 0] 3)) (.cells #[.int .i64 0, .int .i64 1, .int .i64 0, .int .i64 (-1)] 3)) (.cells #[.int .i64 0, .int .i64 0, .int .i64 1, .int .i64 0] 29)
  have hown0 := own_mono (World.ownsRow_lit (base := w1.heap.size + 1 + 1) (e := 29) (size := 2) ((w1.alloc (.cells #[.int .i64 1, .int .i64 0, .int .i64 (-1), .int .i64 0] 3)).alloc (.cells #[.int .i64 0, .int .i64 1, .int .i64 0, .int .i64 (-1)] 3)) #[.int .i64 0, .int .i64 0, .int .i64 1, .int .i64 0] 2 (by simp) (by simp [maxLen]) rfl) (base' := w.heap.size) (by omega)
  simp only [World.size_alloc] at b1 hown0
  have hbel0 := (((hbel1.alloc hs1 (.cells #[.int .i64 1, .int .i64 0, .int .i64 (-1), .int .i64 0] 3)).alloc (by simp; omega) (.cells #[.int .i64 0, .int .i64 1, .int .i64 0, .int .i64 (-1)] 3)).alloc (by simp; omega) (.cells #[.int .i64 0, .int .i64 0, .int .i64 1, .int .i64 0] 29))
  have hrd0 := ((hrd1.alloc (.cells #[.int .i64 1, .int .i64 0, .int .i64 (-1), .int .i64 0] 3)).alloc (.cells #[.int .i64 0, .int .i64 1, .int .i64 0, .int .i64 (-1)] 3)).alloc (.cells #[.int .i64 0, .int .i64 0, .int .i64 1, .int .i64 0] 29)
  have hlt1 : ∀ a, A1 = some a → a.block < w1.heap.size := fun a ha => (own_lt hown1 a ha).2
  have B0 := Lib.hid b0
  have B1 := Lib.hid b1
  have HLT := Lib.hid hlt1
  clear b0 b1 hlt1
  go_wp2
  go_loopw [6, 7, 8] (fun wy v i wr => ∃ j d : Nat, j ≤ q ∧ d < 4 ∧ i = .int .i64 j ∧ wy = .int .i64 d ∧ Hid (dirV d = (endP (1, 0) (1, 0) ((dw r).take j)).2) ∧
      wr.ownsRow w.heap.size 29 2 v (j + 2) (vps ((0, 0) :: (1, 0) :: pts (1, 0) (1, 0) ((dw r).take j))) ∧ Below w.heap.size w wr ∧ Rd wr 1 A1 q (vis (dw r)) ∧
      Hid (wr.heap[w1.heap.size]? = some (.cells #[.int .i64 1, .int .i64 0, .int .i64 (-1), .int .i64 0] 3 (0, 0))) ∧
      Hid (wr.heap[w1.heap.size + 1]? = some (.cells #[.int .i64 0, .int .i64 1, .int .i64 0, .int .i64 (-1)] 3 (0, 0))) ∧
      v.ownBlock ≠ some w1.heap.size ∧ v.ownBlock ≠ some (w1.heap.size + 1) ∧ Off v A1) (fun _ _ i _ => q - (intOf i).toNat)
  case atStart =>
    refine ⟨0, 0, Nat.zero_le _, by omega, rfl, rfl, Lib.hid rfl, hown0, hbel0, hrd0, B0, B1, ?_, ?_, ?_⟩
    · intro e; simp [Value.ownBlock] at e; omega
    · simp [Value.ownBlock]
    · intro a ha e; have := HLT.out a ha; simp [Value.ownBlock] at e; omega
  case round =>
    obtain ⟨j, d, hj, hd, rfl, rfl, hdir, hown, hbel, hrd, c0, c1, hr0, hr1, hoff⟩ := hrel
    by_cases hlt : j < q
    · obtain ⟨b, off, k, hA1, hb, hk1, hck⟩ := hrd.int hlt
      have hkk := hkdw.out k (List.mem_of_getElem? hk1)
      have hbd := endP_bd ((dw r).take j) (1, 0) (1, 0) 1 (by decide) (by decide)
      have hlj : ((dw r).take j).length = j := by rw [List.length_take]; have := HQ.out; omega
      have ht : (dw r).take (j + 1) = (dw r).take j ++ [k] := by rw [List.take_add_one, hk1]; rfl
      have hlast := pts_last ((dw r).take j) (1, 0) (1, 0)
      rw [hlj] at hbd hlast
      obtain ⟨A2, c2, rfl, hc2, hc2'⟩ := own_slice hown
      obtain ⟨b2, off2, hA2, hb2, hcs⟩ := (Rd.of_own hown).at_ (by omega)
      subst hA2
      have hl1 : ((0, 0) :: (1, 0) :: pts (1, 0) (1, 0) ((dw r).take j))[j + 1]? = some (endP (1, 0) (1, 0) ((dw r).take j)).1 := by rw [List.getElem?_cons_succ]; exact hlast
      generalize hS : endP (1, 0) (1, 0) ((dw r).take j) = S at *
      obtain ⟨⟨x, y⟩, D⟩ := S
      have q0 : wr.cell? ⟨b2, off2 + (j + 1) * 2, none⟩ = some (.int .i64 x) := hcs _ _ (by rw [vps_at, hl1]; rfl)
      have q1 : wr.cell? ⟨b2, off2 + (j + 1) * 2 + 1, none⟩ = some (.int .i64 y) := by
        rw [Nat.add_assoc]; exact hcs _ _ (by rw [vps_at1, hl1]; rfl)
      have HT := Lib.hid ht
      have HS := Lib.hid hS
      have HA := Lib.hid hA1
      obtain ⟨-, e5, e6, e7, e8⟩ := hbd
      simp only at e5 e6 e7 e8
      clear hk1 hlj ht hlast hl1 hS hcs
      have hj1 : (j : Int) + 1 < (j : Int) + 2 := by omega
      rcases hkk with rfl | rfl
      · obtain ⟨d2, hd2⟩ : ∃ d2, d2 = (d + 3) % 4 := ⟨_, rfl⟩
        have hd4 : d2 < 4 := by omega
        have i0 : ((d : Int) + 3) % 4 = (d2 : Int) := by omega
        have t0 := dir_cells w1.heap.size wr d2 hd4 c0.out
        have t1 := dir_cells' (w1.heap.size + 1) wr d2 hd4 c1.out
        have HD2 := Lib.hid hd2
        clear hd2
        subst hA1
        go_wp2_with fail
        have l0 : w1.heap.size < wr.heap.size := World.block_lt_of_cell? wr _ t0
        have l1 : w1.heap.size + 1 < wr.heap.size := World.block_lt_of_cell? wr _ t1
        have hnx : Hid (∀ u ∈ vps [(x + (dirV d2).1, y + (dirV d2).2)], u.oneCell' = true) := Lib.hid (by intro u hu; simp at hu; rcases hu with rfl | rfl <;> rfl)
        have hdb := dir_bd d2
        have hd40 : (0 : Int) ≤ (d2 : Int) := by omega
        have hd41 : (d2 : Int) < 4 := by omega
        have hwr1 : IntKind.i64.wrap (x + (dirV d2).1) = x + (dirV d2).1 := IntWalk.i64_in _ (by omega)
        have hwr2 : IntKind.i64.wrap (y + (dirV d2).2) = y + (dirV d2).2 := IntWalk.i64_in _ (by omega)
        go_region_held3 (fun w' => w'.cell? ⟨wr.heap.size, 0, none⟩ = some (.int .i64 x) ∧ w'.cell? ⟨wr.heap.size, 1, none⟩ = some (.int .i64 y) ∧ w'.cell? ⟨w1.heap.size, d2, none⟩ = some (.int .i64 (dirV d2).1) ∧ w'.cell? ⟨w1.heap.size + 1, d2, none⟩ = some (.int .i64 (dirV d2).2))
          (first
            | go_keep
            | (go_split_ands
               refine ⟨hgr.cell ‹_› ?_, hgr.cell ‹_› ?_, hgr.cell ‹_› hr0, hgr.cell ‹_› hr1⟩
               · (simp [Value.ownBlock]; omega)
               · (simp [Value.ownBlock]; omega)))
          ((refine step_app Try.underlying24 point_info rfl (by decide) (by decide) (by rfl) (.tmp 40) (.tmp 56) (by rfl) w.heap.size (.slice (some ⟨b2, off2, none⟩) (j + 2) c2) (j + 2) (vps ((0, 0) :: (1, 0) :: pts (1, 0) (1, 0) ((dw r).take j))) (vps [(x + (dirV d2).1, y + (dirV d2).2)]) (by rfl) (by exact ((hown.alloc _).alloc _)) (by simp; omega) 1 (wr.heap.size + 1) (by rfl) (by exact blk_new2 _ _ _) (by rfl) hnx.out (by omega) ?_; intro v' w' hown' hb' hgr))
        go_wp2
        go_roundw
        case rel =>
          have hD : dirV d = D := hdir.out
          have hpt : (x + (dirV d2).1, y + (dirV d2).2) = addV (x, y) (turnV 1 D) := by
            rw [← hD, (turn_dir d hd).2, ← HD2.out]; rfl
          refine ⟨j + 1, d2, by omega, hd4, by go_num, rfl, Lib.hid ?_, ?_, ?_, ?_, Lib.hid ?_, Lib.hid ?_, hgr.ne hr0 (by simp; omega), hgr.ne hr1 (by simp; omega), ?_⟩
          · rw [HT.out, endP_snoc, HS.out, ← hD, (turn_dir d hd).2, ← HD2.out]
          · rw [HT.out, pts_snoc, HS.out, ← hpt]
            have := hown'
            rw [← vps_append] at this
            exact this
          · exact ((((hbel.alloc hbel.size _).alloc (by have := hbel.size; simp; omega) _)).drew).trans hb'
          · exact (((hrd.alloc _).alloc _).drew).grow hgr hoff
          · exact blk_grow (blk_drew (blk_alloc (blk_alloc c0.out _) _)) hgr hr0
          · exact blk_grow (blk_drew (blk_alloc (blk_alloc c1.out _) _)) hgr hr1
          · exact hoff.grow (fun a ha => by have := hrd.lt (by omega) a ha; simp; omega) hgr
        case measure => simp [intOf]; omega
      · obtain ⟨d2, hd2⟩ : ∃ d2, d2 = (d + 1) % 4 := ⟨_, rfl⟩
        have hd4 : d2 < 4 := by omega
        have i0 : ((d : Int) + 1) % 4 = (d2 : Int) := by omega
        have t0 := dir_cells w1.heap.size wr d2 hd4 c0.out
        have t1 := dir_cells' (w1.heap.size + 1) wr d2 hd4 c1.out
        have HD2 := Lib.hid hd2
        clear hd2
        subst hA1
        go_wp2_with fail
        have l0 : w1.heap.size < wr.heap.size := World.block_lt_of_cell? wr _ t0
        have l1 : w1.heap.size + 1 < wr.heap.size := World.block_lt_of_cell? wr _ t1
        have hnx : Hid (∀ u ∈ vps [(x + (dirV d2).1, y + (dirV d2).2)], u.oneCell' = true) := Lib.hid (by intro u hu; simp at hu; rcases hu with rfl | rfl <;> rfl)
        have hdb := dir_bd d2
        have hd40 : (0 : Int) ≤ (d2 : Int) := by omega
        have hd41 : (d2 : Int) < 4 := by omega
        have hwr1 : IntKind.i64.wrap (x + (dirV d2).1) = x + (dirV d2).1 := IntWalk.i64_in _ (by omega)
        have hwr2 : IntKind.i64.wrap (y + (dirV d2).2) = y + (dirV d2).2 := IntWalk.i64_in _ (by omega)
        go_region_held3 (fun w' => w'.cell? ⟨wr.heap.size, 0, none⟩ = some (.int .i64 x) ∧ w'.cell? ⟨wr.heap.size, 1, none⟩ = some (.int .i64 y) ∧ w'.cell? ⟨w1.heap.size, d2, none⟩ = some (.int .i64 (dirV d2).1) ∧ w'.cell? ⟨w1.heap.size + 1, d2, none⟩ = some (.int .i64 (dirV d2).2))
          (first
            | go_keep
            | (go_split_ands
               refine ⟨hgr.cell ‹_› ?_, hgr.cell ‹_› ?_, hgr.cell ‹_› hr0, hgr.cell ‹_› hr1⟩
               · (simp [Value.ownBlock]; omega)
               · (simp [Value.ownBlock]; omega)))
          ((refine step_app Try.underlying24 point_info rfl (by decide) (by decide) (by rfl) (.tmp 40) (.tmp 56) (by rfl) w.heap.size (.slice (some ⟨b2, off2, none⟩) (j + 2) c2) (j + 2) (vps ((0, 0) :: (1, 0) :: pts (1, 0) (1, 0) ((dw r).take j))) (vps [(x + (dirV d2).1, y + (dirV d2).2)]) (by rfl) (by exact ((hown.alloc _).alloc _)) (by simp; omega) 1 (wr.heap.size + 1) (by rfl) (by exact blk_new2 _ _ _) (by rfl) hnx.out (by omega) ?_; intro v' w' hown' hb' hgr))
        go_wp2
        go_roundw
        case rel =>
          have hD : dirV d = D := hdir.out
          have hpt : (x + (dirV d2).1, y + (dirV d2).2) = addV (x, y) (turnV 2 D) := by
            rw [← hD, (turn_dir d hd).1, ← HD2.out]; rfl
          refine ⟨j + 1, d2, by omega, hd4, by go_num, rfl, Lib.hid ?_, ?_, ?_, ?_, Lib.hid ?_, Lib.hid ?_, hgr.ne hr0 (by simp; omega), hgr.ne hr1 (by simp; omega), ?_⟩
          · rw [HT.out, endP_snoc, HS.out, ← hD, (turn_dir d hd).1, ← HD2.out]
          · rw [HT.out, pts_snoc, HS.out, ← hpt]
            have := hown'
            rw [← vps_append] at this
            exact this
          · exact ((((hbel.alloc hbel.size _).alloc (by have := hbel.size; simp; omega) _)).drew).trans hb'
          · exact (((hrd.alloc _).alloc _).drew).grow hgr hoff
          · exact blk_grow (blk_drew (blk_alloc (blk_alloc c0.out _) _)) hgr hr0
          · exact blk_grow (blk_drew (blk_alloc (blk_alloc c1.out _) _)) hgr hr1
          · exact hoff.grow (fun a ha => by have := hrd.lt (by omega) a ha; simp; omega) hgr
        case measure => simp [intOf]; omega
    · go_wp2
      go_ret
      have : j = q := by omega
      subst this
      have ht : (dw r).take j = dw r := List.take_of_length_le (by have := HQ.out; omega)
      rw [ht] at hown
      exact ⟨_, rfl, by rw [← HQ.out]; exact hown, hbel⟩
end Go.Proofs.Ythfhkmgegkhljaa
