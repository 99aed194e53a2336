/- By: orders that have some kinds. -/
import Derived.Test.YtjikhdnlcoohbaaBy3
namespace Go.Proofs.Ytjikhdnlcoohbaa
set_option linter.unusedSimpArgs false
set_option linter.unusedVariables false
open Go.RowKit Go.Sort Go.Shelf St Go.Lib
attribute [local go_sem] Oper.semAt_some

def isK (z : Int) : Bool := decide (z = 1 ∨ z = 2)
theorem isK_split {z : Int} (h : isK z = true) : z = 1 ∨ z = 2 := of_decide_eq_true h
theorem isK_no {z : Int} (h : isK z = false) : (z != 1) = true ∧ (z != 2) = true := by
  have := of_decide_eq_false h
  simp; omega
theorem orders_perm {N : Nat} {L : List Int} (h : L ∈ ordersOf N N []) : L.Perm (upto N) ∧ ordG L = true := by
  have := (mem_orders N [] L (by simp) (by simp) (by simp)).1 h
  exact this.2
theorem orders_grow {n : Nat} (hn : 0 < n) : (ordersOf n n []).Perm (growL (n - 1) [1]) := by
  have hp1 : ([1] : List Int).Perm (upto ([1] : List Int).length) := by
    have : upto ([1] : List Int).length = [1] := by decide
    rw [this]
  have hg1 : goodO [1] = true := by decide
  refine (List.perm_ext_iff_of_nodup ((orders_sorted (n := n) n []).imp fun {a b} h (e : a = b) => lexLt_irrefl b (by rw [e] at h; exact h)) (St.grow_nodup _ _ hp1)).2 ?_
  intro x
  rw [St.mem_grow _ _ _ hp1 hg1, mem_orders n [] x (by simp) (by simp) (by simp)]
  simp only [List.length_cons, List.length_nil, Nat.zero_add, List.nil_append]
  rw [show 1 + (n - 1) = n by omega]
  constructor
  · rintro ⟨_, h1, h2⟩
    refine ⟨h1, by rw [goodO_eq (perm_self h1).2]; exact h2, ?_⟩
    have h3 := res_perm (k := 1) h1 hn
    have h4 : upto 1 = [1] := by decide
    rw [h4] at h3
    exact List.perm_singleton.1 h3
  · rintro ⟨h1, h2, _⟩
    exact ⟨⟨x, rfl⟩, h1, by rw [← goodO_eq (perm_self h1).2]; exact h2⟩
def byL (ks : List Int) : List (List Int) := (ordersOf (ks.length + 1) (ks.length + 1) []).filter fun L => decide (kOf L = ks)
set_option maxRecDepth 100000 in
set_option maxHeartbeats 1600000 in
theorem by_size (A : Option Addr) (n c : Nat) (ks : List Int) (w : World) (h8 : 8 ≤ n) (hn : n ≤ 9223372036854775807) :
    Calls Try.prog 18 #[.slice A n c] w fun e w' => e = .returned (.tuple #[.slice none 0 0, .int .i64 2]) ∧ Below w.heap.size w w' := by
  have h1 : (8 : Int) ≤ n := by omega
  have hx := new_blk (W := w) (.cells #[.slice A n c] 22) rfl
  have hc := cell_of_blk hx 0
  simp only [List.getElem?_toArray, List.getElem?_cons_zero] at hc
  clear hx
  go_enter Try.func18, Try.ntmps18
  go_wp2
  go_ret2
  exact ⟨rfl, below_new _ _⟩
set_option maxRecDepth 100000 in
set_option maxHeartbeats 1600000 in
theorem by_kind (A : Option Addr) (n c : Nat) (ks : List Int) (w : World) (h : Rd w 1 A n (vis ks)) (h8 : n < 8) (hbad : ks.all isK = false) :
    Calls Try.prog 18 #[.slice A n c] w fun e w' => e = .returned (.tuple #[.slice none 0 0, .int .i64 4]) ∧ Below w.heap.size w w' := by
  have h1 : ¬ (8 : Int) ≤ n := by omega
  have hl := h.ints_len
  have hx := new_blk (W := w) (.cells #[.slice A n c] 22) rfl
  have hc := cell_of_blk hx 0
  simp only [List.getElem?_toArray, List.getElem?_cons_zero] at hc
  have HR := Lib.hid (h.alloc (.cells #[.slice A n c] 22))
  have HB := Lib.hid hbad
  have HL := Lib.hid hl
  clear hx h hbad hl
  go_enter Try.func18, Try.ntmps18
  go_wp2
  go_loopw [13] (fun i wr => ∃ k : Nat, k ≤ n ∧ i = .int .i64 k ∧ Hid ((ks.take k).all isK = true) ∧ wr = w.alloc (.cells #[.slice A n c] 22)) (fun i _ => n - (intOf i).toNat)
  case atStart => exact ⟨0, by omega, rfl, Lib.hid rfl, rfl⟩
  case round =>
    obtain ⟨k, hk, rfl, hall, rfl⟩ := hrel
    by_cases hkn : k < n
    · obtain ⟨b, off, z, hA, hb, hz, hcz⟩ := HR.out.int hkn
      subst hA
      have HZ := Lib.hid hz
      clear hz
      cases hzk : isK z with
      | true =>
        have hnx : (ks.take (k + 1)).all isK = true := by rw [take_succ HZ.out, List.all_append, hall.out]; simp [hzk]
        have HX := Lib.hid hnx
        clear hnx
        rcases isK_split hzk with rfl | rfl
        all_goals
          go_wp2
          go_roundw
          case rel => exact ⟨k + 1, by omega, by go_num, HX, trivial⟩
          case measure => simp [intOf]; omega
      | false =>
        obtain ⟨z1, z2⟩ := isK_no hzk
        go_wp2
        go_ret2
        exact ⟨rfl, below_new _ _⟩
    · obtain rfl : k = n := by omega
      have h2 := hall.out
      rw [List.take_of_length_le (by rw [HL.out]; exact Nat.le_refl _), HB.out] at h2
      cases h2
theorem cells_own {w : World} {base n : Nat} {v : Value} {vals : List Value} (h : w.ownsRow base 22 1 v n vals) (hn : 0 < n) : ∃ g cap, v = .slice (some ⟨g, 0, none⟩) n cap ∧ base ≤ g ∧ n ≤ cap ∧ cap ≤ maxLen ∧ ∃ cur : Array Value, w.heap[g]? = some (.cells cur 22 (0, 0)) ∧ cur.size = cap ∧ cur.toList.take n = vals := by
  rcases h.2 with ⟨_, h0⟩ | ⟨g, cap, cur, rfl, h1, h2, h3, h4, h5, h6⟩
  · omega
  · exact ⟨g, cap, rfl, h1, h3, h4, cur, h2, by simpa using h5, by simpa using h6⟩
set_option maxRecDepth 100000 in
set_option maxHeartbeats 3200000 in
theorem by_ok (A : Option Addr) (n c : Nat) (ks : List Int) (w : World) (h : Rd w 1 A n (vis ks)) (h8 : n < 8) (hgood : ks.all isK = true) :
    Calls Try.prog 18 #[.slice A n c] w fun e w' => ∃ v vals, e = .returned (.tuple #[v, .int .i64 0]) ∧ w'.ownsRow w.heap.size 22 1 v (byL ks).length vals ∧ RowsG w' w.heap.size (n + 1) vals (byL ks) ∧ Below w.heap.size w w' := by
  have h1 : ¬ (8 : Int) ≤ n := by omega
  have hl := h.ints_len
  have hx := new_blk (W := w) (.cells #[.slice A n c] 22) rfl
  have hc := cell_of_blk hx 0
  simp only [List.getElem?_toArray, List.getElem?_cons_zero] at hc
  have cA := fun w1 : World => all_ok (n + 1) (by omega) (by omega) w1
  have hcnt := orders_len (n + 1) (by omega) (by omega)
  have hpm := orders_grow (n := n + 1) (by omega)
  rw [← hpm.length_eq] at hcnt
  have hop := fun L (hL : L ∈ ordersOf (n + 1) (n + 1) []) => orders_perm hL
  have hby : byL ks = (ordersOf (n + 1) (n + 1) []).filter fun L => decide (kOf L = ks) := by unfold byL; rw [hl]
  rw [hby]
  obtain ⟨O, hO⟩ : ∃ O, O = ordersOf (n + 1) (n + 1) [] := ⟨_, rfl⟩
  rw [← hO] at cA hcnt hop ⊢
  have HOP := Lib.hid hop
  have HA := Lib.hid cA
  have HR := Lib.hid h
  have HR2 := Lib.hid (h.alloc (.cells #[.slice A n c] 22))
  have HG := Lib.hid hgood
  have HL := Lib.hid hl
  have hw1 : IntKind.i64.wrap ((n : Int) + 1) = ((n + 1 : Nat) : Int) := by rw [IntWalk.i64_in _ (by omega)]; rfl
  clear h hgood hl cA hx hop hby hO hpm
  go_enter Try.func18, Try.ntmps18
  go_wp2
  go_loopw [13] (fun i wr => ∃ k : Nat, k ≤ n ∧ i = .int .i64 k ∧ wr = w.alloc (.cells #[.slice A n c] 22)) (fun i _ => n - (intOf i).toNat)
  case atStart => exact ⟨0, by omega, rfl, rfl⟩
  case round =>
    obtain ⟨k, hk, rfl, rfl⟩ := hrel
    by_cases hkn : k < n
    · obtain ⟨b, off, z, hA, hb, hz, hcz⟩ := HR2.out.int hkn
      subst hA
      have hzk : isK z = true := List.all_eq_true.1 HG.out z (List.mem_of_getElem? hz)
      clear hz
      rcases isK_split hzk with rfl | rfl
      all_goals
        go_wp2
        go_roundw
        case rel => exact ⟨k + 1, by omega, by go_num, trivial⟩
        case measure => simp [intOf]; omega
    · obtain rfl : k = n := by omega
      go_wp2_with fail
      refine (HA.out _).mono ?_
      rintro e w2 ⟨v, vals, rfl, hown, hrow, hb2⟩
      obtain ⟨gb, cap, hv, hgb, hcap, hcm, cur, hblk, hcs, htk⟩ := cells_own hown hcnt.1
      subst hv
      obtain ⟨d, hd1, hd2, hd3⟩ := rows_list O vals hrow
      have hdl : d.length = O.length := by rw [← hd2]; simp
      obtain ⟨x0, d0, hx0⟩ : ∃ x0 d0, d = x0 :: d0 := by
        cases d with
        | nil => simp at hdl; omega
        | cons a b => exact ⟨a, b, rfl⟩
      haveI : Inhabited (Rw w2 (k + 1)) := ⟨x0⟩
      obtain ⟨W1, hW1⟩ : ∃ W1, W1 = w.alloc (.cells #[.slice A k c] 22) := ⟨_, rfl⟩
      rw [← hW1] at hown hrow hb2 hgb hc hd3
      have hbw1 : Below w.heap.size w W1 := by rw [hW1]; exact below_new _ _
      have hsz1 : w.heap.size < W1.heap.size := by rw [hW1]; simp
      have hbw2 := hbw1.trans (hb2.mono hbw1.size)
      have hc2 := keep_c hc hb2 hsz1
      have hP : PredR w2 W1.heap.size (k + 1) 33 #[.pointer (some ⟨w.heap.size, 0, none⟩)] (fun L => L.Perm (upto L.length)) (fun L => !decide (kOf L = ks)) := by
        intro W' x hx hkp hbe
        have hx2 := x.2.keep hkp
        exact by1_any w.heap.size k c (k + 1) x.1.1.1 x.1.1.2 A ks (lstR x) W' (keep_c hc2 hbe hsz1) (HR.out.below (hbw2.trans (hbe.mono hbw1.size))) (by omega) hx2 hx (by omega) (by omega)
      have hdG : ∀ m, m < d.toArray.size → (fun L : List Int => L.Perm (upto L.length)) (lstR (d.toArray[m]!)) := by
        intro m hm
        have hm2 : m < d.length := by simpa using hm
        rw [getElem!_pos d.toArray m hm]
        have hmem : lstR (d[m]) ∈ O := by rw [← hd2]; exact List.mem_map_of_mem (List.getElem_mem hm2)
        exact (perm_self (HOP.out _ hmem).1).2
      have hCR : CellsR w2 gb cap d.toArray.size d.toArray := by
        refine ⟨cur, hblk, hcs, fun m hm => ?_⟩
        have hm2 : m < d.length := by simpa using hm
        rw [getElem!_pos d.toArray m hm]
        have h3 : (cur.toList.take O.length)[m]? = (d.map encR)[m]? := by rw [htk, hd1]
        rw [List.getElem?_take_of_lt (by omega), Array.getElem?_toList] at h3
        rw [h3]
        simp [hm2]
      have hsz : d.toArray.size = O.length := by simpa using hdl
      have cD := deleteR_any w.heap.size gb cap (k + 1) W1.heap.size (fun L => L.Perm (upto L.length)) (fun L => !decide (kOf L = ks)) w2 d.toArray hP hdG hCR hgb hb2.size (by omega) (by omega) hcm
      rw [hsz] at cD
      obtain ⟨F, hF⟩ : ∃ F, F = d.toArray.toList.filter fun x => !(!decide (kOf (lstR x) = ks)) := ⟨_, rfl⟩
      rw [← hF] at cD
      have hFL : F.map lstR = O.filter fun L => decide (kOf L = ks) := by
        rw [hF, ← hd2, List.filter_map]
        congr 1
        apply List.filter_congr
        intro x _
        simp
      have hFB : ∀ x ∈ F, W1.heap.size ≤ x.1.1.1 := fun x hx => hd3 x (by rw [hF] at hx; exact (List.mem_filter.1 hx).1)
      have hFl : F.length ≤ O.length := by rw [hF, ← hdl]; exact List.length_filter_le _ _
      have CD := Lib.hid cD
      have HFL := Lib.hid hFL
      have HFB := Lib.hid hFB
      clear hP hdG hCR cD hF hFL hFB hx0 hd1 hd2 hd3 htk hrow hown hc2 hW1
      go_wp2_with (go_at_call 32; refine CD.out.mono ?_; rintro e w3 ⟨rfl, hk3, hb3, cur3, hg3, hs3, ht3⟩)
      go_ret2
      have hln : (O.filter fun L => decide (kOf L = ks)).length = F.length := by rw [← HFL.out]; simp
      refine ⟨_, F.map encR, rfl, ⟨by simp [hln], .inr ⟨gb, cap, cur3, by rw [hln]; rfl, Nat.le_trans hbw1.size hgb, hg3, by omega, hcm, by simpa using hs3, by rw [Nat.mul_one, hln]; exact ht3⟩⟩, ?_, hbw2.trans (hb3.mono hbw1.size)⟩
      rw [← HFL.out]
      exact list_rows F (fun x hx => Nat.le_trans hbw1.size (HFB.out x hx)) hk3.2
end Go.Proofs.Ytjikhdnlcoohbaa
