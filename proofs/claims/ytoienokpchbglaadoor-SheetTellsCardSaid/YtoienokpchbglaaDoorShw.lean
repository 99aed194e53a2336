/- sheet.Show. -/
import Derived.Test.YtoienokpchbglaaDoorTx
namespace Go.Proofs.YtoienokpchbglaaDoor
set_option linter.unusedSimpArgs false
set_option linter.unusedVariables false
open Go.RowKit Go.Maps

theorem itoa_any (a : Int) (h : 0 ≤ a ∧ a < 100) (w : World) : Calls Tryd.prog 31 #[.int .i64 a] w fun e w' => e = .returned (.string (bA (decN a))) ∧ w' = w := by
  obtain ⟨n, rfl⟩ := Int.eq_ofNat_of_zero_le h.1
  exact sbItoa n (by omega) w
theorem say_at (b : Nat) (l : List UInt8) (ws : List (List UInt8)) (w : World) (h : IsB b l w) (hw : ws.length ≤ 10) (hj : (joinL ws).length ≤ 1000) (hl : l.length ≤ 1000000) :
    Calls Tryd.prog 28 #[.slice (some ⟨w.heap.size, 0, none⟩) ws.length ws.length, .pointer (some ⟨b, 0, none⟩)] (w.alloc (.cells (ws.map fun x => Value.string (bA x)).toArray 9)) fun e w' => e = .returned (.tuple #[]) ∧ IsB b (l ++ (joinL ws ++ [10])) w' ∧ Below b w w' := by
  have hb := below_new w (.cells (ws.map fun x => Value.string (bA x)).toArray 9)
  have kb := heap_alloc_new w (.cells (ws.map fun x => Value.string (bA x)).toArray 9)
  refine (say_any b w.heap.size ws.length l ws _ (h.below hb (Nat.le_refl _)) ?_ (blk_lt kb) (Nat.le_refl _) hw hj hl).mono ?_
  · intro j x hx
    rw [cell_of_blk kb (0 + j), Nat.zero_add]
    rw [List.getElem?_map] at hx
    simp only [List.getElem?_toArray, List.getElem?_map]
    cases hws : ws[j]? with
    | none => rw [hws] at hx; cases hx
    | some y =>
      rw [hws] at hx
      cases hx
      rfl
  · rintro e w' ⟨rfl, h1, h2⟩
    exact ⟨rfl, h1, (hb.mono (Nat.le_of_lt h.lt)).trans h2⟩
theorem join1 (a : List UInt8) : joinL [a] = a := Lib.join_one a _
theorem join3 (a b c : List UInt8) : joinL [a, b, c] = a ++ ([32] ++ (b ++ ([32] ++ c))) := by simp [joinL, Lib.join, List.intercalate]
theorem join5 (a b c d e : List UInt8) : joinL [a, b, c, d, e] = a ++ ([32] ++ (b ++ ([32] ++ (c ++ ([32] ++ (d ++ ([32] ++ e))))))) := by simp [joinL, Lib.join, List.intercalate]
def Cq (ps : List (Nat × Nat)) (L : Array Bool) : Prop := ∀ p ∈ ps, L.getD p.1 false = true → L.getD p.2 false = true
theorem Cq.start (ps : List (Nat × Nat)) (n : Nat) : Cq ps (Array.replicate n false) := fun p _ h => by
  rw [getD_replicate_false] at h
  cases h
theorem Cq.set {ps : List (Nat × Nat)} {L : Array Bool} {i : Nat} (h : Cq ps L) (hi : ∀ p ∈ ps, p.1 = i → L.getD p.2 false = true) : Cq ps (L.setIfInBounds i true) := by
  intro p hp h1
  by_cases e : p.1 = i
  · exact getD_set_true (hi p hp e)
  · rw [set_other (fun x => e x.symm)] at h1
    exact getD_set_true (h p hp h1)
theorem Cq.no2 {ps : List (Nat × Nat)} {L : Array Bool} {i s : Nat} (h : Cq ps L) (hp : (s, i) ∈ ps) (hn : L.getD i false = false) : L.getD s false = false := by
  cases hs : L.getD s false
  · rfl
  · have := h (s, i) hp hs
    rw [hn] at this
    cases this
theorem Cq.no {ps : List (Nat × Nat)} {L : Array Bool} {i s : Nat} (h : Cq ps L) (hp : (s, i) ∈ ps) (hn : L.getD i true = false) : L.getD s false = false := by
  cases hs : L.getD s false
  · rfl
  · have := h (s, i) hp hs
    rw [getD_both hn] at this
    cases this
theorem dig_at {m : Int} (h0 : 0 ≤ m) (h1 : m ≤ 15) : (⟨#[48, 49, 50, 51, 52, 53, 54, 55, 56, 57, 97, 98, 99, 100, 101, 102]⟩ : ByteArray).extract m.toNat (m + 1).toNat = bA [hexU m] := by
  have h : m = 0 ∨ m = 1 ∨ m = 2 ∨ m = 3 ∨ m = 4 ∨ m = 5 ∨ m = 6 ∨ m = 7 ∨ m = 8 ∨ m = 9 ∨ m = 10 ∨ m = 11 ∨ m = 12 ∨ m = 13 ∨ m = 14 ∨ m = 15 := by omega
  rcases h with rfl | rfl | rfl | rfl | rfl | rfl | rfl | rfl | rfl | rfl | rfl | rfl | rfl | rfl | rfl | rfl <;> rfl
set_option maxRecDepth 100000 in
set_option maxHeartbeats 6400000 in
theorem show_any (W H : Int) (Am Ac : Option Addr) (nm cm nc cc : Nat) (mask : List Int) (cs : List C5) (w : World) (hs : Steps w) (hm : Rd w 1 Am nm (vis mask)) (hc : Rd w 5 Ac nc (ccs cs)) (hnm : nm ≤ 140737488351232) (hnc : nc ≤ 140737488351232) (hcm : nm ≤ cm ∧ cm ≤ maxLen) (hI : newB W H mask cs = true → SheetI mask cs ∧ ∃ Wn Hn : Nat, W = Wn ∧ H = Hn ∧ (1 ≤ Wn ∧ Wn ≤ 8) ∧ (1 ≤ Hn ∧ Hn ≤ 8) ∧ mask.length = Wn * Hn) :
    Calls Tryd.prog 11 #[.agg #[.int .i64 W, .int .i64 H, .slice Am nm cm, .slice Ac nc cc]] w fun e w' => Below w.heap.size w w' ∧
      ((newB W H mask cs = false ∧ e = .returned (.tuple #[.string ⟨#[]⟩, .int .i64 10])) ∨ (newB W H mask cs = true ∧ e = .returned (.tuple #[.string (bA (sheetT W.toNat H.toNat mask cs)), .int .i64 0]))) := by
  have kb0 := heap_alloc_new w (.cells #[.int .i64 W, .int .i64 H, .slice Am nm cm, .slice Ac nc cc] 25)
  have hb0 := below_new w (.cells #[.int .i64 W, .int .i64 H, .slice Am nm cm, .slice Ac nc cc] 25)
  have a0 := cell_of_blk kb0 0
  have a1 := cell_of_blk kb0 1
  have a2 := cell_of_blk kb0 2
  have a3 := cell_of_blk kb0 3
  simp only [List.getElem?_toArray, List.getElem?_cons_zero, List.getElem?_cons_succ] at a0 a1 a2 a3
  have cN := may_any W H Am Ac nm cm nc cc mask cs (w.alloc (.cells #[.int .i64 W, .int .i64 H, .slice Am nm cm, .slice Ac nc cc] 25)) (hs.below hb0) (hm.below hb0) (hc.below hb0) hnm hnc
  obtain ⟨NB, hNB⟩ : ∃ NB, NB = newB W H mask cs := ⟨_, rfl⟩
  rw [← hNB] at cN hI ⊢
  have CN := Lib.hid cN
  have HB0 := Lib.hid hb0
  have HRM := Lib.hid (hm.below hb0)
  have HRC := Lib.hid (hc.below hb0)
  cases NB with
  | false =>
    clear cN hs hm hc hNB kb0 hb0 hI
    go_enter Tryd.func11, Tryd.ntmps11
    go_wp2_with fail
    refine CN.out.mono ?_
    rintro e w1 ⟨rfl, hb1⟩
    have HBF := Lib.hid (stay_b HB0.out hb1)
    clear hb1 CN a0 a1 a2 a3
    go_wp2
    exact bodyPost_ret (v := .tuple #[.string ⟨#[]⟩, .int .i64 10]) (by simp [results, Tryd.results11, go_sem]) rfl ⟨HBF.out, .inl ⟨trivial, rfl⟩⟩
  | true =>
    obtain ⟨hI2, Wn, Hn, rfl, rfl, hW8, hH8, hml⟩ := hI rfl
    clear hI
    have hnmW : nm = Wn * Hn := by have := hm.ints_len; omega
    have HNM := Lib.hid hnmW
    have HCL := Lib.hid hc.creases_len
    have HI := Lib.hid hI2
    have hnc3 : nc ≤ 3000 := by have := hI2.few; have := HCL.out; omega
    simp only [Int.toNat_natCast]
    clear cN hs hm hc hNB kb0 hb0 hI2 hnmW hml
    go_enter Tryd.func11, Tryd.ntmps11
    go_wp2_with fail
    refine CN.out.mono ?_
    rintro e w2 ⟨rfl, hb1⟩
    have b0 := stay_c a0 hb1 (Nat.le_refl _)
    have b1 := stay_c a1 hb1 (Nat.le_refl _)
    have A2 := Lib.hid (stay_c a2 hb1 (Nat.le_refl _))
    have A3 := Lib.hid (stay_c a3 hb1 (Nat.le_refl _))
    have HRM2 := Lib.hid (HRM.out.below hb1)
    have HRC2 := Lib.hid (HRC.out.below hb1)
    have HB1 := Lib.hid (stay_b HB0.out hb1)
    clear hb1 CN a0 a1 a2 a3 HRM HRC HB0
    have A0 := Lib.hid b0
    have A1 := Lib.hid b1
    have HISB : Hid (IsB w2.heap.size [] (w2.alloc (.cells #[.pointer none, .slice none 0 0] 76))) := Lib.hid (Lib.IsBuilderF.of (Lib.fresh_isBuilder _ _ w2))
    go_upto_region 6 with fail
    have HBA := Lib.hid (below_new w2 (.cells #[.pointer none, .slice none 0 0] 76))
    have c0 := stay_c b0 HBA.out (Nat.le_refl _)
    have c1 := stay_c b1 HBA.out (Nat.le_refl _)
    have hsz : w2.heap.size < (w2.alloc (.cells #[.pointer none, .slice none 0 0] 76)).heap.size := by rw [World.size_alloc]; omega
    generalize w2.alloc (.cells #[.pointer none, .slice none 0 0] 76) = w3 at c0 c1 HISB HBA hsz ⊢
    clear b0 b1
    have cS := say_at w2.heap.size [] [[115, 104, 101, 101, 116], decN Wn, decN Hn] w3.drew HISB.out (by simp) (by have h1 := decN_len (n := (Wn : Int)) (by omega) (by omega); have h2 := decN_len (n := (Hn : Int)) (by omega) (by omega); rw [join3]; simp only [List.length_append, List.length_cons, List.length_nil]; omega) (by simp)
    have hhd : [] ++ (joinL [[115, 104, 101, 101, 116], decN Wn, decN Hn] ++ [10]) = headT Wn Hn := by rw [join3]; simp [headT]
    rw [hhd] at cS
    obtain ⟨S, hS⟩ : ∃ S, S = bA [115, 104, 101, 101, 116] := ⟨_, rfl⟩
    have hS2 : (⟨#[115, 104, 101, 101, 116]⟩ : ByteArray) = S := hS.symm
    obtain ⟨A, hA⟩ : ∃ S, S = bA (decN Wn) := ⟨_, rfl⟩
    obtain ⟨B, hB⟩ : ∃ S, S = bA (decN Hn) := ⟨_, rfl⟩
    have cS2 : Calls Tryd.prog 28 #[.slice (some ⟨w3.heap.size, 0, none⟩) 3 3, .pointer (some ⟨w2.heap.size, 0, none⟩)] (w3.alloc (.cells #[.string ⟨#[115, 104, 101, 101, 116]⟩, .string A, .string B] 9)).drew fun e w' => e = .returned (.tuple #[]) ∧ IsB w2.heap.size (headT Wn Hn) w' ∧ Below w2.heap.size w3.drew w' := by
      rw [hA, hB]
      exact cS
    have CS := Lib.hid cS2
    clear cS cS2 hhd hS hS2
    have CA : ∀ W', Calls Tryd.prog 31 #[.int .i64 Wn] W' fun e w' => e = .returned (.string A) ∧ w' = W' := fun W' => by rw [hA]; exact itoa_any _ (by omega) W'
    have CB : ∀ W', Calls Tryd.prog 31 #[.int .i64 Hn] W' fun e w' => e = .returned (.string B) ∧ w' = W' := fun W' => by rw [hB]; exact itoa_any _ (by omega) W'
    have CA := Lib.hid CA
    have CB := Lib.hid CB
    clear hA hB
    have HW : Hid ((w3.drew.cell? ⟨w.heap.size, 0, none⟩ = some (.int .i64 (Wn : Int)) ∧ w3.drew.cell? ⟨w.heap.size, 1, none⟩ = some (.int .i64 (Hn : Int))) ∧ ((w3.alloc (.cells #[.string ⟨#[115, 104, 101, 101, 116]⟩, .string A, .string B] 9)).drew.cell? ⟨w.heap.size, 0, none⟩ = some (.int .i64 (Wn : Int)) ∧ (w3.alloc (.cells #[.string ⟨#[115, 104, 101, 101, 116]⟩, .string A, .string B] 9)).drew.cell? ⟨w.heap.size, 1, none⟩ = some (.int .i64 (Hn : Int)))) := Lib.hid ⟨⟨c0, c1⟩, al_c c0 _, al_c c1 _⟩
    clear c0 c1
    refine wp_region_inv (fun Lq aq WN => ∃ s : Nat → Value, aq = { tmps := #[.agg #[.int .i64 ((Wn : Nat) : Int), .int .i64 ((Hn : Nat) : Int), .slice Am nm cm, .slice Ac nc cc], .pointer (some ⟨w.heap.size, 0, none⟩), .string { data := #[] }, .int .i64 0, .pointer (some ⟨w2.heap.size, 0, none⟩), .func (.func 28) #[] #[.pointer (some ⟨w2.heap.size, 0, none⟩)], .func (.func 31) #[] #[], undef, undef, undef, undef, undef, undef, undef, .agg #[.int .i64 ((Wn : Nat) : Int), .int .i64 ((Hn : Nat) : Int), .slice Am nm cm, .slice Ac nc cc], .bool true, .bool false, .func (.func 28) #[] #[.pointer (some ⟨w2.heap.size, 0, none⟩)], (s 0), (s 1), (s 2), (s 3), (s 4), (s 5), (s 6), (s 7), (s 8), (s 9), (s 10), undef, undef, undef, undef, undef, undef, undef, undef, undef, undef, undef, undef, undef, undef, undef, undef, undef, undef, undef, undef, undef, undef, undef, undef, undef, undef, undef, undef, undef, undef, undef, undef, undef, undef, undef, undef, undef, undef, undef, undef, undef, undef, undef, undef, undef, undef, undef, undef, undef, undef, undef, undef, undef, undef, undef, undef, undef, undef, undef, undef, undef, undef, undef, undef, undef, undef, undef, undef, undef, undef, undef, undef, undef, undef, undef], defers := [] } ∧ Sv 11 [some (.func (.func 28) #[] #[.pointer (some ⟨w2.heap.size, 0, none⟩)]), some (.func (.func 31) #[] #[]), some (.pointer (some ⟨w.heap.size, 0, none⟩)), some (.int .i64 (Wn : Int)), some (.string A), some (.func (.func 31) #[] #[]), some (.pointer (some ⟨w.heap.size, 1, none⟩)), some (.int .i64 (Hn : Int)), some (.string B), some (.slice (some ⟨w3.heap.size, 0, none⟩) 3 3), some (.tuple #[])] Lq s ∧ Cq [(3, 2), (4, 1), (4, 3), (7, 6), (8, 5), (8, 7), (9, 4), (9, 8), (10, 0), (10, 9)] Lq ∧ (Lq.getD 9 false = false → WN = w3.drew) ∧ (Lq.getD 9 false = true → Lq.getD 10 false = false → WN = (w3.alloc (.cells #[.string ⟨#[115, 104, 101, 101, 116]⟩, .string A, .string B] 9)).drew) ∧ (Lq.getD 10 false = true → IsB w2.heap.size (headT Wn Hn) WN ∧ Below w2.heap.size w3.drew WN)) (by kernel_rfl) ?_ ?_ ?_
    · exact ⟨listF [undef, undef, undef, undef, undef, undef, undef, undef, undef, undef, undef], rfl, Sv.start 11 _ _, Cq.start _ _, fun _ => rfl, (fun h _ => (by rw [getD_replicate_false] at h; cases h)), (fun h => (by rw [getD_replicate_false] at h; cases h))⟩
    · intro Lq aq WN i0 hI hr
      obtain ⟨s, rfl, hv, hcl, hA, hB, _⟩ := hI
      have hi0 : i0 < 11 := ready_lt hr
      have hno := (mem_ready.1 hr).1
      have hsz := hv.sz
      have HV := Lib.hid hv
      have HSA := Lib.hid hA
      have HSB := Lib.hid hB
      have HCL := Lib.hid hcl
      clear hv hA hB hcl
      have hii : i0 = 0 ∨ i0 = 1 ∨ i0 = 2 ∨ i0 = 3 ∨ i0 = 4 ∨ i0 = 5 ∨ i0 = 6 ∨ i0 = 7 ∨ i0 = 8 ∨ i0 = 9 ∨ i0 = 10 := by omega
      clear hi0
      rcases hii with rfl | rfl | rfl | rfl | rfl | rfl | rfl | rfl | rfl | rfl | rfl
      · clear hr
        have hz0 : Lq.getD 10 false = false := (HCL.out.no2 (s := 10) (i := 0) (by decide) (getD_both hno))
        refine wpOp_step rfl (fun K hK => ?_)
        go_simp
        refine hK _ _ ?_
        exact ⟨upd s 0 (.func (.func 28) #[] #[.pointer (some ⟨w2.heap.size, 0, none⟩)]), rfl, Sv.put HV.out (fun u hu => by cases hu; rfl), Cq.set HCL.out (by simp only [List.mem_cons, List.not_mem_nil, or_false]; rintro p (rfl | rfl | rfl | rfl | rfl | rfl | rfl | rfl | rfl | rfl) hp <;> first | assumption | (simp at hp; done)), (fun hh => HSA.out (by rw [set_other (show (0 : Nat) ≠ 9 by decide)] at hh; exact hh)), (fun hh _ => HSB.out (by rw [set_other (show (0 : Nat) ≠ 9 by decide)] at hh; exact hh) hz0), (fun hh => by rw [set_other (show (0 : Nat) ≠ 10 by decide), hz0] at hh; cases hh)⟩
      · clear hr
        have hz0 : Lq.getD 10 false = false := (HCL.out.no2 (s := 10) (i := 9) (by decide) (HCL.out.no2 (s := 9) (i := 4) (by decide) (HCL.out.no2 (s := 4) (i := 1) (by decide) (getD_both hno))))
        refine wpOp_step rfl (fun K hK => ?_)
        go_simp
        refine hK _ _ ?_
        exact ⟨upd s 1 (.func (.func 31) #[] #[]), rfl, Sv.put HV.out (fun u hu => by cases hu; rfl), Cq.set HCL.out (by simp only [List.mem_cons, List.not_mem_nil, or_false]; rintro p (rfl | rfl | rfl | rfl | rfl | rfl | rfl | rfl | rfl | rfl) hp <;> first | assumption | (simp at hp; done)), (fun hh => HSA.out (by rw [set_other (show (1 : Nat) ≠ 9 by decide)] at hh; exact hh)), (fun hh _ => HSB.out (by rw [set_other (show (1 : Nat) ≠ 9 by decide)] at hh; exact hh) hz0), (fun hh => by rw [set_other (show (1 : Nat) ≠ 10 by decide), hz0] at hh; cases hh)⟩
      · clear hr
        have hz0 : Lq.getD 10 false = false := (HCL.out.no2 (s := 10) (i := 9) (by decide) (HCL.out.no2 (s := 9) (i := 4) (by decide) (HCL.out.no2 (s := 4) (i := 3) (by decide) (HCL.out.no2 (s := 3) (i := 2) (by decide) (getD_both hno)))))
        refine wpOp_step rfl (fun K hK => ?_)
        go_simp
        refine hK _ _ ?_
        exact ⟨upd s 2 (.pointer (some ⟨w.heap.size, 0, none⟩)), rfl, Sv.put HV.out (fun u hu => by cases hu; rfl), Cq.set HCL.out (by simp only [List.mem_cons, List.not_mem_nil, or_false]; rintro p (rfl | rfl | rfl | rfl | rfl | rfl | rfl | rfl | rfl | rfl) hp <;> first | assumption | (simp at hp; done)), (fun hh => HSA.out (by rw [set_other (show (2 : Nat) ≠ 9 by decide)] at hh; exact hh)), (fun hh _ => HSB.out (by rw [set_other (show (2 : Nat) ≠ 9 by decide)] at hh; exact hh) hz0), (fun hh => by rw [set_other (show (2 : Nat) ≠ 10 by decide), hz0] at hh; cases hh)⟩
      · have d2 := ready_dep hr (k := 2) (by kernel_rfl)
        clear hr
        have hz0 : Lq.getD 10 false = false := (HCL.out.no2 (s := 10) (i := 9) (by decide) (HCL.out.no2 (s := 9) (i := 4) (by decide) (HCL.out.no2 (s := 4) (i := 3) (by decide) (getD_both hno))))
        have e2 : s 2 = .pointer (some ⟨w.heap.size, 0, none⟩) := HV.out.v d2 rfl
        have hW : WN = w3.drew ∨ WN = (w3.alloc (.cells #[.string ⟨#[115, 104, 101, 101, 116]⟩, .string A, .string B] 9)).drew := by
          cases hq : Lq.getD 9 false with
          | false => exact .inl (HSA.out hq)
          | true => exact .inr (HSB.out hq hz0)
        have x0 : WN.cell? ⟨w.heap.size, 0, none⟩ = some (.int .i64 (Wn : Int)) := by rcases hW with rfl | rfl <;> first | exact HW.out.1.1 | exact HW.out.2.1
        have x1 : WN.cell? ⟨w.heap.size, 1, none⟩ = some (.int .i64 (Hn : Int)) := by rcases hW with rfl | rfl <;> first | exact HW.out.1.2 | exact HW.out.2.2
        clear hW
        refine wpOp_step rfl (fun K hK => ?_)
        go_simp
        refine hK _ _ ?_
        exact ⟨upd (upd s 2 (.pointer (some ⟨w.heap.size, 0, none⟩))) 3 (.int .i64 (Wn : Int)), rfl, Sv.put (Sv.re (j := 2) (v := .pointer (some ⟨w.heap.size, 0, none⟩)) HV.out e2) (fun u hu => by cases hu; rfl), Cq.set HCL.out (by simp only [List.mem_cons, List.not_mem_nil, or_false]; rintro p (rfl | rfl | rfl | rfl | rfl | rfl | rfl | rfl | rfl | rfl) hp <;> first | assumption | (simp at hp; done)), (fun hh => HSA.out (by rw [set_other (show (3 : Nat) ≠ 9 by decide)] at hh; exact hh)), (fun hh _ => HSB.out (by rw [set_other (show (3 : Nat) ≠ 9 by decide)] at hh; exact hh) hz0), (fun hh => by rw [set_other (show (3 : Nat) ≠ 10 by decide), hz0] at hh; cases hh)⟩
      · have d1 := ready_dep hr (k := 1) (by kernel_rfl)
        have d3 := ready_dep hr (k := 3) (by kernel_rfl)
        clear hr
        have hz0 : Lq.getD 10 false = false := (HCL.out.no2 (s := 10) (i := 9) (by decide) (HCL.out.no2 (s := 9) (i := 4) (by decide) (getD_both hno)))
        have e1 : s 1 = .func (.func 31) #[] #[] := HV.out.v d1 rfl
        have e3 : s 3 = .int .i64 (Wn : Int) := HV.out.v d3 rfl
        refine wpOp_step rfl (fun K hK => ?_)
        go_simp
        refine (CA.out _).mono ?_
        rintro e' wc ⟨he, hbc⟩
        subst he
        subst hbc
        refine hK _ _ ?_
        exact ⟨upd (upd (upd s 1 (.func (.func 31) #[] #[])) 3 (.int .i64 (Wn : Int))) 4 (.string A), rfl, Sv.put (Sv.re (j := 3) (v := .int .i64 (Wn : Int)) (Sv.re (j := 1) (v := .func (.func 31) #[] #[]) HV.out e1) e3) (fun u hu => by cases hu; rfl), Cq.set HCL.out (by simp only [List.mem_cons, List.not_mem_nil, or_false]; rintro p (rfl | rfl | rfl | rfl | rfl | rfl | rfl | rfl | rfl | rfl) hp <;> first | assumption | (simp at hp; done)), (fun hh => HSA.out (by rw [set_other (show (4 : Nat) ≠ 9 by decide)] at hh; exact hh)), (fun hh _ => HSB.out (by rw [set_other (show (4 : Nat) ≠ 9 by decide)] at hh; exact hh) hz0), (fun hh => by rw [set_other (show (4 : Nat) ≠ 10 by decide), hz0] at hh; cases hh)⟩
      · clear hr
        have hz0 : Lq.getD 10 false = false := (HCL.out.no2 (s := 10) (i := 9) (by decide) (HCL.out.no2 (s := 9) (i := 8) (by decide) (HCL.out.no2 (s := 8) (i := 5) (by decide) (getD_both hno))))
        refine wpOp_step rfl (fun K hK => ?_)
        go_simp
        refine hK _ _ ?_
        exact ⟨upd s 5 (.func (.func 31) #[] #[]), rfl, Sv.put HV.out (fun u hu => by cases hu; rfl), Cq.set HCL.out (by simp only [List.mem_cons, List.not_mem_nil, or_false]; rintro p (rfl | rfl | rfl | rfl | rfl | rfl | rfl | rfl | rfl | rfl) hp <;> first | assumption | (simp at hp; done)), (fun hh => HSA.out (by rw [set_other (show (5 : Nat) ≠ 9 by decide)] at hh; exact hh)), (fun hh _ => HSB.out (by rw [set_other (show (5 : Nat) ≠ 9 by decide)] at hh; exact hh) hz0), (fun hh => by rw [set_other (show (5 : Nat) ≠ 10 by decide), hz0] at hh; cases hh)⟩
      · clear hr
        have hz0 : Lq.getD 10 false = false := (HCL.out.no2 (s := 10) (i := 9) (by decide) (HCL.out.no2 (s := 9) (i := 8) (by decide) (HCL.out.no2 (s := 8) (i := 7) (by decide) (HCL.out.no2 (s := 7) (i := 6) (by decide) (getD_both hno)))))
        refine wpOp_step rfl (fun K hK => ?_)
        go_simp
        refine hK _ _ ?_
        exact ⟨upd s 6 (.pointer (some ⟨w.heap.size, 1, none⟩)), rfl, Sv.put HV.out (fun u hu => by cases hu; rfl), Cq.set HCL.out (by simp only [List.mem_cons, List.not_mem_nil, or_false]; rintro p (rfl | rfl | rfl | rfl | rfl | rfl | rfl | rfl | rfl | rfl) hp <;> first | assumption | (simp at hp; done)), (fun hh => HSA.out (by rw [set_other (show (6 : Nat) ≠ 9 by decide)] at hh; exact hh)), (fun hh _ => HSB.out (by rw [set_other (show (6 : Nat) ≠ 9 by decide)] at hh; exact hh) hz0), (fun hh => by rw [set_other (show (6 : Nat) ≠ 10 by decide), hz0] at hh; cases hh)⟩
      · have d6 := ready_dep hr (k := 6) (by kernel_rfl)
        clear hr
        have hz0 : Lq.getD 10 false = false := (HCL.out.no2 (s := 10) (i := 9) (by decide) (HCL.out.no2 (s := 9) (i := 8) (by decide) (HCL.out.no2 (s := 8) (i := 7) (by decide) (getD_both hno))))
        have e6 : s 6 = .pointer (some ⟨w.heap.size, 1, none⟩) := HV.out.v d6 rfl
        have hW : WN = w3.drew ∨ WN = (w3.alloc (.cells #[.string ⟨#[115, 104, 101, 101, 116]⟩, .string A, .string B] 9)).drew := by
          cases hq : Lq.getD 9 false with
          | false => exact .inl (HSA.out hq)
          | true => exact .inr (HSB.out hq hz0)
        have x0 : WN.cell? ⟨w.heap.size, 0, none⟩ = some (.int .i64 (Wn : Int)) := by rcases hW with rfl | rfl <;> first | exact HW.out.1.1 | exact HW.out.2.1
        have x1 : WN.cell? ⟨w.heap.size, 1, none⟩ = some (.int .i64 (Hn : Int)) := by rcases hW with rfl | rfl <;> first | exact HW.out.1.2 | exact HW.out.2.2
        clear hW
        refine wpOp_step rfl (fun K hK => ?_)
        go_simp
        refine hK _ _ ?_
        exact ⟨upd (upd s 6 (.pointer (some ⟨w.heap.size, 1, none⟩))) 7 (.int .i64 (Hn : Int)), rfl, Sv.put (Sv.re (j := 6) (v := .pointer (some ⟨w.heap.size, 1, none⟩)) HV.out e6) (fun u hu => by cases hu; rfl), Cq.set HCL.out (by simp only [List.mem_cons, List.not_mem_nil, or_false]; rintro p (rfl | rfl | rfl | rfl | rfl | rfl | rfl | rfl | rfl | rfl) hp <;> first | assumption | (simp at hp; done)), (fun hh => HSA.out (by rw [set_other (show (7 : Nat) ≠ 9 by decide)] at hh; exact hh)), (fun hh _ => HSB.out (by rw [set_other (show (7 : Nat) ≠ 9 by decide)] at hh; exact hh) hz0), (fun hh => by rw [set_other (show (7 : Nat) ≠ 10 by decide), hz0] at hh; cases hh)⟩
      · have d5 := ready_dep hr (k := 5) (by kernel_rfl)
        have d7 := ready_dep hr (k := 7) (by kernel_rfl)
        clear hr
        have hz0 : Lq.getD 10 false = false := (HCL.out.no2 (s := 10) (i := 9) (by decide) (HCL.out.no2 (s := 9) (i := 8) (by decide) (getD_both hno)))
        have e5 : s 5 = .func (.func 31) #[] #[] := HV.out.v d5 rfl
        have e7 : s 7 = .int .i64 (Hn : Int) := HV.out.v d7 rfl
        refine wpOp_step rfl (fun K hK => ?_)
        go_simp
        refine (CB.out _).mono ?_
        rintro e' wc ⟨he, hbc⟩
        subst he
        subst hbc
        refine hK _ _ ?_
        exact ⟨upd (upd (upd s 5 (.func (.func 31) #[] #[])) 7 (.int .i64 (Hn : Int))) 8 (.string B), rfl, Sv.put (Sv.re (j := 7) (v := .int .i64 (Hn : Int)) (Sv.re (j := 5) (v := .func (.func 31) #[] #[]) HV.out e5) e7) (fun u hu => by cases hu; rfl), Cq.set HCL.out (by simp only [List.mem_cons, List.not_mem_nil, or_false]; rintro p (rfl | rfl | rfl | rfl | rfl | rfl | rfl | rfl | rfl | rfl) hp <;> first | assumption | (simp at hp; done)), (fun hh => HSA.out (by rw [set_other (show (8 : Nat) ≠ 9 by decide)] at hh; exact hh)), (fun hh _ => HSB.out (by rw [set_other (show (8 : Nat) ≠ 9 by decide)] at hh; exact hh) hz0), (fun hh => by rw [set_other (show (8 : Nat) ≠ 10 by decide), hz0] at hh; cases hh)⟩
      · have d4 := ready_dep hr (k := 4) (by kernel_rfl)
        have d8 := ready_dep hr (k := 8) (by kernel_rfl)
        clear hr
        have hz0 : Lq.getD 10 false = false := (HCL.out.no2 (s := 10) (i := 9) (by decide) (getD_both hno))
        have e4 : s 4 = .string A := HV.out.v d4 rfl
        have e8 : s 8 = .string B := HV.out.v d8 rfl
        have hm0 := HSA.out (getD_both hno)
        subst hm0
        refine wpOp_step rfl (fun K hK => ?_)
        go_simp
        refine hK _ _ ?_
        exact ⟨upd (upd (upd s 4 (.string A)) 8 (.string B)) 9 (.slice (some ⟨w3.heap.size, 0, none⟩) 3 3), rfl, Sv.put (Sv.re (j := 8) (v := .string B) (Sv.re (j := 4) (v := .string A) HV.out e4) e8) (fun u hu => by cases hu; rfl), Cq.set HCL.out (by simp only [List.mem_cons, List.not_mem_nil, or_false]; rintro p (rfl | rfl | rfl | rfl | rfl | rfl | rfl | rfl | rfl | rfl) hp <;> first | assumption | (simp at hp; done)), (fun hh => by rw [set_self hsz (by decide)] at hh; cases hh), (fun _ _ => rfl), (fun hh => by rw [set_other (show (9 : Nat) ≠ 10 by decide), hz0] at hh; cases hh)⟩
      · have d0 := ready_dep hr (k := 0) (by kernel_rfl)
        have d9 := ready_dep hr (k := 9) (by kernel_rfl)
        clear hr
        have hz0 : Lq.getD 10 false = false := (getD_both hno)
        have e0 : s 0 = .func (.func 28) #[] #[.pointer (some ⟨w2.heap.size, 0, none⟩)] := HV.out.v d0 rfl
        have e9 : s 9 = .slice (some ⟨w3.heap.size, 0, none⟩) 3 3 := HV.out.v d9 rfl
        have hm0 := HSB.out d9 hz0
        subst hm0
        refine wpOp_step rfl (fun K hK => ?_)
        go_simp
        refine (CS.out).mono ?_
        rintro e' wc ⟨he, hbc⟩
        subst he
        refine hK _ _ ?_
        exact ⟨upd (upd (upd s 0 (.func (.func 28) #[] #[.pointer (some ⟨w2.heap.size, 0, none⟩)])) 9 (.slice (some ⟨w3.heap.size, 0, none⟩) 3 3)) 10 (.tuple #[]), rfl, Sv.put (Sv.re (j := 9) (v := .slice (some ⟨w3.heap.size, 0, none⟩) 3 3) (Sv.re (j := 0) (v := .func (.func 28) #[] #[.pointer (some ⟨w2.heap.size, 0, none⟩)]) HV.out e0) e9) (fun u hu => by cases hu; rfl), Cq.set HCL.out (by simp only [List.mem_cons, List.not_mem_nil, or_false]; rintro p (rfl | rfl | rfl | rfl | rfl | rfl | rfl | rfl | rfl | rfl) hp <;> first | assumption | (simp at hp; done)), (fun hh => by rw [set_other (show (10 : Nat) ≠ 9 by decide), d9] at hh; cases hh), (fun _ hh => by rw [set_self hsz (by decide)] at hh; cases hh), fun _ => hbc⟩
    · intro Lq aq WN hI hrd
      obtain ⟨s, ha, hv, _, _, _, hst⟩ := hI
      have hall := all_listedM hrd hv.sz (by kernel_rfl)
      clear hrd
      have e0 : s 0 = (.func (.func 28) #[] #[.pointer (some ⟨w2.heap.size, 0, none⟩)]) := hv.v (hall 0 (by decide)) rfl
      have e1 : s 1 = (.func (.func 31) #[] #[]) := hv.v (hall 1 (by decide)) rfl
      have e2 : s 2 = (.pointer (some ⟨w.heap.size, 0, none⟩)) := hv.v (hall 2 (by decide)) rfl
      have e3 : s 3 = (.int .i64 (Wn : Int)) := hv.v (hall 3 (by decide)) rfl
      have e4 : s 4 = (.string A) := hv.v (hall 4 (by decide)) rfl
      have e5 : s 5 = (.func (.func 31) #[] #[]) := hv.v (hall 5 (by decide)) rfl
      have e6 : s 6 = (.pointer (some ⟨w.heap.size, 1, none⟩)) := hv.v (hall 6 (by decide)) rfl
      have e7 : s 7 = (.int .i64 (Hn : Int)) := hv.v (hall 7 (by decide)) rfl
      have e8 : s 8 = (.string B) := hv.v (hall 8 (by decide)) rfl
      have e9 : s 9 = (.slice (some ⟨w3.heap.size, 0, none⟩) 3 3) := hv.v (hall 9 (by decide)) rfl
      have e10 : s 10 = (.tuple #[]) := hv.v (hall 10 (by decide)) rfl
      simp only [e0, e1, e2, e3, e4, e5, e6, e7, e8, e9, e10] at ha
      subst ha
      have hfin := hst (hall 10 (by decide))
      clear hall hv hst e0 e1 e2 e3 e4 e5 e6 e7 e8 e9 e10
      have HX := Lib.hid hfin.1
      have HBX := Lib.hid (HBA.out.drew.trans hfin.2)
      have q1 := stay_c A1.out HBX.out (Nat.le_refl _)
      clear hfin HW CS CA CB HISB HBA hsz
      have w1 : IntKind.i64.wrap ((Hn : Int) - 1) = (Hn : Int) - 1 := IntWalk.i64_in _ (by omega)
      go_wp2_with fail
      clear q1
      go_loopw [7] (fun y wr => ∃ (k : Nat) (Y : Int), k ≤ Hn ∧ Hid (Y = (Hn : Int) - 1 - k) ∧ y = .int .i64 Y ∧ Hid (IsB w2.heap.size (headT Wn Hn ++ rowsT Wn mask Hn k) wr) ∧ Hid (Below w2.heap.size w2 wr)) (fun y _ => ((intOf y) + 1).toNat)
      case atStart => exact ⟨0, (Hn : Int) - 1, by omega, Lib.hid (by omega), rfl, Lib.hid (by have h := HX.out; rw [show headT Wn Hn ++ rowsT Wn mask Hn 0 = headT Wn Hn by simp [rowsT]]; exact h), HBX⟩
      case round =>
        obtain ⟨k, Y, hk, hY, rfl, hX, hB⟩ := hrel
        by_cases hkH : k < Hn
        · obtain ⟨yN, hyN⟩ : ∃ n : Nat, Y = n := ⟨Hn - 1 - k, by have := hY.out; omega⟩
          subst hyN
          have hyk : yN = Hn - 1 - k := by have := hY.out; omega
          have HYK := Lib.hid hyk
          have hyH : yN < Hn := by omega
          have hY0 : (0 : Int) ≤ (yN : Int) := by omega
          have w2' : IntKind.i64.wrap ((yN : Int) - 1) = (yN : Int) - 1 := IntWalk.i64_in _ (by omega)
          obtain ⟨p, hp⟩ : ∃ p : Nat, p = yN * Wn := ⟨_, rfl⟩
          obtain ⟨p2, hp2⟩ : ∃ q : Nat, q = p + Wn := ⟨_, rfl⟩
          obtain ⟨y1, hy1⟩ : ∃ q : Nat, q = yN + 1 := ⟨_, rfl⟩
          have hpe : p2 = y1 * Wn := by rw [hp2, hp, hy1, Nat.add_mul, Nat.one_mul]
          have hpW : p2 ≤ Wn * Hn := by
            have h2 : (yN + 1) * Wn ≤ Hn * Wn := Nat.mul_le_mul (by omega) (Nat.le_refl _)
            rw [Nat.mul_comm Hn Wn, ← hy1, ← hpe] at h2
            exact h2
          have hp64 : p2 ≤ 64 := by
            have h2 : Wn * Hn ≤ 8 * 8 := Nat.mul_le_mul hW8.2 hH8.2
            omega
          have m1 : IntKind.i64.wrap ((yN : Int) * (Wn : Int)) = (p : Int) := by
            rw [show (yN : Int) * (Wn : Int) = (p : Int) by rw [hp]; simp]
            exact IntWalk.i64_in _ (by omega)
          have m2 : IntKind.i64.wrap ((yN : Int) + 1) = (y1 : Int) := by rw [IntWalk.i64_in _ (by omega)]; omega
          have m3 : IntKind.i64.wrap ((y1 : Int) * (Wn : Int)) = (p2 : Int) := by
            rw [show (y1 : Int) * (Wn : Int) = (p2 : Int) by rw [hpe]; simp]
            exact IntWalk.i64_in _ (by omega)
          have hpn : p2 ≤ nm := by rw [HNM.out]; exact hpW
          have HP := Lib.hid hp
          have HP2 := Lib.hid hp2
          obtain ⟨bm, om, hAm, _, _⟩ := HRM2.out.2 (by omega)
          have hpc : p2 ≤ cm := by omega
          have hpp : p ≤ p2 := by omega
          have hpci : (p2 : Int) ≤ (cm : Int) := by omega
          have hppi : (p : Int) ≤ (p2 : Int) := by omega
          have hdif : p2 - p = Wn := by omega
          clear hyk hp hp2 hy1 hpe hpW hY
          subst hAm
          have q0 := stay_c A0.out hB.out (Nat.le_refl _)
          have q2 := stay_c A2.out hB.out (Nat.le_refl _)
          go_wp2_with fail
          go_loopw [8, 49] (fun t x wr => ∃ (j : Nat) (s : ByteArray), j ≤ Wn ∧ x = .int .i64 j ∧ t = .string s ∧ Hid (s = bA ((rowT Wn mask yN).take j)) ∧ s.size ≤ j ∧ Hid (IsB w2.heap.size (headT Wn Hn ++ rowsT Wn mask Hn k) wr) ∧ Hid (Below w2.heap.size w2 wr)) (fun _ x _ => Wn - (intOf x).toNat)
          case atStart => exact ⟨0, ⟨#[]⟩, by omega, rfl, rfl, Lib.hid (by simp [bA]), by decide, hX, hB⟩
          case round =>
            obtain ⟨j, s, hj, rfl, rfl, hs, hsb, hX, hB⟩ := hrel
            by_cases hjW : j < Wn
            · have hji : (j : Int) < (Wn : Int) := by omega
              obtain ⟨q, hq⟩ : ∃ q : Nat, q = p + j := ⟨_, rfl⟩
              obtain ⟨b', o', m, e, _, hmm, cm'⟩ := (HRM2.out.below hB.out).int (show q < nm by omega)
              cases e
              rw [hq, ← Nat.add_assoc] at cm'
              have g := HI.out.msk m (List.mem_of_getElem? hmm)
              have htk := rowT_take (W := Wn) (mask := mask) (y := yN) hjW (m := m) (by rw [← HP.out, ← hq]; exact hmm)
              have HTK := Lib.hid htk
              have m9 : IntKind.i64.wrap (m + 1) = m + 1 := IntWalk.i64_in _ (by omega)
              clear htk hmm hq
              have hnew : s ++ (⟨#[48, 49, 50, 51, 52, 53, 54, 55, 56, 57, 97, 98, 99, 100, 101, 102]⟩ : ByteArray).extract m.toNat (m + 1).toNat = bA ((rowT Wn mask yN).take (j + 1)) := by
                rw [dig_at g.1 g.2, HTK.out, hs.out, bA_app]
              have hns : (s ++ (⟨#[48, 49, 50, 51, 52, 53, 54, 55, 56, 57, 97, 98, 99, 100, 101, 102]⟩ : ByteArray).extract m.toNat (m + 1).toNat).size ≤ j + 1 := by rw [dig_at g.1 g.2, ByteArray.size_append, bA_size]; simp; omega
              have HN := Lib.hid hnew
              clear hnew
              go_wp2_with fail
              go_roundw
              case rel => exact ⟨j + 1, _, by omega, by go_num, rfl, HN, hns, hX, hB⟩
              case measure => simp [intOf]; omega
            · obtain rfl : j = Wn := by omega
              have hji : ¬ (j : Int) < (j : Int) := by omega
              have hrw : s = bA (rowT j mask yN) := by rw [hs.out, List.take_of_length_le (by rw [rowT_len]; exact Nat.le_refl _)]
              have hll : (headT j Hn ++ rowsT j mask Hn k).length ≤ 1000000 := by
                rw [List.length_append, rowsT_len]
                have h1 := decN_len (n := (j : Int)) (by omega) (by omega)
                have h2 := decN_len (n := (Hn : Int)) (by omega) (by omega)
                have h3 : k * (j + 1) ≤ 8 * 9 := Nat.mul_le_mul (by omega) (by omega)
                simp only [headT, List.length_append, List.length_cons, List.length_nil]
                omega
              have cS := say_at w2.heap.size _ [rowT j mask yN] wr hX.out (by simp) (by rw [join1, rowT_len]; omega) hll
              have hcat : headT j Hn ++ rowsT j mask Hn k ++ (joinL [rowT j mask yN] ++ [10]) = headT j Hn ++ rowsT j mask Hn (k + 1) := by
                rw [join1, rowsT_succ, ← HYK.out]
                simp
              rw [hcat] at cS
              have cS2 : Calls Tryd.prog 28 #[.slice (some ⟨wr.heap.size, 0, none⟩) 1 1, .pointer (some ⟨w2.heap.size, 0, none⟩)] (wr.alloc (.cells #[.string s] 9)) fun e w' => e = .returned (.tuple #[]) ∧ IsB w2.heap.size (headT j Hn ++ rowsT j mask Hn (k + 1)) w' ∧ Below w2.heap.size wr w' := by
                rw [hrw]
                exact cS
              have CS := Lib.hid cS2
              have hyy : (yN : Int) - 1 = (Hn : Int) - 1 - ((k + 1 : Nat) : Int) := by have := HYK.out; omega
              have HYY := Lib.hid hyy
              clear cS cS2 hcat hrw hs hyy
              go_wp2_with (go_at_call 28; refine CS.out.mono ?_; rintro e w4 ⟨rfl, h1, h2⟩; have H1 := Lib.hid h1; have H2 := Lib.hid (hB.out.trans h2); clear h1 h2)
              go_roundw
              case rel => exact ⟨k + 1, (yN : Int) - 1, by omega, HYY, rfl, H1, H2⟩
              case measure => simp [intOf] <;> omega
        · obtain rfl : k = Hn := by omega
          obtain rfl : Y = -1 := by have := hY.out; omega
          have hYn : ¬ (0 : Int) ≤ -1 := by omega
          have q3 := stay_c A3.out hB.out (Nat.le_refl _)
          clear hY
          go_wp2_with fail
          clear q3
          go_loopw [67] (fun x wr => ∃ i : Nat, i ≤ nc ∧ x = .int .i64 i ∧ Hid (IsB w2.heap.size (headT Wn k ++ rowsT Wn mask k k ++ creasT (cs.take i)) wr) ∧ Hid (Below w2.heap.size w2 wr)) (fun x _ => nc - (intOf x).toNat)
          case atStart => exact ⟨0, by omega, rfl, Lib.hid (by have h := hX.out; rw [show headT Wn k ++ rowsT Wn mask k k ++ creasT (cs.take 0) = headT Wn k ++ rowsT Wn mask k k by simp [creasT]]; exact h), hB⟩
          case round =>
            obtain ⟨i, hi, rfl, hX, hB⟩ := hrel
            have hlen0 : (headT Wn k ++ rowsT Wn mask k k).length ≤ 1000 := by
              rw [List.length_append, rowsT_len]
              have h1 := decN_len (n := (Wn : Int)) (by omega) (by omega)
              have h2 := decN_len (n := (k : Int)) (by omega) (by omega)
              have h3 : k * (Wn + 1) ≤ 8 * 9 := Nat.mul_le_mul (by omega) (by omega)
              simp only [headT, List.length_append, List.length_cons, List.length_nil]
              omega
            by_cases hin : i < nc
            · have hii : (i : Int) < (nc : Int) := by omega
              obtain ⟨c, hc⟩ : ∃ c, cs[i]? = some c := ⟨_, List.getElem?_eq_getElem (by rw [HCL.out]; exact hin)⟩
              have hsm := HI.out.sm c (List.mem_of_getElem? hc)
              have hkd := HI.out.kd c (List.mem_of_getElem? hc)
              have htk : cs.take (i + 1) = cs.take i ++ [c] := by rw [List.take_add_one, hc]; rfl
              have hsn := creasT_snoc (cs.take i) c
              rw [← htk] at hsn
              obtain ⟨bC, oC, hAc, _, _⟩ := HRC2.out.2 (by omega)
              subst hAc
              obtain ⟨y0, y1, y2, y3, y4⟩ := (HRC2.out.below hB.out).crease hc
              obtain ⟨⟨a, b, e, f⟩, kd⟩ := c
              simp only at y0 y1 y2 y3 y4 hkd
              obtain ⟨ha, hb, he, hf⟩ := hsm
              simp only at ha hb he hf
              have k1 := decN_len ha.1 ha.2
              have k2 := decN_len hb.1 hb.2
              have k3 := decN_len he.1 he.2
              have k4 := decN_len hf.1 hf.2
              have hll : (headT Wn k ++ rowsT Wn mask k k ++ creasT (cs.take i)).length ≤ 1000000 := by
                rw [List.length_append]
                have h1 := creasT_len (cs := cs.take i) (fun c hc => HI.out.sm c (List.mem_of_mem_take hc))
                have h2 : (cs.take i).length ≤ i := by simp; omega
                omega
              obtain ⟨kw, hkw⟩ : ∃ kw : List UInt8, kw = [if kd = 2 then 118 else 109] := ⟨_, rfl⟩
              have hkw1 : kw.length = 1 := by rw [hkw]; rfl
              obtain ⟨K1, hK1⟩ : ∃ K : ByteArray, K = bA kw := ⟨_, rfl⟩
              obtain ⟨D1, hD1⟩ : ∃ D, D = bA (decN a) := ⟨_, rfl⟩
              obtain ⟨D2, hD2⟩ : ∃ D, D = bA (decN b) := ⟨_, rfl⟩
              obtain ⟨D3, hD3⟩ : ∃ D, D = bA (decN e) := ⟨_, rfl⟩
              obtain ⟨D4, hD4⟩ : ∃ D, D = bA (decN f) := ⟨_, rfl⟩
              have hkk : kd = 1 ∧ (⟨#[109]⟩ : ByteArray) = K1 ∨ kd = 2 ∧ (⟨#[118]⟩ : ByteArray) = K1 := by
                rcases hkd with h | h
                · refine .inl ⟨h, ?_⟩
                  rw [hK1, hkw, h]
                  rfl
                · refine .inr ⟨h, ?_⟩
                  rw [hK1, hkw, h]
                  rfl
              have kb := heap_alloc_new wr (.cells #[.int .i64 a, .int .i64 b, .int .i64 e, .int .i64 f, .int .i64 kd] 88)
              have c0 := cell_of_blk kb 0
              have c1 := cell_of_blk kb 1
              have c2 := cell_of_blk kb 2
              have c3 := cell_of_blk kb 3
              have c4 := cell_of_blk kb 4
              simp only [List.getElem?_toArray, List.getElem?_cons_zero, List.getElem?_cons_succ] at c0 c1 c2 c3 c4
              have hba := below_new wr (.cells #[.int .i64 a, .int .i64 b, .int .i64 e, .int .i64 f, .int .i64 kd] 88)
              have cS := fun (wa : World) (hw : Below wr.heap.size wr wa) => say_at w2.heap.size _ [kw, decN a, decN b, decN e, decN f] wa.drew (hX.out.below hw.drew (Nat.le_refl _)) (by simp) (by rw [join5]; simp only [List.length_append, List.length_cons, List.length_nil]; omega) hll
              have hcat : headT Wn k ++ rowsT Wn mask k k ++ creasT (cs.take i) ++ (joinL [kw, decN a, decN b, decN e, decN f] ++ [10]) = headT Wn k ++ rowsT Wn mask k k ++ creasT (cs.take (i + 1)) := by
                rw [hsn, join5, hkw]
                simp only [creaT, List.append_assoc, List.cons_append, List.nil_append]
              rw [hcat] at cS
              have cS2 : ∀ wa : World, Below wr.heap.size wr wa → Calls Tryd.prog 28 #[.slice (some ⟨wa.heap.size, 0, none⟩) 5 5, .pointer (some ⟨w2.heap.size, 0, none⟩)] (wa.alloc (.cells #[.string K1, .string D1, .string D2, .string D3, .string D4] 9)).drew fun e w' => e = .returned (.tuple #[]) ∧ IsB w2.heap.size (headT Wn k ++ rowsT Wn mask k k ++ creasT (cs.take (i + 1))) w' ∧ Below w2.heap.size wa.drew w' := by
                rw [hK1, hD1, hD2, hD3, hD4]
                exact cS
              have CS0 := Lib.hid cS2
              have C1 : Hid (∀ W', Calls Tryd.prog 31 #[.int .i64 a] W' fun e w' => e = .returned (.string D1) ∧ w' = W') := Lib.hid (by rw [hD1]; exact fun W' => itoa_any a ha W')
              have C2 : Hid (∀ W', Calls Tryd.prog 31 #[.int .i64 b] W' fun e w' => e = .returned (.string D2) ∧ w' = W') := Lib.hid (by rw [hD2]; exact fun W' => itoa_any b hb W')
              have C3 : Hid (∀ W', Calls Tryd.prog 31 #[.int .i64 e] W' fun e w' => e = .returned (.string D3) ∧ w' = W') := Lib.hid (by rw [hD3]; exact fun W' => itoa_any e he W')
              have C4 : Hid (∀ W', Calls Tryd.prog 31 #[.int .i64 f] W' fun e w' => e = .returned (.string D4) ∧ w' = W') := Lib.hid (by rw [hD4]; exact fun W' => itoa_any f hf W')
              have HKK := Lib.hid hkk
              have HBA := Lib.hid hba
              clear cS cS2 hcat hkk hkw hkw1 hK1 hD1 hD2 hD3 hD4 hc htk hsn hkd k1 k2 k3 k4 kb hba hll
              go_upto_if 73 with fail
              clear y0 y1 y2 y3 y4
              go_cut [13, 67] from 67 to 102 (fun v x wx => v = .string K1 ∧ x = .int .i64 i ∧ wx = wr.alloc (.cells #[.int .i64 a, .int .i64 b, .int .i64 e, .int .i64 f, .int .i64 kd] 88))
              case first =>
                rcases HKK.out with ⟨rfl, h⟩ | ⟨rfl, h⟩
                · have HH := Lib.hid h
                  clear h
                  go_wp2_with fail
                  go_meet
                  case rel => exact ⟨by rw [HH.out], rfl, rfl⟩
                · have HH := Lib.hid h
                  clear h
                  go_wp2_with fail
                  go_meet
                  case rel => exact ⟨by rw [HH.out], rfl, rfl⟩
              case rest =>
                obtain ⟨rfl, rfl, rfl⟩ := hcut
                go_upto_region 23 with fail
                obtain ⟨wa, hwa⟩ : ∃ x, x = wr.alloc (.cells #[.int .i64 a, .int .i64 b, .int .i64 e, .int .i64 f, .int .i64 kd] 88) := ⟨_, rfl⟩
                rw [← hwa] at c0 c1 c2 c3 HBA ⊢
                clear hwa c4
                have CS := Lib.hid (CS0.out wa HBA.out)
                have HW : Hid ((wa.drew.cell? ⟨wr.heap.size, 0, none⟩ = some (.int .i64 a) ∧ wa.drew.cell? ⟨wr.heap.size, 1, none⟩ = some (.int .i64 b) ∧ wa.drew.cell? ⟨wr.heap.size, 2, none⟩ = some (.int .i64 e) ∧ wa.drew.cell? ⟨wr.heap.size, 3, none⟩ = some (.int .i64 f)) ∧ ((wa.alloc (.cells #[.string K1, .string D1, .string D2, .string D3, .string D4] 9)).drew.cell? ⟨wr.heap.size, 0, none⟩ = some (.int .i64 a) ∧ (wa.alloc (.cells #[.string K1, .string D1, .string D2, .string D3, .string D4] 9)).drew.cell? ⟨wr.heap.size, 1, none⟩ = some (.int .i64 b) ∧ (wa.alloc (.cells #[.string K1, .string D1, .string D2, .string D3, .string D4] 9)).drew.cell? ⟨wr.heap.size, 2, none⟩ = some (.int .i64 e) ∧ (wa.alloc (.cells #[.string K1, .string D1, .string D2, .string D3, .string D4] 9)).drew.cell? ⟨wr.heap.size, 3, none⟩ = some (.int .i64 f))) := Lib.hid ⟨⟨c0, c1, c2, c3⟩, al_c c0 _, al_c c1 _, al_c c2 _, al_c c3 _⟩
                clear c0 c1 c2 c3
                refine wp_region_inv (fun Lq aq WN => ∃ s : Nat → Value, aq = { tmps := #[.agg #[.int .i64 ((Wn : Nat) : Int), .int .i64 ((k : Nat) : Int), .slice Am nm cm, .slice (some ⟨bC, oC, none⟩) nc cc], .pointer (some ⟨w.heap.size, 0, none⟩), .string { data := #[] }, .int .i64 0, .pointer (some ⟨w2.heap.size, 0, none⟩), .func (.func 28) #[] #[.pointer (some ⟨w2.heap.size, 0, none⟩)], .func (.func 31) #[] #[], .int .i64 (-1), u8, undef, u10, undef, .pointer (some ⟨wr.heap.size, 0, none⟩), .string K1, .agg #[.int .i64 ((Wn : Nat) : Int), .int .i64 ((k : Nat) : Int), .slice Am nm cm, .slice (some ⟨bC, oC, none⟩) nc cc], .bool true, .bool false, .func (.func 28) #[] #[.pointer (some ⟨w2.heap.size, 0, none⟩)], .func (.func 28) #[] #[.pointer (some ⟨w2.heap.size, 0, none⟩)], .func (.func 31) #[] #[], .pointer (some ⟨w.heap.size, 0, none⟩), .int .i64 ((Wn : Nat) : Int), .string A, .func (.func 31) #[] #[], .pointer (some ⟨w.heap.size, 1, none⟩), .int .i64 ((k : Nat) : Int), .string B, .slice (some ⟨w3.heap.size, 0, none⟩) 3 3, .tuple #[], .pointer (some ⟨w.heap.size, 1, none⟩), .int .i64 ((k : Nat) : Int), .int .i64 (((k : Nat) : Int) - 1), .int .i64 (-1), .bool false, u34, u35, u36, u37, u38, u39, u40, u41, u42, u43, u44, u45, u46, u47, u48, u49, u50, u51, u52, u53, u54, u55, u56, u57, u58, u59, u60, u61, u62, u63, .pointer (some ⟨w.heap.size, 3, none⟩), .slice (some ⟨bC, oC, none⟩) nc cc, .int .i64 ((nc : Nat) : Int), .int .i64 ((i : Nat) : Int), u68, u69, u70, u71, u72, u73, (s 0), (s 1), (s 2), (s 3), (s 4), (s 5), (s 6), (s 7), (s 8), (s 9), (s 10), (s 11), (s 12), (s 13), (s 14), (s 15), (s 16), (s 17), (s 18), (s 19), (s 20), (s 21), (s 22), (s 23), (s 24), (s 25), (s 26), (s 27), u102, undef], defers := [] } ∧ Sv 28 [some (.func (.func 28) #[] #[.pointer (some ⟨w2.heap.size, 0, none⟩)]), some (.string K1), some (.func (.func 31) #[] #[]), some (.pointer (some ⟨wr.heap.size, 0, none⟩)), some (.pointer (some ⟨wr.heap.size, 0, none⟩)), some (.pointer (some ⟨wr.heap.size, 0, none⟩)), some (.int .i64 a), some (.string D1), some (.func (.func 31) #[] #[]), some (.pointer (some ⟨wr.heap.size, 0, none⟩)), some (.pointer (some ⟨wr.heap.size, 0, none⟩)), some (.pointer (some ⟨wr.heap.size, 1, none⟩)), some (.int .i64 b), some (.string D2), some (.func (.func 31) #[] #[]), some (.pointer (some ⟨wr.heap.size, 0, none⟩)), some (.pointer (some ⟨wr.heap.size, 2, none⟩)), some (.pointer (some ⟨wr.heap.size, 2, none⟩)), some (.int .i64 e), some (.string D3), some (.func (.func 31) #[] #[]), some (.pointer (some ⟨wr.heap.size, 0, none⟩)), some (.pointer (some ⟨wr.heap.size, 2, none⟩)), some (.pointer (some ⟨wr.heap.size, 3, none⟩)), some (.int .i64 f), some (.string D4), some (.slice (some ⟨wa.heap.size, 0, none⟩) 5 5), some (.tuple #[])] Lq s ∧ Cq [(4, 3), (5, 4), (6, 5), (7, 2), (7, 6), (10, 9), (11, 10), (12, 11), (13, 8), (13, 12), (16, 15), (17, 16), (18, 17), (19, 14), (19, 18), (22, 21), (23, 22), (24, 23), (25, 20), (25, 24), (26, 1), (26, 7), (26, 13), (26, 19), (26, 25), (27, 0), (27, 26)] Lq ∧ (Lq.getD 26 false = false → WN = wa.drew) ∧ (Lq.getD 26 false = true → Lq.getD 27 false = false → WN = (wa.alloc (.cells #[.string K1, .string D1, .string D2, .string D3, .string D4] 9)).drew) ∧ (Lq.getD 27 false = true → IsB w2.heap.size (headT Wn k ++ rowsT Wn mask k k ++ creasT (cs.take (i + 1))) WN ∧ Below w2.heap.size wa.drew WN)) (by kernel_rfl) ?_ ?_ ?_
                · exact ⟨listF [u74, u75, u76, u77, u78, u79, u80, u81, u82, u83, u84, u85, u86, u87, u88, u89, u90, u91, u92, u93, u94, u95, u96, u97, u98, u99, u100, u101], rfl, Sv.start 28 _ _, Cq.start _ _, fun _ => rfl, (fun h _ => (by rw [getD_replicate_false] at h; cases h)), (fun h => (by rw [getD_replicate_false] at h; cases h))⟩
                · intro Lq aq WN i0 hI hr
                  obtain ⟨s, rfl, hv, hcl, hA, hB, _⟩ := hI
                  have hi0 : i0 < 28 := ready_lt hr
                  have hno := (mem_ready.1 hr).1
                  have hsz := hv.sz
                  have HV := Lib.hid hv
                  have HSA := Lib.hid hA
                  have HSB := Lib.hid hB
                  have HCL := Lib.hid hcl
                  clear hv hA hB hcl
                  have hii : i0 = 0 ∨ i0 = 1 ∨ i0 = 2 ∨ i0 = 3 ∨ i0 = 4 ∨ i0 = 5 ∨ i0 = 6 ∨ i0 = 7 ∨ i0 = 8 ∨ i0 = 9 ∨ i0 = 10 ∨ i0 = 11 ∨ i0 = 12 ∨ i0 = 13 ∨ i0 = 14 ∨ i0 = 15 ∨ i0 = 16 ∨ i0 = 17 ∨ i0 = 18 ∨ i0 = 19 ∨ i0 = 20 ∨ i0 = 21 ∨ i0 = 22 ∨ i0 = 23 ∨ i0 = 24 ∨ i0 = 25 ∨ i0 = 26 ∨ i0 = 27 := by omega
                  clear hi0
                  rcases hii with rfl | rfl | rfl | rfl | rfl | rfl | rfl | rfl | rfl | rfl | rfl | rfl | rfl | rfl | rfl | rfl | rfl | rfl | rfl | rfl | rfl | rfl | rfl | rfl | rfl | rfl | rfl | rfl
                  · clear hr
                    have hz0 : Lq.getD 27 false = false := (HCL.out.no2 (s := 27) (i := 0) (by decide) (getD_both hno))
                    refine wpOp_step rfl (fun K hK => ?_)
                    go_simp
                    refine hK _ _ ?_
                    exact ⟨upd s 0 (.func (.func 28) #[] #[.pointer (some ⟨w2.heap.size, 0, none⟩)]), rfl, Sv.put HV.out (fun u hu => by cases hu; rfl), Cq.set HCL.out (by simp only [List.mem_cons, List.not_mem_nil, or_false]; rintro p (rfl | rfl | rfl | rfl | rfl | rfl | rfl | rfl | rfl | rfl | rfl | rfl | rfl | rfl | rfl | rfl | rfl | rfl | rfl | rfl | rfl | rfl | rfl | rfl | rfl | rfl | rfl) hp <;> first | assumption | (simp at hp; done)), (fun hh => HSA.out (by rw [set_other (show (0 : Nat) ≠ 26 by decide)] at hh; exact hh)), (fun hh _ => HSB.out (by rw [set_other (show (0 : Nat) ≠ 26 by decide)] at hh; exact hh) hz0), (fun hh => by rw [set_other (show (0 : Nat) ≠ 27 by decide), hz0] at hh; cases hh)⟩
                  · clear hr
                    have hz0 : Lq.getD 27 false = false := (HCL.out.no2 (s := 27) (i := 26) (by decide) (HCL.out.no2 (s := 26) (i := 1) (by decide) (getD_both hno)))
                    refine wpOp_step rfl (fun K hK => ?_)
                    go_simp
                    refine hK _ _ ?_
                    exact ⟨upd s 1 (.string K1), rfl, Sv.put HV.out (fun u hu => by cases hu; rfl), Cq.set HCL.out (by simp only [List.mem_cons, List.not_mem_nil, or_false]; rintro p (rfl | rfl | rfl | rfl | rfl | rfl | rfl | rfl | rfl | rfl | rfl | rfl | rfl | rfl | rfl | rfl | rfl | rfl | rfl | rfl | rfl | rfl | rfl | rfl | rfl | rfl | rfl) hp <;> first | assumption | (simp at hp; done)), (fun hh => HSA.out (by rw [set_other (show (1 : Nat) ≠ 26 by decide)] at hh; exact hh)), (fun hh _ => HSB.out (by rw [set_other (show (1 : Nat) ≠ 26 by decide)] at hh; exact hh) hz0), (fun hh => by rw [set_other (show (1 : Nat) ≠ 27 by decide), hz0] at hh; cases hh)⟩
                  · clear hr
                    have hz0 : Lq.getD 27 false = false := (HCL.out.no2 (s := 27) (i := 26) (by decide) (HCL.out.no2 (s := 26) (i := 7) (by decide) (HCL.out.no2 (s := 7) (i := 2) (by decide) (getD_both hno))))
                    refine wpOp_step rfl (fun K hK => ?_)
                    go_simp
                    refine hK _ _ ?_
                    exact ⟨upd s 2 (.func (.func 31) #[] #[]), rfl, Sv.put HV.out (fun u hu => by cases hu; rfl), Cq.set HCL.out (by simp only [List.mem_cons, List.not_mem_nil, or_false]; rintro p (rfl | rfl | rfl | rfl | rfl | rfl | rfl | rfl | rfl | rfl | rfl | rfl | rfl | rfl | rfl | rfl | rfl | rfl | rfl | rfl | rfl | rfl | rfl | rfl | rfl | rfl | rfl) hp <;> first | assumption | (simp at hp; done)), (fun hh => HSA.out (by rw [set_other (show (2 : Nat) ≠ 26 by decide)] at hh; exact hh)), (fun hh _ => HSB.out (by rw [set_other (show (2 : Nat) ≠ 26 by decide)] at hh; exact hh) hz0), (fun hh => by rw [set_other (show (2 : Nat) ≠ 27 by decide), hz0] at hh; cases hh)⟩
                  · clear hr
                    have hz0 : Lq.getD 27 false = false := (HCL.out.no2 (s := 27) (i := 26) (by decide) (HCL.out.no2 (s := 26) (i := 7) (by decide) (HCL.out.no2 (s := 7) (i := 6) (by decide) (HCL.out.no2 (s := 6) (i := 5) (by decide) (HCL.out.no2 (s := 5) (i := 4) (by decide) (HCL.out.no2 (s := 4) (i := 3) (by decide) (getD_both hno)))))))
                    refine wpOp_step rfl (fun K hK => ?_)
                    go_simp
                    refine hK _ _ ?_
                    exact ⟨upd s 3 (.pointer (some ⟨wr.heap.size, 0, none⟩)), rfl, Sv.put HV.out (fun u hu => by cases hu; rfl), Cq.set HCL.out (by simp only [List.mem_cons, List.not_mem_nil, or_false]; rintro p (rfl | rfl | rfl | rfl | rfl | rfl | rfl | rfl | rfl | rfl | rfl | rfl | rfl | rfl | rfl | rfl | rfl | rfl | rfl | rfl | rfl | rfl | rfl | rfl | rfl | rfl | rfl) hp <;> first | assumption | (simp at hp; done)), (fun hh => HSA.out (by rw [set_other (show (3 : Nat) ≠ 26 by decide)] at hh; exact hh)), (fun hh _ => HSB.out (by rw [set_other (show (3 : Nat) ≠ 26 by decide)] at hh; exact hh) hz0), (fun hh => by rw [set_other (show (3 : Nat) ≠ 27 by decide), hz0] at hh; cases hh)⟩
                  · have d3 := ready_dep hr (k := 3) (by kernel_rfl)
                    clear hr
                    have hz0 : Lq.getD 27 false = false := (HCL.out.no2 (s := 27) (i := 26) (by decide) (HCL.out.no2 (s := 26) (i := 7) (by decide) (HCL.out.no2 (s := 7) (i := 6) (by decide) (HCL.out.no2 (s := 6) (i := 5) (by decide) (HCL.out.no2 (s := 5) (i := 4) (by decide) (getD_both hno))))))
                    have e3 : s 3 = .pointer (some ⟨wr.heap.size, 0, none⟩) := HV.out.v d3 rfl
                    refine wpOp_step rfl (fun K hK => ?_)
                    go_simp
                    refine hK _ _ ?_
                    exact ⟨upd (upd s 3 (.pointer (some ⟨wr.heap.size, 0, none⟩))) 4 (.pointer (some ⟨wr.heap.size, 0, none⟩)), rfl, Sv.put (Sv.re (j := 3) (v := .pointer (some ⟨wr.heap.size, 0, none⟩)) HV.out e3) (fun u hu => by cases hu; rfl), Cq.set HCL.out (by simp only [List.mem_cons, List.not_mem_nil, or_false]; rintro p (rfl | rfl | rfl | rfl | rfl | rfl | rfl | rfl | rfl | rfl | rfl | rfl | rfl | rfl | rfl | rfl | rfl | rfl | rfl | rfl | rfl | rfl | rfl | rfl | rfl | rfl | rfl) hp <;> first | assumption | (simp at hp; done)), (fun hh => HSA.out (by rw [set_other (show (4 : Nat) ≠ 26 by decide)] at hh; exact hh)), (fun hh _ => HSB.out (by rw [set_other (show (4 : Nat) ≠ 26 by decide)] at hh; exact hh) hz0), (fun hh => by rw [set_other (show (4 : Nat) ≠ 27 by decide), hz0] at hh; cases hh)⟩
                  · have d4 := ready_dep hr (k := 4) (by kernel_rfl)
                    clear hr
                    have hz0 : Lq.getD 27 false = false := (HCL.out.no2 (s := 27) (i := 26) (by decide) (HCL.out.no2 (s := 26) (i := 7) (by decide) (HCL.out.no2 (s := 7) (i := 6) (by decide) (HCL.out.no2 (s := 6) (i := 5) (by decide) (getD_both hno)))))
                    have e4 : s 4 = .pointer (some ⟨wr.heap.size, 0, none⟩) := HV.out.v d4 rfl
                    refine wpOp_step rfl (fun K hK => ?_)
                    go_simp
                    refine hK _ _ ?_
                    exact ⟨upd (upd s 4 (.pointer (some ⟨wr.heap.size, 0, none⟩))) 5 (.pointer (some ⟨wr.heap.size, 0, none⟩)), rfl, Sv.put (Sv.re (j := 4) (v := .pointer (some ⟨wr.heap.size, 0, none⟩)) HV.out e4) (fun u hu => by cases hu; rfl), Cq.set HCL.out (by simp only [List.mem_cons, List.not_mem_nil, or_false]; rintro p (rfl | rfl | rfl | rfl | rfl | rfl | rfl | rfl | rfl | rfl | rfl | rfl | rfl | rfl | rfl | rfl | rfl | rfl | rfl | rfl | rfl | rfl | rfl | rfl | rfl | rfl | rfl) hp <;> first | assumption | (simp at hp; done)), (fun hh => HSA.out (by rw [set_other (show (5 : Nat) ≠ 26 by decide)] at hh; exact hh)), (fun hh _ => HSB.out (by rw [set_other (show (5 : Nat) ≠ 26 by decide)] at hh; exact hh) hz0), (fun hh => by rw [set_other (show (5 : Nat) ≠ 27 by decide), hz0] at hh; cases hh)⟩
                  · have d5 := ready_dep hr (k := 5) (by kernel_rfl)
                    clear hr
                    have hz0 : Lq.getD 27 false = false := (HCL.out.no2 (s := 27) (i := 26) (by decide) (HCL.out.no2 (s := 26) (i := 7) (by decide) (HCL.out.no2 (s := 7) (i := 6) (by decide) (getD_both hno))))
                    have e5 : s 5 = .pointer (some ⟨wr.heap.size, 0, none⟩) := HV.out.v d5 rfl
                    have hW : WN = wa.drew ∨ WN = (wa.alloc (.cells #[.string K1, .string D1, .string D2, .string D3, .string D4] 9)).drew := by
                      cases hq : Lq.getD 26 false with
                      | false => exact .inl (HSA.out hq)
                      | true => exact .inr (HSB.out hq hz0)
                    have x0 : WN.cell? ⟨wr.heap.size, 0, none⟩ = some (.int .i64 a) := by rcases hW with rfl | rfl <;> first | exact HW.out.1.1 | exact HW.out.2.1
                    have x1 : WN.cell? ⟨wr.heap.size, 1, none⟩ = some (.int .i64 b) := by rcases hW with rfl | rfl <;> first | exact HW.out.1.2.1 | exact HW.out.2.2.1
                    have x2 : WN.cell? ⟨wr.heap.size, 2, none⟩ = some (.int .i64 e) := by rcases hW with rfl | rfl <;> first | exact HW.out.1.2.2.1 | exact HW.out.2.2.2.1
                    have x3 : WN.cell? ⟨wr.heap.size, 3, none⟩ = some (.int .i64 f) := by rcases hW with rfl | rfl <;> first | exact HW.out.1.2.2.2 | exact HW.out.2.2.2.2
                    clear hW
                    refine wpOp_step rfl (fun K hK => ?_)
                    go_simp
                    refine hK _ _ ?_
                    exact ⟨upd (upd s 5 (.pointer (some ⟨wr.heap.size, 0, none⟩))) 6 (.int .i64 a), rfl, Sv.put (Sv.re (j := 5) (v := .pointer (some ⟨wr.heap.size, 0, none⟩)) HV.out e5) (fun u hu => by cases hu; rfl), Cq.set HCL.out (by simp only [List.mem_cons, List.not_mem_nil, or_false]; rintro p (rfl | rfl | rfl | rfl | rfl | rfl | rfl | rfl | rfl | rfl | rfl | rfl | rfl | rfl | rfl | rfl | rfl | rfl | rfl | rfl | rfl | rfl | rfl | rfl | rfl | rfl | rfl) hp <;> first | assumption | (simp at hp; done)), (fun hh => HSA.out (by rw [set_other (show (6 : Nat) ≠ 26 by decide)] at hh; exact hh)), (fun hh _ => HSB.out (by rw [set_other (show (6 : Nat) ≠ 26 by decide)] at hh; exact hh) hz0), (fun hh => by rw [set_other (show (6 : Nat) ≠ 27 by decide), hz0] at hh; cases hh)⟩
                  · have d2 := ready_dep hr (k := 2) (by kernel_rfl)
                    have d6 := ready_dep hr (k := 6) (by kernel_rfl)
                    clear hr
                    have hz0 : Lq.getD 27 false = false := (HCL.out.no2 (s := 27) (i := 26) (by decide) (HCL.out.no2 (s := 26) (i := 7) (by decide) (getD_both hno)))
                    have e2 : s 2 = .func (.func 31) #[] #[] := HV.out.v d2 rfl
                    have e6 : s 6 = .int .i64 a := HV.out.v d6 rfl
                    refine wpOp_step rfl (fun K hK => ?_)
                    go_simp
                    refine (C1.out _).mono ?_
                    rintro e' wc ⟨he, hbc⟩
                    subst he
                    subst hbc
                    refine hK _ _ ?_
                    exact ⟨upd (upd (upd s 2 (.func (.func 31) #[] #[])) 6 (.int .i64 a)) 7 (.string D1), rfl, Sv.put (Sv.re (j := 6) (v := .int .i64 a) (Sv.re (j := 2) (v := .func (.func 31) #[] #[]) HV.out e2) e6) (fun u hu => by cases hu; rfl), Cq.set HCL.out (by simp only [List.mem_cons, List.not_mem_nil, or_false]; rintro p (rfl | rfl | rfl | rfl | rfl | rfl | rfl | rfl | rfl | rfl | rfl | rfl | rfl | rfl | rfl | rfl | rfl | rfl | rfl | rfl | rfl | rfl | rfl | rfl | rfl | rfl | rfl) hp <;> first | assumption | (simp at hp; done)), (fun hh => HSA.out (by rw [set_other (show (7 : Nat) ≠ 26 by decide)] at hh; exact hh)), (fun hh _ => HSB.out (by rw [set_other (show (7 : Nat) ≠ 26 by decide)] at hh; exact hh) hz0), (fun hh => by rw [set_other (show (7 : Nat) ≠ 27 by decide), hz0] at hh; cases hh)⟩
                  · clear hr
                    have hz0 : Lq.getD 27 false = false := (HCL.out.no2 (s := 27) (i := 26) (by decide) (HCL.out.no2 (s := 26) (i := 13) (by decide) (HCL.out.no2 (s := 13) (i := 8) (by decide) (getD_both hno))))
                    refine wpOp_step rfl (fun K hK => ?_)
                    go_simp
                    refine hK _ _ ?_
                    exact ⟨upd s 8 (.func (.func 31) #[] #[]), rfl, Sv.put HV.out (fun u hu => by cases hu; rfl), Cq.set HCL.out (by simp only [List.mem_cons, List.not_mem_nil, or_false]; rintro p (rfl | rfl | rfl | rfl | rfl | rfl | rfl | rfl | rfl | rfl | rfl | rfl | rfl | rfl | rfl | rfl | rfl | rfl | rfl | rfl | rfl | rfl | rfl | rfl | rfl | rfl | rfl) hp <;> first | assumption | (simp at hp; done)), (fun hh => HSA.out (by rw [set_other (show (8 : Nat) ≠ 26 by decide)] at hh; exact hh)), (fun hh _ => HSB.out (by rw [set_other (show (8 : Nat) ≠ 26 by decide)] at hh; exact hh) hz0), (fun hh => by rw [set_other (show (8 : Nat) ≠ 27 by decide), hz0] at hh; cases hh)⟩
                  · clear hr
                    have hz0 : Lq.getD 27 false = false := (HCL.out.no2 (s := 27) (i := 26) (by decide) (HCL.out.no2 (s := 26) (i := 13) (by decide) (HCL.out.no2 (s := 13) (i := 12) (by decide) (HCL.out.no2 (s := 12) (i := 11) (by decide) (HCL.out.no2 (s := 11) (i := 10) (by decide) (HCL.out.no2 (s := 10) (i := 9) (by decide) (getD_both hno)))))))
                    refine wpOp_step rfl (fun K hK => ?_)
                    go_simp
                    refine hK _ _ ?_
                    exact ⟨upd s 9 (.pointer (some ⟨wr.heap.size, 0, none⟩)), rfl, Sv.put HV.out (fun u hu => by cases hu; rfl), Cq.set HCL.out (by simp only [List.mem_cons, List.not_mem_nil, or_false]; rintro p (rfl | rfl | rfl | rfl | rfl | rfl | rfl | rfl | rfl | rfl | rfl | rfl | rfl | rfl | rfl | rfl | rfl | rfl | rfl | rfl | rfl | rfl | rfl | rfl | rfl | rfl | rfl) hp <;> first | assumption | (simp at hp; done)), (fun hh => HSA.out (by rw [set_other (show (9 : Nat) ≠ 26 by decide)] at hh; exact hh)), (fun hh _ => HSB.out (by rw [set_other (show (9 : Nat) ≠ 26 by decide)] at hh; exact hh) hz0), (fun hh => by rw [set_other (show (9 : Nat) ≠ 27 by decide), hz0] at hh; cases hh)⟩
                  · have d9 := ready_dep hr (k := 9) (by kernel_rfl)
                    clear hr
                    have hz0 : Lq.getD 27 false = false := (HCL.out.no2 (s := 27) (i := 26) (by decide) (HCL.out.no2 (s := 26) (i := 13) (by decide) (HCL.out.no2 (s := 13) (i := 12) (by decide) (HCL.out.no2 (s := 12) (i := 11) (by decide) (HCL.out.no2 (s := 11) (i := 10) (by decide) (getD_both hno))))))
                    have e9 : s 9 = .pointer (some ⟨wr.heap.size, 0, none⟩) := HV.out.v d9 rfl
                    refine wpOp_step rfl (fun K hK => ?_)
                    go_simp
                    refine hK _ _ ?_
                    exact ⟨upd (upd s 9 (.pointer (some ⟨wr.heap.size, 0, none⟩))) 10 (.pointer (some ⟨wr.heap.size, 0, none⟩)), rfl, Sv.put (Sv.re (j := 9) (v := .pointer (some ⟨wr.heap.size, 0, none⟩)) HV.out e9) (fun u hu => by cases hu; rfl), Cq.set HCL.out (by simp only [List.mem_cons, List.not_mem_nil, or_false]; rintro p (rfl | rfl | rfl | rfl | rfl | rfl | rfl | rfl | rfl | rfl | rfl | rfl | rfl | rfl | rfl | rfl | rfl | rfl | rfl | rfl | rfl | rfl | rfl | rfl | rfl | rfl | rfl) hp <;> first | assumption | (simp at hp; done)), (fun hh => HSA.out (by rw [set_other (show (10 : Nat) ≠ 26 by decide)] at hh; exact hh)), (fun hh _ => HSB.out (by rw [set_other (show (10 : Nat) ≠ 26 by decide)] at hh; exact hh) hz0), (fun hh => by rw [set_other (show (10 : Nat) ≠ 27 by decide), hz0] at hh; cases hh)⟩
                  · have d10 := ready_dep hr (k := 10) (by kernel_rfl)
                    clear hr
                    have hz0 : Lq.getD 27 false = false := (HCL.out.no2 (s := 27) (i := 26) (by decide) (HCL.out.no2 (s := 26) (i := 13) (by decide) (HCL.out.no2 (s := 13) (i := 12) (by decide) (HCL.out.no2 (s := 12) (i := 11) (by decide) (getD_both hno)))))
                    have e10 : s 10 = .pointer (some ⟨wr.heap.size, 0, none⟩) := HV.out.v d10 rfl
                    refine wpOp_step rfl (fun K hK => ?_)
                    go_simp
                    refine hK _ _ ?_
                    exact ⟨upd (upd s 10 (.pointer (some ⟨wr.heap.size, 0, none⟩))) 11 (.pointer (some ⟨wr.heap.size, 1, none⟩)), rfl, Sv.put (Sv.re (j := 10) (v := .pointer (some ⟨wr.heap.size, 0, none⟩)) HV.out e10) (fun u hu => by cases hu; rfl), Cq.set HCL.out (by simp only [List.mem_cons, List.not_mem_nil, or_false]; rintro p (rfl | rfl | rfl | rfl | rfl | rfl | rfl | rfl | rfl | rfl | rfl | rfl | rfl | rfl | rfl | rfl | rfl | rfl | rfl | rfl | rfl | rfl | rfl | rfl | rfl | rfl | rfl) hp <;> first | assumption | (simp at hp; done)), (fun hh => HSA.out (by rw [set_other (show (11 : Nat) ≠ 26 by decide)] at hh; exact hh)), (fun hh _ => HSB.out (by rw [set_other (show (11 : Nat) ≠ 26 by decide)] at hh; exact hh) hz0), (fun hh => by rw [set_other (show (11 : Nat) ≠ 27 by decide), hz0] at hh; cases hh)⟩
                  · have d11 := ready_dep hr (k := 11) (by kernel_rfl)
                    clear hr
                    have hz0 : Lq.getD 27 false = false := (HCL.out.no2 (s := 27) (i := 26) (by decide) (HCL.out.no2 (s := 26) (i := 13) (by decide) (HCL.out.no2 (s := 13) (i := 12) (by decide) (getD_both hno))))
                    have e11 : s 11 = .pointer (some ⟨wr.heap.size, 1, none⟩) := HV.out.v d11 rfl
                    have hW : WN = wa.drew ∨ WN = (wa.alloc (.cells #[.string K1, .string D1, .string D2, .string D3, .string D4] 9)).drew := by
                      cases hq : Lq.getD 26 false with
                      | false => exact .inl (HSA.out hq)
                      | true => exact .inr (HSB.out hq hz0)
                    have x0 : WN.cell? ⟨wr.heap.size, 0, none⟩ = some (.int .i64 a) := by rcases hW with rfl | rfl <;> first | exact HW.out.1.1 | exact HW.out.2.1
                    have x1 : WN.cell? ⟨wr.heap.size, 1, none⟩ = some (.int .i64 b) := by rcases hW with rfl | rfl <;> first | exact HW.out.1.2.1 | exact HW.out.2.2.1
                    have x2 : WN.cell? ⟨wr.heap.size, 2, none⟩ = some (.int .i64 e) := by rcases hW with rfl | rfl <;> first | exact HW.out.1.2.2.1 | exact HW.out.2.2.2.1
                    have x3 : WN.cell? ⟨wr.heap.size, 3, none⟩ = some (.int .i64 f) := by rcases hW with rfl | rfl <;> first | exact HW.out.1.2.2.2 | exact HW.out.2.2.2.2
                    clear hW
                    refine wpOp_step rfl (fun K hK => ?_)
                    go_simp
                    refine hK _ _ ?_
                    exact ⟨upd (upd s 11 (.pointer (some ⟨wr.heap.size, 1, none⟩))) 12 (.int .i64 b), rfl, Sv.put (Sv.re (j := 11) (v := .pointer (some ⟨wr.heap.size, 1, none⟩)) HV.out e11) (fun u hu => by cases hu; rfl), Cq.set HCL.out (by simp only [List.mem_cons, List.not_mem_nil, or_false]; rintro p (rfl | rfl | rfl | rfl | rfl | rfl | rfl | rfl | rfl | rfl | rfl | rfl | rfl | rfl | rfl | rfl | rfl | rfl | rfl | rfl | rfl | rfl | rfl | rfl | rfl | rfl | rfl) hp <;> first | assumption | (simp at hp; done)), (fun hh => HSA.out (by rw [set_other (show (12 : Nat) ≠ 26 by decide)] at hh; exact hh)), (fun hh _ => HSB.out (by rw [set_other (show (12 : Nat) ≠ 26 by decide)] at hh; exact hh) hz0), (fun hh => by rw [set_other (show (12 : Nat) ≠ 27 by decide), hz0] at hh; cases hh)⟩
                  · have d8 := ready_dep hr (k := 8) (by kernel_rfl)
                    have d12 := ready_dep hr (k := 12) (by kernel_rfl)
                    clear hr
                    have hz0 : Lq.getD 27 false = false := (HCL.out.no2 (s := 27) (i := 26) (by decide) (HCL.out.no2 (s := 26) (i := 13) (by decide) (getD_both hno)))
                    have e8 : s 8 = .func (.func 31) #[] #[] := HV.out.v d8 rfl
                    have e12 : s 12 = .int .i64 b := HV.out.v d12 rfl
                    refine wpOp_step rfl (fun K hK => ?_)
                    go_simp
                    refine (C2.out _).mono ?_
                    rintro e' wc ⟨he, hbc⟩
                    subst he
                    subst hbc
                    refine hK _ _ ?_
                    exact ⟨upd (upd (upd s 8 (.func (.func 31) #[] #[])) 12 (.int .i64 b)) 13 (.string D2), rfl, Sv.put (Sv.re (j := 12) (v := .int .i64 b) (Sv.re (j := 8) (v := .func (.func 31) #[] #[]) HV.out e8) e12) (fun u hu => by cases hu; rfl), Cq.set HCL.out (by simp only [List.mem_cons, List.not_mem_nil, or_false]; rintro p (rfl | rfl | rfl | rfl | rfl | rfl | rfl | rfl | rfl | rfl | rfl | rfl | rfl | rfl | rfl | rfl | rfl | rfl | rfl | rfl | rfl | rfl | rfl | rfl | rfl | rfl | rfl) hp <;> first | assumption | (simp at hp; done)), (fun hh => HSA.out (by rw [set_other (show (13 : Nat) ≠ 26 by decide)] at hh; exact hh)), (fun hh _ => HSB.out (by rw [set_other (show (13 : Nat) ≠ 26 by decide)] at hh; exact hh) hz0), (fun hh => by rw [set_other (show (13 : Nat) ≠ 27 by decide), hz0] at hh; cases hh)⟩
                  · clear hr
                    have hz0 : Lq.getD 27 false = false := (HCL.out.no2 (s := 27) (i := 26) (by decide) (HCL.out.no2 (s := 26) (i := 19) (by decide) (HCL.out.no2 (s := 19) (i := 14) (by decide) (getD_both hno))))
                    refine wpOp_step rfl (fun K hK => ?_)
                    go_simp
                    refine hK _ _ ?_
                    exact ⟨upd s 14 (.func (.func 31) #[] #[]), rfl, Sv.put HV.out (fun u hu => by cases hu; rfl), Cq.set HCL.out (by simp only [List.mem_cons, List.not_mem_nil, or_false]; rintro p (rfl | rfl | rfl | rfl | rfl | rfl | rfl | rfl | rfl | rfl | rfl | rfl | rfl | rfl | rfl | rfl | rfl | rfl | rfl | rfl | rfl | rfl | rfl | rfl | rfl | rfl | rfl) hp <;> first | assumption | (simp at hp; done)), (fun hh => HSA.out (by rw [set_other (show (14 : Nat) ≠ 26 by decide)] at hh; exact hh)), (fun hh _ => HSB.out (by rw [set_other (show (14 : Nat) ≠ 26 by decide)] at hh; exact hh) hz0), (fun hh => by rw [set_other (show (14 : Nat) ≠ 27 by decide), hz0] at hh; cases hh)⟩
                  · clear hr
                    have hz0 : Lq.getD 27 false = false := (HCL.out.no2 (s := 27) (i := 26) (by decide) (HCL.out.no2 (s := 26) (i := 19) (by decide) (HCL.out.no2 (s := 19) (i := 18) (by decide) (HCL.out.no2 (s := 18) (i := 17) (by decide) (HCL.out.no2 (s := 17) (i := 16) (by decide) (HCL.out.no2 (s := 16) (i := 15) (by decide) (getD_both hno)))))))
                    refine wpOp_step rfl (fun K hK => ?_)
                    go_simp
                    refine hK _ _ ?_
                    exact ⟨upd s 15 (.pointer (some ⟨wr.heap.size, 0, none⟩)), rfl, Sv.put HV.out (fun u hu => by cases hu; rfl), Cq.set HCL.out (by simp only [List.mem_cons, List.not_mem_nil, or_false]; rintro p (rfl | rfl | rfl | rfl | rfl | rfl | rfl | rfl | rfl | rfl | rfl | rfl | rfl | rfl | rfl | rfl | rfl | rfl | rfl | rfl | rfl | rfl | rfl | rfl | rfl | rfl | rfl) hp <;> first | assumption | (simp at hp; done)), (fun hh => HSA.out (by rw [set_other (show (15 : Nat) ≠ 26 by decide)] at hh; exact hh)), (fun hh _ => HSB.out (by rw [set_other (show (15 : Nat) ≠ 26 by decide)] at hh; exact hh) hz0), (fun hh => by rw [set_other (show (15 : Nat) ≠ 27 by decide), hz0] at hh; cases hh)⟩
                  · have d15 := ready_dep hr (k := 15) (by kernel_rfl)
                    clear hr
                    have hz0 : Lq.getD 27 false = false := (HCL.out.no2 (s := 27) (i := 26) (by decide) (HCL.out.no2 (s := 26) (i := 19) (by decide) (HCL.out.no2 (s := 19) (i := 18) (by decide) (HCL.out.no2 (s := 18) (i := 17) (by decide) (HCL.out.no2 (s := 17) (i := 16) (by decide) (getD_both hno))))))
                    have e15 : s 15 = .pointer (some ⟨wr.heap.size, 0, none⟩) := HV.out.v d15 rfl
                    refine wpOp_step rfl (fun K hK => ?_)
                    go_simp
                    refine hK _ _ ?_
                    exact ⟨upd (upd s 15 (.pointer (some ⟨wr.heap.size, 0, none⟩))) 16 (.pointer (some ⟨wr.heap.size, 2, none⟩)), rfl, Sv.put (Sv.re (j := 15) (v := .pointer (some ⟨wr.heap.size, 0, none⟩)) HV.out e15) (fun u hu => by cases hu; rfl), Cq.set HCL.out (by simp only [List.mem_cons, List.not_mem_nil, or_false]; rintro p (rfl | rfl | rfl | rfl | rfl | rfl | rfl | rfl | rfl | rfl | rfl | rfl | rfl | rfl | rfl | rfl | rfl | rfl | rfl | rfl | rfl | rfl | rfl | rfl | rfl | rfl | rfl) hp <;> first | assumption | (simp at hp; done)), (fun hh => HSA.out (by rw [set_other (show (16 : Nat) ≠ 26 by decide)] at hh; exact hh)), (fun hh _ => HSB.out (by rw [set_other (show (16 : Nat) ≠ 26 by decide)] at hh; exact hh) hz0), (fun hh => by rw [set_other (show (16 : Nat) ≠ 27 by decide), hz0] at hh; cases hh)⟩
                  · have d16 := ready_dep hr (k := 16) (by kernel_rfl)
                    clear hr
                    have hz0 : Lq.getD 27 false = false := (HCL.out.no2 (s := 27) (i := 26) (by decide) (HCL.out.no2 (s := 26) (i := 19) (by decide) (HCL.out.no2 (s := 19) (i := 18) (by decide) (HCL.out.no2 (s := 18) (i := 17) (by decide) (getD_both hno)))))
                    have e16 : s 16 = .pointer (some ⟨wr.heap.size, 2, none⟩) := HV.out.v d16 rfl
                    refine wpOp_step rfl (fun K hK => ?_)
                    go_simp
                    refine hK _ _ ?_
                    exact ⟨upd (upd s 16 (.pointer (some ⟨wr.heap.size, 2, none⟩))) 17 (.pointer (some ⟨wr.heap.size, 2, none⟩)), rfl, Sv.put (Sv.re (j := 16) (v := .pointer (some ⟨wr.heap.size, 2, none⟩)) HV.out e16) (fun u hu => by cases hu; rfl), Cq.set HCL.out (by simp only [List.mem_cons, List.not_mem_nil, or_false]; rintro p (rfl | rfl | rfl | rfl | rfl | rfl | rfl | rfl | rfl | rfl | rfl | rfl | rfl | rfl | rfl | rfl | rfl | rfl | rfl | rfl | rfl | rfl | rfl | rfl | rfl | rfl | rfl) hp <;> first | assumption | (simp at hp; done)), (fun hh => HSA.out (by rw [set_other (show (17 : Nat) ≠ 26 by decide)] at hh; exact hh)), (fun hh _ => HSB.out (by rw [set_other (show (17 : Nat) ≠ 26 by decide)] at hh; exact hh) hz0), (fun hh => by rw [set_other (show (17 : Nat) ≠ 27 by decide), hz0] at hh; cases hh)⟩
                  · have d17 := ready_dep hr (k := 17) (by kernel_rfl)
                    clear hr
                    have hz0 : Lq.getD 27 false = false := (HCL.out.no2 (s := 27) (i := 26) (by decide) (HCL.out.no2 (s := 26) (i := 19) (by decide) (HCL.out.no2 (s := 19) (i := 18) (by decide) (getD_both hno))))
                    have e17 : s 17 = .pointer (some ⟨wr.heap.size, 2, none⟩) := HV.out.v d17 rfl
                    have hW : WN = wa.drew ∨ WN = (wa.alloc (.cells #[.string K1, .string D1, .string D2, .string D3, .string D4] 9)).drew := by
                      cases hq : Lq.getD 26 false with
                      | false => exact .inl (HSA.out hq)
                      | true => exact .inr (HSB.out hq hz0)
                    have x0 : WN.cell? ⟨wr.heap.size, 0, none⟩ = some (.int .i64 a) := by rcases hW with rfl | rfl <;> first | exact HW.out.1.1 | exact HW.out.2.1
                    have x1 : WN.cell? ⟨wr.heap.size, 1, none⟩ = some (.int .i64 b) := by rcases hW with rfl | rfl <;> first | exact HW.out.1.2.1 | exact HW.out.2.2.1
                    have x2 : WN.cell? ⟨wr.heap.size, 2, none⟩ = some (.int .i64 e) := by rcases hW with rfl | rfl <;> first | exact HW.out.1.2.2.1 | exact HW.out.2.2.2.1
                    have x3 : WN.cell? ⟨wr.heap.size, 3, none⟩ = some (.int .i64 f) := by rcases hW with rfl | rfl <;> first | exact HW.out.1.2.2.2 | exact HW.out.2.2.2.2
                    clear hW
                    refine wpOp_step rfl (fun K hK => ?_)
                    go_simp
                    refine hK _ _ ?_
                    exact ⟨upd (upd s 17 (.pointer (some ⟨wr.heap.size, 2, none⟩))) 18 (.int .i64 e), rfl, Sv.put (Sv.re (j := 17) (v := .pointer (some ⟨wr.heap.size, 2, none⟩)) HV.out e17) (fun u hu => by cases hu; rfl), Cq.set HCL.out (by simp only [List.mem_cons, List.not_mem_nil, or_false]; rintro p (rfl | rfl | rfl | rfl | rfl | rfl | rfl | rfl | rfl | rfl | rfl | rfl | rfl | rfl | rfl | rfl | rfl | rfl | rfl | rfl | rfl | rfl | rfl | rfl | rfl | rfl | rfl) hp <;> first | assumption | (simp at hp; done)), (fun hh => HSA.out (by rw [set_other (show (18 : Nat) ≠ 26 by decide)] at hh; exact hh)), (fun hh _ => HSB.out (by rw [set_other (show (18 : Nat) ≠ 26 by decide)] at hh; exact hh) hz0), (fun hh => by rw [set_other (show (18 : Nat) ≠ 27 by decide), hz0] at hh; cases hh)⟩
                  · have d14 := ready_dep hr (k := 14) (by kernel_rfl)
                    have d18 := ready_dep hr (k := 18) (by kernel_rfl)
                    clear hr
                    have hz0 : Lq.getD 27 false = false := (HCL.out.no2 (s := 27) (i := 26) (by decide) (HCL.out.no2 (s := 26) (i := 19) (by decide) (getD_both hno)))
                    have e14 : s 14 = .func (.func 31) #[] #[] := HV.out.v d14 rfl
                    have e18 : s 18 = .int .i64 e := HV.out.v d18 rfl
                    refine wpOp_step rfl (fun K hK => ?_)
                    go_simp
                    refine (C3.out _).mono ?_
                    rintro e' wc ⟨he, hbc⟩
                    subst he
                    subst hbc
                    refine hK _ _ ?_
                    exact ⟨upd (upd (upd s 14 (.func (.func 31) #[] #[])) 18 (.int .i64 e)) 19 (.string D3), rfl, Sv.put (Sv.re (j := 18) (v := .int .i64 e) (Sv.re (j := 14) (v := .func (.func 31) #[] #[]) HV.out e14) e18) (fun u hu => by cases hu; rfl), Cq.set HCL.out (by simp only [List.mem_cons, List.not_mem_nil, or_false]; rintro p (rfl | rfl | rfl | rfl | rfl | rfl | rfl | rfl | rfl | rfl | rfl | rfl | rfl | rfl | rfl | rfl | rfl | rfl | rfl | rfl | rfl | rfl | rfl | rfl | rfl | rfl | rfl) hp <;> first | assumption | (simp at hp; done)), (fun hh => HSA.out (by rw [set_other (show (19 : Nat) ≠ 26 by decide)] at hh; exact hh)), (fun hh _ => HSB.out (by rw [set_other (show (19 : Nat) ≠ 26 by decide)] at hh; exact hh) hz0), (fun hh => by rw [set_other (show (19 : Nat) ≠ 27 by decide), hz0] at hh; cases hh)⟩
                  · clear hr
                    have hz0 : Lq.getD 27 false = false := (HCL.out.no2 (s := 27) (i := 26) (by decide) (HCL.out.no2 (s := 26) (i := 25) (by decide) (HCL.out.no2 (s := 25) (i := 20) (by decide) (getD_both hno))))
                    refine wpOp_step rfl (fun K hK => ?_)
                    go_simp
                    refine hK _ _ ?_
                    exact ⟨upd s 20 (.func (.func 31) #[] #[]), rfl, Sv.put HV.out (fun u hu => by cases hu; rfl), Cq.set HCL.out (by simp only [List.mem_cons, List.not_mem_nil, or_false]; rintro p (rfl | rfl | rfl | rfl | rfl | rfl | rfl | rfl | rfl | rfl | rfl | rfl | rfl | rfl | rfl | rfl | rfl | rfl | rfl | rfl | rfl | rfl | rfl | rfl | rfl | rfl | rfl) hp <;> first | assumption | (simp at hp; done)), (fun hh => HSA.out (by rw [set_other (show (20 : Nat) ≠ 26 by decide)] at hh; exact hh)), (fun hh _ => HSB.out (by rw [set_other (show (20 : Nat) ≠ 26 by decide)] at hh; exact hh) hz0), (fun hh => by rw [set_other (show (20 : Nat) ≠ 27 by decide), hz0] at hh; cases hh)⟩
                  · clear hr
                    have hz0 : Lq.getD 27 false = false := (HCL.out.no2 (s := 27) (i := 26) (by decide) (HCL.out.no2 (s := 26) (i := 25) (by decide) (HCL.out.no2 (s := 25) (i := 24) (by decide) (HCL.out.no2 (s := 24) (i := 23) (by decide) (HCL.out.no2 (s := 23) (i := 22) (by decide) (HCL.out.no2 (s := 22) (i := 21) (by decide) (getD_both hno)))))))
                    refine wpOp_step rfl (fun K hK => ?_)
                    go_simp
                    refine hK _ _ ?_
                    exact ⟨upd s 21 (.pointer (some ⟨wr.heap.size, 0, none⟩)), rfl, Sv.put HV.out (fun u hu => by cases hu; rfl), Cq.set HCL.out (by simp only [List.mem_cons, List.not_mem_nil, or_false]; rintro p (rfl | rfl | rfl | rfl | rfl | rfl | rfl | rfl | rfl | rfl | rfl | rfl | rfl | rfl | rfl | rfl | rfl | rfl | rfl | rfl | rfl | rfl | rfl | rfl | rfl | rfl | rfl) hp <;> first | assumption | (simp at hp; done)), (fun hh => HSA.out (by rw [set_other (show (21 : Nat) ≠ 26 by decide)] at hh; exact hh)), (fun hh _ => HSB.out (by rw [set_other (show (21 : Nat) ≠ 26 by decide)] at hh; exact hh) hz0), (fun hh => by rw [set_other (show (21 : Nat) ≠ 27 by decide), hz0] at hh; cases hh)⟩
                  · have d21 := ready_dep hr (k := 21) (by kernel_rfl)
                    clear hr
                    have hz0 : Lq.getD 27 false = false := (HCL.out.no2 (s := 27) (i := 26) (by decide) (HCL.out.no2 (s := 26) (i := 25) (by decide) (HCL.out.no2 (s := 25) (i := 24) (by decide) (HCL.out.no2 (s := 24) (i := 23) (by decide) (HCL.out.no2 (s := 23) (i := 22) (by decide) (getD_both hno))))))
                    have e21 : s 21 = .pointer (some ⟨wr.heap.size, 0, none⟩) := HV.out.v d21 rfl
                    refine wpOp_step rfl (fun K hK => ?_)
                    go_simp
                    refine hK _ _ ?_
                    exact ⟨upd (upd s 21 (.pointer (some ⟨wr.heap.size, 0, none⟩))) 22 (.pointer (some ⟨wr.heap.size, 2, none⟩)), rfl, Sv.put (Sv.re (j := 21) (v := .pointer (some ⟨wr.heap.size, 0, none⟩)) HV.out e21) (fun u hu => by cases hu; rfl), Cq.set HCL.out (by simp only [List.mem_cons, List.not_mem_nil, or_false]; rintro p (rfl | rfl | rfl | rfl | rfl | rfl | rfl | rfl | rfl | rfl | rfl | rfl | rfl | rfl | rfl | rfl | rfl | rfl | rfl | rfl | rfl | rfl | rfl | rfl | rfl | rfl | rfl) hp <;> first | assumption | (simp at hp; done)), (fun hh => HSA.out (by rw [set_other (show (22 : Nat) ≠ 26 by decide)] at hh; exact hh)), (fun hh _ => HSB.out (by rw [set_other (show (22 : Nat) ≠ 26 by decide)] at hh; exact hh) hz0), (fun hh => by rw [set_other (show (22 : Nat) ≠ 27 by decide), hz0] at hh; cases hh)⟩
                  · have d22 := ready_dep hr (k := 22) (by kernel_rfl)
                    clear hr
                    have hz0 : Lq.getD 27 false = false := (HCL.out.no2 (s := 27) (i := 26) (by decide) (HCL.out.no2 (s := 26) (i := 25) (by decide) (HCL.out.no2 (s := 25) (i := 24) (by decide) (HCL.out.no2 (s := 24) (i := 23) (by decide) (getD_both hno)))))
                    have e22 : s 22 = .pointer (some ⟨wr.heap.size, 2, none⟩) := HV.out.v d22 rfl
                    refine wpOp_step rfl (fun K hK => ?_)
                    go_simp
                    refine hK _ _ ?_
                    exact ⟨upd (upd s 22 (.pointer (some ⟨wr.heap.size, 2, none⟩))) 23 (.pointer (some ⟨wr.heap.size, 3, none⟩)), rfl, Sv.put (Sv.re (j := 22) (v := .pointer (some ⟨wr.heap.size, 2, none⟩)) HV.out e22) (fun u hu => by cases hu; rfl), Cq.set HCL.out (by simp only [List.mem_cons, List.not_mem_nil, or_false]; rintro p (rfl | rfl | rfl | rfl | rfl | rfl | rfl | rfl | rfl | rfl | rfl | rfl | rfl | rfl | rfl | rfl | rfl | rfl | rfl | rfl | rfl | rfl | rfl | rfl | rfl | rfl | rfl) hp <;> first | assumption | (simp at hp; done)), (fun hh => HSA.out (by rw [set_other (show (23 : Nat) ≠ 26 by decide)] at hh; exact hh)), (fun hh _ => HSB.out (by rw [set_other (show (23 : Nat) ≠ 26 by decide)] at hh; exact hh) hz0), (fun hh => by rw [set_other (show (23 : Nat) ≠ 27 by decide), hz0] at hh; cases hh)⟩
                  · have d23 := ready_dep hr (k := 23) (by kernel_rfl)
                    clear hr
                    have hz0 : Lq.getD 27 false = false := (HCL.out.no2 (s := 27) (i := 26) (by decide) (HCL.out.no2 (s := 26) (i := 25) (by decide) (HCL.out.no2 (s := 25) (i := 24) (by decide) (getD_both hno))))
                    have e23 : s 23 = .pointer (some ⟨wr.heap.size, 3, none⟩) := HV.out.v d23 rfl
                    have hW : WN = wa.drew ∨ WN = (wa.alloc (.cells #[.string K1, .string D1, .string D2, .string D3, .string D4] 9)).drew := by
                      cases hq : Lq.getD 26 false with
                      | false => exact .inl (HSA.out hq)
                      | true => exact .inr (HSB.out hq hz0)
                    have x0 : WN.cell? ⟨wr.heap.size, 0, none⟩ = some (.int .i64 a) := by rcases hW with rfl | rfl <;> first | exact HW.out.1.1 | exact HW.out.2.1
                    have x1 : WN.cell? ⟨wr.heap.size, 1, none⟩ = some (.int .i64 b) := by rcases hW with rfl | rfl <;> first | exact HW.out.1.2.1 | exact HW.out.2.2.1
                    have x2 : WN.cell? ⟨wr.heap.size, 2, none⟩ = some (.int .i64 e) := by rcases hW with rfl | rfl <;> first | exact HW.out.1.2.2.1 | exact HW.out.2.2.2.1
                    have x3 : WN.cell? ⟨wr.heap.size, 3, none⟩ = some (.int .i64 f) := by rcases hW with rfl | rfl <;> first | exact HW.out.1.2.2.2 | exact HW.out.2.2.2.2
                    clear hW
                    refine wpOp_step rfl (fun K hK => ?_)
                    go_simp
                    refine hK _ _ ?_
                    exact ⟨upd (upd s 23 (.pointer (some ⟨wr.heap.size, 3, none⟩))) 24 (.int .i64 f), rfl, Sv.put (Sv.re (j := 23) (v := .pointer (some ⟨wr.heap.size, 3, none⟩)) HV.out e23) (fun u hu => by cases hu; rfl), Cq.set HCL.out (by simp only [List.mem_cons, List.not_mem_nil, or_false]; rintro p (rfl | rfl | rfl | rfl | rfl | rfl | rfl | rfl | rfl | rfl | rfl | rfl | rfl | rfl | rfl | rfl | rfl | rfl | rfl | rfl | rfl | rfl | rfl | rfl | rfl | rfl | rfl) hp <;> first | assumption | (simp at hp; done)), (fun hh => HSA.out (by rw [set_other (show (24 : Nat) ≠ 26 by decide)] at hh; exact hh)), (fun hh _ => HSB.out (by rw [set_other (show (24 : Nat) ≠ 26 by decide)] at hh; exact hh) hz0), (fun hh => by rw [set_other (show (24 : Nat) ≠ 27 by decide), hz0] at hh; cases hh)⟩
                  · have d20 := ready_dep hr (k := 20) (by kernel_rfl)
                    have d24 := ready_dep hr (k := 24) (by kernel_rfl)
                    clear hr
                    have hz0 : Lq.getD 27 false = false := (HCL.out.no2 (s := 27) (i := 26) (by decide) (HCL.out.no2 (s := 26) (i := 25) (by decide) (getD_both hno)))
                    have e20 : s 20 = .func (.func 31) #[] #[] := HV.out.v d20 rfl
                    have e24 : s 24 = .int .i64 f := HV.out.v d24 rfl
                    refine wpOp_step rfl (fun K hK => ?_)
                    go_simp
                    refine (C4.out _).mono ?_
                    rintro e' wc ⟨he, hbc⟩
                    subst he
                    subst hbc
                    refine hK _ _ ?_
                    exact ⟨upd (upd (upd s 20 (.func (.func 31) #[] #[])) 24 (.int .i64 f)) 25 (.string D4), rfl, Sv.put (Sv.re (j := 24) (v := .int .i64 f) (Sv.re (j := 20) (v := .func (.func 31) #[] #[]) HV.out e20) e24) (fun u hu => by cases hu; rfl), Cq.set HCL.out (by simp only [List.mem_cons, List.not_mem_nil, or_false]; rintro p (rfl | rfl | rfl | rfl | rfl | rfl | rfl | rfl | rfl | rfl | rfl | rfl | rfl | rfl | rfl | rfl | rfl | rfl | rfl | rfl | rfl | rfl | rfl | rfl | rfl | rfl | rfl) hp <;> first | assumption | (simp at hp; done)), (fun hh => HSA.out (by rw [set_other (show (25 : Nat) ≠ 26 by decide)] at hh; exact hh)), (fun hh _ => HSB.out (by rw [set_other (show (25 : Nat) ≠ 26 by decide)] at hh; exact hh) hz0), (fun hh => by rw [set_other (show (25 : Nat) ≠ 27 by decide), hz0] at hh; cases hh)⟩
                  · have d1 := ready_dep hr (k := 1) (by kernel_rfl)
                    have d7 := ready_dep hr (k := 7) (by kernel_rfl)
                    have d13 := ready_dep hr (k := 13) (by kernel_rfl)
                    have d19 := ready_dep hr (k := 19) (by kernel_rfl)
                    have d25 := ready_dep hr (k := 25) (by kernel_rfl)
                    clear hr
                    have hz0 : Lq.getD 27 false = false := (HCL.out.no2 (s := 27) (i := 26) (by decide) (getD_both hno))
                    have e1 : s 1 = .string K1 := HV.out.v d1 rfl
                    have e7 : s 7 = .string D1 := HV.out.v d7 rfl
                    have e13 : s 13 = .string D2 := HV.out.v d13 rfl
                    have e19 : s 19 = .string D3 := HV.out.v d19 rfl
                    have e25 : s 25 = .string D4 := HV.out.v d25 rfl
                    have hm0 := HSA.out (getD_both hno)
                    subst hm0
                    refine wpOp_step rfl (fun K hK => ?_)
                    go_simp
                    refine hK _ _ ?_
                    exact ⟨upd (upd (upd (upd (upd (upd s 1 (.string K1)) 7 (.string D1)) 13 (.string D2)) 19 (.string D3)) 25 (.string D4)) 26 (.slice (some ⟨wa.heap.size, 0, none⟩) 5 5), rfl, Sv.put (Sv.re (j := 25) (v := .string D4) (Sv.re (j := 19) (v := .string D3) (Sv.re (j := 13) (v := .string D2) (Sv.re (j := 7) (v := .string D1) (Sv.re (j := 1) (v := .string K1) HV.out e1) e7) e13) e19) e25) (fun u hu => by cases hu; rfl), Cq.set HCL.out (by simp only [List.mem_cons, List.not_mem_nil, or_false]; rintro p (rfl | rfl | rfl | rfl | rfl | rfl | rfl | rfl | rfl | rfl | rfl | rfl | rfl | rfl | rfl | rfl | rfl | rfl | rfl | rfl | rfl | rfl | rfl | rfl | rfl | rfl | rfl) hp <;> first | assumption | (simp at hp; done)), (fun hh => by rw [set_self hsz (by decide)] at hh; cases hh), (fun _ _ => rfl), (fun hh => by rw [set_other (show (26 : Nat) ≠ 27 by decide), hz0] at hh; cases hh)⟩
                  · have d0 := ready_dep hr (k := 0) (by kernel_rfl)
                    have d26 := ready_dep hr (k := 26) (by kernel_rfl)
                    clear hr
                    have hz0 : Lq.getD 27 false = false := (getD_both hno)
                    have e0 : s 0 = .func (.func 28) #[] #[.pointer (some ⟨w2.heap.size, 0, none⟩)] := HV.out.v d0 rfl
                    have e26 : s 26 = .slice (some ⟨wa.heap.size, 0, none⟩) 5 5 := HV.out.v d26 rfl
                    have hm0 := HSB.out d26 hz0
                    subst hm0
                    refine wpOp_step rfl (fun K hK => ?_)
                    go_simp
                    refine (CS.out).mono ?_
                    rintro e' wc ⟨he, hbc⟩
                    subst he
                    refine hK _ _ ?_
                    exact ⟨upd (upd (upd s 0 (.func (.func 28) #[] #[.pointer (some ⟨w2.heap.size, 0, none⟩)])) 26 (.slice (some ⟨wa.heap.size, 0, none⟩) 5 5)) 27 (.tuple #[]), rfl, Sv.put (Sv.re (j := 26) (v := .slice (some ⟨wa.heap.size, 0, none⟩) 5 5) (Sv.re (j := 0) (v := .func (.func 28) #[] #[.pointer (some ⟨w2.heap.size, 0, none⟩)]) HV.out e0) e26) (fun u hu => by cases hu; rfl), Cq.set HCL.out (by simp only [List.mem_cons, List.not_mem_nil, or_false]; rintro p (rfl | rfl | rfl | rfl | rfl | rfl | rfl | rfl | rfl | rfl | rfl | rfl | rfl | rfl | rfl | rfl | rfl | rfl | rfl | rfl | rfl | rfl | rfl | rfl | rfl | rfl | rfl) hp <;> first | assumption | (simp at hp; done)), (fun hh => by rw [set_other (show (27 : Nat) ≠ 26 by decide), d26] at hh; cases hh), (fun _ hh => by rw [set_self hsz (by decide)] at hh; cases hh), fun _ => hbc⟩
                · intro Lq aq WN hI hrd
                  obtain ⟨s, ha, hv, _, _, _, hst⟩ := hI
                  have hall := all_listedM hrd hv.sz (by kernel_rfl)
                  clear hrd
                  have e0 : s 0 = (.func (.func 28) #[] #[.pointer (some ⟨w2.heap.size, 0, none⟩)]) := hv.v (hall 0 (by decide)) rfl
                  have e1 : s 1 = (.string K1) := hv.v (hall 1 (by decide)) rfl
                  have e2 : s 2 = (.func (.func 31) #[] #[]) := hv.v (hall 2 (by decide)) rfl
                  have e3 : s 3 = (.pointer (some ⟨wr.heap.size, 0, none⟩)) := hv.v (hall 3 (by decide)) rfl
                  have e4 : s 4 = (.pointer (some ⟨wr.heap.size, 0, none⟩)) := hv.v (hall 4 (by decide)) rfl
                  have e5 : s 5 = (.pointer (some ⟨wr.heap.size, 0, none⟩)) := hv.v (hall 5 (by decide)) rfl
                  have e6 : s 6 = (.int .i64 a) := hv.v (hall 6 (by decide)) rfl
                  have e7 : s 7 = (.string D1) := hv.v (hall 7 (by decide)) rfl
                  have e8 : s 8 = (.func (.func 31) #[] #[]) := hv.v (hall 8 (by decide)) rfl
                  have e9 : s 9 = (.pointer (some ⟨wr.heap.size, 0, none⟩)) := hv.v (hall 9 (by decide)) rfl
                  have e10 : s 10 = (.pointer (some ⟨wr.heap.size, 0, none⟩)) := hv.v (hall 10 (by decide)) rfl
                  have e11 : s 11 = (.pointer (some ⟨wr.heap.size, 1, none⟩)) := hv.v (hall 11 (by decide)) rfl
                  have e12 : s 12 = (.int .i64 b) := hv.v (hall 12 (by decide)) rfl
                  have e13 : s 13 = (.string D2) := hv.v (hall 13 (by decide)) rfl
                  have e14 : s 14 = (.func (.func 31) #[] #[]) := hv.v (hall 14 (by decide)) rfl
                  have e15 : s 15 = (.pointer (some ⟨wr.heap.size, 0, none⟩)) := hv.v (hall 15 (by decide)) rfl
                  have e16 : s 16 = (.pointer (some ⟨wr.heap.size, 2, none⟩)) := hv.v (hall 16 (by decide)) rfl
                  have e17 : s 17 = (.pointer (some ⟨wr.heap.size, 2, none⟩)) := hv.v (hall 17 (by decide)) rfl
                  have e18 : s 18 = (.int .i64 e) := hv.v (hall 18 (by decide)) rfl
                  have e19 : s 19 = (.string D3) := hv.v (hall 19 (by decide)) rfl
                  have e20 : s 20 = (.func (.func 31) #[] #[]) := hv.v (hall 20 (by decide)) rfl
                  have e21 : s 21 = (.pointer (some ⟨wr.heap.size, 0, none⟩)) := hv.v (hall 21 (by decide)) rfl
                  have e22 : s 22 = (.pointer (some ⟨wr.heap.size, 2, none⟩)) := hv.v (hall 22 (by decide)) rfl
                  have e23 : s 23 = (.pointer (some ⟨wr.heap.size, 3, none⟩)) := hv.v (hall 23 (by decide)) rfl
                  have e24 : s 24 = (.int .i64 f) := hv.v (hall 24 (by decide)) rfl
                  have e25 : s 25 = (.string D4) := hv.v (hall 25 (by decide)) rfl
                  have e26 : s 26 = (.slice (some ⟨wa.heap.size, 0, none⟩) 5 5) := hv.v (hall 26 (by decide)) rfl
                  have e27 : s 27 = (.tuple #[]) := hv.v (hall 27 (by decide)) rfl
                  simp only [e0, e1, e2, e3, e4, e5, e6, e7, e8, e9, e10, e11, e12, e13, e14, e15, e16, e17, e18, e19, e20, e21, e22, e23, e24, e25, e26, e27] at ha
                  subst ha
                  have hfin := hst (hall 27 (by decide))
                  clear hall hv hst e0 e1 e2 e3 e4 e5 e6 e7 e8 e9 e10 e11 e12 e13 e14 e15 e16 e17 e18 e19 e20 e21 e22 e23 e24 e25 e26 e27
                  have HX9 := Lib.hid hfin.1
                  have HB9 := Lib.hid ((hB.out.trans (HBA.out.mono hB.out.size)).drew.trans hfin.2)
                  clear hfin HW CS CS0 C1 C2 C3 C4
                  go_wp2_with fail
                  go_roundw
                  case rel => exact ⟨i + 1, by omega, by go_num, HX9, HB9⟩
                  case measure => simp [intOf]; omega
            · obtain rfl : i = nc := by omega
              have hii : ¬ (i : Int) < (i : Int) := by omega
              have hend : headT Wn k ++ rowsT Wn mask k k ++ creasT (cs.take i) = sheetT Wn k mask cs := by rw [← HCL.out, List.take_length]; rfl
              have hX2 := hX.out
              rw [hend] at hX2
              have cT := sbString w2.heap.size w2.heap.size _ wr hX2 hB.out.size
              have CT := Lib.hid cT
              clear cT hX2 hend
              go_wp2_with (go_at_call 32; refine CT.out.mono ?_; rintro r w5 ⟨rfl, _, h2, _⟩; have HBF := Lib.hid (stay_b HB1.out (hB.out.trans h2)); clear h2)
              exact bodyPost_ret (v := .tuple #[.string (bA (sheetT Wn k mask cs)), .int .i64 0]) (by simp [results, Tryd.results11, go_sem, bA]) rfl ⟨HBF.out, .inr ⟨trivial, rfl⟩⟩
end Go.Proofs.YtoienokpchbglaaDoor
