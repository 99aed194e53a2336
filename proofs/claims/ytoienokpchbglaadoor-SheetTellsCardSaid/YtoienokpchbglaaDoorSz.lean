/- sheet.Show's say; the text of a sheet; the document's Dec. -/
import Derived.Test.YtoienokpchbglaaDoorSy
namespace Go.Proofs.YtoienokpchbglaaDoor
set_option linter.unusedSimpArgs false
set_option linter.unusedVariables false
open Go.RowKit Go.Maps

def IsB (b : Nat) (l : List UInt8) (w : World) : Prop := Lib.IsBuilderF 76 5 b b (Lib.byteCells l) w
theorem IsB.below {b B : Nat} {l : List UInt8} {w w' : World} (h : IsB b l w) (hb : Below B w w') (hB : w.heap.size ≤ B) : IsB b l w' := by
  have key : ∀ p, Lib.BuilderAtF 76 5 b b p (Lib.byteCells l) w → Lib.BuilderAtF 76 5 b b p (Lib.byteCells l) w' := by
    rintro p ⟨h1, v, h2, h3, h4⟩
    refine ⟨h1, v, blk_below h2 hb (Nat.lt_of_lt_of_le (blk_lt h2) hB), ⟨h3.1, ?_⟩, h4⟩
    rcases h3.2 with h0 | ⟨g, cap, cur, fz, rfl, g1, g2, rest⟩
    · exact .inl h0
    · exact .inr ⟨g, cap, cur, fz, rfl, g1, (hb.block g (Nat.lt_of_lt_of_le (Array.getElem?_eq_some_iff.1 g2).1 hB)).trans g2, rest⟩
  exact h.elim (fun x => .inl (key _ x)) (fun x => .inr (key _ x))
theorem IsB.lt {b : Nat} {l : List UInt8} {w : World} (h : IsB b l w) : b < w.heap.size := h.elim (fun x => x.lt) (fun x => x.lt)
theorem IsB.write {b : Nat} {l m : List UInt8} {w : World} (h : Lib.BuilderAtF 76 5 b b (.pointer (some ⟨b, 0, none⟩)) (Lib.byteCells l ++ Lib.strCells ⟨m.toArray⟩) w) : IsB b (l ++ m) w := by
  refine .inr ?_
  rw [Lib.byteCells_append]
  exact h

def joinL (xs : List (List UInt8)) : List UInt8 := Lib.join xs [32]
set_option maxRecDepth 100000 in
set_option maxHeartbeats 3200000 in
/-- one line is said -/
theorem say_any (b g c : Nat) (l : List UInt8) (ws : List (List UInt8)) (w : World) (h : IsB b l w)
    (hc : ∀ (j : Nat) x, (ws.map fun x => (⟨x.toArray⟩ : ByteArray))[j]? = some x → w.cell? ⟨g, 0 + j, none⟩ = some (.string x)) (hg : g < w.heap.size) (hn : ws.length ≤ c) (hw : ws.length ≤ 10) (hj : (joinL ws).length ≤ 1000) (hl : l.length ≤ 1000000) :
    Calls Tryd.prog 28 #[.slice (some ⟨g, 0, none⟩) ws.length c, .pointer (some ⟨b, 0, none⟩)] w fun e w' => e = .returned (.tuple #[]) ∧ IsB b (l ++ (joinL ws ++ [10])) w' ∧ Below b w w' := by
  have hmm : (ws.map fun x => (⟨x.toArray⟩ : ByteArray)).map (·.data.toList) = ws := by simp [List.map_map, Function.comp_def]
  have cJ := sbJoin g 0 c (ws.map fun x => (⟨x.toArray⟩ : ByteArray)) ⟨#[32]⟩ w hc hg (by simp; omega) (by simp; exact hn) (by rw [hmm]; unfold joinL at hj; simp; omega)
  rw [hmm, List.length_map] at cJ
  have e1 : Lib.join ws (ByteArray.mk #[32]).data.toList = joinL ws := rfl
  rw [e1] at cJ
  obtain ⟨s, hs⟩ : ∃ s, s = (⟨(joinL ws).toArray⟩ : ByteArray) := ⟨_, rfl⟩
  have hss : s.size ≤ 1000 := by rw [hs]; simpa [ByteArray.size] using hj
  have hs1 : ¬ 9223372036854775807 < s.size + 1 := by omega
  have hcat : s ++ (⟨#[10]⟩ : ByteArray) = ⟨(joinL ws ++ [10]).toArray⟩ := by rw [hs]; exact ByteArray.mk_append_mk _ [10]
  rw [← hs] at cJ
  have cW := fun (w1 : World) (hb : Below w.heap.size w w1) => sbWrite b b (Lib.byteCells l) (s ++ ⟨#[10]⟩) w1 (h.below hb (Nat.le_refl _)) (by rw [Lib.byteCells_length, ByteArray.size_append']; simp [ByteArray.size_mk']; omega) (Nat.le_of_lt (Nat.lt_of_lt_of_le h.lt hb.size))
  have hlt := h.lt
  have CJ := Lib.hid cJ
  have CW := Lib.hid cW
  have HC := Lib.hid hcat
  clear cJ cW hcat hs hss hmm hc h hj hl e1
  go_enter Tryd.func28, Tryd.ntmps28
  go_wp2_with (go_at_call 30; refine CJ.out.mono ?_; rintro e w1 ⟨rfl, hb1⟩; have HB1 := Lib.hid hb1; clear hb1)
  refine (CW.out w1 HB1.out).mono ?_
  rintro e w2 ⟨rfl, h2, hb2, _⟩
  rw [HC.out] at h2
  have H2 := Lib.hid (IsB.write h2)
  have HB2 := Lib.hid ((HB1.out.mono (Nat.le_of_lt hlt)).trans hb2)
  clear h2 hb2 CW CJ
  go_wp2
  exact bodyPost_end (results_none rfl _ _ _) rfl ⟨rfl, H2.out, HB2.out⟩
/-! ## the text of a sheet -/
def hexU (m : Int) : UInt8 := UInt8.ofNat (if m < 10 then 48 + m.toNat else 87 + m.toNat)
def decN (n : Int) : List UInt8 := Lib.decDigits n.toNat
def rowT (W : Nat) (mask : List Int) (y : Nat) : List UInt8 := (List.range W).map fun x => hexU (mask.getD (y * W + x) 0)
def rowsT (W : Nat) (mask : List Int) (H : Nat) (k : Nat) : List UInt8 := (List.range k).flatMap fun j => rowT W mask (H - 1 - j) ++ [10]
def creaT (c : C5) : List UInt8 := [if c.2 = 2 then 118 else 109, 32] ++ (decN c.1.1 ++ ([32] ++ (decN c.1.2.1 ++ ([32] ++ (decN c.1.2.2.1 ++ ([32] ++ (decN c.1.2.2.2 ++ [10])))))))
def headT (W H : Nat) : List UInt8 := [115, 104, 101, 101, 116, 32] ++ (decN W ++ ([32] ++ (decN H ++ [10])))
def creasT (cs : List C5) : List UInt8 := cs.flatMap creaT
def sheetT (W H : Nat) (mask : List Int) (cs : List C5) : List UInt8 := headT W H ++ rowsT W mask H H ++ creasT cs
theorem decN_small {n : Int} (h : 0 ≤ n) (h2 : n < 10) : decN n = [UInt8.ofNat (48 + n.toNat)] := by
  unfold decN
  rw [Lib.decDigits, dif_pos (by omega)]
theorem decN_two {n : Int} (h : 10 ≤ n) (h2 : n < 100) : decN n = [UInt8.ofNat (48 + (n / 10).toNat), UInt8.ofNat (48 + (n % 10).toNat)] := by
  unfold decN
  rw [Lib.decDigits, dif_neg (by omega), Lib.decDigits, dif_pos (by omega)]
  have h3 : n.toNat / 10 = (n / 10).toNat := by omega
  have h4 : n.toNat % 10 = (n % 10).toNat := by omega
  rw [h3, h4]
  rfl
theorem decN_len {n : Int} (h : 0 ≤ n) (h2 : n < 100) : 1 ≤ (decN n).length ∧ (decN n).length ≤ 2 := by
  by_cases h3 : n < 10
  · rw [decN_small h h3]; simp
  · rw [decN_two (by omega) h2]; simp
theorem rowT_len (W : Nat) (mask : List Int) (y : Nat) : (rowT W mask y).length = W := by simp [rowT]
theorem rowsT_succ (W : Nat) (mask : List Int) (H k : Nat) : rowsT W mask H (k + 1) = rowsT W mask H k ++ (rowT W mask (H - 1 - k) ++ [10]) := by
  unfold rowsT
  rw [List.range_succ, List.flatMap_append]
  simp
theorem rowsT_len (W : Nat) (mask : List Int) (H k : Nat) : (rowsT W mask H k).length = k * (W + 1) := by
  induction k with
  | zero => simp [rowsT]
  | succ k ih =>
    rw [rowsT_succ, List.length_append, ih, List.length_append, rowT_len, Nat.add_mul]
    simp
theorem creasT_snoc (cs : List C5) (c : C5) : creasT (cs ++ [c]) = creasT cs ++ creaT c := by simp [creasT]
/-- its numbers are small -/
def SmC (c : C5) : Prop := (0 ≤ c.1.1 ∧ c.1.1 < 100) ∧ (0 ≤ c.1.2.1 ∧ c.1.2.1 < 100) ∧ (0 ≤ c.1.2.2.1 ∧ c.1.2.2.1 < 100) ∧ (0 ≤ c.1.2.2.2 ∧ c.1.2.2.2 < 100)
theorem creaT_len {c : C5} (h : SmC c) : (creaT c).length ≤ 14 := by
  have h1 := (decN_len h.1.1 h.1.2).2
  have h2 := (decN_len h.2.1.1 h.2.1.2).2
  have h3 := (decN_len h.2.2.1.1 h.2.2.1.2).2
  have h4 := (decN_len h.2.2.2.1 h.2.2.2.2).2
  simp only [creaT, List.length_append, List.length_cons, List.length_nil]
  omega
theorem creasT_len {cs : List C5} (h : ∀ c ∈ cs, SmC c) : (creasT cs).length ≤ 14 * cs.length := by
  induction cs with
  | nil => simp [creasT]
  | cons c cs ih =>
    have h1 := creaT_len (h c List.mem_cons_self)
    have h2 := ih fun c hc => h c (List.mem_cons_of_mem _ hc)
    have e : creasT (c :: cs) = creaT c ++ creasT cs := by simp [creasT]
    rw [e, List.length_append, List.length_cons]
    omega
end Go.Proofs.YtoienokpchbglaaDoor
