/- Heights of stamps; kinds; a tie's word. -/
import Derived.Test.YtjikhdnlcoohbaaSt0
import Derived.Deep.DeepCutAuto
import Derived.Deep.RegionWith
import Derived.Deep.RegionHeld3
import Derived.StillTailTactics
import Derived.Laws.BitsLemmas
namespace Go.Proofs.Ytjikhdnlcoohbaa
set_option linter.unusedSimpArgs false
set_option linter.unusedVariables false
open Go.RowKit St

theorem take_succ {α : Type} {l : List α} {k : Nat} {z : α} (h : l[k]? = some z) : l.take (k + 1) = l.take k ++ [z] := by
  rw [List.take_add_one, h]; rfl
theorem own_addr {w : World} {base n : Nat} {e : TypeId} {v : Value} {xs : List Value} {sz : Nat} (h : w.ownsRow base e sz v n xs) (hn : 0 < n) : ∃ g c cur, v = .slice (some ⟨g, 0, none⟩) n c ∧ n ≤ c ∧ c ≤ maxLen ∧ base ≤ g ∧ w.heap[g]? = some (.cells cur e (0, 0)) := by
  rcases h.2 with ⟨_, h0⟩ | ⟨g, cap, cur, hv, h1, h2, h3, h4, _⟩
  · omega
  · exact ⟨g, cap, cur, hv, h3, h4, h1, h2⟩
theorem keep_c {B : Nat} {w w' : World} {a : Addr} {v : Value} (h : w.cell? a = some v) (hb : Below B w w') (hlt : a.block < B) : w'.cell? a = some v := (hb.cell (p := a) hlt).trans h
theorem al_d {w : World} {a : Addr} {v : Value} (h : w.drew.cell? a = some v) (o : Obj) : (w.alloc o).drew.cell? a = some v := (show (w.alloc o).cell? a = some v from al_c (show w.cell? a = some v from h) o)
theorem Rd.at_fn {w : World} {b off n : Nat} {xs : List Int} (h : Rd w 1 (some ⟨b, off, none⟩) n (vis xs)) {k : Nat} (hk : k < n) : w.cell? ⟨b, off + k, none⟩ = some (.int .i64 (fn xs k)) := by
  obtain ⟨b', off', z, hA, _, hz, hc⟩ := h.int hk
  simp only [Option.some.injEq, Addr.mk.injEq, and_true] at hA
  obtain ⟨rfl, rfl⟩ := hA
  rw [fn_at hz]
  exact hc
theorem Rd.addr {w : World} {A : Option Addr} {n : Nat} {xs : List Value} {sz : Nat} (h : Rd w sz A n xs) (hn : 0 < n) : ∃ b off, A = some ⟨b, off, none⟩ := by
  obtain ⟨b, off, e, _⟩ := h.2 hn
  exact ⟨b, off, e⟩
theorem holds_any (a b x : Int) (w : World) :
    Calls Try.prog 38 #[.agg #[.int .i64 a, .int .i64 b], .int .i64 x] w fun e w' => e = .returned (.bool (holdsB (a, b) x)) ∧ Below w.heap.size w w' := by
  obtain ⟨T, hT⟩ : ∃ T, T = holdsB (a, b) x := ⟨_, rfl⟩
  rw [← hT]
  have HT := Lib.hid hT
  clear hT
  by_cases p1 : a < x
  · by_cases p2 : x < b
    all_goals
      go_enter Try.func38, Try.ntmps38
      go_wp2
      go_ret
      exact ⟨by rw [HT.out]; simp [holdsB, p1, p2] <;> omega, below_new _ _⟩
  · go_enter Try.func38, Try.ntmps38
    go_wp2
    go_ret
    exact ⟨by rw [HT.out]; simp [holdsB] <;> omega, below_new _ _⟩
theorem make_ints (n : Nat) (hn : n ≤ 1000) (w : World) : (Instr.makeSlice 22 (.int .i64 (n : Int)) (.int .i64 (n : Int))).run Try.prog w = .ok (.slice (some ⟨w.heap.size, 0, none⟩) n n) (w.alloc (.cells (vis (List.replicate n 0)).toArray 3)) := by
  obtain ⟨i0, hi, hz0, hz1, hz2⟩ := info_parts int_info
  have := run_makeSlice (P := Try.prog) w 22 3 i0 (.int .i64 0) Try.underlying22 hi hz0 .i64 .i64 n n (by omega) (Int.le_refl _) (by rw [hz1]; simp; omega) (by rw [hz2]; omega) (by omega)
  rw [this, hz1]
  have e : madeCells #[Value.int .i64 0] n = (vis (List.replicate n 0)).toArray := by
    apply Array.toList_inj.1
    rw [toList_madeCells_one]
    simp [vis]
  simp [Value.cells, e]
/-- the heights' row, stored up to stamp by stamp -/
def Upto (os : List Int) (k : Nat) (hs : List Int) : Prop := hs.length = os.length ∧ ∀ j z, j < k → os[j]? = some z → hs[(z - 1).toNat]? = some (j : Int)
theorem Upto.step {os hs : List Int} {k : Nat} {z : Int} (hp : os.Perm (upto os.length)) (h : Upto os k hs) (hz : os[k]? = some z) : Upto os (k + 1) (hs.set (z - 1).toNat (k : Int)) := by
  refine ⟨by rw [List.length_set, h.1], ?_⟩
  intro j y hj hy
  have hnd := hp.nodup_iff.2 (upto_nodup _)
  have mz := upto_mem.1 (hp.mem_iff.1 (List.mem_of_getElem? hz))
  have my := upto_mem.1 (hp.mem_iff.1 (List.mem_of_getElem? hy))
  by_cases hjk : j = k
  · subst hjk
    rw [hz] at hy
    obtain rfl := Option.some.inj hy
    rw [List.getElem?_set_self (by rw [h.1]; omega)]
  · have hne : (z - 1).toNat ≠ (y - 1).toNat := fun e => by
      have : z = y := by omega
      subst this
      exact hjk (nodup_at hnd hy hz)
    rw [List.getElem?_set_ne hne]
    exact h.2 j y (by omega) hy
theorem Upto.all {os hs : List Int} (hp : os.Perm (upto os.length)) (h : Upto os os.length hs) : hs = hsOf os := by
  apply List.ext_getElem?
  intro i
  by_cases hi : i < os.length
  · rw [hs_at hi]
    have m : ((i : Int) + 1) ∈ os := hp.mem_iff.2 (upto_mem.2 (by omega))
    have := h.2 _ _ (idx_lt m) (idx_at m)
    rw [show ((i : Int) + 1 - 1).toNat = i by omega] at this
    exact this
  · rw [List.getElem?_eq_none (by rw [h.1]; omega), List.getElem?_eq_none (by rw [hs_len]; omega)]
set_option maxHeartbeats 800000 in
theorem heights_any (A : Option Addr) (n c : Nat) (os : List Int) (w : World) (h : Rd w 1 A n (vis os)) (hn : n ≤ 100) (hp : os.Perm (upto os.length)) :
    Calls Try.prog 24 #[.slice A n c] w fun e w' => ∃ g, e = .returned (.slice (some ⟨g, 0, none⟩) n n) ∧ w'.heap[g]? = some (.cells (vis (hsOf os)).toArray 3 (0, 0)) ∧ w.heap.size ≤ g ∧ Below w.heap.size w w' := by
  have hl := h.ints_len
  have hmk := fun w => make_ints n (by omega) w
  obtain ⟨Z, hZ⟩ : ∃ Z, Z = (vis (List.replicate n 0)).toArray := ⟨_, rfl⟩
  simp only [← hZ] at hmk
  have HZ := Lib.hid hZ
  have HR := Lib.hid h
  have HL := Lib.hid hl
  have HP := Lib.hid hp
  clear hZ h hl hp
  go_enter Try.func24, Try.ntmps24
  go_wp2_with fail
  clear hmk
  go_loopw [11] (fun i wr => ∃ (k : Nat) (hs : List Int), k ≤ n ∧ i = .int .i64 k ∧ Upto os k hs ∧ wr.heap[w.heap.size]? = some (.cells (vis hs).toArray 3 (0, 0)) ∧ Below w.heap.size w wr) (fun i _ => n - (intOf i).toNat)
  case atStart => exact ⟨0, List.replicate n 0, by omega, rfl, ⟨by simp [HL.out], fun j z hj => by omega⟩, by rw [HZ.out]; exact new_blk _ rfl, below_new _ _⟩
  case round =>
    obtain ⟨k, hs, hk, rfl, hU, hb, hbel⟩ := hrel
    have HU := Lib.hid hU
    clear hU
    by_cases hkn : k < n
    · obtain ⟨b, off, z, hA, _, hz, hcz⟩ := (HR.out.below hbel).int hkn
      subst hA
      have mz := upto_mem.1 (HP.out.mem_iff.1 (List.mem_of_getElem? hz))
      rw [HL.out] at mz
      have HUP := Lib.hid (HU.out.step HP.out hz)
      obtain ⟨p, hpz⟩ : ∃ p : Nat, z = (p : Int) + 1 := ⟨(z - 1).toNat, by omega⟩
      subst hpz
      rw [show (((p : Int) + 1 - 1).toNat) = p by omega] at HUP
      have hpn : p < n := by omega
      have hf := frozen_of_blk hb p
      have hcl := cell_of_blk hb p
      obtain ⟨y, hy⟩ : ∃ y, hs[p]? = some y := ⟨_, List.getElem?_eq_getElem (by rw [HU.out.1, HL.out]; exact hpn)⟩
      simp only [List.getElem?_toArray, List.getElem?_map, hy, Option.map_some] at hcl
      have hwr : IntKind.i64.wrap ((p : Int) + 1 - 1) = p := by rw [show (p : Int) + 1 - 1 = p by omega]; exact IntWalk.i64_in _ (by omega)
      have hsub : (p : Int) + 1 - 1 = p := by omega
      have HB := Lib.hid hb
      clear hz hy mz hb
      go_wp2
      go_roundw
      case rel =>
        refine ⟨k + 1, hs.set p (k : Int), by omega, by go_num, HUP.out, ?_, hbel.setCell (Nat.le_refl _) _⟩
        rw [blk_set HB.out]
        simp [List.map_set]
      case measure => simp [intOf]; omega
    · obtain rfl : k = n := by omega
      have he := HU.out.2
      have hA : hs = hsOf os := Upto.all HP.out (by rw [HL.out]; exact HU.out)
      rw [hA] at hb
      have HB := Lib.hid hb
      clear he hA hb
      go_wp2
      go_ret
      exact ⟨_, rfl, HB.out, Nat.le_refl _, hbel⟩
end Go.Proofs.Ytjikhdnlcoohbaa
