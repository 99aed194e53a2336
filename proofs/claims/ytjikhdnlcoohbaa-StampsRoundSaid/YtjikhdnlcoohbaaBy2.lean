/- DeleteFunc over rows. -/
import Derived.Test.YtjikhdnlcoohbaaBy1
namespace Go.Proofs.Ytjikhdnlcoohbaa
set_option linter.unusedSimpArgs false
set_option linter.unusedVariables false
open Go.RowKit Go.Sort Go.Shelf St Go.Lib
attribute [local go_sem] Oper.semAt_some

theorem ints_setR {w : World} {g0 i : Nat} {u : Value} {cs0 : Array Value} (h0 : w.heap[g0]? = some (.cells cs0 22 (0, 0))) : ∀ (g : Nat) (cs : Array Value), w.heap[g]? = some (.cells cs 3 (0, 0)) → (w.setCell ⟨g0, i, none⟩ u).heap[g]? = some (.cells cs 3 (0, 0)) := by
  intro g cs h
  refine blk_far h ?_ _
  rintro rfl
  rw [h] at h0
  simp at h0
theorem kpi_setR {w : World} {g0 i : Nat} {u : Value} {cs0 : Array Value} (h0 : w.heap[g0]? = some (.cells cs0 22 (0, 0))) : KpI w (w.setCell ⟨g0, i, none⟩ u) := ⟨by rw [World.size_setCell]; exact Nat.le_refl _, ints_setR h0⟩
theorem kpi_setsR {g0 : Nat} : ∀ (vs : List Value) (i : Nat) (w : World) (cs0 : Array Value), w.heap[g0]? = some (.cells cs0 22 (0, 0)) → KpI w (w.setCells g0 i vs)
  | [], i, w, cs0, h0 => KpI.refl _
  | v :: vs, i, w, cs0, h0 => (kpi_setR (i := i) (u := v) h0).trans (kpi_setsR vs (i + 1) _ _ (blk_set h0 i v))
theorem keptF {w : World} {N : Nat} [Inhabited (Rw w N)] (p : List Int → Bool) (d : Array (Rw w N)) : keptUpTo (fun j => !p (lstR d[j]!)) d d.size = d.toList.filter fun x => !p (lstR x) :=
  keptUpTo_filter (fun x => !p (lstR x)) d
/-- The block of the row: its cells are what they should be. -/
def CellsR {w : World} {N : Nat} [Inhabited (Rw w N)] (W : World) (gb cap n : Nat) (dk : Array (Rw w N)) : Prop := ∃ cur : Array Value, W.heap[gb]? = some (.cells cur 22 (0, 0)) ∧ cur.size = cap ∧ ∀ m, m < n → cur[m]? = some (encR dk[m]!)
section
variable {w : World} {N : Nat} [Inhabited (Rw w N)] {W : World} {gb cap n : Nat} {dk : Array (Rw w N)}
theorem CellsR.cell (h : CellsR W gb cap n dk) {m : Nat} (hm : m < n) : W.cell? ⟨gb, m, none⟩ = some (encR dk[m]!) := by
  obtain ⟨cur, h1, _, h3⟩ := h
  rw [cell_of_blk h1 m]
  exact h3 m hm
theorem CellsR.fro (h : CellsR W gb cap n dk) (m : Nat) : W.frozen? ⟨gb, m, none⟩ = false := by
  obtain ⟨cur, h1, _, _⟩ := h
  exact frozen_of_blk h1 m
theorem CellsR.lt (h : CellsR W gb cap n dk) : gb < W.heap.size := by obtain ⟨cur, h1, _⟩ := h; exact blk_lt h1
theorem CellsR.below {W' : World} (h : CellsR W gb cap n dk) (hb : Below W.heap.size W W') : CellsR W' gb cap n dk := by
  obtain ⟨cur, h1, h2, h3⟩ := h
  exact ⟨cur, blk_below h1 hb (blk_lt h1), h2, h3⟩
theorem CellsR.set (h : CellsR W gb cap n dk) {i : Nat} (hi : i < n) (hn : n ≤ cap) (hd : dk.size = n) (x : Rw w N) : CellsR (W.setCell ⟨gb, i, none⟩ (encR x)) gb cap n (dk.setIfInBounds i x) := by
  obtain ⟨cur, h1, h2, h3⟩ := h
  refine ⟨_, blk_set h1 i _, by simp [h2], fun m hm => ?_⟩
  rw [Array.getElem?_setIfInBounds]
  by_cases e : i = m
  · subst e
    rw [if_pos rfl, if_pos (by omega), getElem!_set_same dk i x (by omega)]
  · rw [if_neg e, h3 m hm, getElem!_set_other dk i m x (fun h => e h.symm)]
theorem CellsR.kpi (h : CellsR W gb cap n dk) (i : Nat) (u : Value) : KpI W (W.setCell ⟨gb, i, none⟩ u) := by
  obtain ⟨cur, h1, _, _⟩ := h
  exact kpi_setR h1
end
set_option maxRecDepth 100000 in
set_option maxHeartbeats 3200000 in
theorem deleteR_any (Bw gb cap N B : Nat) (G : List Int → Prop) (p : List Int → Bool) (w : World) (d : Array (Rw w N)) [Inhabited (Rw w N)] (hP : PredR w B N 33 #[.pointer (some ⟨Bw, 0, none⟩)] G p) (hG : ∀ m, m < d.size → G (lstR d[m]!))
    (hrow : CellsR w gb cap d.size d) (hgB : B ≤ gb) (hB : B ≤ w.heap.size) (hn : d.size ≤ 100000) (hcap : d.size ≤ cap) (hcm : cap ≤ maxLen) :
    Calls Try.prog 32 #[.slice (some ⟨gb, 0, none⟩) d.size cap, .func (.func 33) #[] #[.pointer (some ⟨Bw, 0, none⟩)]] w fun e w' =>
      e = .returned (.slice (some ⟨gb, 0, none⟩) (d.toList.filter fun x => !p (lstR x)).length cap) ∧ KpI w w' ∧ Below B w w' ∧
      ∃ cur : Array Value, w'.heap[gb]? = some (.cells cur 22 (0, 0)) ∧ cur.size = cap ∧ cur.toList.take (d.toList.filter fun x => !p (lstR x)).length = (d.toList.filter fun x => !p (lstR x)).map encR := by
  have GG := Lib.hid hG
  have hI := indexR_any Bw gb cap N B G p w d hP hG (fun m hm => hrow.cell hm) hrow.lt hB hn
  have HP := Lib.hid hP
  have HR := Lib.hid hrow
  have HI := Lib.hid hI
  have EF := Lib.hid by1_enter
  have HF := Lib.hid (keptF p d)
  have hout : ∀ (W : World) (i : Nat) (dk : Array (Rw w N)) (cur : Array Value), W.heap[gb]? = some (.cells cur 22 (0, 0)) → cur.size = cap → (∀ m, m < i → cur[m]? = some (encR dk[m]!)) → KeptInv (fun j => !p (lstR d[j]!)) d d.size i dk →
      i = (d.toList.filter fun x => !p (lstR x)).length ∧ cur.toList.take (d.toList.filter fun x => !p (lstR x)).length = (d.toList.filter fun x => !p (lstR x)).map encR := by
    intro W i dk cur h1 h2 h3 h4
    have h5 := h4.len
    have h6 := h4.low
    rw [HF.out] at h5 h6
    refine ⟨h5.symm, ?_⟩
    rw [h5]
    apply List.ext_getElem?
    intro j
    by_cases hj : j < i
    · rw [List.getElem?_take_of_lt hj, Array.getElem?_toList, h3 j hj, List.getElem?_map, h6 j hj]
      rfl
    · rw [List.getElem?_take_eq_none (by omega), List.getElem?_eq_none (by simp; omega)]
  have HO := Lib.hid hout
  obtain ⟨kp, HK⟩ : ∃ kp : Nat → Bool, Hid (kp = fun j => !p (lstR d[j]!)) := ⟨_, rfl⟩
  rw [← HK.out] at HO
  obtain ⟨F, hF⟩ : ∃ F, F = d.toList.filter fun x => !p (lstR x) := ⟨_, rfl⟩
  have hFn : F.length ≤ d.size := by rw [hF]; simpa using List.length_filter_le (fun x => !p (lstR x)) d.toList
  rw [← hF] at HO ⊢
  have HFF := Lib.hid hF
  obtain ⟨n, hnn⟩ : ∃ n, n = d.size := ⟨_, rfl⟩
  rw [← hnn] at hn hcap HR HI HO hFn GG ⊢
  have HN := Lib.hid hnn
  clear hP hrow hI hout hF hnn HF hG
  go_enter Try.func32, Try.ntmps32
  go_wp2_with fail
  refine HI.out.mono ?_
  rintro e w1 ⟨⟨r, rfl, hr⟩, hb1⟩
  rcases hr with ⟨rfl, hall⟩ | ⟨k, hkn, rfl, hyes, hall⟩
  · have hall2 : F = d.toList := by
      rw [HFF.out, List.filter_eq_self]
      intro x hx
      obtain ⟨j, hj, e⟩ := List.getElem_of_mem hx
      have hj2 : j < d.size := by simpa using hj
      have := hall j (by rw [HN.out]; exact hj2)
      rw [getElem!_pos d j hj2] at this
      have e2 : d[j] = x := by simpa using e
      rw [e2] at this
      rw [this]
      rfl
    have HA := Lib.hid hall2
    clear hall hall2
    go_wp2
    go_ret
    have hfl : F.length = n := by rw [HA.out, HN.out]; simp
    obtain ⟨cur, c1, c2, c3⟩ := HR.out.below hb1
    refine ⟨by rw [hfl]; rfl, KpI.of_below hb1, hb1.mono hB, cur, c1, c2, ?_⟩
    rw [hfl, HA.out]
    apply List.ext_getElem?
    intro j
    by_cases hj : j < n
    · rw [List.getElem?_take_of_lt hj, Array.getElem?_toList, c3 j hj, List.getElem?_map]
      have hj2 : j < d.size := by rw [← HN.out]; exact hj
      rw [getElem!_pos d j hj2]
      simp [hj2]
    · rw [List.getElem?_take_eq_none (by omega), List.getElem?_eq_none (by simp; rw [← HN.out]; omega)]
  · have hst : KeptInv kp d (k + 1) k d := KeptInv.start (fun j hj => by rw [HK.out]; simp [hall j hj]) (by rw [HK.out]; simp [hyes])
    have HS := Lib.hid hst
    have hc1 := HR.out.below hb1
    have HC1 := Lib.hid hc1
    have hkz : ((k : Int) == -1) = false := beq_eq_false_iff_ne.2 (by omega)
    clear hst hall hyes hc1
    go_wp2
    go_loopw [5, 6] (fun s5 s6 wr => ∃ (i j : Nat) (dk : Array (Rw w N)), s5 = .int .i64 i ∧ s6 = .int .i64 j ∧ j ≤ n ∧ Hid (KeptInv kp d j i dk) ∧ Hid (CellsR wr gb cap n dk) ∧ KpI w wr ∧ Below B w wr) (fun _ s6 _ => n - (intOf s6).toNat)
    case atStart => exact ⟨k, k + 1, d, rfl, by go_num, by omega, HS, HC1, KpI.of_below hb1, hb1.mono hB⟩
    case round =>
      obtain ⟨i, j, dk, rfl, rfl, hjn, hK, hC, hkp, hbel⟩ := hrel
      have hij := hK.out.lt
      have hds := hK.out.size
      rw [← HN.out] at hds
      by_cases hlt : j < n
      · have hltz : (j : Int) < (n : Int) := by omega
        have cj := hC.out.cell hlt
        rw [hK.out.high j (by omega)] at cj
        have hCp := HP.out wr d[j]! (GG.out j hlt) hkp hbel
        have hent := EF.out
        have hset := fun (w2 : World) (hb2 : Below wr.heap.size wr w2) => (hC.out.below hb2).set (i := i) (by omega) hcap hds d[j]!
        have hkeep := fun h => hK.out.keep (by rw [← HN.out]; exact hlt) h
        have hkj : kp j = !p (lstR d[j]!) := by rw [HK.out]
        obtain ⟨ug, uc, hu⟩ : ∃ ug uc, encR d[j]! = .slice (some ⟨ug, 0, none⟩) N uc := ⟨_, _, rfl⟩
        obtain ⟨q, hq⟩ : ∃ q, q = p (lstR d[j]!) := ⟨_, rfl⟩
        rw [hu] at cj hCp
        simp only [hu] at hset
        rw [← hq] at hCp hkj
        have CP := Lib.hid hCp
        have HSET := Lib.hid hset
        have HKEEP := Lib.hid hkeep
        have HKJ := Lib.hid hkj
        have HDS := Lib.hid hds
        clear hu hq hCp hset hkeep hkj hds
        go_wp2_with fail
        refine (CP.out).mono ?_
        rintro e w2 ⟨rfl, hb2⟩
        have hC2 := hC.out.below hb2
        have ci := hC2.cell (show i < n by omega)
        have fi := hC2.fro i
        obtain ⟨old, hold⟩ : ∃ old, old = encR dk[i]! := ⟨_, rfl⟩
        rw [← hold] at ci
        have HC2 := Lib.hid hC2
        have S2 := Lib.hid (HSET.out w2 hb2)
        clear hC2 hold
        cases q with
        | false =>
          go_wp2
          go_roundw
          case rel => exact ⟨i + 1, j + 1, _, by go_num, by go_num, by omega, Lib.hid (HKEEP.out HKJ.out), S2, (hkp.trans (KpI.of_below hb2)).trans (HC2.out.kpi i _), (hbel.trans (hb2.mono (Nat.le_trans hB hkp.1))).setCell hgB _⟩
          case measure => simp [intOf]; omega
        | true =>
          go_wp2
          go_roundw
          case rel => exact ⟨i, j + 1, dk, rfl, by go_num, by omega, Lib.hid (hK.out.skip HKJ.out), HC2, hkp.trans (KpI.of_below hb2), hbel.trans (hb2.mono (Nat.le_trans hB hkp.1))⟩
          case measure => simp [intOf]; omega
      · obtain rfl : j = n := by omega
        have hcl : ∀ ty, (Builtin.clear_ #[32] ty #[.slice (some ⟨gb, i, none⟩) (j - i) (cap - i)]).run Try.prog wr = .ok (.tuple #[]) (wr.setCells gb i (List.replicate (j - i) (.slice none 0 0))) :=
          fun ty => Lib.run_clear_slice wr _ _ ty _ Try.underlying32 Try.zeroValue22 rfl rfl gb i _ _ (by omega) (fun t ht => by rw [hC.out.cell (show i + t < j by omega)]; rfl) (fun t ht => hC.out.fro _)
        obtain ⟨cur, c1, c2, c3⟩ := hC.out
        obtain ⟨cur2, d1, d2, d3⟩ := blk_setCells (List.replicate (j - i) (Value.slice none 0 0)) i wr cur c1
        have hkk := kpi_setsR (List.replicate (j - i) (Value.slice none 0 0)) i wr cur c1
        have hbb := below_setC (a := w) hgB (List.replicate (j - i) (Value.slice none 0 0)) i wr hbel
        have hfin := HO.out _ i dk cur2 d1 (d2.trans c2) (fun m hm => by rw [d3 m (by omega), if_neg (by omega)]; exact c3 m (by omega)) hK.out
        have HFN := Lib.hid hfin
        have HCS := Lib.hid c2
        obtain ⟨W2, hW2⟩ : ∃ W2, W2 = wr.setCells gb i (List.replicate (j - i) (Value.slice none 0 0)) := ⟨_, rfl⟩
        rw [← hW2] at hcl d1 hkk hbb
        clear c1 c2 c3 d3 hW2 hfin
        go_wp2
        go_ret
        have hi := HFN.out.1
        exact ⟨by rw [← hi]; rfl, hkp.trans hkk, hbb, cur2, d1, d2.trans HCS.out, HFN.out.2⟩
end Go.Proofs.Ytjikhdnlcoohbaa
