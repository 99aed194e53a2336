/- What is seen of folded paper can be drawn.. view.Thick. -/
import Derived.Test.YtpkjekedgodccaaGreatDoorK36
import Derived.Test.YtpkjekedgodccaaGreatDoorK34
namespace Go.Proofs.YtpkjekedgodccaaGreatDoor
set_option linter.unusedSimpArgs false
set_option linter.unusedVariables false
section
theorem stks_lt {L : List T3} {ms : List V6} {sts : List Stk} (h : StksP L ms sts) : ∀ (d i : Nat) (p s : Stk), sts[i]? = some p → sts[i + d + 1]? = some s → triLt p.1 s.1 := by
 intro d
 induction d with
 | zero => intro i p s hp hs; exact h.lt i p s hp hs
 | succ d ih =>
  intro i p s hp hs
  obtain ⟨q, hq⟩ : ∃ q, sts[i + d + 1]? = some q := ⟨_, List.getElem?_eq_getElem (by have := (List.getElem?_eq_some_iff.1 hs).1; omega)⟩
  exact triLt_trans (ih i p q hp hq) (h.lt (i + d + 1) q s hq hs)
theorem tops_at {L : List T3} {ms : List V6} {sts : List Stk} : (tops L ms sts).map (·.1) = sts.map (·.1) := by simp [tops, topA, Function.comp_def]
theorem tops_pic {W : Int} {H : Int} {mask : List Int} {cs : List C5} {ms : List V6} {sts : List Stk} (h : StateP W H mask cs ms sts) (hv : VwP (trisL W.toNat mask) ms sts) : PicP (tops (trisL W.toNat mask) ms sts) := by
 have hm := h.maps
 have hs := h.stks
 have hj : joinB (trisL W.toNat mask) = true := by
  have := h.sheet
  unfold newB at this
  simp only [Bool.and_eq_true] at this
  exact this.2.2
 have hL : 0 < (trisL W.toNat mask).length := by
  cases hl : trisL W.toNat mask with
  | nil => rw [hl] at hj; exact absurd hj (by unfold joinB; simp)
  | cons a l => simp
 have hb : ∀ s ∈ sts, triMay3 s.1 = true := fun s hss => by
  obtain ⟨i, hi⟩ := List.getElem?_of_mem hss
  have hne := List.length_pos_iff.2 (hs.ne i s hi)
  have h1 := hs.tri i s 0 _ hi (List.getElem?_eq_getElem hne)
  have h2 := (hm.may _ (List.idxOf_lt_length_of_mem h1.1)).2
  rw [h1.2.1] at h2
  exact h2
 have hb2 : ∀ s ∈ tops (trisL W.toNat mask) ms sts, triMay3 s.1 = true := fun s hss => by
  obtain ⟨u, hu, rfl⟩ := List.mem_map.1 hss
  exact hb u hu
 have hsp : 0 < sts.length := by
  rw [List.length_pos_iff]
  rintro rfl
  have := hs.many
  simp at this
  rw [← this] at hL
  simp at hL
 refine ⟨by rw [tops_len]; exact hsp, by rw [tops_len]; exact hv.few, ⟨?_, fun s hss => ?_⟩, fun s hss => ?_⟩
 ·rw [tops_at]
  refine List.pairwise_iff_getElem.2 fun i j hi hj hij e => ?_
  rw [List.length_map] at hi hj
  have h1 := stks_lt hs (j - i - 1) i sts[i] sts[j] (List.getElem?_eq_getElem hi) (by rw [show i + (j - i - 1) + 1 = j by omega]; exact List.getElem?_eq_getElem hj)
  rw [List.getElem_map, List.getElem_map] at e
  rw [e] at h1
  exact triLt_irrefl _ h1
 ·have := hb2 s hss
  unfold triMay3 triMayB at this
  simp only [Bool.and_eq_true, decide_eq_true_eq] at this
  exact ⟨this.1.1.1, this.1.1.2⟩
 ·have := hb2 s hss
  unfold triMay3 triMayB inN at this
  simp only [Bool.and_eq_true, decide_eq_true_eq] at this
  refine ⟨?_, ?_⟩ <;> omega
end
section
open Go.RowKit Go.Maps
set_option maxRecDepth 100000 in
set_option maxHeartbeats 6400000 in
theorem viewThick_any (W H : Int) (Am Ac Ap As : Option Addr) (nm cm nc cc np cp ns cS : Nat) (mask : List Int) (cs : List C5) (ms : List V6) (sts : List Stk) (w : World) (hs : Steps w) (hm : Rd w 1 Am nm (vis mask)) (hc : Rd w 5 Ac nc (ccs cs)) (hp : Rd w 6 Ap np (mcs ms)) (hst : StkR w As ns sts) (hnm : nm ≤ 140737488351232) (hnc : nc ≤ 140737488351232) (hnp : np ≤ 140737488351232) :
    Calls Tryz.prog 6 #[.agg #[.int .i64 W, .int .i64 H, .slice Am nm cm, .slice Ac nc cc, .slice Ap np cp, .slice As ns cS]] w fun e w' => Below w.heap.size w w' ∧ ((stateB W H mask cs ms sts = false ∧ e = .returned (.tuple #[.int .i64 0, .int .i64 0, .int .i64 10])) ∨ (stateB W H mask cs ms sts = true ∧ e = .returned (.tuple #[.int .i64 (thkN sts : Int), .int .i64 (ns : Int), .int .i64 0]))) := by
  have kb0 := heap_alloc_new w (.cells #[.int .i64 W, .int .i64 H, .slice Am nm cm, .slice Ac nc cc, .slice Ap np cp, .slice As ns cS] 29)
  have hb0 := below_new w (.cells #[.int .i64 W, .int .i64 H, .slice Am nm cm, .slice Ac nc cc, .slice Ap np cp, .slice As ns cS] 29)
  have a0 := cell_of_blk kb0 0
  have a1 := cell_of_blk kb0 1
  have a2 := cell_of_blk kb0 2
  have a3 := cell_of_blk kb0 3
  have a4 := cell_of_blk kb0 4
  have a5 := cell_of_blk kb0 5
  simp only [List.getElem?_toArray, List.getElem?_cons_zero, List.getElem?_cons_succ] at a0 a1 a2 a3 a4 a5
  have hsz0 : w.heap.size ≤ (w.alloc (.cells #[.int .i64 W, .int .i64 H, .slice Am nm cm, .slice Ac nc cc, .slice Ap np cp, .slice As ns cS] 29)).heap.size := hb0.size
  have cO := open_any W H Am Ac Ap As nm cm nc cc np cp ns cS mask cs ms sts (w.alloc (.cells #[.int .i64 W, .int .i64 H, .slice Am nm cm, .slice Ac nc cc, .slice Ap np cp, .slice As ns cS] 29)) (hs.below hb0) (hm.below hb0) (hc.below hb0) (hp.below hb0) (hst.below hb0) hnm hnc hnp
  have CO := Lib.hid cO
  have HST := Lib.hid (hst.below hb0)
  have hn1 : ns ≤ sts.length := Nat.le_of_eq hst.len
  have hn2 : sts.length ≤ ns := Nat.le_of_eq hst.len.symm
  have hsz := hst.sz
  have HB0 := Lib.hid hb0
  clear cO hs hm hc hp hst hb0 kb0
  go_enter Tryz.func6, Tryz.ntmps6
  go_wp2_with fail
  generalize w.alloc (.cells #[.int .i64 W, .int .i64 H, .slice Am nm cm, .slice Ac nc cc, .slice Ap np cp, .slice As ns cS] 29) = w0 at a0 a1 a2 a3 a4 a5 HST HB0 CO hsz0 ⊢
  refine CO.out.mono ?_
  rintro e w2 ⟨hb2, ⟨hF, v, rfl⟩ | ⟨hT, xb, rfl, hop⟩⟩
  · have HF := Lib.hid hF
    have HB2 := Lib.hid hb2
    clear hF hb2 CO a0 a1 a2 a3 a4 a5
    go_wp2
    exact bodyPost_ret (v := .tuple #[.int .i64 0, .int .i64 0, .int .i64 10]) (by simp [results, Tryz.results6, go_sem]) rfl ⟨HB0.out.trans (HB2.out.mono hsz0), .inl ⟨HF.out, rfl⟩⟩
  · have HT := Lib.hid hT
    replace a5 := sd a5 hb2
    have HST2 := Lib.hid (HST.out.below hb2)
    have HB2 := Lib.hid (HB0.out.trans (hb2.mono hsz0))
    have hsz2 := HB2.out.size
    clear hT hb2 hop CO HST a0 a1 a2 a3 a4
    go_wp2_with fail
    go_loopw [7, 20] (fun x v wr => ∃ i : Nat, i ≤ sts.length ∧ v = .int .i64 i ∧ x = .int .i64 (thkN (sts.take i) : Int) ∧ Hid (Below w2.heap.size w2 wr)) (fun _ v _ => sts.length - (intOf v).toNat)
    case atStart => exact ⟨0, by omega, rfl, rfl, Lib.hid (Below.refl _ _)⟩
    case round =>
      obtain ⟨i, hi, rfl, rfl, hbr⟩ := hrel
      obtain ⟨wo, hwo⟩ : ∃ x, x = wr := ⟨_, rfl⟩
      subst hwo
      have b5 := sd a5 hbr.out
      by_cases hin : i < sts.length
      ·obtain ⟨s, hs⟩ : ∃ s, sts[i]? = some s := ⟨_, List.getElem?_eq_getElem hin⟩
       obtain ⟨bS, oS, A2, c2, hA, hbS, _, hq2, s0, s1, s2, s3⟩ := HST2.out.at3 hs
       cases hA
       replace s0 := sd s0 hbr.out
       replace s1 := sd s1 hbr.out
       replace s2 := sd s2 hbr.out
       replace s3 := sd s3 hbr.out
       have kS1 := heap_alloc_new wo (.cells #[.int .i64 s.1.1, .int .i64 s.1.2.1, .int .i64 s.1.2.2, .slice A2 s.2.length c2] 54)
       have y3 := cell_of_blk kS1 3
       simp only [List.getElem?_toArray, List.getElem?_cons_zero, List.getElem?_cons_succ] at y3
       have HBN := Lib.hid (hbr.out.trans ((below_new wo (.cells #[.int .i64 s.1.1, .int .i64 s.1.2.1, .int .i64 s.1.2.2, .slice A2 s.2.length c2] 54)).mono hbr.out.size))
       have hii : (i : Int) < (ns : Int) := by omega
       have hi0 : (0 : Int) ≤ (i : Int) := by omega
       have hst := thk_step hs
       obtain ⟨k0, hk0⟩ : ∃ k, k = thkN (sts.take i) := ⟨_, rfl⟩
       rw [← hk0] at hst ⊢
       have HS3 := Lib.hid hst
       have hwi : IntKind.i64.wrap ((i : Int) + 1) = ((i + 1 : Nat) : Int) := by rw [IntWalk.i64_in _ (by omega)]; omega
       clear hst hk0 hs hq2 kS1
       go_wp2_with fail
       have HMX : Hid (((thkN (sts.take (i + 1)) : Nat) : Int) = max (k0 : Int) (s.2.length : Int)) := Lib.hid (by rw [HS3.out]; split <;> omega)
       clear HS3
       go_wp2
       go_roundw
       case rel => exact ⟨i + 1, by omega, by first | rfl | go_num, by rw [HMX.out], HBN⟩
       case measure => simp [intOf]; omega
      ·obtain rfl : i = sts.length := by omega
       rw [List.take_length]
       have hnn : ¬ ((sts.length : Int) < (ns : Int)) := by omega
       go_wp2_with fail
       refine rg_plain (fin := ?z1) [.int .i64 (thkN sts : Int), .pointer (some ⟨w.heap.size, 5, none⟩), .slice As ns cS, .int .i64 (ns : Int), .int .i64 (thkN sts : Int), .int .i64 (ns : Int), .int .i64 0] (fun WN => WN.cell? ⟨w.heap.size, 5, none⟩ = some (.slice As ns cS) ∧ Below wo.heap.size wo WN) ?hf (by kernel_rfl) (by kernel_rfl) rfl ⟨b5, (Below.refl _ _).drew⟩ (fun WN hst => ?hs) (fun WN hst => ?he)
       case hf => simp only [putOps, Act.put, List.setIfInBounds_toArray, List.set_cons_succ, List.set_cons_zero]; exact rfl
       case hs =>
         have HST := Lib.hid hst
         obtain ⟨b5, hbl⟩ := hst
         iterate 7 refine ⟨?_, fun K hK => ?_⟩
         · trivial
         all_goals try (go_simp; exact hK _ HST.out; done)
       case he =>
         obtain ⟨b5, hbl⟩ := hst
         try go_wp2
         exact bodyPost_ret (v := .tuple #[.int .i64 (thkN sts : Int), .int .i64 (ns : Int), .int .i64 0]) (by simp [results, Tryz.results6, go_sem]) rfl ⟨HB2.out.trans ((stay_b hbr.out hbl).mono hsz2), .inr ⟨HT.out, rfl⟩⟩
end
end Go.Proofs.YtpkjekedgodccaaGreatDoor
