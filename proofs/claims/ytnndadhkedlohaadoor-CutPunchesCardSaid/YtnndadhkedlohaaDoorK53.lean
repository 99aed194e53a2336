/- cut.Punch. -/
import Derived.Test.YtnndadhkedlohaaDoorK43
import Derived.Test.YtnndadhkedlohaaDoorK44
namespace Go.Proofs.YtnndadhkedlohaaDoor
set_option linter.unusedSimpArgs false
set_option linter.unusedVariables false
section
open Go.RowKit Go.Maps
theorem grow_cell {w w6 : World} {v v' x : Value} {b o : Nat} (h : w.cell? ⟨b, o, none⟩ = some x) (hg : GrowOf w w6 v v') (hne : v.ownBlock ≠ some b) : w6.cell? ⟨b, o, none⟩ = some x := (World.cell?_of_block (hg.grown.block b (World.block_lt_of_cell? w _ h) (fun e => hne e.symm))).trans h
theorem own_nb {w : World} {base sz n : Nat} {e : TypeId} {v : Value} {xs : List Value} (h : w.ownsRow base e sz v n xs) : v.ownBlock ≠ some w.heap.size := fun e => by
 have := (own_lt_of h e).2
 omega
structure PhI (w1 : World) (mb : Nat) (l : List T3) (v : Value) (wr : World) : Prop where
 bel : Below w1.heap.size w1 wr
 seen : MapV kTB wr mb l.length (seenB l)
 ge : w1.heap.size ≤ mb
 own : wr.ownsRow w1.heap.size 31 3 v l.length (tcT l)
section
variable {w1 wr w6 w' : World} {mb : Nat} {l : List T3} {v v' : Value} {t : T3}
theorem PhI.below (h : PhI w1 mb l v wr) (hb : Below wr.heap.size wr w') : PhI w1 mb l v w' := ⟨stay_b h.bel hb, h.seen.stay hb, h.ge, od h.own hb⟩
theorem PhI.add (h : PhI w1 mb l v wr) (o1 : w6.ownsRow w1.heap.size 31 3 v' (l.length + 1) (tcT l ++ [.int .i64 t.1, .int .i64 t.2.1, .int .i64 t.2.2])) (o2 : Below w1.heap.size wr w6) (o3 : MapV kTB w' mb (l.length + 1) (setV (seenB l) t true)) (o4 : w6.grownBy w' (some mb)) (o5 : MapV kTB w6 mb l.length (seenB l)) : PhI w1 mb (l ++ [t]) v' w' := by
 refine ⟨(h.bel.trans o2).grown o4 (Nat.le_trans h.bel.size o2.size) (fun k hk => by cases hk; exact h.ge), ?_, h.ge, ?_⟩
 ·rw [List.length_append, ← seenB_snoc]
  exact o3
 ·rw [List.length_append, tcT_app]
  exact World.ownsRow.kept o1 o4 (.inr (own_notmap o1 o5.isM))
theorem PhI.map6 (h : PhI w1 mb l v wr) (o3 : GrowOf wr w6 v v') : MapV kTB w6 mb l.length (seenB l) := h.seen.heap (o3.grown.block mb h.seen.lt (fun e => own_notmap h.own h.seen.isM e.symm))
theorem PhI.gone {a : T3} {L : List T3} {ms : List V6} (h : PhI w1 mb (outL (gnT a L ms) L L.length) v wr) : GoneR wr (.map (some mb)) (gnT a L ms) := fun W' t hk hb => by
 have h1 := (h.seen.stay hb).look1 (a := t) hk
 rw [show kTB.z = false from rfl, seenB_val] at h1
 rw [show gnT a L ms t = decide (t ∈ outL (gnT a L ms) L L.length) from ?_]
 ·exact h1
 ·rw [Bool.eq_iff_iff, decide_eq_true_eq, mem_outL]
  constructor
  ·intro hg
   refine ⟨?_, hg⟩
   unfold gnT at hg
   simp only [Bool.and_eq_true, decide_eq_true_eq] at hg
   exact hg.1
  ·exact fun hg => hg.2
end
theorem pcs_hole (a : T3) (mb : Nat) (l : List T3) (vo : Value) (w1 : World) (B xb pb nb kb Wn Hn mn mk : Nat) (vm vc vt va vp vl : Value) (mb0 : Nat) (L : List T3) (ms : List V6) (fk : E4 → Option Int) (w : World) (hI : PhI w1 mb (outL (gnT a L ms) L L.length) vo w) (hq : OpnQ w B xb pb nb kb Wn Hn mn mk vm vc vt va vp vl mb0 L ms fk)
  (hL : ∀ t ∈ L, SmT t) (hLl : L.length ≤ 1000) (hso : L.Pairwise triLt) :
  Calls Tryd.prog 17 #[.pointer (some ⟨pb, 0, none⟩), .map (some mb), .func (.func 18) #[] #[]] w fun r w' => ∃ x vs, r = .returned x ∧ RowsT w' w.heap.size x (pcsL L (cutC L (gnT a L ms) hdY) (gnT a L ms) L.length) vs ∧ Below w.heap.size w w' :=
 pieces_any pb nb kb Wn Hn B 18 vm vc vt (.map (some mb)) #[] L mn mk fk (cutC L (gnT a L ms) hdY) (gnT a L ms) hdY w hq.pap hq.own hL hLl hso (cutE_any (fun t ht => (hL t ht).2.2) (fun _ _ => rfl)) hI.gone
  (fun W' t i ht hi hn hb => hole1_any t (nT t i) W') hole1_enter
set_option maxRecDepth 100000 in
set_option maxHeartbeats 6400000 in
theorem cutPunch_any (W H : Int) (a : T3) (Am Ac Ap As : Option Addr) (nm cm nc cc np cp ns cS : Nat) (mask : List Int) (cs : List C5) (ms : List V6) (sts : List Stk) (w : World) (hs : Steps w) (hm : Rd w 1 Am nm (vis mask)) (hc : Rd w 5 Ac nc (ccs cs)) (hp : Rd w 6 Ap np (mcs ms)) (hst : StkR w As ns sts)
    (hnm : nm ≤ 140737488351232) (hnc : nc ≤ 140737488351232) (hnp : np ≤ 140737488351232) :
    Calls Tryd.prog 5 #[.agg #[.int .i64 W, .int .i64 H, .slice Am nm cm, .slice Ac nc cc, .slice Ap np cp, .slice As ns cS], aggT3 a] w fun e w' => Below w.heap.size w w' ∧
      ((stateB W H mask cs ms sts = false ∧ e = .returned (.tuple #[.slice none 0 0, .slice none 0 0, .int .i64 10])) ∨ (stateB W H mask cs ms sts = true ∧ triMay3 a = false ∧ e = .returned (.tuple #[.slice none 0 0, .slice none 0 0, .int .i64 3])) ∨
       (stateB W H mask cs ms sts = true ∧ triMay3 a = true ∧ ∃ vo x vs, e = .returned (.tuple #[vo, x, .int .i64 0]) ∧ w'.ownsRow w.heap.size 31 3 vo (outL (gnT a (trisL W.toNat mask) ms) (trisL W.toNat mask) (trisL W.toNat mask).length).length (tcT (outL (gnT a (trisL W.toNat mask) ms) (trisL W.toNat mask) (trisL W.toNat mask).length)) ∧
         RowsT w' w.heap.size x (pcsL (trisL W.toNat mask) (cutC (trisL W.toNat mask) (gnT a (trisL W.toNat mask) ms) hdY) (gnT a (trisL W.toNat mask) ms) (trisL W.toNat mask).length) vs)) := by
  have hmm := @run_makeMap Tryd.prog
  have kb0 := blk_alloc (heap_alloc_new w (.cells #[.int .i64 W, .int .i64 H, .slice Am nm cm, .slice Ac nc cc, .slice Ap np cp, .slice As ns cS] 29)) (.cells #[.int .i64 a.1, .int .i64 a.2.1, .int .i64 a.2.2] 31)
  have kb1 := heap_alloc_new (w.alloc (.cells #[.int .i64 W, .int .i64 H, .slice Am nm cm, .slice Ac nc cc, .slice Ap np cp, .slice As ns cS] 29)) (.cells #[.int .i64 a.1, .int .i64 a.2.1, .int .i64 a.2.2] 31)
  rw [World.size_alloc] at kb1
  have hb0 := ba (below_new w (.cells #[.int .i64 W, .int .i64 H, .slice Am nm cm, .slice Ac nc cc, .slice Ap np cp, .slice As ns cS] 29)) (.cells #[.int .i64 a.1, .int .i64 a.2.1, .int .i64 a.2.2] 31)
  have a0 := cell_of_blk kb0 0
  have a1 := cell_of_blk kb0 1
  have a2 := cell_of_blk kb0 2
  have a3 := cell_of_blk kb0 3
  have a4 := cell_of_blk kb0 4
  have a5 := cell_of_blk kb0 5
  have l0 := cell_of_blk kb1 0
  have l1 := cell_of_blk kb1 1
  have l2 := cell_of_blk kb1 2
  simp only [List.getElem?_toArray, List.getElem?_cons_zero, List.getElem?_cons_succ] at a0 a1 a2 a3 a4 a5 l0 l1 l2
  have cO := open_any W H Am Ac Ap As nm cm nc cc np cp ns cS mask cs ms sts _ (hs.below hb0) (hm.below hb0) (hc.below hb0) (hp.below hb0) (hst.below hb0) hnm hnc hnp
  have hsz0 : w.heap.size + 1 < ((w.alloc (.cells #[.int .i64 W, .int .i64 H, .slice Am nm cm, .slice Ac nc cc, .slice Ap np cp, .slice As ns cS] 29)).alloc (.cells #[.int .i64 a.1, .int .i64 a.2.1, .int .i64 a.2.2] 31)).heap.size := blk_lt kb1
  have CO := Lib.hid cO
  have HB0 := Lib.hid hb0
  have HSH := Lib.hid (And.intro hm (And.intro hc hnc))
  clear cO hb0 hs hm hc hp hst kb0 kb1
  go_enter Tryd.func5, Tryd.ntmps5
  go_wp2_with fail
  generalize (w.alloc (.cells #[.int .i64 W, .int .i64 H, .slice Am nm cm, .slice Ac nc cc, .slice Ap np cp, .slice As ns cS] 29)).alloc (.cells #[.int .i64 a.1, .int .i64 a.2.1, .int .i64 a.2.2] 31) = w0 at a0 a1 a2 a3 a4 a5 l0 l1 l2 CO HB0 hsz0 ⊢
  refine CO.out.mono ?_
  rintro e w1 ⟨hb1, ⟨hF, x, rfl⟩ | ⟨hT, xb, rfl, hO⟩⟩
  · have HBF := Lib.hid (stay_b HB0.out hb1)
    have HF := Lib.hid hF
    clear CO hb1 hF
    go_wp2_with fail
    exact bodyPost_ret (v := .tuple #[.slice none 0 0, .slice none 0 0, .int .i64 10]) (by simp [results, Tryd.results5, go_sem]) rfl ⟨HBF.out, .inl ⟨HF.out, rfl⟩⟩
  · skip
    replace l0 := sd l0 hb1
    replace l1 := sd l1 hb1
    replace l2 := sd l2 hb1
    have hsz1 : w.heap.size + 1 < w1.heap.size := Nat.lt_of_lt_of_le hsz0 hb1.size
    have HBW1 := Lib.hid (stay_b HB0.out hb1)
    have HT := Lib.hid hT
    obtain ⟨Wn, Hn, pb, nb, kb, mn, mb, vm, vc, vt, va, vp, vl, rfl, rfl, d3, d4, d5, hst1, hq1⟩ := hO.q
    have hsh : ShM w Wn Hn Am nm mask Ac nc cs := ⟨d3, d4, d5, HSH.out.1, HSH.out.2.1, HSH.out.2.2⟩
    have hWt : ((Wn : Int)).toNat = Wn := by omega
    have HW := Lib.hid hWt
    have HQ1 := Lib.hid hq1
    have HSH2 := Lib.hid hsh
    clear hq1 hWt hst1 d3 d4 d5 CO hb1 hO hT a0 a1 a2 a3 a4 a5
    have hlen := hsh.tris_len
    have hnd := sorted_nodup hsh.tris_sorted
    obtain ⟨L, hLe⟩ : ∃ L, L = trisL Wn mask := ⟨_, rfl⟩
    rw [← hLe] at HQ1 hlen hnd
    have HLE := Lib.hid hLe
    have HND := Lib.hid hnd
    clear hsh hnd hLe
    obtain ⟨Bt, hBt⟩ : ∃ b, b = triMay3 a := ⟨_, rfl⟩
    have cL : ∀ W : World, _ := fun (W : World) => triMay_any a.1 a.2.1 a.2.2 W
    rw [show triMayB a.1 a.2.1 a.2.2 = Bt from hBt.symm] at cL
    have CL := Lib.hid cL
    have HBT := Lib.hid hBt
    clear cL hBt
    go_wp2_with (go_at_call 16; refine (CL.out _).mono ?_; rintro r w2 ⟨rfl, hb2⟩; have HB2 := Lib.hid hb2; have HBW2 := Lib.hid (stay_b HBW1.out hb2); have HQ2 := Lib.hid (HQ1.out.below hb2); replace l0 := sd l0 hb2; replace l1 := sd l1 hb2; replace l2 := sd l2 hb2; have x0 := (HQ1.out.below (stay_b hb2 (below_new w2 (.map #[] 0)))).pil.c0; have c4 := (HQ1.out.below (stay_b hb2 (below_new w2 (.map #[] 0)))).pap.c4; obtain ⟨At, ct, hvt, _, _⟩ := own_slice HQ1.out.own; subst hvt; clear hb2 CL)
    · have hb : Bt = false := by simpa using ‹(!Bt) = true›
      have HF := Lib.hid (HBT.out.symm.trans hb)
      exact bodyPost_ret (v := .tuple #[.slice none 0 0, .slice none 0 0, .int .i64 3]) (by simp [results, Tryd.results5, go_sem]) rfl ⟨HBW2.out, .inr (.inl ⟨HT.out, HF.out, rfl⟩)⟩
    · obtain rfl : Bt = true := by simpa using ‹(!Bt) = false›
      have HTT := Lib.hid HBT.out.symm
      have hI0 : PhI w2 w2.heap.size (outL (gnT a L ms) L 0) (.slice none 0 0) (w2.alloc (.map #[] 0)) := by
        refine ⟨below_new _ _, ?_, Nat.le_refl _, ?_⟩
        · have h := MapV.made kTB w2
          simp only [outL, List.take_zero, List.filter_nil]
          rw [seenB_nil]
          exact h
        · simp only [outL, List.take_zero, List.filter_nil]
          exact World.ownsRow_nil _ _ _ _
      have HI0 := Lib.hid hI0
      have hsz2 : w.heap.size + 1 < w2.heap.size := Nat.lt_of_lt_of_le hsz1 HB2.out.size
      clear hI0 x0 c4
      generalize w2.alloc (.map #[] 0) = wm at HI0 ⊢
      go_loopw [10, 34] (fun vo x wr => ∃ i : Nat, i ≤ L.length ∧ x = .int .i64 i ∧ Hid (PhI w2 w2.heap.size (outL (gnT a L ms) L i) vo wr)) (fun _ x _ => L.length - (intOf x).toNat)
      case atStart => exact ⟨0, by omega, rfl, HI0⟩
      case round =>
        clear HI0
        obtain ⟨i, hi, rfl, hI⟩ := hrel
        obtain ⟨Ao, co, hvo, _, _⟩ := own_slice hI.out.own
        subst hvo
        have HQ3 := Lib.hid (HQ2.out.below hI.out.bel)
        by_cases hil : i < L.length
        · have hii : (i : Int) < (L.length : Int) := by omega
          have hi0 : (0 : Int) ≤ (i : Int) := by omega
          obtain ⟨t, ht⟩ : ∃ t, L[i]? = some t := ⟨_, List.getElem?_eq_getElem hil⟩
          obtain ⟨gt, cpt, curt, hat, _, _, _, _⟩ := own_addr HQ3.out.own (by omega)
          cases hat
          obtain ⟨t0, t1, t2⟩ := own_tri HQ3.out.own ht
          obtain ⟨ga, ca, hva, u0, u1, u2⟩ := HQ3.out.at1 hil
          subst hva
          have hbt := below_new wr (.cells #[.int .i64 t.1, .int .i64 t.2.1, .int .i64 t.2.2] 31)
          have kt := heap_alloc_new wr (.cells #[.int .i64 t.1, .int .i64 t.2.1, .int .i64 t.2.2] 31)
          have s0 := cell_of_blk kt 0
          have s1 := cell_of_blk kt 1
          have s2 := cell_of_blk kt 2
          simp only [List.getElem?_toArray, List.getElem?_cons_zero, List.getElem?_cons_succ] at s0 s1 s2
          have hI2 := hI.out.below hbt
          have x2 := (HQ3.out.below hbt).pil.c2
          replace u0 := sd u0 hbt
          replace u1 := sd u1 hbt
          replace u2 := sd u2 hbt
          replace l0 := sd l0 (stay_b hI.out.bel hbt)
          replace l1 := sd l1 (stay_b hI.out.bel hbt)
          replace l2 := sd l2 (stay_b hI.out.bel hbt)
          have hts := HSH2.out.tris_sm (t := t) (by rw [← HLE.out]; exact List.mem_of_getElem? ht)
          have hoy := fun h => outL_yes (gn := gnT a L ms) ht h
          have hon := fun h => outL_no (gn := gnT a L ms) ht h
          rw [gnT_at HND.out ht] at hoy hon
          obtain ⟨U, hU⟩ : ∃ U, U = atI L ms i := ⟨_, rfl⟩
          obtain ⟨B, hB⟩ : ∃ y, y = gnI a L ms i := ⟨_, rfl⟩
          have heq : ∀ W : World, (binOp .eql 31 (.agg #[.int .i64 U.1, .int .i64 U.2.1, .int .i64 U.2.2]) (.agg #[.int .i64 a.1, .int .i64 a.2.1, .int .i64 a.2.2])).run Tryd.prog W = .ok (.bool B) W := fun W => by
            rw [eqT, eqL_tri, hB, hU]
            rfl
          rw [← hU] at u0 u1 u2
          rw [← hB] at hoy hon
          have HOY := Lib.hid hoy
          have HON := Lib.hid hon
          have HI2 := Lib.hid hI2
          have HTS := Lib.hid hts
          have hol := outL_len (gnT a L ms) L i
          clear hoy hon hI2 hts hU hB ht hbt kt
          go_wp2_with fail
          clear t0 t1 t2
          generalize wr.alloc (.cells #[.int .i64 t.1, .int .i64 t.2.1, .int .i64 t.2.2] 31) = w3 at s0 s1 s2 x2 u0 u1 u2 l0 l1 l2 HI2 ⊢
          refine rg_plain (fin := ?z1) [.pointer (some ⟨xb, 0, none⟩), .pointer (some ⟨xb, 0, none⟩), .pointer (some ⟨xb, 2, none⟩), .slice (some ⟨ga, 0, none⟩) L.length ca, .int .i64 (i : Int), .pointer (some ⟨ga, i * 3, none⟩), .agg #[.int .i64 U.1, .int .i64 U.2.1, .int .i64 U.2.2], .agg #[.int .i64 a.1, .int .i64 a.2.1, .int .i64 a.2.2], .bool B] (fun WN => WN.cell? ⟨xb, 2, none⟩ = some (.slice (some ⟨ga, 0, none⟩) L.length ca) ∧ WN.cell? ⟨w.heap.size + 1, 0, none⟩ = some (.int .i64 a.1) ∧ WN.cell? ⟨w.heap.size + 1, 1, none⟩ = some (.int .i64 a.2.1) ∧ WN.cell? ⟨w.heap.size + 1, 2, none⟩ = some (.int .i64 a.2.2) ∧ WN.cell? ⟨ga, i * 3, none⟩ = some (.int .i64 U.1) ∧ WN.cell? ⟨ga, i * 3 + 1, none⟩ = some (.int .i64 U.2.1) ∧ WN.cell? ⟨ga, i * 3 + 2, none⟩ = some (.int .i64 U.2.2) ∧ WN.cell? ⟨wr.heap.size, 0, none⟩ = some (.int .i64 t.1) ∧ WN.cell? ⟨wr.heap.size, 1, none⟩ = some (.int .i64 t.2.1) ∧ WN.cell? ⟨wr.heap.size, 2, none⟩ = some (.int .i64 t.2.2) ∧ Below w3.heap.size w3 WN) ?hf (by kernel_rfl) (by kernel_rfl) rfl ⟨x2, l0, l1, l2, u0, u1, u2, s0, s1, s2, (Below.refl _ _).drew⟩ (fun WN hst => ?hs) (fun WN hst => ?he)
          case hf => simp only [putOps, Act.put, List.setIfInBounds_toArray, List.set_cons_succ, List.set_cons_zero]; exact rfl
          case hs =>
            have HST := Lib.hid hst
            obtain ⟨x2, l0, l1, l2, u0, u1, u2, s0, s1, s2, hbl⟩ := hst
            iterate 9 refine ⟨?_, fun K hK => ?_⟩
            · trivial
            all_goals try (go_simp; exact hK _ HST.out; done)
          case he =>
            obtain ⟨x2, l0, l1, l2, u0, u1, u2, s0, s1, s2, hbl⟩ := hst
            have HI3 := Lib.hid (HI2.out.below hbl)
            clear hbl HI2 heq u0 u1 u2 l0 l1 l2 x2
            have hsz3 := HI3.out.bel.size
            have hml := HI3.out.seen.lt
            cases B with
            | false =>
              have he := HON.out rfl
              have hle : (outL (gnT a L ms) L i).length = (outL (gnT a L ms) L (i + 1)).length := by rw [he]
              have HI4 := HI3
              rw [← he] at HI4
              have HLN := Lib.hid hle
              clear he hle HI3
              go_wp2
              go_roundw
              case rel => exact ⟨i + 1, by omega, by go_num, by rw [HLN.out]; exact HI4⟩
              case measure => simp [intOf]; omega
            | true =>
              have he := HOY.out rfl
              have HE := Lib.hid he
              clear he
              go_wp2_with (first
                | (at_builtin; go_loud (refine app_gen Tryd.underlying32 tri_info rfl (by decide) (by decide) rfl (.tmp 48) (.tmp 50) rfl w2.heap.size _ (outL (gnT a L ms) L i).length (tcT (outL (gnT a L ms) L i)) [.int .i64 t.1, .int .i64 t.2.1, .int .i64 t.2.2] rfl HI3.out.own hsz3 1 _ rfl rfl rfl (tri_one _ _ _) (by omega) ?_); intro v6 w6 hown6 hb6 hgr6; have HM6 := Lib.hid (HI3.out.map6 hgr6); have HO6 := Lib.hid hown6; have HB6 := Lib.hid hb6; have y0 := grow_cell s0 hgr6 (own_nb hI.out.own); have y1 := grow_cell s1 hgr6 (own_nb hI.out.own); have y2 := grow_cell s2 hgr6 (own_nb hI.out.own); clear hown6 hb6 hgr6)
                | (at_mapUpdate; go_loud (refine wpList_putV (k := kTB) rfl _ _ _ rfl HM6.out rfl (by unfold maxLen; omega) t HTS.out.ok true rfl rfl ?_); intro w8 hm8 hg8))
              have hI4 := HI3.out.add HO6.out HB6.out hm8 hg8 HM6.out
              rw [← HE.out] at hI4
              have HI4 := Lib.hid hI4
              clear hI4 hm8 hg8
              go_roundw
              case rel => exact ⟨_, _, _, _, ⟨i + 1, by omega, by go_num, HI4⟩, rfl, rfl, rfl, rfl⟩
              case measure => simp [intOf]; omega
        · obtain rfl : i = L.length := by omega
          have x0 := HQ3.out.pil.c0
          have cP := pcs_hole a w2.heap.size (outL (gnT a L ms) L L.length) _ w2 _ xb pb nb kb Wn Hn mn _ vm vc _ va vp vl mb L ms _ wr hI.out HQ3.out (fun t ht => HSH2.out.tris_sm (by rw [← HLE.out]; exact ht)) hlen (by rw [HLE.out]; exact HSH2.out.tris_sorted)
          have CP := Lib.hid cP
          clear cP
          go_wp2_with (go_at_call 17; refine CP.out.mono ?_; rintro r w9 ⟨x9, vs9, rfl, hr9, hb9⟩)
          have hbF := stay_b (stay_b HBW2.out hI.out.bel) hb9
          have hr10 := hr9.mono2 (stay_b HBW2.out hI.out.bel).size
          have ho10 := od (own_mono hI.out.own HBW2.out.size) hb9
          exact bodyPost_ret (v := .tuple #[.slice Ao (outL (gnT a L ms) L L.length).length co, x9, .int .i64 0]) (by simp [results, Tryd.results5, go_sem]) rfl ⟨hbF, .inr (.inr ⟨HT.out, HTT.out, _, x9, vs9, rfl, by rw [HW.out, ← HLE.out]; exact ho10, by rw [HW.out, ← HLE.out]; exact hr10⟩)⟩
end
end Go.Proofs.YtnndadhkedlohaaDoor
