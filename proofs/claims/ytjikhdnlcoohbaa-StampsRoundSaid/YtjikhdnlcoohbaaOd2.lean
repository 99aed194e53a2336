/- The document's list of all orders. -/
import Derived.Test.YtjikhdnlcoohbaaOd1
namespace Go.Proofs.Ytjikhdnlcoohbaa
set_option linter.unusedSimpArgs false
set_option linter.unusedVariables false
open Go.RowKit St
attribute [local go_sem] Oper.semAt_some

set_option maxRecDepth 100000 in
set_option maxHeartbeats 3200000 in
theorem ordersOf_any (N : Nat) (hN : N ≤ 8) (h0 : 1 ≤ N) : ∀ (r k : Nat), k + r = N → ∀ (A : Option Addr) (c : Nat) (b : List Int) (w : World), Rd w 1 A k (vis b) → (A = none → c = 0) → b.Nodup → (∀ y ∈ b, y ∈ upto N) →
    Calls Try.prog 17 #[.slice A k c, .int .i64 N] w fun e w' => ∃ v vals, e = .returned v ∧ w'.ownsRow w.heap.size 22 1 v (ordersOf N r b).length vals ∧ RowsG w' w.heap.size N vals (ordersOf N r b) ∧ Below w.heap.size w w' := by
  intro r
  induction r with
  | zero =>
    intro k hk A c b w h hA hnd hsub
    obtain rfl : k = N := by omega
    have hl := h.ints_len
    have hp : b.Perm (upto b.length) := by rw [hl]; exact perm_of_nodup hnd hsub hl
    have cG := orderGood_any A k c b w h (by omega) h0 hp
    have e0 : ordersOf k 0 b = if ordG b = true then [b] else [] := rfl
    obtain ⟨G, hG⟩ : ∃ G, G = ordG b := ⟨_, rfl⟩
    have hgd : gd b = G := by rw [← goodO_gd, goodO_eq hp, hG]
    rw [hgd] at cG
    rw [e0, ← hG]
    have CG := Lib.hid cG
    have HR := Lib.hid h
    have HL := Lib.hid hl
    clear cG hG hgd e0 hp hnd hsub h hl
    cases G with
    | false =>
      go_enter Try.func17, Try.ntmps17
      go_wp2_with (go_at_call 12; refine CG.out.mono ?_; rintro e w1 ⟨rfl, hb1⟩)
      go_ret
      exact ⟨_, rfl, [], World.ownsRow_nil _ _ _ _, RowsG.nil _ _ _, hb1⟩
    | true =>
      go_enter Try.func17, Try.ntmps17
      go_wp2_with (first
        | (go_at_call 12; refine CG.out.mono ?_; rintro e w1 ⟨rfl, hb1⟩)
        | (at_builtin; refine app_mem Try.underlying22 int_info rfl (by decide) (by decide) rfl _ _ rfl w1.heap.size (.slice none 0 0) 0 [] (vis b) rfl (World.ownsRow_nil _ _ _ _) (Nat.le_refl _) A k c rfl hA (HR.out.below hb1) (vis_one _) (by omega) ?_; intro v2 w2 hown2 hb2 _; obtain ⟨g2, c2, cur2, hv2, hcc, hcm, hg2, hgb2⟩ := own_addr hown2 (by omega); subst hv2))
      go_ret
      have hI : IRow w2 g2 k c2 b := by
        obtain ⟨g, c', e, _, hi⟩ := IRow.of_own (o := b) (by simpa using hown2) (by omega)
        cases e
        simpa using hi
      have hbw : Below w.heap.size w w2 := stay_b hb1 hb2
      refine ⟨_, rfl, [.slice (some ⟨g2, 0, none⟩) k c2], ?_, ?_, (ba hbw _)⟩
      · have := World.ownsRow_lit (base := w.heap.size) (size := 1) (e := 22) w2 #[.slice (some ⟨g2, 0, none⟩) k c2] 1 hbw.size (by decide) rfl
        simpa using this
      · refine ⟨rfl, fun j L hL => ?_⟩
        have hj := (List.getElem?_eq_some_iff.1 hL).1
        simp at hj
        subst hj
        simp at hL
        subst hL
        exact ⟨g2, c2, by simp, hI.keep (KpI.of_below (below_new w2 _)), Nat.le_trans hb1.size hg2⟩
  | succ r ih =>
    intro k hk A c b w h hA hnd hsub
    have hkn : k < N := by omega
    have hl := h.ints_len
    have hkn0 : ((k : Int) == (N : Int)) = false := by simp; omega
    have IH := Lib.hid (ih (k + 1) (by omega))
    have cW := fun (w1 : World) (hb : Below w.heap.size w w1) (s : Int) => within_any A k c b s w1 (h.below hb) (by omega)
    have CW := Lib.hid cW
    have HR := Lib.hid h
    have HL := Lib.hid hl
    have HND := Lib.hid hnd
    have HSU := Lib.hid hsub
    have hall := partO_all N r b
    have hbd := fun t (ht : t ≤ N) => partO_bd (t := t) hN (show r < N by omega) ht b
    have hsc := fun t => partO_succ N r b t
    rw [hall]
    have HBD := Lib.hid hbd
    have HSC := Lib.hid hsc
    clear ih cW h hl hnd hsub hall hbd hsc
    go_enter Try.func17, Try.ntmps17
    go_wp2_with fail
    go_loopw [5, 6] (fun v i wr => ∃ (t : Nat) (vals : List Value), t ≤ N ∧ i = .int .i64 ((t : Int) + 1) ∧ wr.ownsRow w.heap.size 22 1 v (partO N r b t).length vals ∧ RowsG wr w.heap.size N vals (partO N r b t) ∧ Below w.heap.size w wr) (fun _ i _ => N + 1 - (intOf i).toNat)
    case atStart => exact ⟨0, [], by omega, rfl, World.ownsRow_nil _ _ _ _, RowsG.nil _ _ _, Below.refl _ _⟩
    case round =>
      obtain ⟨t, vals, ht, rfl, hown, hrows, hbel⟩ := hrel
      have HO := Lib.hid hown
      have HG := Lib.hid hrows
      clear hown hrows
      obtain ⟨Ao, co, hvo⟩ := own_sl HO.out
      subst hvo
      by_cases htn : t < N
      · have hl1 : ((t : Int) + 1) ≤ (N : Int) := by omega
        have w1 : IntKind.i64.wrap ((t : Int) + 1 + 1) = (((t + 1 : Nat) : Int) + 1) := by rw [IntWalk.i64_in _ (by omega)]; rfl
        by_cases hin : ((t : Int) + 1) ∈ b
        · have cW := CW.out _ hbel ((t : Int) + 1)
          rw [decide_eq_true hin] at cW
          have hsc := HSC.out t
          rw [if_pos (by simpa using hin), List.append_nil] at hsc
          have HSC1 := Lib.hid hsc
          clear hsc
          go_wp2_with (go_at_call 26; refine cW.mono ?_; rintro e w2 ⟨rfl, rfl⟩)
          go_roundw
          case rel => exact ⟨t + 1, vals, by omega, by go_num, by rw [HSC1.out]; exact HO.out, by rw [HSC1.out]; exact HG.out, hbel⟩
          case measure => simp [intOf]; omega
        · have cW := CW.out _ hbel ((t : Int) + 1)
          rw [decide_eq_false hin] at cW
          have hsc := HSC.out t
          rw [if_neg (by simpa using hin)] at hsc
          have HSC1 := Lib.hid hsc
          have hbt := HBD.out (t + 1) (by omega)
          have hbt2 : (ordersOf N r (b ++ [(t : Int) + 1])).length ≤ 16777216 := by rw [hsc, List.length_append] at hbt; omega
          have hbt1 := HBD.out t (by omega)
          have HIN := Lib.hid hin
          have hnd2 : (b ++ [(t : Int) + 1]).Nodup := by
            rw [List.nodup_append]
            exact ⟨HND.out, by simp, fun x hx y hy => by simp at hy; subst hy; exact fun e => hin (e ▸ hx)⟩
          have hsub2 : ∀ y ∈ b ++ [(t : Int) + 1], y ∈ upto N := by
            intro y hy
            rcases List.mem_append.1 hy with hy | hy
            · exact HSU.out y hy
            · simp at hy; subst hy; exact upto_mem.2 (by omega)
          have cI := fun (w1 : World) (A1 : Option Addr) (c1 : Nat) (h1 : Rd w1 1 A1 (k + 1) (vis (b ++ [(t : Int) + 1]))) (h2 : A1 = none → c1 = 0) => IH.out A1 c1 (b ++ [(t : Int) + 1]) w1 h1 h2 hnd2 hsub2
          have CI := Lib.hid cI
          obtain ⟨M, hM⟩ : ∃ M, M = ordersOf N r (b ++ [(t : Int) + 1]) := ⟨_, rfl⟩
          rw [← hM] at HSC1 hbt2 CI
          clear cI hsc hin hnd2 hsub2 hM
          go_wp2_with (first
            | (go_at_call 26; refine cW.mono ?_; rintro e w2 ⟨rfl, rfl⟩)
            | (at_builtin; refine app_mem Try.underlying22 int_info rfl (by decide) (by decide) rfl (.const (.slice none 0 0)) (.tmp 26) rfl wr.heap.size (.slice none 0 0) 0 [] (vis b) rfl (World.ownsRow_nil _ _ _ _) (Nat.le_refl _) A k c rfl hA (HR.out.below hbel) (vis_one _) (by omega) ?_; intro v2 w2 hown2 hb2 _)
            | (at_builtin; refine app_ints rfl (.tmp 27) (.tmp 29) rfl wr.heap.size _ (0 + k) b [(t : Int) + 1] rfl hown2 hb2.size 1 _ rfl rfl rfl (by omega) ?_; intro v3 w3 hown3 hb3 _; obtain ⟨g3, c3, cur3, hv3, hcc, hcm, hg3, hgb3⟩ := own_addr hown3 (by omega); subst hv3; rw [Nat.zero_add] at hown3 ⊢)
            | (go_at_call 17; refine (CI.out _ _ _ (Rd.of_own hown3) (fun h => by cases h)).mono ?_; rintro e w4 ⟨v4, vals4, rfl, hown4, hrow4, hb4⟩; obtain ⟨A4, c4, hv4, hA4⟩ := own_sl0 hown4; subst hv4; have hbw4 : Below wr.heap.size wr w4 := (hb2.trans hb3).trans (hb4.mono (Nat.le_trans hb2.size hb3.size)); have hown5 := own_below HO.out hbw4 (Nat.le_refl _); have hb5 : w.heap.size ≤ w4.heap.size := Nat.le_trans hbel.size hbw4.size)
            | (at_builtin; refine app_mem Try.underlying32 slc_info rfl (by decide) (by decide) rfl (.tmp 33) (.tmp 34) rfl w.heap.size (.slice Ao (partO N r b t).length co) (partO N r b t).length vals vals4 rfl hown5 hb5 A4 M.length c4 rfl hA4 (Rd.of_own hown4) (rows_one hrow4) (by omega) ?_; intro v6 w6 hown6 hb6 hg6))
          go_roundw
          case rel =>
            have hk6 := ints_grown hg6 (own_cells hown5)
            have hr5 := (HG.out.keep (KpI.of_below hbw4).2).app (hrow4.mono (Nat.le_trans hbel.size (Nat.le_trans hb2.size hb3.size)))
            refine ⟨t + 1, vals ++ vals4, by omega, by go_num, ?_, ?_, ((hbel.trans (hbw4.mono hbel.size)).trans hb6)⟩
            · rw [HSC1.out, List.length_append]
              exact hown6
            · rw [HSC1.out]
              exact hr5.keep hk6
          case measure => simp [intOf]; omega
      · obtain rfl : t = N := by omega
        have hl2 : ¬ ((t : Int) + 1) ≤ (t : Int) := by omega
        go_wp2_with fail
        go_ret
        exact ⟨_, rfl, vals, HO.out, HG.out, hbel⟩
end Go.Proofs.Ytjikhdnlcoohbaa
