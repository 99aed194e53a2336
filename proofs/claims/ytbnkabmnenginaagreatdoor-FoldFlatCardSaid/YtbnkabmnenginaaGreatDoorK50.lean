/- The walk of the law FoldFlat. -/
import Derived.Test.YtbnkabmnenginaaGreatDoorK38
import Derived.Test.YtbnkabmnenginaaGreatDoorK44
import Derived.Test.YtbnkabmnenginaaGreatDoorK46
import Derived.Test.YtbnkabmnenginaaGreatDoorK49
namespace Go.Proofs.YtbnkabmnenginaaGreatDoor
set_option linter.unusedSimpArgs false
set_option linter.unusedVariables false
section
open Go.RowKit Go.Maps
set_option maxHeartbeats 3200000 in
theorem none_any (w : World) : Calls Tryz.prog 7 #[.agg #[.int .i64 0, .int .i64 0, .slice none 0 0, .slice none 0 0, .slice none 0 0, .slice none 0 0]] w fun e w' => e = .returned (.bool true) ∧ Below w.heap.size w w' := by
 have kb := heap_alloc_new w (.cells #[.int .i64 0, .int .i64 0, .slice none 0 0, .slice none 0 0, .slice none 0 0, .slice none 0 0] 29)
 have hb := below_new w (.cells #[.int .i64 0, .int .i64 0, .slice none 0 0, .slice none 0 0, .slice none 0 0, .slice none 0 0] 29)
 have a0 := cell_of_blk kb 0
 have a1 := cell_of_blk kb 1
 have a2 := cell_of_blk kb 2
 have a3 := cell_of_blk kb 3
 have a4 := cell_of_blk kb 4
 have a5 := cell_of_blk kb 5
 simp only [List.getElem?_toArray, List.getElem?_cons_zero, List.getElem?_cons_succ] at a0 a1 a2 a3 a4 a5
 have HB := Lib.hid hb
 clear hb kb
 go_enter Tryz.func7, Tryz.ntmps7
 go_wp2
 go_ret
 exact ⟨rfl, HB.out⟩
theorem newB_dimF {W H : Int} {mask : List Int} {cs : List C5} (h : newB W H mask cs = true) : ∃ Wn Hn : Nat, W = Wn ∧ H = Hn ∧ (1 ≤ Wn ∧ Wn ≤ 8) ∧ (1 ≤ Hn ∧ Hn ≤ 8) ∧ mask.length = Wn * Hn := by
 unfold newB at h
 simp only [Bool.and_eq_true, cellsB, decide_eq_true_eq] at h
 obtain ⟨⟨⟨⟨h1, h2⟩, h3⟩, _⟩, _⟩ := h
 obtain ⟨Wn, rfl⟩ := Int.eq_ofNat_of_zero_le (show 0 ≤ W by omega)
 obtain ⟨Hn, rfl⟩ := Int.eq_ofNat_of_zero_le (show 0 ≤ H by omega)
 refine ⟨Wn, Hn, rfl, rfl, by omega, by omega, ?_⟩
 have : (mask.length : Int) = ((Wn * Hn : Nat) : Int) := by rw [h3]; simp
 omega
theorem ones_stkR {w : World} {base n c : Nat} {A : Option Addr} {L : List T3} (h : StkW w base (.slice A n c) (ones L)) (hn : n = L.length) (h8 : ∀ t ∈ L, In8 t) (hl : L.length ≤ 1000) : StkR w A n (ones L) := by
 have hin : ∀ t ∈ L, inR t.1 ∧ inR t.2.1 ∧ inR t.2.2 := fun t ht => by
  have := h8 t ht
  have h2 := this.2.2
  have h3 := this.1
  have h4 := this.2.1
  refine ⟨?_, ?_, ?_⟩ <;> (unfold inR; unfold K4 at h2; omega)
 refine h.rd (by rw [ones_len, hn]) (fun s hs => ?_) (fun s hs => ?_) (by omega)
 ·obtain ⟨t, ht, rfl⟩ := List.mem_map.1 hs
  exact ⟨hin t ht, fun u hu => by rw [List.mem_singleton.1 hu]; exact hin t ht⟩
 ·obtain ⟨t, ht, rfl⟩ := List.mem_map.1 hs
  simp
set_option maxRecDepth 100000 in
set_option maxHeartbeats 6400000 in
theorem flat_walk (W H : Int) (Am Ac : Option Addr) (nm cm nc cc : Nat) (mask : List Int) (cs : List C5) (w : World) (hs : Steps w) (hm : Rd w 1 Am nm (vis mask)) (hc : Rd w 5 Ac nc (ccs cs)) (hAm : Am = none → cm = 0) (hAc : Ac = none → cc = 0) (hnm : nm * 8 ≤ 140737488351232) (hnc : nc * 40 ≤ 140737488351232) :
  Calls Tryz.prog 3 #[.agg #[.int .i64 W, .int .i64 H, .slice Am nm cm, .slice Ac nc cc]] w fun e w' => e = .returned (.bool true) ∧ Below w.heap.size w w' := by
 have kb0 := heap_alloc_new w (.cells #[.int .i64 W, .int .i64 H, .slice Am nm cm, .slice Ac nc cc] 25)
 have hb0 := below_new w (.cells #[.int .i64 W, .int .i64 H, .slice Am nm cm, .slice Ac nc cc] 25)
 have a0 := cell_of_blk kb0 0
 have a1 := cell_of_blk kb0 1
 have a2 := cell_of_blk kb0 2
 have a3 := cell_of_blk kb0 3
 simp only [List.getElem?_toArray, List.getElem?_cons_zero, List.getElem?_cons_succ] at a0 a1 a2 a3
 have hs0 := hs.below hb0
 have hm0 := hm.below hb0
 have hc0 := hc.below hb0
 have hncl : nc = cs.length := by
  have := hc.1
  rw [ccs_len] at this
  omega
 have cS := fun (w' : World) (hb : Below (w.alloc (.cells #[.int .i64 W, .int .i64 H, .slice Am nm cm, .slice Ac nc cc] 25)).heap.size (w.alloc (.cells #[.int .i64 W, .int .i64 H, .slice Am nm cm, .slice Ac nc cc] 25)) w') => sheetOfO_any W H Am Ac nm cm nc cc mask cs w' (hm0.below hb) (hc0.below hb) hnm hnc hAm hAc
 have cM := fun (w' : World) (hb : Below (w.alloc (.cells #[.int .i64 W, .int .i64 H, .slice Am nm cm, .slice Ac nc cc] 25)).heap.size (w.alloc (.cells #[.int .i64 W, .int .i64 H, .slice Am nm cm, .slice Ac nc cc] 25)) w') => sheetMay_any W H Am Ac nm cm nc cc mask cs w' (hm0.below hb) (hc0.below hb) (by omega) (by omega)
 have cF := fun (w' : World) (hb : Below (w.alloc (.cells #[.int .i64 W, .int .i64 H, .slice Am nm cm, .slice Ac nc cc] 25)).heap.size (w.alloc (.cells #[.int .i64 W, .int .i64 H, .slice Am nm cm, .slice Ac nc cc] 25)) w') (Bm Bc : Option Addr) (c1 c2 : Nat) (hm1 : Rd w' 1 Bm nm (vis mask)) (hc1 : Rd w' 5 Bc nc (ccs cs)) (h1 : Bm = none → c1 = 0) (h2 : Bc = none → c2 = 0) => flat_any W H Bm Bc nm c1 nc c2 mask cs w' (hs0.below hb) hm1 hc1 hnm hnc h1 h2
 have hdim := newB_dimF (W := W) (H := H) (mask := mask) (cs := cs)
 have hsh := fun (Wn Hn : Nat) (hW : 1 ≤ Wn ∧ Wn ≤ 8) (hH : 1 ≤ Hn ∧ Hn ≤ 8) (hl : mask.length = Wn * Hn) => (⟨hW, hH, hl, hm0, hc0, by omega⟩ : ShM (w.alloc (.cells #[.int .i64 W, .int .i64 H, .slice Am nm cm, .slice Ac nc cc] 25)) Wn Hn Am nm mask Ac nc cs)
 have HDIM := Lib.hid hdim
 have HSH := Lib.hid hsh
 have CS := Lib.hid cS
 have CM := Lib.hid cM
 have CF := Lib.hid cF
 have HB0 := Lib.hid hb0
 have HNC := Lib.hid hncl
 clear cS cM cF hdim hsh hb0 hs hm hc hs0 hm0 hc0 kb0 hncl
 go_enter Tryz.func3, Tryz.ntmps3
 go_wp2_with fail
 generalize w.alloc (.cells #[.int .i64 W, .int .i64 H, .slice Am nm cm, .slice Ac nc cc] 25) = w0 at a0 a1 a2 a3 CS CM CF HB0 HSH ⊢
 refine (CS.out w0 (Below.refl _ _)).mono ?_
 rintro e w1 ⟨Bm, c1, Bc, c2, rfl, ho1, ho2, hb1⟩
 have a0 := sd a0 hb1
 have a1 := sd a1 hb1
 have a2 := sd a2 hb1
 have a3 := sd a3 hb1
 have HM1 := Lib.hid (Rd.of_own ho1)
 have HC1 := Lib.hid (Rd.of_own ho2)
 have HN1 := Lib.hid (And.intro (own_none ho1) (own_none ho2))
 have HB1 := Lib.hid hb1
 clear ho1 ho2 hb1 CS
 go_wp2_with fail
 refine (CF.out w1 HB1.out Bm Bc c1 c2 HM1.out HC1.out HN1.out.1 HN1.out.2).mono ?_
 rintro e w2 ⟨hb2, hway⟩
 have a0 := sd a0 hb2
 have a1 := sd a1 hb2
 have a2 := sd a2 hb2
 have a3 := sd a3 hb2
 have hb12 := hb2.size
 have HB2 := Lib.hid (stay_b HB1.out hb2)
 have hsz2 := HB2.out.size
 clear hb2 HM1 HC1 HN1 HB1 CF
 rcases hway with ⟨hF, rfl⟩ | ⟨hT, hnil, rfl⟩ | ⟨hT, hnil, Dm, cm3, Dc, cc3, Dp, cp3, Ds, cS3, n, hn, rfl, hway⟩
 ·skip
  have C0 := CM.out
  rw [hF] at C0
  have CM0 := Lib.hid C0
  clear C0 CM
  have a0 := al_c a0 (.cells #[.int .i64 0, .int .i64 0, .slice none 0 0, .slice none 0 0, .slice none 0 0, .slice none 0 0] 29)
  have a1 := al_c a1 (.cells #[.int .i64 0, .int .i64 0, .slice none 0 0, .slice none 0 0, .slice none 0 0, .slice none 0 0] 29)
  have a2 := al_c a2 (.cells #[.int .i64 0, .int .i64 0, .slice none 0 0, .slice none 0 0, .slice none 0 0, .slice none 0 0] 29)
  have a3 := al_c a3 (.cells #[.int .i64 0, .int .i64 0, .slice none 0 0, .slice none 0 0, .slice none 0 0, .slice none 0 0] 29)
  have kz := heap_alloc_new w2 (.cells #[.int .i64 0, .int .i64 0, .slice none 0 0, .slice none 0 0, .slice none 0 0, .slice none 0 0] 29)
  have z0 := cell_of_blk kz 0
  have z1 := cell_of_blk kz 1
  have z2 := cell_of_blk kz 2
  have z3 := cell_of_blk kz 3
  have z4 := cell_of_blk kz 4
  have z5 := cell_of_blk kz 5
  simp only [List.getElem?_toArray, List.getElem?_cons_zero, List.getElem?_cons_succ] at z0 z1 z2 z3 z4 z5
  have HBZ := Lib.hid (ba HB2.out (.cells #[.int .i64 0, .int .i64 0, .slice none 0 0, .slice none 0 0, .slice none 0 0, .slice none 0 0] 29))
  clear kz
  go_wp2_with (first
    | (go_at_call 6; refine (CM0.out _ HBZ.out).mono ?_; rintro e w5 ⟨rfl, hb5⟩; have HB5 := Lib.hid (stay_b HBZ.out hb5); replace a0 := sd a0 hb5; replace a1 := sd a1 hb5; replace a2 := sd a2 hb5; replace a3 := sd a3 hb5; replace z0 := sd z0 hb5; replace z1 := sd z1 hb5; replace z2 := sd z2 hb5; replace z3 := sd z3 hb5; replace z4 := sd z4 hb5; replace z5 := sd z5 hb5; clear hb5)
    | (go_at_call 7; refine (none_any _).mono ?_; rintro e w6 ⟨rfl, hb6⟩; have HB6 := Lib.hid (stay_b HB5.out hb6); clear hb6)
    | fail)
  go_ret
  exact ⟨rfl, stay_b HB0.out HB6.out⟩
 ·have hnc0 : (0 : Int) < (nc : Int) := by
   have h1 := HNC.out
   have h2 := List.length_pos_iff.2 hnil
   omega
  have C0 := CM.out
  rw [hT] at C0
  have CM0 := Lib.hid C0
  clear C0 CM
  have a0 := al_c a0 (.cells #[.int .i64 0, .int .i64 0, .slice none 0 0, .slice none 0 0, .slice none 0 0, .slice none 0 0] 29)
  have a1 := al_c a1 (.cells #[.int .i64 0, .int .i64 0, .slice none 0 0, .slice none 0 0, .slice none 0 0, .slice none 0 0] 29)
  have a2 := al_c a2 (.cells #[.int .i64 0, .int .i64 0, .slice none 0 0, .slice none 0 0, .slice none 0 0, .slice none 0 0] 29)
  have a3 := al_c a3 (.cells #[.int .i64 0, .int .i64 0, .slice none 0 0, .slice none 0 0, .slice none 0 0, .slice none 0 0] 29)
  have kz := heap_alloc_new w2 (.cells #[.int .i64 0, .int .i64 0, .slice none 0 0, .slice none 0 0, .slice none 0 0, .slice none 0 0] 29)
  have z0 := cell_of_blk kz 0
  have z1 := cell_of_blk kz 1
  have z2 := cell_of_blk kz 2
  have z3 := cell_of_blk kz 3
  have z4 := cell_of_blk kz 4
  have z5 := cell_of_blk kz 5
  simp only [List.getElem?_toArray, List.getElem?_cons_zero, List.getElem?_cons_succ] at z0 z1 z2 z3 z4 z5
  have HBZ := Lib.hid (ba HB2.out (.cells #[.int .i64 0, .int .i64 0, .slice none 0 0, .slice none 0 0, .slice none 0 0, .slice none 0 0] 29))
  clear kz
  go_wp2_with (first
    | (go_at_call 6; refine (CM0.out _ HBZ.out).mono ?_; rintro e w5 ⟨rfl, hb5⟩; have HB5 := Lib.hid (stay_b HBZ.out hb5); replace a0 := sd a0 hb5; replace a1 := sd a1 hb5; replace a2 := sd a2 hb5; replace a3 := sd a3 hb5; replace z0 := sd z0 hb5; replace z1 := sd z1 hb5; replace z2 := sd z2 hb5; replace z3 := sd z3 hb5; replace z4 := sd z4 hb5; replace z5 := sd z5 hb5; clear hb5)
    | (go_at_call 7; refine (none_any _).mono ?_; rintro e w6 ⟨rfl, hb6⟩; have HB6 := Lib.hid (stay_b HB5.out hb6); clear hb6)
    | fail)
  go_ret
  exact ⟨rfl, stay_b HB0.out HB6.out⟩
 ·obtain ⟨Wn, Hn, rfl, rfl, hW, hH, hml⟩ := HDIM.out hT
  have hnc0 : nc = 0 := by rw [HNC.out, hnil]; rfl
  subst hnc0
  obtain ⟨r1, r2, r3, r4⟩ := hway
  have C0 := CM.out
  rw [hT] at C0
  have hsh := HSH.out Wn Hn hW hH hml
  rw [Int.toNat_natCast] at hn r4
  obtain ⟨L, hL⟩ : ∃ L, L = trisL Wn mask := ⟨_, rfl⟩
  rw [← hL] at hn r4
  have hLl : L.length ≤ 1000 := by rw [hL]; exact hsh.tris_len
  have hso : L.Pairwise triLt := by rw [hL]; exact hsh.tris_sorted
  have h8 : ∀ t ∈ L, In8 t := fun t ht => by
    rw [hL] at ht
    have := trisL_in (by omega) hml ht
    exact ⟨by omega, by omega, this.2.2.2.2⟩
  subst hn
  have R2 := Lib.hid (And.intro r1 (And.intro r2 (And.intro r3 (ones_stkR r4 rfl h8 hLl))))
  have cO := fun (w' : World) (hb : Below w0.heap.size w0 w') => flatOf_any Wn Hn Am Ac nm cm 0 cc mask cs L w' (hsh.below hb) hL.symm hso h8 hLl hnm (by omega) hAm hAc
  have CO := Lib.hid cO
  have CM0 := Lib.hid C0
  have HX := Lib.hid (And.intro h8 hLl)
  have a0 := al_c a0 (.cells #[.int .i64 (Wn : Int), .int .i64 (Hn : Int), .slice Dm nm cm3, .slice Dc 0 cc3, .slice Dp L.length cp3, .slice Ds L.length cS3] 29)
  have a1 := al_c a1 (.cells #[.int .i64 (Wn : Int), .int .i64 (Hn : Int), .slice Dm nm cm3, .slice Dc 0 cc3, .slice Dp L.length cp3, .slice Ds L.length cS3] 29)
  have a2 := al_c a2 (.cells #[.int .i64 (Wn : Int), .int .i64 (Hn : Int), .slice Dm nm cm3, .slice Dc 0 cc3, .slice Dp L.length cp3, .slice Ds L.length cS3] 29)
  have a3 := al_c a3 (.cells #[.int .i64 (Wn : Int), .int .i64 (Hn : Int), .slice Dm nm cm3, .slice Dc 0 cc3, .slice Dp L.length cp3, .slice Ds L.length cS3] 29)
  have kz := heap_alloc_new w2 (.cells #[.int .i64 (Wn : Int), .int .i64 (Hn : Int), .slice Dm nm cm3, .slice Dc 0 cc3, .slice Dp L.length cp3, .slice Ds L.length cS3] 29)
  have z0 := cell_of_blk kz 0
  have z1 := cell_of_blk kz 1
  have z2 := cell_of_blk kz 2
  have z3 := cell_of_blk kz 3
  have z4 := cell_of_blk kz 4
  have z5 := cell_of_blk kz 5
  simp only [List.getElem?_toArray, List.getElem?_cons_zero, List.getElem?_cons_succ] at z0 z1 z2 z3 z4 z5
  have HBZ := Lib.hid (ba HB2.out (.cells #[.int .i64 (Wn : Int), .int .i64 (Hn : Int), .slice Dm nm cm3, .slice Dc 0 cc3, .slice Dp L.length cp3, .slice Ds L.length cS3] 29))
  have hb2z := Lib.hid (below_new w2 (.cells #[.int .i64 (Wn : Int), .int .i64 (Hn : Int), .slice Dm nm cm3, .slice Dc 0 cc3, .slice Dp L.length cp3, .slice Ds L.length cS3] 29))
  clear kz C0 CM hnil hsh hL hso h8 cO r1 r2 r3 r4 HB2 HSH HDIM HNC
  unfold shV at CO
  go_wp2_with (first
    | (go_at_call 6; refine (CM0.out _ HBZ.out).mono ?_; rintro e w5 ⟨rfl, hb5⟩; have HB5 := Lib.hid (stay_b HBZ.out hb5); have HB25 := Lib.hid (stay_b hb2z.out hb5); replace a0 := sd a0 hb5; replace a1 := sd a1 hb5; replace a2 := sd a2 hb5; replace a3 := sd a3 hb5; replace z0 := sd z0 hb5; replace z1 := sd z1 hb5; replace z2 := sd z2 hb5; replace z3 := sd z3 hb5; replace z4 := sd z4 hb5; replace z5 := sd z5 hb5; clear hb5)
    | fail)
  refine rg_chn (fin := ?z1) [5, 6] [[true, true, true, true, true, false, false, false, true], [false, false, false, true, false, false, false, false, true], [false, false, false, false, false, false, false, true, true]] [[2, 4, 1, 0], [2, 3, 5, 1, 4, 0]] (fun x => [.int .i64 0, .bool true, .bool true, .agg #[.int .i64 (Wn : Int), .int .i64 (Hn : Int), .slice Dm nm cm3, .slice Dc 0 cc3, .slice Dp L.length cp3, .slice Ds L.length cS3], .agg #[.int .i64 (Wn : Int), .int .i64 (Hn : Int), .slice Am nm cm, .slice Ac 0 cc], (x 0), (x 1), .bool true, .bool true]) (fun jS x WN => match jS with | 0 => WN.cell? ⟨w.heap.size, 0, none⟩ = some (.int .i64 (Wn : Int)) ∧ WN.cell? ⟨w.heap.size, 1, none⟩ = some (.int .i64 (Hn : Int)) ∧ WN.cell? ⟨w.heap.size, 2, none⟩ = some (.slice Am nm cm) ∧ WN.cell? ⟨w.heap.size, 3, none⟩ = some (.slice Ac 0 cc) ∧ WN.cell? ⟨w2.heap.size, 0, none⟩ = some (.int .i64 (Wn : Int)) ∧ WN.cell? ⟨w2.heap.size, 1, none⟩ = some (.int .i64 (Hn : Int)) ∧ WN.cell? ⟨w2.heap.size, 2, none⟩ = some (.slice Dm nm cm3) ∧ WN.cell? ⟨w2.heap.size, 3, none⟩ = some (.slice Dc 0 cc3) ∧ WN.cell? ⟨w2.heap.size, 4, none⟩ = some (.slice Dp L.length cp3) ∧ WN.cell? ⟨w2.heap.size, 5, none⟩ = some (.slice Ds L.length cS3) ∧ Below w5.heap.size w5 WN | 1 => WN.cell? ⟨w2.heap.size, 0, none⟩ = some (.int .i64 (Wn : Int)) ∧ WN.cell? ⟨w2.heap.size, 1, none⟩ = some (.int .i64 (Hn : Int)) ∧ WN.cell? ⟨w2.heap.size, 2, none⟩ = some (.slice Dm nm cm3) ∧ WN.cell? ⟨w2.heap.size, 3, none⟩ = some (.slice Dc 0 cc3) ∧ WN.cell? ⟨w2.heap.size, 4, none⟩ = some (.slice Dp L.length cp3) ∧ WN.cell? ⟨w2.heap.size, 5, none⟩ = some (.slice Ds L.length cS3) ∧ ∃ Em cm4 Ec cc4 Ep cp4 Es cS4, Hid (x 0 = .agg #[.int .i64 (Wn : Int), .int .i64 (Hn : Int), .slice Em nm cm4, .slice Ec 0 cc4, .slice Ep L.length cp4, .slice Es L.length cS4]) ∧ Hid (Rd WN 1 Em nm (vis mask) ∧ Rd WN 5 Ec 0 (ccs cs) ∧ Rd WN 6 Ep L.length (mcs (List.replicate L.length stillV)) ∧ StkR WN Es L.length (ones L)) ∧ Hid (Below w5.heap.size w5 WN) | _ => Hid (x 1 = .bool true) ∧ Hid (Below w5.heap.size w5 WN)) ?hf (by kernel_rfl) (by kernel_rfl) (fun _ => rfl) (by kernel_rfl) ?hv ⟨a0, a1, a2, a3, z0, z1, z2, z3, z4, z5, (Below.refl _ _).drew⟩ ?hA ?hT (fun x WN hst => ?he)
  case hf => intro x; simp only [putOps, Act.put, List.setIfInBounds_toArray, List.set_cons_succ, List.set_cons_zero]; exact rfl
  case hv =>
    intro x jS t v h
    cases jS with
    | zero => cases h; rfl
    | succ jS =>
      cases jS with
      | zero => cases h; rfl
      | succ jS =>
        simp at h
  case hA =>
    intro jS x WN hj hst
    have hj : jS ≤ 2 := hj
    rcases (show jS = 0 ∨ jS = 1 ∨ jS = 2 by omega) with rfl | rfl | rfl
    · have HST := Lib.hid hst
      obtain ⟨a0, a1, a2, a3, z0, z1, z2, z3, z4, z5, hbl⟩ := hst
      iterate 6 refine ⟨?_, fun K hK => ?_⟩
      · trivial
      all_goals try (go_simp; exact hK _ HST.out; done)
    · have HST := Lib.hid hst
      obtain ⟨z0, z1, z2, z3, z4, z5, Em, cm4, Ec, cc4, Ep, cp4, Es, cS4, hx0, hR, hbl⟩ := hst
      iterate 2 refine ⟨?_, fun K hK => ?_⟩
      · trivial
      all_goals try (go_simp; exact hK _ HST.out; done)
    · have HST := Lib.hid hst
      obtain ⟨hx1, hbl⟩ := hst
      iterate 2 refine ⟨?_, fun K hK => ?_⟩
      · trivial
      all_goals try (go_simp; exact hK _ HST.out; done)
      · have e1 := hx1.out
        rw [e1] at hK ⊢
        go_simp
        exact hK _ ⟨Lib.hid rfl, hbl⟩
  case hT =>
    intro jS t x WN ht hst o ho K hK
    cases jS with
    | zero =>
      cases ht; cases ho
      obtain ⟨a0, a1, a2, a3, z0, z1, z2, z3, z4, z5, hbl⟩ := hst
      go_simp
      refine (CO.out WN (stay_b HB5.out hbl)).mono ?_
      rintro e' wc ⟨Em, cm4, Ec, cc4, Ep, cp4, Es, cS4, he, r1, r2, r3, r4, hbc⟩
      subst he
      exact hK _ _ ⟨sd z0 hbc, sd z1 hbc, sd z2 hbc, sd z3 hbc, sd z4 hbc, sd z5 hbc, Em, cm4, Ec, cc4, Ep, cp4, Es, cS4, Lib.hid rfl, Lib.hid ⟨r1, r2, r3, ones_stkR r4 rfl HX.out.1 HX.out.2⟩, Lib.hid (stay_b hbl hbc)⟩
    | succ jS =>
      cases jS with
      | zero =>
        cases ht; cases ho
        obtain ⟨z0, z1, z2, z3, z4, z5, Em, cm4, Ec, cc4, Ep, cp4, Es, cS4, hx0, hR, hbl⟩ := hst
        have hz := hx0.out
        rw [hz] at hK ⊢
        have hb29 := stay_b HB25.out hbl.out
        obtain ⟨s1, s2, s3, s4⟩ := R2.out
        obtain ⟨q1, q2, q3, q4⟩ := hR.out
        have cE := sameState_any Wn Hn Wn Hn Dm Dc Dp Ds Em Ec Ep Es nm cm3 0 cc3 L.length cp3 L.length cS3 nm cm4 0 cc4 L.length cp4 L.length cS4 mask mask cs cs (List.replicate L.length stillV) (List.replicate L.length stillV) (ones L) (ones L) WN (s1.below hb29) (s2.below hb29) (s3.below hb29) (s4.below hb29) q1 q2 q3 q4 (by omega) (by omega) (by omega)
        have CE := Lib.hid cE
        clear cE s1 s2 s3 s4 q1 q2 q3 q4
        go_simp
        refine CE.out.mono ?_
        rintro e' wc ⟨he, hbc⟩
        subst he
        exact hK _ _ ⟨Lib.hid (by simp; rfl), Lib.hid (stay_b hbl.out hbc)⟩
      | succ jS =>
        simp at ht
  case he =>
    obtain ⟨hx1, hbl⟩ := hst
    clear hx1
    try go_wp2
    go_ret
    exact ⟨rfl, stay_b HB0.out (stay_b HB5.out hbl.out)⟩
end
end Go.Proofs.YtbnkabmnenginaaGreatDoor
