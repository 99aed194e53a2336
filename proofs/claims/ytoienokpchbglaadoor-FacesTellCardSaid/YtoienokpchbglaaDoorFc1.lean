/- faces.Of. Printed by gen_fc1.py. -/
import Derived.Test.YtoienokpchbglaaDoorPts
import Derived.Test.YtoienokpchbglaaDoorEn
namespace Go.Proofs.YtoienokpchbglaaDoor
set_option linter.unusedSimpArgs false
set_option linter.unusedVariables false
open Go.RowKit Go.Maps

/-- what has been seen when the first i triangles have been looked at, and the first j of a face -/
def SeenO (L : List T3) (c : E4 → Bool) (i : Nat) (x : T3) : Prop := ∃ j y, j < i ∧ L[j]? = some y ∧ Rch L c y x
structure GSeen (g : T3 → Option Int) (n : Nat) (S : T3 → Prop) : Prop where
  pos : ∀ t, 0 < (g t).getD 0 ↔ S t
  ge : ∀ t, 0 ≤ (g t).getD 0
  le : ∀ t, (g t).getD 0 ≤ n
theorem GSeen.start (L : List T3) (c : E4 → Bool) : GSeen (fun _ => none) 0 (SeenO L c 0) := ⟨fun t => by simp [SeenO], fun t => by simp, fun t => by simp⟩
theorem GSeen.re {g : T3 → Option Int} {n : Nat} {S S' : T3 → Prop} (h : GSeen g n S) (hs : ∀ t, S t ↔ S' t) : GSeen g n S' := ⟨fun t => (h.pos t).trans (hs t), h.ge, h.le⟩
theorem GSeen.inc {g : T3 → Option Int} {n : Nat} {S : T3 → Prop} (h : GSeen g n S) (u : T3) : GSeen (setF g u ((g u).getD 0 + 1)) (n + 1) (fun t => S t ∨ t = u) := by
  refine ⟨fun t => ?_, fun t => ?_, fun t => ?_⟩
  · unfold setF
    by_cases e : t = u
    · subst e
      have := h.ge t
      simp
      omega
    · simp [e, h.pos t]
  · unfold setF
    by_cases e : t = u
    · subst e
      have := h.ge t
      simp
      omega
    · simp [e, h.ge t]
  · unfold setF
    by_cases e : t = u
    · subst e
      have := h.le t
      simp
      omega
    · have := h.le t
      simp [e]
      omega
theorem tsl_info : (Tryd.prog.info? 28).map (fun i => (i.zero, i.size, i.bytes)) = some (some (.slice none 0 0), 1, 24) := by kernel_rfl
theorem RowsT.monoD {w : World} {base base' : Nat} {v : Value} {fs : List (List T3)} {vs : List Value} (h : RowsT w base v fs vs) (hb : base' ≤ base) : RowsT w base' v fs vs :=
  ⟨own_mono h.own hb, h.len, fun j f hf => by
    obtain ⟨vj, h1, h2⟩ := h.row j f hf
    exact ⟨vj, h1, own_mono h2 hb⟩⟩
theorem below_of_grown {B mb : Nat} {a b : World} (h : a.grownBy b (some mb)) (hB : B ≤ mb) (hs : B ≤ a.heap.size) : Below B a b := by
  refine ⟨h.os, h.tape, h.output, h.size, fun k hk => h.block k (Nat.lt_of_lt_of_le hk hs) ?_⟩
  intro e
  have := Option.some.inj e
  omega
structure OfS (w0 : World) (B1 mb : Nat) (L : List T3) (c : E4 → Bool) (fs : List (List T3)) (vs : List Value) (g : T3 → Option Int) (n : Nat) (S : T3 → Prop) (v : Value) (wr : World) : Prop where
  rows : RowsT wr B1 v fs vs
  map : MapI kT wr mb n g
  seen : GSeen g n S
  bel : Below B1 w0 wr
  le : B1 ≤ w0.heap.size
section
variable {w0 : World} {B1 mb n : Nat} {L : List T3} {c : E4 → Bool} {fs : List (List T3)} {vs : List Value} {g : T3 → Option Int} {S : T3 → Prop} {v : Value} {wr w' : World}
theorem OfS.sz (h : OfS w0 B1 mb L c fs vs g n S v wr) : B1 ≤ wr.heap.size := Nat.le_trans h.le h.bel.size
theorem OfS.below (h : OfS w0 B1 mb L c fs vs g n S v wr) (hb : Below wr.heap.size wr w') : OfS w0 B1 mb L c fs vs g n S v w' := ⟨h.rows.below hb, h.map.stay hb, h.seen, h.bel.trans (hb.mono h.sz), h.le⟩
theorem OfS.re (h : OfS w0 B1 mb L c fs vs g n S v wr) {S' : T3 → Prop} (hs : ∀ t, S t ↔ S' t) : OfS w0 B1 mb L c fs vs g n S' v wr := ⟨h.rows, h.map, h.seen.re hs, h.bel, h.le⟩
end
set_option maxRecDepth 100000 in
set_option maxHeartbeats 12800000 in
theorem of_any (pb nb kb W H B : Nat) (vm vc vt : Value) (L : List T3) (mn mk : Nat) (fk : E4 → Option Int) (w : World) (hs : Steps w) (hp : PapI w pb nb kb W H vm vc vt L mn mk fk) (ho : w.ownsRow B 93 3 vt L.length (tcT L))
    (hL : ∀ t ∈ L, SmT t) (hLl : L.length ≤ 1000) (hso : L.Pairwise triLt) :
    Calls Tryd.prog 39 #[.pointer (some ⟨pb, 0, none⟩)] w fun r w' => ∃ v vs, r = .returned v ∧ RowsT w' w.heap.size v (facesL L (facF fk) L.length) vs ∧ Below w.heap.size w w' := by
  have hmm := @run_makeMap Tryd.prog
  have hmf : ∀ (fn : Fn) (first cap : Array Value) (w : World), (Instr.makeFunc fn first cap).run Tryd.prog w = .ok (.func fn first cap) w := fun _ _ _ _ => rfl
  have hnd := sorted_nodup hso
  have hK4 : ∀ t ∈ L, K4 t := fun t ht => (hL t ht).2.2
  have kb0 := heap_alloc_new w (.cells #[.pointer (some ⟨pb, 0, none⟩)] 66)
  have hb0 := below_new w (.cells #[.pointer (some ⟨pb, 0, none⟩)] 66)
  have e0 := cell_of_blk kb0 0
  simp only [List.getElem?_toArray, List.getElem?_cons_zero, List.getElem?_cons_succ] at e0
  have e0 := al_c e0 (.map #[] 0)
  have hb1 := ba hb0 (.map #[] 0)
  have c4 := (hp.below hb1).c4
  have hz1 : w.heap.size + 1 < ((w.alloc (.cells #[.pointer (some ⟨pb, 0, none⟩)] 66)).alloc (.map #[] 0)).heap.size := by simp
  obtain ⟨At, ct, hvt, _, _⟩ := own_slice ho
  subst hvt
  have hS0 : OfS ((w.alloc (.cells #[.pointer (some ⟨pb, 0, none⟩)] 66)).alloc (.map #[] 0)) (w.heap.size + 1) (w.heap.size + 1) L (facF fk) (facesL L (facF fk) 0) [] (fun _ => none) 0 (SeenO L (facF fk) 0) (.slice none 0 0) ((w.alloc (.cells #[.pointer (some ⟨pb, 0, none⟩)] 66)).alloc (.map #[] 0)) := by
    refine ⟨?_, ?_, GSeen.start L _, Below.refl _ _, Nat.le_of_lt hz1⟩
    · have : facesL L (facF fk) 0 = [] := by simp [facesL]
      rw [this]
      exact RowsT.nil _ _
    · have h := MapI.made kT (w.alloc (.cells #[.pointer (some ⟨pb, 0, none⟩)] 66))
      rw [World.size_alloc] at h
      exact h
  have HL := Lib.hid hL
  have HND := Lib.hid hnd
  have HK4 := Lib.hid hK4
  have HSO := Lib.hid hso
  have HP := Lib.hid hp
  have HO := Lib.hid ho
  have HS := Lib.hid hs
  have HS0 := Lib.hid hS0
  have HB1 := Lib.hid hb1
  obtain ⟨C, hC⟩ : ∃ C, C = facF fk := ⟨_, rfl⟩
  rw [← hC] at HS0 ⊢
  have HC := Lib.hid hC
  clear hL hnd hK4 hso hp ho hs hS0 hb1 hb0 kb0 hC
  go_enter Tryd.func39, Tryd.ntmps39
  go_wp2_with fail
  generalize (w.alloc (.cells #[.pointer (some ⟨pb, 0, none⟩)] 66)).alloc (.map #[] 0) = w0 at e0 c4 HS0 HB1 hz1 ⊢
  go_loopw [3, 16] (fun v x wr => ∃ (i n : Nat) (vs : List Value) (g : T3 → Option Int), i ≤ L.length ∧ x = .int .i64 i ∧ n ≤ i * 1000 ∧ Hid (OfS w0 (w.heap.size + 1) (w.heap.size + 1) L C (facesL L C i) vs g n (SeenO L C i) v wr)) (fun _ x _ => L.length - (intOf x).toNat)
  case atStart => exact ⟨0, 0, [], fun _ => none, by omega, rfl, by omega, HS0⟩
  case round =>
    clear HS0
    obtain ⟨i, n, vs, g, hi, rfl, hn, hO⟩ := hrel
    have hbw : Below w.heap.size w wr := HB1.out.trans (hO.out.bel.mono (Nat.le_succ _))
    obtain ⟨Av, cv, hvv, hcv, _⟩ := own_slice hO.out.rows.own
    subst hvv
    by_cases hil : i < L.length
    · have hii : (i : Int) < (L.length : Int) := by omega
      obtain ⟨t, ht⟩ : ∃ t, L[i]? = some t := ⟨_, List.getElem?_eq_getElem hil⟩
      obtain ⟨gt, cpt, curt, hat, _, _, _, _⟩ := own_addr HO.out (by omega)
      cases hat
      obtain ⟨t0, t1, t2⟩ := own_tri (own_below HO.out hbw (Nat.le_refl _)) ht
      have hts := HL.out t (List.mem_of_getElem? ht)
      have htL : t ∈ L := List.mem_of_getElem? ht
      have hlk := (hO.out.map.alloc (.cells #[.int .i64 t.1, .int .i64 t.2.1, .int .i64 t.2.2] 93)).look1 (a := t) hts.ok
      have hV0 := hO.out.seen.ge t
      have hVp := hO.out.seen.pos t
      obtain ⟨V, hV⟩ : ∃ V, V = (g t).getD 0 := ⟨_, rfl⟩
      rw [← hV] at hlk hV0 hVp
      have hlk : (Instr.lookup 69 (.map (some (w.heap.size + 1))) (aggT3 t) false).run Tryd.prog (wr.alloc (.cells #[.int .i64 t.1, .int .i64 t.2.1, .int .i64 t.2.2] 93)) = .ok (.int .i64 V) (wr.alloc (.cells #[.int .i64 t.1, .int .i64 t.2.1, .int .i64 t.2.2] 93)) := hlk
      have hfirst : firstB L C i = true ↔ ¬ 0 < V := by
        rw [firstB_iff ht, hVp]
        constructor
        · rintro h ⟨j, y, h1, h2, h3⟩
          exact h j y h1 h2 h3
        · intro h j u h1 h2 h3
          exact h ⟨j, u, h1, h2, h3⟩
      have hold := fun (hf : firstB L C i = false) (u : T3) => face_old (u := u) HK4.out ht hf (SeenO L C i) (fun _ => Iff.rfl)
      have hnew := fun (hf : firstB L C i = true) (u : T3) => face_seen (u := u) HK4.out ht hf (SeenO L C i) (fun _ => Iff.rfl)
      have hyes := fun h => facesL_yes (c := C) ht h
      have hnoo := fun h => facesL_no (c := C) ht h
      have kU := heap_alloc_new wr (.cells #[.int .i64 t.1, .int .i64 t.2.1, .int .i64 t.2.2] 93)
      have HFI := Lib.hid hfirst
      have HOLD := Lib.hid hold
      have HNEW := Lib.hid hnew
      have HYES := Lib.hid hyes
      have HNOO := Lib.hid hnoo
      have HT := Lib.hid ht
      have HTL := Lib.hid htL
      have HTS := Lib.hid hts
      have HKU := Lib.hid kU
      clear hfirst hold hnew hyes hnoo ht htL hts hV hVp kU
      by_cases hpos : 0 < V
      · have hd : decide (0 < V) = true := decide_eq_true hpos
        have hf : firstB L C i = false := by
          cases hfb : firstB L C i
          · rfl
          · exact absurd hpos (HFI.out.1 hfb)
        have hO2 := (hO.out.below (below_new wr (.cells #[.int .i64 t.1, .int .i64 t.2.1, .int .i64 t.2.2] 93))).re (HOLD.out hf)
        have hle : (facesL L C i).length = (facesL L C (i + 1)).length := by rw [HNOO.out hf]
        rw [← HNOO.out hf] at hO2
        have HO2 := Lib.hid hO2
        have HLE := Lib.hid hle
        clear hO2 hf hle
        go_wp2
        go_roundw
        case rel => exact ⟨i + 1, n, vs, g, by omega, by go_num, by omega, by rw [HLE.out]; exact HO2⟩
        case measure => simp [intOf]; omega
      · have hd : decide (0 < V) = false := decide_eq_false hpos
        have hf : firstB L C i = true := HFI.out.2 hpos
        have HF := Lib.hid hf
        clear hf
        have hb6 := below_new wr (.cells #[.int .i64 t.1, .int .i64 t.2.1, .int .i64 t.2.2] 93)
        have hbw6 := ba hbw (.cells #[.int .i64 t.1, .int .i64 t.2.1, .int .i64 t.2.2] 93)
        have e6 := al_c (keep_c e0 hO.out.bel (Nat.lt_succ_self _)) (.cells #[.int .i64 t.1, .int .i64 t.2.1, .int .i64 t.2.2] 93)
        have hp6 := HP.out.below hbw6
        have hO6 := hO.out.below hb6
        have u0 := cell_of_blk HKU.out 0
        have u1 := cell_of_blk HKU.out 1
        have u2 := cell_of_blk HKU.out 2
        simp only [List.getElem?_toArray, List.getElem?_cons_zero, List.getElem?_cons_succ] at u0 u1 u2
        have cS := spread_any pb nb kb W H 70 vm vc _ L mn mk fk t C _ (HS.out.below hbw6) hp6 HL.out hLl HTL.out of1_enter #[.pointer (some ⟨w.heap.size, 0, none⟩)] (by rw [HC.out]; exact cross_fac pb nb kb W H w.heap.size vm vc _ L mn mk fk _ hp6 e6 HL.out)
        have hcl := fun (q s : List T3) (hq : Closed L C t q) (hp : s.Perm q) (hs : s.Pairwise triLt) => closed_comp HSO.out HTL.out hq hp hs
        have CS := Lib.hid cS
        have HCL := Lib.hid hcl
        have HO6 := Lib.hid hO6
        clear cS hcl hp6 hO6 hO hb6 HKU
        go_wp2_with fail
        clear hlk hd t0 t1 t2
        generalize wr.alloc (.cells #[.int .i64 t.1, .int .i64 t.2.1, .int .i64 t.2.2] 93) = w6 at e6 u0 u1 u2 CS HO6 hbw6 ⊢
        go_wp2_with (go_at_call 69; refine CS.out.mono ?_; rintro r w7 ⟨vS, q, S, rfl, hq, hpm, hss, hoS, hb7⟩; obtain rfl := HCL.out q S hq hpm hss; obtain ⟨AS, cS, hvS, _, _⟩ := own_slice hoS; subst hvS)
        have hSl : (compL L C t).length ≤ 1000 := Nat.le_trans (nodup_sub_len (sorted_nodup hss) fun x hx => ((compL_mem HTL.out).1 hx).mem HTL.out) hLl
        have hsm : ∀ x ∈ compL L C t, x ∈ L := fun x hx => ((compL_mem HTL.out).1 hx).mem HTL.out
        have hmem : ∀ x, x ∈ compL L C t ↔ Rch L C t x := fun x => compL_mem HTL.out
        obtain ⟨S, hS⟩ : ∃ S, S = compL L C t := ⟨_, rfl⟩
        rw [← hS] at hoS hSl hsm hmem ⊢
        have hO7 := HO6.out.below hb7
        have hbw7 := stay_b hbw6 hb7
        have HSM := Lib.hid hsm
        have HMEM := Lib.hid hmem
        have HS_ := Lib.hid hS
        have HOS := Lib.hid hoS
        have HO7 := Lib.hid hO7
        have HO6S := Lib.hid HO6.out.sz
        have HBW7 := Lib.hid hbw7
        clear hq hpm hss hsm hmem hS hoS hO7 hbw7 hb7 HO6 u0 u1 u2 e6 hbw6 CS HCL
        obtain ⟨wo, hwo⟩ : ∃ x, x = wr := ⟨_, rfl⟩
        subst hwo
        go_loopw [30] (fun x wz => ∃ (k n' : Nat) (g' : T3 → Option Int), k ≤ S.length ∧ x = .int .i64 k ∧ n' ≤ n + k ∧ Hid (MapI kT wz (w.heap.size + 1) n' g') ∧ Hid (GSeen g' n' (fun x => SeenO L C i x ∨ x ∈ S.take k)) ∧ Hid (w7.grownBy wz (some (w.heap.size + 1)))) (fun x _ => S.length - (intOf x).toNat)
        case atStart => exact ⟨0, n, g, by omega, rfl, by omega, Lib.hid HO7.out.map, Lib.hid (HO7.out.seen.re fun x => by simp), Lib.hid (grown_of_below (Below.refl _ _))⟩
        case round =>
          obtain ⟨k, n', g', hk, rfl, hn', hM, hG, hW⟩ := hrel
          by_cases hkS : k < S.length
          · have hki : (k : Int) < (S.length : Int) := by omega
            obtain ⟨u, hu⟩ : ∃ u, S[k]? = some u := ⟨_, List.getElem?_eq_getElem hkS⟩
            obtain ⟨gs, cps, curs, has, _, _, _, _⟩ := own_addr HOS.out (by omega)
            cases has
            have hne := own_notmap HOS.out HO7.out.map.is
            have hoS2 := World.ownsRow.kept HOS.out hW.out (.inr hne)
            obtain ⟨x0, x1, x2⟩ := own_tri hoS2 hu
            have huS : u ∈ S := List.mem_of_getElem? hu
            have huk := (HL.out u (HSM.out u huS)).ok
            have hV0 := hG.out.ge u
            have hV1 := hG.out.le u
            have hinc := hG.out.inc u
            have htk : S.take (k + 1) = S.take k ++ [u] := by rw [List.take_add_one, hu]; rfl
            have hG2 : ∀ V, V = (g' u).getD 0 → GSeen (setF g' u (V + 1)) (n' + 1) (fun x => SeenO L C i x ∨ x ∈ S.take (k + 1)) := by
              intro V hV
              rw [hV]
              refine hinc.re fun x => ?_
              rw [htk, List.mem_append, List.mem_singleton, or_assoc]
            obtain ⟨V2, hV2⟩ : ∃ V, V = (g' u).getD 0 := ⟨_, rfl⟩
            have hG3 := hG2 V2 hV2
            rw [← hV2] at hV0 hV1
            have kU := heap_alloc_new wr (.cells #[.int .i64 u.1, .int .i64 u.2.1, .int .i64 u.2.2] 93)
            have hmb : wr.heap.size ≠ w.heap.size + 1 := by have := hM.out.lt; omega
            have hM2 := (hM.out.alloc (.cells #[.int .i64 u.1, .int .i64 u.2.1, .int .i64 u.2.2] 93)).drew
            have hgw : wr.grownBy (wr.alloc (.cells #[.int .i64 u.1, .int .i64 u.2.1, .int .i64 u.2.2] 93)).drew (some (w.heap.size + 1)) := grown_of_below (below_new wr _).drew
            have u0 := cell_of_blk kU 0
            have u1 := cell_of_blk kU 1
            have u2 := cell_of_blk kU 2
            simp only [List.getElem?_toArray, List.getElem?_cons_zero, List.getElem?_cons_succ] at u0 u1 u2
            have hnm : n' < maxLen := by unfold maxLen; have : i * 1000 ≤ 1000 * 1000 := Nat.mul_le_mul_right _ (by omega); omega
            have hVb : V2 ≤ 100000000 := by have : i * 1000 ≤ 1000 * 1000 := Nat.mul_le_mul_right _ (by omega); omega
            have hzw : (Lit.int .i64 (V2 + 1)).wf = true := wf_of (by unfold inR; omega)
            have HG3 := Lib.hid hG3
            have HM2 := Lib.hid hM2
            have HGW := Lib.hid (grown_trans hW.out hgw)
            have HUK := Lib.hid huk
            have HZW := Lib.hid hzw
            have HNM := Lib.hid hnm
            have HVE := Lib.hid hV2
            have hw1 : IntKind.i64.wrap (V2 + 1) = V2 + 1 := IntWalk.i64_in _ (by omega)
            clear hG hG2 hG3 hinc hM hM2 hgw hW hne hoS2 huS huk hzw hnm hV2 kU htk hu hV1
            go_wp2_with fail
            generalize wr.alloc (.cells #[.int .i64 u.1, .int .i64 u.2.1, .int .i64 u.2.2] 93) = w8 at u0 u1 u2 HM2 HGW ⊢
            have u0 : w8.drew.cell? ⟨wr.heap.size, 0, none⟩ = some (.int .i64 u.1) := u0
            have u1 : w8.drew.cell? ⟨wr.heap.size, 1, none⟩ = some (.int .i64 u.2.1) := u1
            have u2 : w8.drew.cell? ⟨wr.heap.size, 2, none⟩ = some (.int .i64 u.2.2) := u2
            refine wp_region_inv (fun Lq aq WN => ∃ s : Nat → Value, aq = { tmps := #[.pointer (some ⟨pb, 0, none⟩), .pointer (some ⟨w.heap.size, 0, none⟩), .slice none 0 0, .slice Av (facesL L C i).length cv, .map (some (w.heap.size + 1)), undef, .pointer (some ⟨wo.heap.size, 0, none⟩), .slice (some ⟨gs, 0, none⟩) S.length cS, undef, .pointer (some ⟨wr.heap.size, 0, none⟩), .map (some (w.heap.size + 1)), .pointer (some ⟨pb, 0, none⟩), .pointer (some ⟨pb, 0, none⟩), .pointer (some ⟨pb, 4, none⟩), .slice (some ⟨gt, 0, none⟩) L.length ct, .int .i64 (L.length : Int), .int .i64 (i : Int), .bool true, .pointer (some ⟨gt, i * 3, none⟩), .agg #[.int .i64 t.1, .int .i64 t.2.1, .int .i64 t.2.2], .map (some (w.heap.size + 1)), .agg #[.int .i64 t.1, .int .i64 t.2.1, .int .i64 t.2.2], .int .i64 V, .bool false, .pointer (some ⟨pb, 0, none⟩), .agg #[.int .i64 t.1, .int .i64 t.2.1, .int .i64 t.2.2], .func (.func 70) #[] #[.pointer (some ⟨w.heap.size, 0, none⟩)], .slice (some ⟨gs, 0, none⟩) S.length cS, .slice (some ⟨gs, 0, none⟩) S.length cS, .int .i64 (S.length : Int), .int .i64 (k : Int), .bool true, .pointer (some ⟨gs, k * 3, none⟩), .agg #[.int .i64 u.1, .int .i64 u.2.1, .int .i64 u.2.2], (s 0), (s 1), (s 2), (s 3), (s 4), (s 5), u40, u41, u42, u43, u44, u45, undef], defers := [] } ∧ Sv 7 [some (.map (some (w.heap.size + 1))), some (.agg #[.int .i64 u.1, .int .i64 u.2.1, .int .i64 u.2.2]), some (.int .i64 V2), some (.int .i64 (V2 + 1)), none, none, some (undef)] Lq s ∧ Cl [(6, 0), (6, 1), (6, 2), (6, 3), (6, 4), (6, 5), (5, 4)] Lq ∧ (Lq.getD 5 false = true → ∃ v0, s 4 = .tuple #[v0, s 5]) ∧ EnS kT (w8.drew) (w.heap.size + 1) (n') (g') (u) (V2 + 1) (Lq.getD 4 false) (Lq.getD 6 false) (s 4) WN) (by kernel_rfl) ?_ ?_ ?_
            · refine ⟨listF [u34, u35, u36, u37, u38, u39, undef], rfl, Sv.start 7 _ _, Cl.start _ _, fun h => (by rw [getD_replicate_false] at h; cases h), ?_⟩
              rw [getD_replicate_false, getD_replicate_false]
              exact Below.refl _ _
            · intro Lq aq WN i0 hI hr
              obtain ⟨s, rfl, hv, hcl, hx, hst⟩ := hI
              have hi0 : i0 < 7 := ready_lt hr
              have hno := (mem_ready.1 hr).1
              have hsz := hv.sz
              have HV := Lib.hid hv
              have HST := Lib.hid hst
              have HX := Lib.hid hx
              have HCL := Lib.hid hcl
              clear hv hst hx hcl
              have hii : i0 = 0 ∨ i0 = 1 ∨ i0 = 2 ∨ i0 = 3 ∨ i0 = 4 ∨ i0 = 5 ∨ i0 = 6 := by omega
              clear hi0
              rcases hii with rfl | rfl | rfl | rfl | rfl | rfl | rfl
              · clear hr
                have hs0 : Lq.getD 6 false = false := HCL.out.no (i := 0) (by decide) hno
                refine wpOp_step rfl (fun K hK => ?_)
                go_simp
                refine hK _ _ ?_
                exact ⟨upd s 0 (.map (some (w.heap.size + 1))), rfl, Sv.put HV.out (fun u hu => by cases hu; rfl), Cl.set HCL.out (by simp only [List.mem_cons, List.not_mem_nil, or_false]; rintro p (rfl | rfl | rfl | rfl | rfl | rfl | rfl) hp <;> first | assumption | (simp at hp; done)), (fun hh => HX.out (by rwa [set_other (show (0 : Nat) ≠ 5 by decide)] at hh)), EnS.keep HST.out (by decide) (by decide) rfl⟩
              · clear hr
                have hs0 : Lq.getD 6 false = false := HCL.out.no (i := 1) (by decide) hno
                have hgw := HST.out.grown
                have q0 := grow_c hgw hmb u0
                have q1 := grow_c hgw hmb u1
                have q2 := grow_c hgw hmb u2
                clear hgw
                refine wpOp_step rfl (fun K hK => ?_)
                go_simp
                refine hK _ _ ?_
                exact ⟨upd s 1 (.agg #[.int .i64 u.1, .int .i64 u.2.1, .int .i64 u.2.2]), rfl, Sv.put HV.out (fun u hu => by cases hu; rfl), Cl.set HCL.out (by simp only [List.mem_cons, List.not_mem_nil, or_false]; rintro p (rfl | rfl | rfl | rfl | rfl | rfl | rfl) hp <;> first | assumption | (simp at hp; done)), (fun hh => HX.out (by rwa [set_other (show (1 : Nat) ≠ 5 by decide)] at hh)), EnS.keep HST.out (by decide) (by decide) rfl⟩
              · have d0 := ready_dep hr (k := 0) (by kernel_rfl)
                have d1 := ready_dep hr (k := 1) (by kernel_rfl)
                clear hr
                have hs0 : Lq.getD 6 false = false := HCL.out.no (i := 2) (by decide) hno
                have e0 : s 0 = .map (some (w.heap.size + 1)) := HV.out.v d0 rfl
                have e1 : s 1 = .agg #[.int .i64 u.1, .int .i64 u.2.1, .int .i64 u.2.2] := HV.out.v d1 rfl
                have hst0 := HST.out
                rw [hs0] at hst0
                have hlk0 := hst0.look HM2.out HUK.out
                rw [← HVE.out] at hlk0
                have hlk : (Instr.lookup (kT).T (.map (some (w.heap.size + 1))) ((kT).enc (u)) false).run Tryd.prog WN = .ok (.int .i64 V2) WN := hlk0
                clear hst0 hlk0
                simp only [kT] at hlk
                refine wpOp_step rfl (fun K hK => ?_)
                go_simp
                refine hK _ _ ?_
                exact ⟨upd (upd (upd s 0 (.map (some (w.heap.size + 1)))) 1 (.agg #[.int .i64 u.1, .int .i64 u.2.1, .int .i64 u.2.2])) 2 (.int .i64 V2), rfl, Sv.put (Sv.re (j := 1) (v := .agg #[.int .i64 u.1, .int .i64 u.2.1, .int .i64 u.2.2]) (Sv.re (j := 0) (v := .map (some (w.heap.size + 1))) HV.out e0) e1) (fun u hu => by cases hu; rfl), Cl.set HCL.out (by simp only [List.mem_cons, List.not_mem_nil, or_false]; rintro p (rfl | rfl | rfl | rfl | rfl | rfl | rfl) hp <;> first | assumption | (simp at hp; done)), (fun hh => HX.out (by rwa [set_other (show (2 : Nat) ≠ 5 by decide)] at hh)), EnS.keep HST.out (by decide) (by decide) rfl⟩
              · have d2 := ready_dep hr (k := 2) (by kernel_rfl)
                clear hr
                have hs0 : Lq.getD 6 false = false := HCL.out.no (i := 3) (by decide) hno
                have e2 : s 2 = .int .i64 V2 := HV.out.v d2 rfl
                refine wpOp_step rfl (fun K hK => ?_)
                go_simp
                refine hK _ _ ?_
                exact ⟨upd (upd s 2 (.int .i64 V2)) 3 (.int .i64 (V2 + 1)), rfl, Sv.put (Sv.re (j := 2) (v := .int .i64 V2) HV.out e2) (fun u hu => by cases hu; rfl), Cl.set HCL.out (by simp only [List.mem_cons, List.not_mem_nil, or_false]; rintro p (rfl | rfl | rfl | rfl | rfl | rfl | rfl) hp <;> first | assumption | (simp at hp; done)), (fun hh => HX.out (by rwa [set_other (show (3 : Nat) ≠ 5 by decide)] at hh)), EnS.keep HST.out (by decide) (by decide) rfl⟩
              · have d0 := ready_dep hr (k := 0) (by kernel_rfl)
                have d1 := ready_dep hr (k := 1) (by kernel_rfl)
                clear hr
                have hs0 : Lq.getD 6 false = false := HCL.out.no (i := 4) (by decide) hno
                have he0 : Lq.getD 4 false = false := getD_both hno
                have e0 : s 0 = .map (some (w.heap.size + 1)) := HV.out.v d0 rfl
                have e1 : s 1 = .agg #[.int .i64 u.1, .int .i64 u.2.1, .int .i64 u.2.2] := HV.out.v d1 rfl
                obtain ⟨v0, st, w1, hrun, hent, hgr⟩ := (MapI.stay HM2.out (HST.out.atA he0 hs0)).enter lawT HNM.out HUK.out
                have HENT := Lib.hid hent
                have HGR := Lib.hid hgr
                clear hent hgr
                simp only [kT] at hrun
                refine wpOp_step rfl (fun K hK => ?_)
                go_simp
                refine hK _ _ ?_
                exact ⟨upd (upd (upd s 0 (.map (some (w.heap.size + 1)))) 1 (.agg #[.int .i64 u.1, .int .i64 u.2.1, .int .i64 u.2.2])) 4 (.tuple #[v0, st]), rfl, Sv.put (Sv.re (j := 1) (v := .agg #[.int .i64 u.1, .int .i64 u.2.1, .int .i64 u.2.2]) (Sv.re (j := 0) (v := .map (some (w.heap.size + 1))) HV.out e0) e1) (fun u hu => by cases hu), Cl.set HCL.out (by simp only [List.mem_cons, List.not_mem_nil, or_false]; rintro p (rfl | rfl | rfl | rfl | rfl | rfl | rfl) hp <;> first | assumption | (simp at hp; done)), (fun hh => absurd (HCL.out (5, 4) (by decide) (by rwa [set_other (show (4 : Nat) ≠ 5 by decide)] at hh)) (by rw [he0]; decide)), EnS.entered HST.out he0 hs0 hsz (by decide) (by decide) HENT.out HGR.out⟩
              · have d4 := ready_dep hr (k := 4) (by kernel_rfl)
                clear hr
                have hs0 : Lq.getD 6 false = false := HCL.out.no (i := 5) (by decide) hno
                obtain ⟨v0, st, e4, hent, hgr⟩ := HST.out.atB d4 hs0
                refine wpOp_step rfl (fun K hK => ?_)
                go_simp
                refine hK _ _ ?_
                exact ⟨upd (upd s 4 (.tuple #[v0, st])) 5 st, rfl, Sv.put (Sv.re (j := 4) (v := .tuple #[v0, st]) HV.out e4) (fun u hu => by cases hu), Cl.set HCL.out (by simp only [List.mem_cons, List.not_mem_nil, or_false]; rintro p (rfl | rfl | rfl | rfl | rfl | rfl | rfl) hp <;> first | assumption | (simp at hp; done)), (fun _ => ⟨v0, rfl⟩), EnS.keep HST.out (by decide) (by decide) e4.symm⟩
              · have d0 := ready_dep hr (k := 0) (by kernel_rfl)
                have d1 := ready_dep hr (k := 1) (by kernel_rfl)
                have d2 := ready_dep hr (k := 2) (by kernel_rfl)
                have d3 := ready_dep hr (k := 3) (by kernel_rfl)
                have d4 := ready_dep hr (k := 4) (by kernel_rfl)
                have d5 := ready_dep hr (k := 5) (by kernel_rfl)
                clear hr
                have hs0 : Lq.getD 6 false = false := getD_both hno
                have e0 : s 0 = .map (some (w.heap.size + 1)) := HV.out.v d0 rfl
                obtain ⟨v0, st, ee, hent, hgr⟩ := HST.out.atB d4 hs0
                obtain ⟨v1, ex⟩ := HX.out d5
                have e5 : s 5 = st := by
                  have h1 := ee.symm.trans ex
                  simp only [Value.tuple.injEq, Array.mk.injEq, List.cons.injEq, and_true] at h1
                  exact h1.2.symm
                have e3 : s 3 = .int .i64 (V2 + 1) := HV.out.v d3 rfl
                obtain ⟨w2, hrun, hm2, hg2⟩ := hent.store (V2 + 1) HZW.out
                have HM2 := Lib.hid hm2
                have HG2 := Lib.hid hg2
                have EX := Lib.hid ex
                clear hm2 hg2 hent hgr ee ex
                simp only [kT] at hrun
                refine wpOp_step rfl (fun K hK => ?_)
                go_simp
                refine hK _ _ ?_
                exact ⟨upd (upd (upd (upd s 0 (.map (some (w.heap.size + 1)))) 5 st) 3 (.int .i64 (V2 + 1))) 6 undef, rfl, Sv.put (Sv.re (j := 3) (v := .int .i64 (V2 + 1)) (Sv.re (j := 5) (v := st) (Sv.re (j := 0) (v := .map (some (w.heap.size + 1))) HV.out e0) e5) e3) (fun u hu => by cases hu; rfl), Cl.set HCL.out (by simp only [List.mem_cons, List.not_mem_nil, or_false]; rintro p (rfl | rfl | rfl | rfl | rfl | rfl | rfl) hp <;> first | assumption | (simp at hp; done)), (fun _ => ⟨v1, by rw [show upd (upd (upd (upd s 0 (.map (some (w.heap.size + 1)))) 5 st) 3 (.int .i64 (V2 + 1))) 6 undef 4 = s 4 from rfl, EX.out]; exact congrArg (fun q => Value.tuple #[v1, q]) e5⟩), EnS.stored HST.out hsz (by decide) HM2.out HG2.out⟩
            · intro Lq aq WN hI hrd
              obtain ⟨s, ha, hv, hcl, hx, hst⟩ := hI
              have hall := all_listedM hrd hv.sz (by kernel_rfl)
              clear hrd
              obtain ⟨v1, ex⟩ := hx (hall 5 (by decide))
              obtain ⟨v2, hv2⟩ : ∃ v, v = s 5 := ⟨_, rfl⟩
              rw [← hv2] at ex
              have e0 : s 0 = (.map (some (w.heap.size + 1))) := hv.v (hall 0 (by decide)) rfl
              have e1 : s 1 = (.agg #[.int .i64 u.1, .int .i64 u.2.1, .int .i64 u.2.2]) := hv.v (hall 1 (by decide)) rfl
              have e2 : s 2 = (.int .i64 V2) := hv.v (hall 2 (by decide)) rfl
              have e3 : s 3 = (.int .i64 (V2 + 1)) := hv.v (hall 3 (by decide)) rfl
              have e4 := ex
              have e5 := hv2.symm
              simp only [e0, e1, e2, e3, e4, e5] at ha
              subst ha
              have hend := hst.atC (hall 6 (by decide))
              clear hall hv hcl hx hst hv2 ex e0 e1 e2 e3 e4 e5
              have HE1 := Lib.hid hend.map
              have HE2 := Lib.hid (grown_trans HGW.out hend.grown)
              clear hend
              go_wp2
              go_roundw
              case rel => exact ⟨_, _, _, _, _, _, _, _, _, _, _, _, ⟨k + 1, n' + 1, setF g' u (V2 + 1), by omega, by go_num, by omega, HE1, HG3, HE2⟩, rfl⟩
              case measure => simp [intOf]; omega
          · obtain rfl : k = S.length := by omega
            have hgz := hW.out
            have hsz := HO7.out.sz
            have hb1 := below_of_grown hgz (Nat.le_refl _) hsz
            have hrows := HO7.out.rows.grown hgz (fun b hb => by cases hb; exact HO7.out.map.is)
            have hoS2 := World.ownsRow.kept HOS.out hgz (.inr (own_notmap HOS.out HO7.out.map.is))
            have hsz2 := Nat.le_trans hsz hgz.size
            have hfl := facesL_len L C i
            have hse : GSeen g' n' (SeenO L C (i + 1)) := by
              refine hG.out.re fun x => ?_
              rw [List.take_of_length_le (Nat.le_refl _), HMEM.out x]
              exact HNEW.out HF.out x
            have HR := Lib.hid hrows
            have HOS2 := Lib.hid (own_mono hoS2 HO6S.out)
            have HB1' := Lib.hid hb1
            have HSE := Lib.hid hse
            clear hgz hb1 hrows hoS2 hse hG
            go_wp2_with (at_builtin; go_loud (refine app_gen Tryd.underlying37 tsl_info rfl (by decide) (by decide) rfl (.tmp 41) (.tmp 43) rfl (w.heap.size + 1) _ (facesL L C i).length vs [.slice AS S.length cS] rfl HR.out.own hsz2 1 _ rfl rfl rfl (fun u hu => by simp only [List.mem_cons, List.not_mem_nil, or_false] at hu; subst hu; rfl) (by omega) ?_); intro v' w' hown' hb' hgr')
            have hnb := own_notmap HR.out.own hM.out.is
            have hO9 : OfS w0 (w.heap.size + 1) (w.heap.size + 1) L C (facesL L C (i + 1)) (vs ++ [.slice AS S.length cS]) g' n' (SeenO L C (i + 1)) v' w' := by
              rw [HYES.out HF.out, ← HS_.out]
              exact ⟨HR.out.app HOS2.out hown' hgr', hM.out.heap (hgr'.grown.block _ hM.out.lt (fun e => hnb e.symm)), HSE.out, (HO7.out.bel.trans HB1'.out).trans hb', HO7.out.le⟩
            have HO9 := Lib.hid hO9
            clear hO9 hown' hb' hgr' hnb
            go_roundw
            case rel => exact ⟨i + 1, n', _, g', by omega, by go_num, by omega, HO9⟩
            case measure => simp [intOf]; omega
    · obtain rfl : i = L.length := by omega
      have hii : ¬ (L.length : Int) < (L.length : Int) := by omega
      have hbf := hO.out.rows.monoD (Nat.le_succ w.heap.size)
      have HBF := Lib.hid hbf
      have HBW := Lib.hid hbw
      clear hbf hbw
      go_wp2
      go_ret
      first | exact ⟨_, vs, rfl, HBF.out, HBW.out⟩ | exact ⟨_, rfl, ⟨vs, HBF.out⟩, HBW.out⟩
end Go.Proofs.YtoienokpchbglaaDoor
