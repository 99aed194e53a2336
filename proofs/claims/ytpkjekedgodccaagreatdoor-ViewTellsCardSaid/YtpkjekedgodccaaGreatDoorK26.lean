/- (*Pile).lies: are these the stacks of all triangles? Printed by gen_li.py.. -/
import Derived.Test.YtpkjekedgodccaaGreatDoorK25
namespace Go.Proofs.YtpkjekedgodccaaGreatDoor
set_option linter.unusedSimpArgs false
set_option linter.unusedVariables false
section
open Go.RowKit Go.Maps
open Classical in
noncomputable def liesB (L : List T3) (ms : List V6) (sts : List Stk) : Bool := decide (StksP L ms sts)
theorem liesB_yes {L : List T3} {ms : List V6} {sts : List Stk} (h : StksP L ms sts) : liesB L ms sts = true := @decide_eq_true _ (Classical.propDecidable _) h
theorem liesB_no {L : List T3} {ms : List V6} {sts : List Stk} (h : ¬ StksP L ms sts) : liesB L ms sts = false := @decide_eq_false _ (Classical.propDecidable _) h
theorem liesB_iff {L : List T3} {ms : List V6} {sts : List Stk} : liesB L ms sts = true ↔ StksP L ms sts := @decide_eq_true_iff _ (Classical.propDecidable _)
structure LieF (w : World) (pb : Nat) (vm va : Value) (L : List T3) (sts : List Stk) (xb gl mb : Nat) (wr : World) : Prop where
 pil : PilB wr xb pb vm va (.slice (some ⟨gl, 0, none⟩) L.length L.length) mb
 lev : ∃ ls : List Nat, ls.length = L.length ∧ wr.heap[gl]? = some (.cells (visN ls).toArray 3 (0, 0)) ∧ levP L sts sts.length 0 ls
 map : ∃ (n : Nat) (f : T3 → Option Value), n ≤ L.length ∧ PilM wr w.heap.size mb n f (grpL L sts sts.length 0)
set_option maxRecDepth 100000 in
set_option maxHeartbeats 25600000 in
theorem lies_any (wB : World) (xb pb nb kb W H B gl mb : Nat) (vm vc vt va : Value) (L : List T3) (mn mk : Nat) (fk : E4 → Option Int) (Ax As : Option Addr) (cx ns cS : Nat) (ms : List V6) (sts : List Stk) (w : World) (hp : PapI w pb nb kb W H vm vc vt L mn mk fk)
  (hvt : ∃ At ct, vt = .slice At L.length ct) (hL0 : 0 < L.length) (hLl : L.length ≤ 1000) (hB : Below wB.heap.size wB w) (hst : StkR wB As ns sts) (hx : PilB w xb pb (.slice Ax L.length cx) va (.slice (some ⟨gl, 0, none⟩) L.length L.length) mb) (hva : w.ownsRow wB.heap.size 44 3 va L.length (tcT (atsL L ms)))
  (hlev : w.heap[gl]? = some (.cells (Array.replicate L.length (.int .i64 0)) 3 (0, 0))) (hmap : MapV kPV w mb 0 (fun _ => none)) (hgl : wB.heap.size ≤ gl) (hmb : wB.heap.size ≤ mb) (hpb : pb ≠ gl ∧ pb ≠ mb ∧ nb ≠ gl ∧ nb ≠ mb) :
  Calls Tryz.prog 31 #[.pointer (some ⟨xb, 0, none⟩), .slice As ns cS] w fun r w' => r = .returned (.bool (liesB L ms sts)) ∧ Kp2 w w' gl mb ∧ (StksP L ms sts → LieF w pb (.slice Ax L.length cx) va L sts xb gl mb w') := by
 obtain ⟨At, ct, rfl⟩ := hvt
 obtain ⟨vm, hvm⟩ : ∃ vm : Value, vm = .slice Ax L.length cx := ⟨_, rfl⟩
 rw [← hvm] at hx ⊢
 obtain ⟨R, hR⟩ : ∃ R, R = liesB L ms sts := ⟨_, rfl⟩
 rw [← hR]
 have hyes : StksP L ms sts → R = true := fun h => hR.trans (liesB_yes h)
 have hnot : ¬ StksP L ms sts → R = false := fun h => hR.trans (liesB_no h)
 obtain ⟨ga, ca, cura, hvaE, _, _, hga, hgaH⟩ := own_addr hva hL0
 subst hvaE
 have hag : ga ≠ gl := fun e => by subst e; rw [hgaH] at hlev; simp at hlev
 have ham : ga ≠ mb := fun e => by subst e; obtain ⟨es, c, hm⟩ := hmap.is; rw [hgaH] at hm; cases hm
 have hxg : xb ≠ gl := fun e => by have h1 : w.heap[xb]? = _ := hx; rw [e, hlev] at h1; simp at h1
 have hxm : xb ≠ mb := fun e => by have h1 : w.heap[xb]? = _ := hx; obtain ⟨es, c, hm⟩ := hmap.is; rw [e, hm] at h1; cases h1
 have hgm : gl ≠ mb := fun e => by obtain ⟨es, c, hm⟩ := hmap.is; rw [← e, hlev] at hm; cases hm
 have hnl : ns = sts.length := hst.len
 subst hnl
 have hbs : wB.heap.size ≤ w.heap.size := hB.size
 have hsz := hst.sz
 have hglt := blk_lt hlev
 have hxlt := blk_lt (show w.heap[xb]? = _ from hx)
 have hmlt := hmap.lt
 have hmm := @run_makeMap Tryz.prog
 have HYES := Lib.hid hyes
 have HNOT := Lib.hid hnot
 have HP := Lib.hid hp
 have HB := Lib.hid hB
 have HST := Lib.hid hst
 have HX := Lib.hid hx
 have HVA := Lib.hid hva
 have HLEV := Lib.hid hlev
 have HMAP := Lib.hid hmap
 have HPB := Lib.hid hpb
 clear hyes hnot hR hp hst hx hva hlev hmap hgaH hvm hpb
 go_enter Tryz.func31, Tryz.ntmps31
 go_wp2_with fail
 have hS0 : LiS w pb vm (.slice (some ⟨ga, 0, none⟩) L.length ca) L ms sts xb gl mb w.heap.size 0 0 (w.alloc (.map #[] 0)) := by
  have hb0 := below_new w (.map #[] 0)
  refine ⟨LieI.start _ _ _, by simp [earl], ⟨HX.out.below hb0, ⟨List.replicate L.length 0, by simp, ?_, fun j s p t h => by omega⟩, ⟨0, fun _ => none, Nat.zero_le _, ?_⟩, (Kp2.refl w gl mb).below hb0⟩, ⟨0, Nat.zero_le _, ?_⟩⟩
  ·have := blk_below HLEV.out hb0 hglt
   rw [this]
   simp [visN]
  ·have h1 := PilM.of_map (HMAP.out.stay hb0) w.heap.size
   have h2 : grpL L sts 0 0 = fun _ => [] := by
    funext x
    unfold grpL
    simp
    cases sts with
    | nil => rfl
    | cons a l => simp
   rw [h2]
   exact h1
  ·have h1 := MapI.made kNI w
   have h2 : snF L sts 0 0 = fun _ => none := by
    funext z
    unfold snF
    rw [if_neg]
    rintro ⟨u, hu, _⟩
    simp [earl] at hu
   rw [h2]
   exact h1
 have HS0 := Lib.hid hS0
 clear hS0 hmm
 generalize w.alloc (.map #[] 0) = w0 at HS0 ⊢
 go_loopw [5, 16] (fun c v wr => ∃ i : Nat, i ≤ sts.length ∧ v = .int .i64 i ∧ c = .int .i64 ((earl sts i 0).length : Nat) ∧ Hid (LiS w pb vm (.slice (some ⟨ga, 0, none⟩) L.length ca) L ms sts xb gl mb w.heap.size i 0 wr)) (fun _ v _ => sts.length - (intOf v).toNat)
 case atStart => exact ⟨0, by omega, rfl, by simp [earl], HS0⟩
 case round =>
  clear HS0
  obtain ⟨i, hi, rfl, rfl, hS⟩ := hrel
  have hel := hS.out.len
  by_cases hin : i < sts.length
  ·obtain ⟨s, hs⟩ : ∃ s, sts[i]? = some s := ⟨_, List.getElem?_eq_getElem (by omega)⟩
   obtain ⟨bS, oS, A', c', hA, hrd, y0, y1, y2, y3⟩ := HST.out.at_ hs
   subst hA
   have hbw := HB.out.trans (hS.out.x.kp.out hgl hmb hbs)
   have y0 := sd y0 hbw
   have y1 := sd y1 hbw
   have y2 := sd y2 hbw
   have y3 := sd y3 hbw
   have hii : (i : Int) < (sts.length : Int) := by omega
   have hi0 : (0 : Int) ≤ (i : Int) := by omega
   have hok := HST.out.ok s (List.mem_of_getElem? hs)
   have hsl : s.2.length ≤ 140737488351232 := by obtain ⟨vs, _, h2⟩ := HST.out.ex; obtain ⟨_, _, _, _, h3⟩ := h2 i s hs; exact h3.1
   obtain ⟨p, hpv⟩ : ∃ p : Stk, 0 < i → sts[i - 1]? = some p := by
    by_cases h0 : 0 < i
    ·exact ⟨_, fun _ => List.getElem?_eq_getElem (show i - 1 < sts.length by omega)⟩
    ·exact ⟨s, fun h => absurd h h0⟩
   have hpc : 0 < i → wr.cell? ⟨bS, oS + (i - 1) * 4, none⟩ = some (.int .i64 p.1.1) ∧ wr.cell? ⟨bS, oS + (i - 1) * 4 + 1, none⟩ = some (.int .i64 p.1.2.1) ∧ wr.cell? ⟨bS, oS + (i - 1) * 4 + 2, none⟩ = some (.int .i64 p.1.2.2) := by
    intro h0
    obtain ⟨b2, o2, _, _, hA2, _, q0, q1, q2, _⟩ := HST.out.at_ (hpv h0)
    injection hA2 with hA2
    injection hA2 with e1 e2 _
    subst e1 e2
    exact ⟨sd q0 hbw, sd q1 hbw, sd q2 hbw⟩
   have hlt0 := hS.out.inv
   have hwsz0 := hS.out.x.kp.size
   have HSI := Lib.hid hs
   have HOK := Lib.hid hok
   have HRD := Lib.hid hrd
   have HPV := Lib.hid hpv
   obtain ⟨wo, hwo⟩ : ∃ x, x = wr := ⟨_, rfl⟩
   subst hwo
   have hbS := below_new wo (.cells #[.int .i64 s.1.1, .int .i64 s.1.2.1, .int .i64 s.1.2.2, .slice A' s.2.length c'] 54)
   have hS1 := hS.out.below hbS
   have kS := heap_alloc_new wo (.cells #[.int .i64 s.1.1, .int .i64 s.1.2.1, .int .i64 s.1.2.2, .slice A' s.2.length c'] 54)
   have HS1 := Lib.hid hS1
   clear hs hok hrd hpv hlt0 hS hS1
   go_wp2_with fail
   have z0 := cell_of_blk kS 0
   have z1 := cell_of_blk kS 1
   have z2 := cell_of_blk kS 2
   have z3 := cell_of_blk kS 3
   simp only [List.getElem?_toArray, List.getElem?_cons_zero, List.getElem?_cons_succ] at z0 z1 z2 z3
   have hpc : 0 < i → (wo.alloc (.cells #[.int .i64 s.1.1, .int .i64 s.1.2.1, .int .i64 s.1.2.2, .slice A' s.2.length c'] 54)).cell? ⟨bS, oS + (i - 1) * 4, none⟩ = some (.int .i64 p.1.1) ∧ (wo.alloc (.cells #[.int .i64 s.1.1, .int .i64 s.1.2.1, .int .i64 s.1.2.2, .slice A' s.2.length c'] 54)).cell? ⟨bS, oS + (i - 1) * 4 + 1, none⟩ = some (.int .i64 p.1.2.1) ∧ (wo.alloc (.cells #[.int .i64 s.1.1, .int .i64 s.1.2.1, .int .i64 s.1.2.2, .slice A' s.2.length c'] 54)).cell? ⟨bS, oS + (i - 1) * 4 + 2, none⟩ = some (.int .i64 p.1.2.2) := fun h0 => by
    obtain ⟨q0, q1, q2⟩ := hpc h0
    exact ⟨sd q0 hbS, sd q1 hbS, sd q2 hbS⟩
   have HKS := Lib.hid kS
   have hzlt : wo.heap.size < (wo.alloc (.cells #[.int .i64 s.1.1, .int .i64 s.1.2.1, .int .i64 s.1.2.2, .slice A' s.2.length c'] 54)).heap.size := by simp
   have hwsz : w.heap.size ≤ wo.heap.size := hwsz0
   have hbw2 := hbw.trans (hbS.mono hbw.size)
   clear kS y0 y1 y2 y3 hbw hbS
   generalize wo.alloc (.cells #[.int .i64 s.1.1, .int .i64 s.1.2.1, .int .i64 s.1.2.2, .slice A' s.2.length c'] 54) = w1 at z0 z1 z2 z3 hpc HKS HS1 hzlt hbw2 ⊢
   have cC : ∀ W : World, Calls Tryz.prog 67 #[aggT3 p.1, aggT3 s.1] W fun e w' => e = .returned (.int .i64 (cmpT p.1 s.1)) ∧ Below W.heap.size W w' := fun W => (cmpTri_any p.1.1 p.1.2.1 p.1.2.2 s.1.1 s.1.2.1 s.1.2.2 W).mono fun e w' h => ⟨h.1, h.2.below⟩
   obtain ⟨Z, hZ⟩ : ∃ Z, Z = cmpT p.1 s.1 := ⟨_, rfl⟩
   rw [← hZ] at cC
   obtain ⟨b0, hb0⟩ : ∃ b, b = decide ((0 : Int) < (i : Int)) := ⟨_, rfl⟩
   obtain ⟨bz, hbz⟩ : ∃ b, b = decide (0 ≤ Z) := ⟨_, rfl⟩
   obtain ⟨bl, hbl⟩ : ∃ b, b = ((s.2.length : Int) == 0) := ⟨_, rfl⟩
   have hpc2 : b0 = true → w1.cell? ⟨bS, oS + (i - 1) * 4, none⟩ = some (.int .i64 p.1.1) ∧ w1.cell? ⟨bS, oS + (i - 1) * 4 + 1, none⟩ = some (.int .i64 p.1.2.1) ∧ w1.cell? ⟨bS, oS + (i - 1) * 4 + 2, none⟩ = some (.int .i64 p.1.2.2) := fun h => hpc (by rw [hb0] at h; have := of_decide_eq_true h; omega)
   have hsub : b0 = true → IntKind.i64.wrap ((i : Int) - 1) = ((i - 1 : Nat) : Int) := fun h => by rw [hb0] at h; have := of_decide_eq_true h; rw [IntWalk.i64_in _ (by omega)]; omega
   have hjn : ((i - 1 : Nat) : Int) < (sts.length : Int) := by omega
   have hj0 : (0 : Int) ≤ ((i - 1 : Nat) : Int) := by omega
   have HPC := Lib.hid hpc2
   have HSUB := Lib.hid hsub
   have HBB := Lib.hid (And.intro hb0 (And.intro hbz hbl))
   have HZ := Lib.hid hZ
   have CC := Lib.hid cC
   have hb0' := hb0.symm
   have hbz' := hbz.symm
   have hbl' := hbl.symm
   have hb0n : decide (0 < i) = b0 := by rw [← hb0']; exact decide_eq_decide.2 (by omega)
   have HQ := Lib.hid (And.intro hb0' (And.intro hbz' (And.intro hbl' hb0n)))
   clear hpc hpc2 hsub hb0 hbz hbl hZ cC hb0' hbz' hbl' hb0n
   obtain ⟨V1_3, H1_3⟩ : ∃ V : Value, Hid (V = (bif b0 then .slice (some ⟨bS, oS, none⟩) sts.length cS else undef)) := ⟨_, Lib.hid rfl⟩
   obtain ⟨V1_4, H1_4⟩ : ∃ V : Value, Hid (V = (bif b0 then .int .i64 i else undef)) := ⟨_, Lib.hid rfl⟩
   obtain ⟨V1_5, H1_5⟩ : ∃ V : Value, Hid (V = (bif b0 then .int .i64 ((i - 1 : Nat) : Int) else undef)) := ⟨_, Lib.hid rfl⟩
   obtain ⟨V1_6, H1_6⟩ : ∃ V : Value, Hid (V = (bif b0 then .pointer (some ⟨bS, oS + (i - 1) * 4, none⟩) else undef)) := ⟨_, Lib.hid rfl⟩
   obtain ⟨V1_7, H1_7⟩ : ∃ V : Value, Hid (V = (bif b0 then .pointer (some ⟨bS, oS + (i - 1) * 4, none⟩) else undef)) := ⟨_, Lib.hid rfl⟩
   obtain ⟨V1_8, H1_8⟩ : ∃ V : Value, Hid (V = (bif b0 then aggT3 p.1 else undef)) := ⟨_, Lib.hid rfl⟩
   obtain ⟨V1_9, H1_9⟩ : ∃ V : Value, Hid (V = (bif b0 then .pointer (some ⟨wo.heap.size, 0, none⟩) else undef)) := ⟨_, Lib.hid rfl⟩
   obtain ⟨V1_10, H1_10⟩ : ∃ V : Value, Hid (V = (bif b0 then aggT3 s.1 else undef)) := ⟨_, Lib.hid rfl⟩
   obtain ⟨V1_11, H1_11⟩ : ∃ V : Value, Hid (V = (bif b0 then .int .i64 Z else undef)) := ⟨_, Lib.hid rfl⟩
   obtain ⟨V1_12, H1_12⟩ : ∃ V : Value, Hid (V = (bif b0 then .bool bz else undef)) := ⟨_, Lib.hid rfl⟩
   obtain ⟨V1_13, H1_13⟩ : ∃ V : Value, Hid (V = .bool (b0 && bz)) := ⟨_, Lib.hid rfl⟩
   obtain ⟨V1_14, H1_14⟩ : ∃ V : Value, Hid (V = .bool (b0 && bz)) := ⟨_, Lib.hid rfl⟩
   obtain ⟨V1_15, H1_15⟩ : ∃ V : Value, Hid (V = (bif (!(b0 && bz)) then .pointer (some ⟨wo.heap.size, 3, none⟩) else undef)) := ⟨_, Lib.hid rfl⟩
   obtain ⟨V1_16, H1_16⟩ : ∃ V : Value, Hid (V = (bif (!(b0 && bz)) then (.slice A' s.2.length c') else undef)) := ⟨_, Lib.hid rfl⟩
   obtain ⟨V1_17, H1_17⟩ : ∃ V : Value, Hid (V = (bif (!(b0 && bz)) then .int .i64 (s.2.length : Int) else undef)) := ⟨_, Lib.hid rfl⟩
   obtain ⟨V1_18, H1_18⟩ : ∃ V : Value, Hid (V = (bif (!(b0 && bz)) then .bool bl else undef)) := ⟨_, Lib.hid rfl⟩
   obtain ⟨V1_19, H1_19⟩ : ∃ V : Value, Hid (V = .bool ((b0 && bz) || bl)) := ⟨_, Lib.hid rfl⟩
   refine rg_plain (fin := ?z2) [.int .i64 i, .bool b0, .bool b0, V1_3, V1_4, V1_5, V1_6, V1_7, V1_8, V1_9, V1_10, V1_11, V1_12, V1_13, V1_14, V1_15, V1_16, V1_17, V1_18, V1_19] (fun WN => WN.cell? ⟨wo.heap.size, 0, none⟩ = some (.int .i64 s.1.1) ∧ WN.cell? ⟨wo.heap.size, 1, none⟩ = some (.int .i64 s.1.2.1) ∧ WN.cell? ⟨wo.heap.size, 2, none⟩ = some (.int .i64 s.1.2.2) ∧ WN.cell? ⟨wo.heap.size, 3, none⟩ = some ((.slice A' s.2.length c')) ∧ Below w1.heap.size w1 WN) ?hf (by kernel_rfl) (by kernel_rfl) rfl ⟨z0, z1, z2, z3, (Below.refl _ _).drew⟩ (fun WN hst => ?hs) (fun WN hst => ?he)
   case hf => simp only [putOps, Act.put, List.setIfInBounds_toArray, List.set_cons_succ, List.set_cons_zero]; exact rfl
   case hs =>
    have HST := Lib.hid hst
    obtain ⟨z0, z1, z2, z3, hbl⟩ := hst
    obtain ⟨g0, g1, g2, g3⟩ := HQ.out
    have hpc : b0 = true → WN.cell? ⟨bS, oS + (i - 1) * 4, none⟩ = some (.int .i64 p.1.1) ∧ WN.cell? ⟨bS, oS + (i - 1) * 4 + 1, none⟩ = some (.int .i64 p.1.2.1) ∧ WN.cell? ⟨bS, oS + (i - 1) * 4 + 2, none⟩ = some (.int .i64 p.1.2.2) := fun h0 => by
     obtain ⟨c0, c1, c2⟩ := HPC.out h0
     exact ⟨sd c0 hbl, sd c1 hbl, sd c2 hbl⟩
    have hsub := HSUB.out
    iterate 20 refine ⟨?_, fun K hK => ?_⟩
    ·trivial
    ·obtain rfl := H1_19.out
     obtain rfl := H1_14.out
     obtain rfl := H1_18.out
     cases bl <;> cases b0 <;> cases bz <;> (go_simp; exact hK _ HST.out)
    ·obtain rfl := H1_18.out
     obtain rfl := H1_14.out
     obtain rfl := H1_17.out
     generalize (b0 && bz) = y0 at hK ⊢
     cases y0 <;> (go_simp; exact hK _ HST.out)
    ·obtain rfl := H1_17.out
     obtain rfl := H1_14.out
     obtain rfl := H1_16.out
     generalize (b0 && bz) = y0 at hK ⊢
     cases y0 <;> (go_simp; exact hK _ HST.out)
    ·obtain rfl := H1_16.out
     obtain rfl := H1_14.out
     obtain rfl := H1_15.out
     generalize (b0 && bz) = y0 at hK ⊢
     cases y0 <;> (go_simp; exact hK _ HST.out)
    ·obtain rfl := H1_15.out
     obtain rfl := H1_14.out
     generalize (b0 && bz) = y0 at hK ⊢
     cases y0 <;> (go_simp; exact hK _ HST.out)
    ·obtain rfl := H1_14.out
     obtain rfl := H1_13.out
     generalize (b0 && bz) = y0 at hK ⊢
     cases y0 <;> (go_simp; exact hK _ HST.out)
    ·obtain rfl := H1_13.out
     obtain rfl := H1_12.out
     cases b0 <;> cases bz <;> (go_simp; exact hK _ HST.out)
    ·obtain rfl := H1_12.out
     obtain rfl := H1_11.out
     cases b0 <;> (go_simp; exact hK _ HST.out)
    ·obtain rfl := H1_11.out
     obtain rfl := H1_8.out
     obtain rfl := H1_10.out
     cases b0 <;> first | (go_simp; exact hK _ HST.out; done) | (go_simp; refine (CC.out _).mono ?_; rintro e' wc ⟨he, hbc⟩; subst he; exact hK _ ⟨sd z0 hbc, sd z1 hbc, sd z2 hbc, sd z3 hbc, stay_b hbl hbc⟩)
    ·obtain rfl := H1_10.out
     obtain rfl := H1_9.out
     cases b0 <;> (go_simp; exact hK _ HST.out)
    ·obtain rfl := H1_9.out
     cases b0 <;> (go_simp; exact hK _ HST.out)
    ·obtain rfl := H1_8.out
     obtain rfl := H1_7.out
     cases b0 <;> (go_simp; exact hK _ HST.out)
    ·obtain rfl := H1_7.out
     obtain rfl := H1_6.out
     cases b0 <;> (go_simp; exact hK _ HST.out)
    ·obtain rfl := H1_6.out
     obtain rfl := H1_3.out
     obtain rfl := H1_5.out
     cases b0 <;> (go_simp; exact hK _ HST.out)
    ·obtain rfl := H1_5.out
     obtain rfl := H1_4.out
     cases b0 <;> (go_simp; exact hK _ HST.out)
    ·obtain rfl := H1_4.out
     cases b0 <;> (go_simp; exact hK _ HST.out)
    ·obtain rfl := H1_3.out
     cases b0 <;> (go_simp; exact hK _ HST.out)
    ·cases b0 <;> (go_simp; exact hK _ HST.out)
    ·(go_simp; exact hK _ HST.out)
    ·(go_simp; exact hK _ HST.out)
   case he =>
    obtain ⟨z0, z1, z2, z3, hbl⟩ := hst
    obtain rfl := H1_19.out
    clear H1_3 H1_4 H1_5 H1_6 H1_7 H1_8 H1_9 H1_10 H1_11 H1_12 H1_13 H1_14 H1_15 H1_16 H1_17 H1_18 H1_19
    have HS2 := Lib.hid (HS1.out.below hbl)
    have HKS2 := Lib.hid (blk_below HKS.out hbl (blk_lt HKS.out))
    obtain ⟨w2, hw2⟩ : ∃ x, x = WN := ⟨_, rfl⟩
    subst hw2
    clear hbl HS1 HKS hzlt hbw2
    cases hc : ((b0 && bz) || bl) with
    | true =>
     have hno : ¬ StksP L ms sts := by
      intro hP
      obtain ⟨g0, g1, g2⟩ := HBB.out
      rcases (Bool.or_eq_true _ _).mp hc with h1 | h1
      ·obtain ⟨h2, h3⟩ := (Bool.and_eq_true _ _).mp h1
       rw [g0] at h2
       rw [g1] at h3
       have h2 := of_decide_eq_true h2
       have h3 := of_decide_eq_true h3
       have h4 := hP.lt (i - 1) p s (HPV.out (by omega)) (by rw [show i - 1 + 1 = i by omega]; exact HSI.out)
       have h5 := (cmpT_lt p.1 s.1).2 h4
       rw [← HZ.out] at h5
       omega
      ·rw [g2] at h1
       have h2 : (s.2.length : Int) = 0 := by simpa using h1
       exact hP.ne i s HSI.out (List.length_eq_zero_iff.1 (by omega))
     go_wp2
     go_ret
     exact ⟨ret_bool (HNOT.out hno).symm, HS2.out.x.kp, fun h => (hno h).elim⟩
    | false =>
     obtain ⟨hc1, hc2⟩ := (Bool.or_eq_false_iff).mp hc
     have hltA : ∀ (j : Nat) (a : Stk), j + 1 = i → sts[j]? = some a → triLt a.1 s.1 := by
      intro j a hj ha
      obtain ⟨g0, g1, g2⟩ := HBB.out
      have h1 := HPV.out (by omega)
      rw [show i - 1 = j by omega, ha] at h1
      cases h1
      refine (cmpT_lt _ _).1 ?_
      rw [← HZ.out]
      have h2 : b0 = true := by rw [g0]; exact decide_eq_true (by omega)
      rw [h2, Bool.true_and, g1] at hc1
      have := of_decide_eq_false hc1
      omega
     have hne : s.2 ≠ [] := by
      intro e
      obtain ⟨g0, g1, g2⟩ := HBB.out
      rw [g2, e] at hc2
      simp at hc2
     have hap : ∀ (j : Nat) (a : Stk), j < i → sts[j]? = some a → triLt a.1 s.1 := fun j a hj ha => HS2.out.inv.apart (fun j' p' s' h1 h2 h3 => by
      by_cases e : j' + 1 = i
      ·have : s' = s := by rw [e, HSI.out] at h3; exact (Option.some.inj h3).symm
       subst this
       exact hltA j' p' e h2
      ·exact HS2.out.inv.lt j' p' s' (.inl (by omega)) h2 h3) hj ha HSI.out
     have hlt0 : 0 < s.2.length := List.length_pos_iff.2 hne
     have hapn : ∀ (j : Nat) (a : Stk), j < i → sts[j]? = some a → a.1 ≠ s.1 := fun j a hj ha e => triLt_irrefl s.1 (by have := hap j a hj ha; rwa [e] at this)
     have HLA := Lib.hid hltA
     have HNE := Lib.hid hne
     have HAN := Lib.hid hapn
     clear hc hc1 hc2 hltA hne hap hapn HBB HPV HSUB HPC HQ HZ CC
     go_wp2_with fail
     go_loopw [5, 44] (fun c v wr => ∃ q : Nat, q ≤ s.2.length ∧ v = .int .i64 q ∧ c = .int .i64 ((earl sts i q).length : Nat) ∧ Hid (LiS w pb vm (.slice (some ⟨ga, 0, none⟩) L.length ca) L ms sts xb gl mb w.heap.size i q wr) ∧ Hid (wr.heap[wo.heap.size]? = some (.cells #[.int .i64 s.1.1, .int .i64 s.1.2.1, .int .i64 s.1.2.2, .slice A' s.2.length c'] 54 (0, 0)))) (fun _ v _ => s.2.length - (intOf v).toNat)
     case atStart => exact ⟨0, by omega, rfl, rfl, HS2, HKS2⟩
     case round =>
      clear HS2 HKS2 z0 z1 z2 z3
      obtain ⟨q, hq, rfl, rfl, hS, hkS⟩ := hrel
      have hel2 := hS.out.len
      by_cases hqn : q < s.2.length
      ·obtain ⟨t, ht⟩ : ∃ t, s.2[q]? = some t := ⟨_, List.getElem?_eq_getElem hqn⟩
       obtain ⟨bT, oT, hA2, t0, t1, t2⟩ := HRD.out.tr ht rfl
       subst hA2
       have hkp := hS.out.x.kp
       have hbw := HB.out.trans (hkp.out hgl hmb hbs)
       have t0 := sd t0 hbw
       have t1 := sd t1 hbw
       have t2 := sd t2 hbw
       have hqi : (q : Int) < (s.2.length : Int) := by omega
       have hq0 : (0 : Int) ≤ (q : Int) := by omega
       have z0 := cell_of_blk hkS.out 0
       have z1 := cell_of_blk hkS.out 1
       have z2 := cell_of_blk hkS.out 2
       have z3 := cell_of_blk hkS.out 3
       simp only [List.getElem?_toArray, List.getElem?_cons_zero, List.getElem?_cons_succ] at z0 z1 z2 z3
       have hokt := HOK.out.2 t (List.mem_of_getElem? ht)
       have hwsz1 := hkp.size
       have HT := Lib.hid ht
       obtain ⟨wi, hwi⟩ : ∃ x, x = wr := ⟨_, rfl⟩
       subst hwi
       have hbT := below_new wi (.cells #[.int .i64 t.1, .int .i64 t.2.1, .int .i64 t.2.2] 44)
       have kT := heap_alloc_new wi (.cells #[.int .i64 t.1, .int .i64 t.2.1, .int .i64 t.2.2] 44)
       clear ht
       go_wp2_with fail
       have y0 := cell_of_blk kT 0
       have y1 := cell_of_blk kT 1
       have y2 := cell_of_blk kT 2
       simp only [List.getElem?_toArray, List.getElem?_cons_zero, List.getElem?_cons_succ] at y0 y1 y2
       have hS3 := hS.out.below hbT
       have z0 := sd z0 hbT
       have z1 := sd z1 hbT
       have z2 := sd z2 hbT
       have hkS3 := blk_below hkS.out hbT (blk_lt hkS.out)
       have hwit : wi.heap.size < (wi.alloc (.cells #[.int .i64 t.1, .int .i64 t.2.1, .int .i64 t.2.2] 44)).heap.size := by simp
       have HS3 := Lib.hid hS3
       have HKS3 := Lib.hid hkS3
       clear t0 t1 t2 z3 hS hkS hS3 hkS3 kT hbw
       generalize wi.alloc (.cells #[.int .i64 t.1, .int .i64 t.2.1, .int .i64 t.2.2] 44) = w3 at y0 y1 y2 z0 z1 z2 HS3 HKS3 hbT hwit ⊢
       have x0 := HS3.out.x.pil.c0
       have c5 := HS3.out.x.kp.cell HP.out.c5 HPB.out.1 HPB.out.2.1
       have hnum := HP.out.num.heap (HS3.out.x.kp.blk nb HP.out.num.lt HPB.out.2.2.1 HPB.out.2.2.2)
       obtain ⟨kk, hkk⟩ : ∃ k : Nat, k = if t ∈ L then L.idxOf t else 0 := ⟨_, rfl⟩
       have hkl : kk < L.length := by rw [hkk]; split; exact List.idxOf_lt_length_of_mem (by assumption); exact hL0
       have hkv : (numF L t).getD 0 = (kk : Int) := by rw [hkk]; unfold numF; split <;> rfl
       have hlk : ∀ W' : World, Below w3.heap.size w3 W' → (Instr.lookup 69 (.map (some nb)) (aggT3 t) true).run Tryz.prog W' = .ok (.tuple #[.int .i64 (kk : Int), .bool (decide (t ∈ L))]) W' := fun W' hb => by
        have h1 := (hnum.stay hb).look (a := t) hokt
        rw [numF_some, hkv] at h1
        exact h1
       obtain ⟨D1, hD1⟩ : ∃ b, b = decide (t ∈ L) := ⟨_, rfl⟩
       rw [← hD1] at hlk
       have HD1 := Lib.hid hD1
       have HLK := Lib.hid hlk
       have HKK := Lib.hid hkk
       clear hD1 hlk hkv hnum hkk hokt
       refine rg_plain (fin := ?z3) [.pointer (some ⟨xb, 0, none⟩), .pointer (some ⟨xb, 0, none⟩), .pointer (some ⟨xb, 0, none⟩), .pointer (some ⟨pb, 0, none⟩), .pointer (some ⟨pb, 0, none⟩), .pointer (some ⟨pb, 5, none⟩), .map (some nb), aggT3 t, .tuple #[.int .i64 (kk : Int), .bool D1], .tuple #[.int .i64 (kk : Int), .bool D1], .int .i64 (kk : Int), .bool D1, .int .i64 (kk : Int), .bool D1] (fun WN => WN.cell? ⟨xb, 0, none⟩ = some (.pointer (some ⟨pb, 0, none⟩)) ∧ WN.cell? ⟨pb, 5, none⟩ = some (.map (some nb)) ∧ WN.cell? ⟨wi.heap.size, 0, none⟩ = some (.int .i64 t.1) ∧ WN.cell? ⟨wi.heap.size, 1, none⟩ = some (.int .i64 t.2.1) ∧ WN.cell? ⟨wi.heap.size, 2, none⟩ = some (.int .i64 t.2.2) ∧ WN.cell? ⟨wo.heap.size, 0, none⟩ = some (.int .i64 s.1.1) ∧ WN.cell? ⟨wo.heap.size, 1, none⟩ = some (.int .i64 s.1.2.1) ∧ WN.cell? ⟨wo.heap.size, 2, none⟩ = some (.int .i64 s.1.2.2) ∧ Below w3.heap.size w3 WN) ?hf (by kernel_rfl) (by kernel_rfl) rfl ⟨x0, c5, y0, y1, y2, z0, z1, z2, (Below.refl _ _).drew⟩ (fun WN hst => ?hs) (fun WN hst => ?he)
       case hf => simp only [putOps, Act.put, List.setIfInBounds_toArray, List.set_cons_succ, List.set_cons_zero]; exact rfl
       case hs =>
        have HST := Lib.hid hst
        obtain ⟨x0, c5, y0, y1, y2, z0, z1, z2, hbl⟩ := hst
        iterate 14 refine ⟨?_, fun K hK => ?_⟩
        ·trivial
        all_goals try (go_simp; exact hK _ HST.out; done)
        ·have hlk := HLK.out WN hbl
         go_simp
         exact hK _ HST.out
       case he =>
        obtain ⟨x0, c5, y0, y1, y2, z0, z1, z2, hbl⟩ := hst
        have hS4 := HS3.out.below hbl
        have HKS4 := Lib.hid (blk_below HKS3.out hbl (blk_lt HKS3.out))
        obtain ⟨w4, hw4⟩ : ∃ x, x = WN := ⟨_, rfl⟩
        subst hw4
        obtain ⟨n4, hn4, hse⟩ := hS4.seen
        obtain ⟨c1, hc1⟩ : ∃ c : Int, c = (snF L sts i q (kk : Int)).getD 0 := ⟨_, rfl⟩
        have hc01 : c1 = 0 ∨ c1 = 1 := by rw [hc1]; unfold snF; split; exact .inr rfl; exact .inl rfl
        have hko : kNI.ok (kk : Int) := by show inR _; unfold inR; omega
        have hlk2 : (Instr.lookup 130 (.map (some w.heap.size)) (.int .i64 (kk : Int)) false).run Tryz.prog w4 = .ok (.int .i64 c1) w4 := by rw [hc1]; exact hse.look1 hko
        obtain ⟨c2, hc2⟩ : ∃ c : Int, c = c1 + 1 := ⟨_, rfl⟩
        have hw1 : IntKind.i64.wrap (c1 + 1) = c2 := by rw [hc2]; exact IntWalk.i64_in _ (by omega)
        have hcr : 1 ≤ c2 ∧ c2 ≤ 2 := by omega
        have HC2 := Lib.hid hc2
        clear hc2
        have HC1 := Lib.hid hc1
        have HSE := Lib.hid hse
        have HS4 := Lib.hid hS4
        clear hc1 hse hS4 hbl HS3 HKS3 x0 c5 y0 y1 y2 z0 z1 z2 hbT
        go_wp2_with (at_mapUpdate; go_loud (refine wpList_putI (k := kNI) rfl _ _ _ rfl HSE.out rfl (by unfold maxLen; omega) (kk : Int) hko c2 rfl rfl (wf_of (by unfold inR; omega)) ?_); intro w5 hm5 hg5)
        have hsb := HSE.out.is
        have hX5 := HS4.out.x.other hg5 hsb (Nat.le_refl _) hmlt
        have hkS5 := (hg5.block _ (blk_lt HKS4.out) (cells_notmap HKS4.out hsb)).trans HKS4.out
        have hub := own_tri HVA.out (atsL_at (ms := ms) hkl)
        obtain ⟨UA, hUA⟩ : ∃ U, U = atI L ms kk := ⟨_, rfl⟩
        rw [← hUA] at hub
        have u0 := hX5.kp.cell hub.1 hag ham
        have u1 := hX5.kp.cell hub.2.1 hag ham
        have u2 := hX5.kp.cell hub.2.2 hag ham
        have x2 := hX5.pil.c2
        have z0 := cell_of_blk hkS5 0
        have z1 := cell_of_blk hkS5 1
        have z2 := cell_of_blk hkS5 2
        simp only [List.getElem?_toArray, List.getElem?_cons_zero, List.getElem?_cons_succ] at z0 z1 z2
        have hlk3 : ∀ W' : World, Below w5.heap.size w5 W' → (Instr.lookup 130 (.map (some w.heap.size)) (.int .i64 (kk : Int)) false).run Tryz.prog W' = .ok (.int .i64 c2) W' := fun W' hb => by
         have h1 := (hm5.stay hb).look1 hko
         rw [show setF (snF L sts i q) (kk : Int) c2 (kk : Int) = some c2 by unfold setF; rw [if_pos rfl]] at h1
         exact h1
        have hkki : (kk : Int) < (L.length : Int) := by omega
        have hkk0 : (0 : Int) ≤ (kk : Int) := by omega
        have hnt : ∀ w, (binOp .neq 44 (aggT3 UA) (aggT3 s.1)).run Tryz.prog w = .ok (.bool (!decide (UA = s.1))) w := fun w => by rw [← eqT_dec]; exact neT UA.1 UA.2.1 UA.2.2 s.1.1 s.1.2.1 s.1.2.2 w
        obtain ⟨b2, hb2⟩ : ∃ b, b = decide (1 < c2) := ⟨_, rfl⟩
        obtain ⟨b3, hb3⟩ : ∃ b, b = (!decide (UA = s.1)) := ⟨_, rfl⟩
        rw [← hb3] at hnt
        have HLK3 := Lib.hid hlk3
        have HX5 := Lib.hid hX5
        have HKS5 := Lib.hid hkS5
        have HM5 := Lib.hid hm5
        have HUA := Lib.hid hUA
        have HB3 := Lib.hid (And.intro hb2 hb3)
        have hb2' := hb2.symm
        have HQ2 := Lib.hid hb2'
        have hn5 : n4 ≤ (earl sts i q).length := hn4
        clear hsb hX5 hkS5 hub hlk3 hlk2 hg5 hm5 hUA hb2 hb3 hb2' HSE
        go_wp2_with fail
        obtain ⟨V4_1, H4_1⟩ : ∃ V : Value, Hid (V = .bool (!D1)) := ⟨_, Lib.hid rfl⟩
        obtain ⟨V4_2, H4_2⟩ : ∃ V : Value, Hid (V = .bool (!D1)) := ⟨_, Lib.hid rfl⟩
        obtain ⟨V4_3, H4_3⟩ : ∃ V : Value, Hid (V = (bif D1 then .map (some w.heap.size) else undef)) := ⟨_, Lib.hid rfl⟩
        obtain ⟨V4_4, H4_4⟩ : ∃ V : Value, Hid (V = (bif D1 then .int .i64 (kk : Int) else undef)) := ⟨_, Lib.hid rfl⟩
        obtain ⟨V4_5, H4_5⟩ : ∃ V : Value, Hid (V = (bif D1 then .int .i64 c2 else undef)) := ⟨_, Lib.hid rfl⟩
        obtain ⟨V4_6, H4_6⟩ : ∃ V : Value, Hid (V = (bif D1 then .bool b2 else undef)) := ⟨_, Lib.hid rfl⟩
        obtain ⟨V4_7, H4_7⟩ : ∃ V : Value, Hid (V = .bool ((!D1) || b2)) := ⟨_, Lib.hid rfl⟩
        obtain ⟨V4_8, H4_8⟩ : ∃ V : Value, Hid (V = .bool ((!D1) || b2)) := ⟨_, Lib.hid rfl⟩
        obtain ⟨V4_9, H4_9⟩ : ∃ V : Value, Hid (V = (bif (!((!D1) || b2)) then .pointer (some ⟨xb, 0, none⟩) else undef)) := ⟨_, Lib.hid rfl⟩
        obtain ⟨V4_10, H4_10⟩ : ∃ V : Value, Hid (V = (bif (!((!D1) || b2)) then .pointer (some ⟨xb, 0, none⟩) else undef)) := ⟨_, Lib.hid rfl⟩
        obtain ⟨V4_11, H4_11⟩ : ∃ V : Value, Hid (V = (bif (!((!D1) || b2)) then .pointer (some ⟨xb, 2, none⟩) else undef)) := ⟨_, Lib.hid rfl⟩
        obtain ⟨V4_12, H4_12⟩ : ∃ V : Value, Hid (V = (bif (!((!D1) || b2)) then .slice (some ⟨ga, 0, none⟩) L.length ca else undef)) := ⟨_, Lib.hid rfl⟩
        obtain ⟨V4_13, H4_13⟩ : ∃ V : Value, Hid (V = (bif (!((!D1) || b2)) then .int .i64 (kk : Int) else undef)) := ⟨_, Lib.hid rfl⟩
        obtain ⟨V4_14, H4_14⟩ : ∃ V : Value, Hid (V = (bif (!((!D1) || b2)) then .pointer (some ⟨ga, kk * 3, none⟩) else undef)) := ⟨_, Lib.hid rfl⟩
        obtain ⟨V4_15, H4_15⟩ : ∃ V : Value, Hid (V = (bif (!((!D1) || b2)) then aggT3 UA else undef)) := ⟨_, Lib.hid rfl⟩
        obtain ⟨V4_16, H4_16⟩ : ∃ V : Value, Hid (V = (bif (!((!D1) || b2)) then .pointer (some ⟨wo.heap.size, 0, none⟩) else undef)) := ⟨_, Lib.hid rfl⟩
        obtain ⟨V4_17, H4_17⟩ : ∃ V : Value, Hid (V = (bif (!((!D1) || b2)) then aggT3 s.1 else undef)) := ⟨_, Lib.hid rfl⟩
        obtain ⟨V4_18, H4_18⟩ : ∃ V : Value, Hid (V = (bif (!((!D1) || b2)) then .bool b3 else undef)) := ⟨_, Lib.hid rfl⟩
        obtain ⟨V4_19, H4_19⟩ : ∃ V : Value, Hid (V = .bool (((!D1) || b2) || b3)) := ⟨_, Lib.hid rfl⟩
        refine rg_plain (fin := ?z5) [.bool D1, V4_1, V4_2, V4_3, V4_4, V4_5, V4_6, V4_7, V4_8, V4_9, V4_10, V4_11, V4_12, V4_13, V4_14, V4_15, V4_16, V4_17, V4_18, V4_19] (fun WN => WN.cell? ⟨xb, 2, none⟩ = some (.slice (some ⟨ga, 0, none⟩) L.length ca) ∧ WN.cell? ⟨ga, kk * 3, none⟩ = some (.int .i64 UA.1) ∧ WN.cell? ⟨ga, kk * 3 + 1, none⟩ = some (.int .i64 UA.2.1) ∧ WN.cell? ⟨ga, kk * 3 + 2, none⟩ = some (.int .i64 UA.2.2) ∧ WN.cell? ⟨wo.heap.size, 0, none⟩ = some (.int .i64 s.1.1) ∧ WN.cell? ⟨wo.heap.size, 1, none⟩ = some (.int .i64 s.1.2.1) ∧ WN.cell? ⟨wo.heap.size, 2, none⟩ = some (.int .i64 s.1.2.2) ∧ Below w5.heap.size w5 WN) ?hf (by kernel_rfl) (by kernel_rfl) rfl ⟨x2, u0, u1, u2, z0, z1, z2, (Below.refl _ _).drew⟩ (fun WN hst => ?hs) (fun WN hst => ?he)
        case hf => simp only [putOps, Act.put, List.setIfInBounds_toArray, List.set_cons_succ, List.set_cons_zero]; exact rfl
        case hs =>
         have HST := Lib.hid hst
         obtain ⟨x2, u0, u1, u2, z0, z1, z2, hbl⟩ := hst
         have hb2 := HQ2.out
         have hlk3 := HLK3.out WN hbl
         iterate 20 refine ⟨?_, fun K hK => ?_⟩
         ·trivial
         ·obtain rfl := H4_19.out
          obtain rfl := H4_8.out
          obtain rfl := H4_18.out
          cases b3 <;> cases b2 <;> cases D1 <;> (go_simp; exact hK _ HST.out)
         ·obtain rfl := H4_18.out
          obtain rfl := H4_8.out
          obtain rfl := H4_15.out
          obtain rfl := H4_17.out
          generalize ((!D1) || b2) = y0 at hK ⊢
          cases y0 <;> (go_simp; exact hK _ HST.out)
         ·obtain rfl := H4_17.out
          obtain rfl := H4_8.out
          obtain rfl := H4_16.out
          generalize ((!D1) || b2) = y0 at hK ⊢
          cases y0 <;> (go_simp; exact hK _ HST.out)
         ·obtain rfl := H4_16.out
          obtain rfl := H4_8.out
          generalize ((!D1) || b2) = y0 at hK ⊢
          cases y0 <;> (go_simp; exact hK _ HST.out)
         ·obtain rfl := H4_15.out
          obtain rfl := H4_8.out
          obtain rfl := H4_14.out
          generalize ((!D1) || b2) = y0 at hK ⊢
          cases y0 <;> (go_simp; exact hK _ HST.out)
         ·obtain rfl := H4_14.out
          obtain rfl := H4_8.out
          obtain rfl := H4_12.out
          obtain rfl := H4_13.out
          generalize ((!D1) || b2) = y0 at hK ⊢
          cases y0 <;> (go_simp; exact hK _ HST.out)
         ·obtain rfl := H4_13.out
          obtain rfl := H4_8.out
          generalize ((!D1) || b2) = y0 at hK ⊢
          cases y0 <;> (go_simp; exact hK _ HST.out)
         ·obtain rfl := H4_12.out
          obtain rfl := H4_8.out
          obtain rfl := H4_11.out
          generalize ((!D1) || b2) = y0 at hK ⊢
          cases y0 <;> (go_simp; exact hK _ HST.out)
         ·obtain rfl := H4_11.out
          obtain rfl := H4_8.out
          obtain rfl := H4_10.out
          generalize ((!D1) || b2) = y0 at hK ⊢
          cases y0 <;> (go_simp; exact hK _ HST.out)
         ·obtain rfl := H4_10.out
          obtain rfl := H4_8.out
          obtain rfl := H4_9.out
          generalize ((!D1) || b2) = y0 at hK ⊢
          cases y0 <;> (go_simp; exact hK _ HST.out)
         ·obtain rfl := H4_9.out
          obtain rfl := H4_8.out
          generalize ((!D1) || b2) = y0 at hK ⊢
          cases y0 <;> (go_simp; exact hK _ HST.out)
         ·obtain rfl := H4_8.out
          obtain rfl := H4_7.out
          generalize ((!D1) || b2) = y0 at hK ⊢
          cases y0 <;> (go_simp; exact hK _ HST.out)
         ·obtain rfl := H4_7.out
          obtain rfl := H4_2.out
          obtain rfl := H4_6.out
          cases D1 <;> cases b2 <;> (go_simp; exact hK _ HST.out)
         ·obtain rfl := H4_6.out
          obtain rfl := H4_2.out
          obtain rfl := H4_5.out
          cases D1 <;> (go_simp; exact hK _ HST.out)
         ·obtain rfl := H4_5.out
          obtain rfl := H4_2.out
          obtain rfl := H4_3.out
          obtain rfl := H4_4.out
          cases D1 <;> (go_simp; exact hK _ HST.out)
         ·obtain rfl := H4_4.out
          obtain rfl := H4_2.out
          cases D1 <;> (go_simp; exact hK _ HST.out)
         ·obtain rfl := H4_3.out
          obtain rfl := H4_2.out
          cases D1 <;> (go_simp; exact hK _ HST.out)
         ·obtain rfl := H4_2.out
          obtain rfl := H4_1.out
          generalize (!D1) = y0 at hK ⊢
          cases y0 <;> (go_simp; exact hK _ HST.out)
         ·obtain rfl := H4_1.out
          cases D1 <;> (go_simp; exact hK _ HST.out)
         ·cases D1 <;> (go_simp; exact hK _ HST.out)
        case he =>
         obtain ⟨x2, u0, u1, u2, z0, z1, z2, hbl⟩ := hst
         obtain rfl := H4_19.out
         clear H4_1 H4_2 H4_3 H4_4 H4_5 H4_6 H4_7 H4_8 H4_9 H4_10 H4_11 H4_12 H4_13 H4_14 H4_15 H4_16 H4_17 H4_18 H4_19
         have HX6 := Lib.hid (HX5.out.below hbl)
         have HKS6 := Lib.hid (blk_below HKS5.out hbl (blk_lt HKS5.out))
         have HM6 := Lib.hid (HM5.out.stay hbl)
         obtain ⟨w6, hw6⟩ : ∃ x, x = WN := ⟨_, rfl⟩
         subst hw6
         clear hbl HX5 HKS5 HM5 x2 u0 u1 u2 z0 z1 z2 hnt HLK3 HQ2
         cases hc : (((!D1) || b2) || b3) with
         | true =>
          have hno : ¬ StksP L ms sts := by
           intro hP
           obtain ⟨p1, p2, p3⟩ := hP.tri i s q t HSI.out HT.out
           have hkk2 : kk = L.idxOf t := by rw [HKK.out, if_pos p1]
           have hD : D1 = true := by rw [HD1.out]; exact decide_eq_true p1
           obtain ⟨g2, g3⟩ := HB3.out
           have hb3 : b3 = false := by rw [g3, HUA.out, hkk2, p2]; simp
           rw [hD, hb3] at hc
           have hb2 : b2 = true := by simpa using hc
           rw [g2] at hb2
           have h1 := of_decide_eq_true hb2
           have h2 := HC1.out
           rw [hkk2, snF_at (fun u hu => HS4.out.inv.mem hu) p1] at h2
           have h3 := HC2.out
           by_cases hm : t ∈ earl sts i q
           ·exact HS4.out.inv.twice HSI.out HT.out hm hP
           ·rw [if_neg hm] at h2
            omega
          go_wp2
          go_ret
          exact ⟨ret_bool (HNOT.out hno).symm, HX6.out.kp, fun h => (hno h).elim⟩
         | false =>
          have hD : D1 = true := by
           cases D1 with
           | true => rfl
           | false => simp at hc
          have htL : t ∈ L := by have := HD1.out; rw [hD] at this; exact of_decide_eq_true this.symm
          have hkk2 : kk = L.idxOf t := by rw [HKK.out, if_pos htL]
          obtain ⟨g2, g3⟩ := HB3.out
          have hb23 : b2 = false ∧ b3 = false := by
           rw [hD] at hc
           cases b2 <;> cases b3 <;> simp at hc ⊢
          have hc2 : c2 = 1 := by
           rw [hb23.1] at g2
           have := of_decide_eq_false g2.symm
           omega
          have hc1' : c1 = 0 := by have := HC2.out; omega
          have htn : t ∉ earl sts i q := by
           intro hm
           have h2 := HC1.out
           rw [hkk2, snF_at (fun u hu => HS4.out.inv.mem hu) htL, if_pos hm] at h2
           omega
          have hat : atI L ms (L.idxOf t) = s.1 := by
           rw [hb23.2] at g3
           have h1 : decide (UA = s.1) = true := by simpa using g3.symm
           have h2 := of_decide_eq_true h1
           rw [← hkk2, ← HUA.out]
           exact h2
          have hlv := fun ls hl h => levP_step HSI.out HT.out HS4.out.inv htL htn ls hl h
          rw [← hkk2] at hlv
          have hgh := grpL_here (L := L) HSI.out hq HAN.out
          obtain ⟨nP, f, hnP, hM⟩ := HX6.out.map
          have hvR := hM.val s.1
          obtain ⟨G, hG⟩ : ∃ G, G = grpL L sts i q s.1 := ⟨_, rfl⟩
          rw [← hG] at hvR hgh
          rw [hgh] at hvR
          obtain ⟨AR, cR, hvRe, _⟩ := own_slice hvR
          have hoks : inR s.1.1 ∧ inR s.1.2.1 ∧ inR s.1.2.2 := HOK.out.1
          have hlk4 : ∀ W' : World, Below w6.heap.size w6 W' → (Instr.lookup 78 (.map (some mb)) (aggT3 s.1) false).run Tryz.prog W' = .ok (.slice AR q cR) W' := fun W' hb => by
           have h1 := (hM.map.stay hb).look1 (a := s.1) hoks
           rw [← hvRe]
           exact h1
          have x3 := HX6.out.pil.c3
          have x4 := HX6.out.pil.c4
          have z0 := cell_of_blk HKS6.out 0
          have z1 := cell_of_blk HKS6.out 1
          have z2 := cell_of_blk HKS6.out 2
          simp only [List.getElem?_toArray, List.getElem?_cons_zero, List.getElem?_cons_succ] at z0 z1 z2
          have HLK4 := Lib.hid hlk4
          have HLV := Lib.hid hlv
          have HTL := Lib.hid (And.intro htL (And.intro htn (And.intro hat (And.intro hkk2 (And.intro hc2 hc1')))))
          clear hc hD htL hkk2 g2 g3 hb23 hc2 hc1' htn hat hlv hgh hG hM hvR hvRe hoks hlk4 hnP
          go_wp2_with fail
          refine rg_chain (fin := ?z6) [14] [13, 12, 3, 4, 11, 2, 8, 10, 1, 7, 9, 0, 6, 5] [true, true, true, true, true, true, true, true, true, true, true, true, true, true, false] [false, false, false, false, false, false, false, false, false, false, false, false, false, false, false] (fun x => [.pointer (some ⟨xb, 0, none⟩), .pointer (some ⟨xb, 0, none⟩), .pointer (some ⟨xb, 3, none⟩), .slice (some ⟨gl, 0, none⟩) L.length L.length, .int .i64 (kk : Int), .pointer (some ⟨xb, 0, none⟩), .pointer (some ⟨xb, 0, none⟩), .pointer (some ⟨xb, 4, none⟩), .map (some mb), .pointer (some ⟨wo.heap.size, 0, none⟩), aggT3 s.1, .slice AR q cR, .int .i64 (q : Int), .pointer (some ⟨gl, kk, none⟩), (x 0)]) (fun j _ WN => match j with | 0 => WN.cell? ⟨xb, 3, none⟩ = some (.slice (some ⟨gl, 0, none⟩) L.length L.length) ∧ WN.cell? ⟨xb, 4, none⟩ = some (.map (some mb)) ∧ WN.cell? ⟨wo.heap.size, 0, none⟩ = some (.int .i64 s.1.1) ∧ WN.cell? ⟨wo.heap.size, 1, none⟩ = some (.int .i64 s.1.2.1) ∧ WN.cell? ⟨wo.heap.size, 2, none⟩ = some (.int .i64 s.1.2.2) ∧ Below w6.heap.size w6 WN | _ => ∃ W0 : World, (W0.cell? ⟨xb, 3, none⟩ = some (.slice (some ⟨gl, 0, none⟩) L.length L.length) ∧ W0.cell? ⟨xb, 4, none⟩ = some (.map (some mb)) ∧ W0.cell? ⟨wo.heap.size, 0, none⟩ = some (.int .i64 s.1.1) ∧ W0.cell? ⟨wo.heap.size, 1, none⟩ = some (.int .i64 s.1.2.1) ∧ W0.cell? ⟨wo.heap.size, 2, none⟩ = some (.int .i64 s.1.2.2) ∧ Below w6.heap.size w6 W0) ∧ WN = W0.setCell ⟨gl, kk, none⟩ (.int .i64 (q : Int))) ?hf (by kernel_rfl) (by kernel_rfl) (fun _ => rfl) (by kernel_rfl) ?hv ⟨x3, x4, z0, z1, z2, (Below.refl _ _).drew⟩ (fun x WN hst => ?hs) ?hB ?hT (fun x WN hst => ?he)
          case hf => intro x; simp only [putOps, Act.put, List.setIfInBounds_toArray, List.set_cons_succ, List.set_cons_zero]; exact rfl
          case hv =>
           intro x j t v h; cases j with
           | zero => cases h; rfl
           | succ j => simp at h
          case hs =>
           have HST := Lib.hid hst
           obtain ⟨x3, x4, z0, z1, z2, hbl⟩ := hst
           iterate 14 refine ⟨?_, fun K hK => ?_⟩
           ·trivial
           all_goals try (go_simp; exact hK _ HST.out; done)
           ·have hlk := HLK4.out WN hbl
            go_simp
            exact hK _ HST.out
          case hB => intro j x WN _ _ _; trivial
          case hT =>
           intro j t x WN ht hst o ho K hK
           obtain rfl : j = 0 := by cases j with | zero => rfl | succ j => simp at ht
           cases ht; cases ho
           have HST := Lib.hid hst
           obtain ⟨x3, x4, z0, z1, z2, hbl⟩ := hst
           have hX := HX6.out.below hbl
           obtain ⟨ls, l1, l2, _⟩ := hX.lev
           have fz := frozen_of_blk l2 kk
           have hlt := blk_lt l2
           have hcl := cell_of_blk l2 kk
           rw [List.getElem?_toArray, visN_at (by rw [l1]; exact hkl)] at hcl
           go_simp
           exact hK undef _ ⟨_, HST.out, rfl⟩
          case he =>
           obtain ⟨W0, hst, hWN⟩ := hst
           obtain ⟨x3, x4, z0, z1, z2, hbl⟩ := hst
           have hX7 := (HX6.out.below hbl).level hgm hkl (q' := q + 1) (r := q) (fun ls hl h => HLV.out ls hl h) hglt
           have hkS7 := blk_below HKS6.out hbl (blk_lt HKS6.out)
           have hm7 := HM6.out.stay hbl
           have hwog : wo.heap.size ≠ gl := by omega
           have hkS7 := blk_far (p := ⟨gl, kk, none⟩) hkS7 hwog (.int .i64 (q : Int))
           have hsbg : w.heap.size ≠ gl := by omega
           have hm7 := hm7.heap (w' := W0.setCell ⟨gl, kk, none⟩ (.int .i64 (q : Int))) (Below.heap_setCell _ _ _ _ hsbg)
           rw [← hWN] at hX7 hkS7 hm7
           have HX7 := Lib.hid hX7
           have HKS7 := Lib.hid hkS7
           have HM7 := Lib.hid hm7
           obtain ⟨w7, hw7⟩ : ∃ x, x = WN := ⟨_, rfl⟩
           subst hw7
           clear hX7 hkS7 hm7 hbl x3 x4 z0 z1 z2 hWN HX6 HKS6 HM6 HLK4 HLV
           go_wp2_with fail
           obtain ⟨n, f, hn, hPM⟩ := HX7.out.map
           have hgh := grpL_here (L := L) HSI.out hq HAN.out
           have hq1 : q ≤ (earl sts i q).length := by unfold earl; rw [HSI.out]; simp; omega
           have hL7 : (earl sts i q).length ≤ L.length := HS4.out.len
           obtain ⟨wd, hwd⟩ : ∃ x, x = w7.drew := ⟨_, rfl⟩
           obtain ⟨wa, hwa⟩ : ∃ x, x = wd.alloc (.cells #[.int .i64 ((kk : Nat) : Int)] 3) := ⟨_, rfl⟩
           have h7d : Below w7.heap.size w7 wd := by rw [hwd]; exact (Below.refl _ _).drew
           have hda : Below wd.heap.size wd wa := by rw [hwa]; exact below_new wd _
           have h7a : Below w7.heap.size w7 wa := h7d.trans (hda.mono h7d.size)
           have hPa := hPM.below h7a
           have hXa := HX7.out.below h7a
           have hkSa := blk_below HKS7.out h7a (blk_lt HKS7.out)
           have hMa := HM7.out.stay h7a
           have hsza := hXa.kp.size
           have hsba := hMa.is
           obtain ⟨st, w8, o, hrun, hg1, ho, hstore⟩ := hPa.map.enter lawT (by unfold maxLen; omega) (a := s.1) HOK.out.1
           have hrun : (Instr.mapEntry 78 (.map (some mb)) (aggT3 s.1)).run Tryz.prog wa = .ok (.tuple #[(f s.1).getD (.slice none 0 0), st]) w8 := hrun
           have hval := hPa.val s.1
           have hnm := own_notmap hval hPa.map.is
           have hns := own_not hval hkSa (by decide)
           have hnb := own_notmap hval hsba
           have hrow8 := hval.kept hg1 (.inr hnm)
           have hgw8 : w8.heap[wd.heap.size]? = some (.cells #[.int .i64 ((kk : Nat) : Int)] 3 (0, 0)) := by
            have h1 : wa.heap[wd.heap.size]? = some (.cells #[.int .i64 ((kk : Nat) : Int)] 3 (0, 0)) := by rw [hwa]; exact heap_alloc_new wd _
            refine (hg1.block _ (blk_lt h1) (fun e => ?_)).trans h1
            obtain ⟨es, c, hm⟩ := hPa.map.is
            rw [← Option.some.inj e, h1] at hm
            cases hm
           obtain ⟨FV, hFV⟩ : ∃ F, F = (f s.1).getD (.slice none 0 0) := ⟨_, rfl⟩
           rw [← hFV] at hrun hrow8 hnm hns hnb
           obtain ⟨G, hG⟩ : ∃ G, G = grpL L sts i q s.1 := ⟨_, rfl⟩
           rw [← hG] at hrow8 hgh
           rw [hgh] at hrow8
           have hsz8 := hg1.size
           have hq8 : q + 1 ≤ 2147483648 := by omega
           have hw8 : w.heap.size ≤ w8.heap.size := by omega
           have x4 := HX7.out.pil.c4
           have z0 := cell_of_blk HKS7.out 0
           have z1 := cell_of_blk HKS7.out 1
           have z2 := cell_of_blk HKS7.out 2
           simp only [List.getElem?_toArray, List.getElem?_cons_zero, List.getElem?_cons_succ] at z0 z1 z2
           have HPA := Lib.hid hPa
           have HXA := Lib.hid hXa
           have HKA := Lib.hid hkSa
           have HMA := Lib.hid hMa
           have HRUN := Lib.hid hrun
           have HG1 := Lib.hid hg1
           have HO8 := Lib.hid ho
           have HSTO := Lib.hid hstore
           have HFV := Lib.hid hFV
           have HGE := Lib.hid (And.intro hG hgh)
           have HROW := Lib.hid hrow8
           have HGW := Lib.hid hgw8
           have HWA := Lib.hid hwa
           have HWD := Lib.hid hwd
           have HNN := Lib.hid (And.intro hnm (And.intro hns hnb))
           have HN4 := Lib.hid hn
           clear hn hPM hgh hq1 hL7 hwd hwa h7d hda h7a hPa hXa hkSa hMa hsba hrun hg1 ho hstore hval hnm hns hnb hrow8 hgw8 hFV hG hsz8
           refine rg_chn (fin := ?z7) [7, 8, 10, 12] [[true, true, true, true, true, true, true, false, false, false, false, false, false], [true, true, true, true, true, true, false, false, false, false, false, false, false], [false, false, false, false, false, false, true, false, false, true, false, true, false], [false, false, false, false, false, false, false, false, false, false, false, true, false], [false, false, false, false, false, false, false, false, false, false, false, false, false]] [[6], [3, 5, 2, 4, 1, 0], [9, 7, 8, 6, 3, 5, 2, 4, 1, 0], [3, 11, 10, 2, 8, 9, 7, 1, 5, 6, 0, 4]] (fun x => [.pointer (some ⟨xb, 0, none⟩), .pointer (some ⟨xb, 0, none⟩), .pointer (some ⟨xb, 4, none⟩), .map (some mb), .pointer (some ⟨wo.heap.size, 0, none⟩), aggT3 s.1, .int .i64 (kk : Int), (x 0), (x 1), FV, (x 2), st, (x 3)]) (fun j x WN => match j with | 0 => Hid (WN = wd) ∧ WN.cell? ⟨xb, 4, none⟩ = some (.map (some mb)) ∧ WN.cell? ⟨wo.heap.size, 0, none⟩ = some (.int .i64 s.1.1) ∧ WN.cell? ⟨wo.heap.size, 1, none⟩ = some (.int .i64 s.1.2.1) ∧ WN.cell? ⟨wo.heap.size, 2, none⟩ = some (.int .i64 s.1.2.2) | 1 => Hid (WN = wa) ∧ Hid (x 0 = .slice (some ⟨wd.heap.size, 0, none⟩) 1 1) ∧ WN.cell? ⟨xb, 4, none⟩ = some (.map (some mb)) ∧ WN.cell? ⟨wo.heap.size, 0, none⟩ = some (.int .i64 s.1.1) ∧ WN.cell? ⟨wo.heap.size, 1, none⟩ = some (.int .i64 s.1.2.1) ∧ WN.cell? ⟨wo.heap.size, 2, none⟩ = some (.int .i64 s.1.2.2) | 2 => Hid (WN = w8) ∧ Hid (x 0 = .slice (some ⟨wd.heap.size, 0, none⟩) 1 1) ∧ Hid (x 1 = .tuple #[FV, st]) | 3 => Hid (x 1 = .tuple #[FV, st]) ∧ Hid (WN.ownsRow w.heap.size 3 1 (x 2) (q + 1) (visN G ++ [.int .i64 ((kk : Nat) : Int)])) ∧ Hid (GrowOf w8 WN FV (x 2)) | _ => Hid (LiX w pb vm (.slice (some ⟨ga, 0, none⟩) L.length ca) L sts xb gl mb i (q + 1) (q + 1) WN) ∧ Hid (WN.heap[wo.heap.size]? = some (.cells #[.int .i64 s.1.1, .int .i64 s.1.2.1, .int .i64 s.1.2.2, .slice (some ⟨bT, oT, none⟩) s.2.length c'] 54 (0, 0))) ∧ Hid (MapI kNI WN w.heap.size (n4 + 1) (setF (snF L sts i q) (kk : Int) c2))) ?hf (by kernel_rfl) (by kernel_rfl) (fun _ => rfl) (by kernel_rfl) ?hv ⟨HWD.out ▸ Lib.hid rfl, x4, z0, z1, z2⟩ ?hA ?hT (fun x WN hst => ?he)
           case hf => intro x; simp only [putOps, Act.put, List.setIfInBounds_toArray, List.set_cons_succ, List.set_cons_zero]; exact rfl
           case hv =>
            intro x j t v h
            cases j with
            | zero => cases h; rfl
            | succ j =>
             cases j with
             | zero => cases h; rfl
             | succ j =>
              cases j with
              | zero => cases h; rfl
              | succ j =>
               cases j with
               | zero => cases h; rfl
               | succ j =>
                simp at h
           case hA =>
            intro j x WN hj hst
            have hj : j ≤ 4 := hj
            rcases (show j = 0 ∨ j = 1 ∨ j = 2 ∨ j = 3 ∨ j = 4 by omega) with rfl | rfl | rfl | rfl | rfl
            ·have HST := Lib.hid hst
             obtain ⟨hW, x4, z0, z1, z2⟩ := hst
             iterate 7 refine ⟨?_, fun K hK => ?_⟩
             ·trivial
             all_goals try (go_simp; exact hK _ HST.out; done)
            ·have HST := Lib.hid hst
             obtain ⟨hW, hx0, x4, z0, z1, z2⟩ := hst
             iterate 6 refine ⟨?_, fun K hK => ?_⟩
             ·trivial
             all_goals try (go_simp; exact hK _ HST.out; done)
            ·have HST := Lib.hid hst
             obtain ⟨hW, hx0, hx1⟩ := hst
             iterate 3 refine ⟨?_, fun K hK => ?_⟩
             ·trivial
             all_goals try (go_simp; exact hK _ HST.out; done)
             ·have hx1 := hx1.out
              have hK2 := hK _ HST.out
              rw [hx1] at hK2 ⊢
              go_simp
              exact hK2
             ·have hx1 := hx1.out
              have hK2 := hK _ HST.out
              rw [hx1] at hK2 ⊢
              go_simp
              exact hK2
            ·have HST := Lib.hid hst
             obtain ⟨hx1, hrow, hgrow⟩ := hst
             iterate 1 refine ⟨?_, fun K hK => ?_⟩
             ·trivial
             ·have hx1 := hx1.out
              have hK2 := hK _ HST.out
              rw [hx1] at hK2 ⊢
              go_simp
              exact hK2
            ·trivial
           case hT =>
            intro j t x WN ht hst o ho K hK
            cases j with
            | zero =>
             cases ht; cases ho
             obtain ⟨hW, x4, z0, z1, z2⟩ := hst
             go_simp
             exact hK (.slice (some ⟨WN.heap.size, 0, none⟩) 1 1) _ ⟨Lib.hid (by rw [hW.out]; exact HWA.out.symm), Lib.hid (congrArg (fun W : World => Value.slice (some ⟨W.heap.size, 0, none⟩) 1 1) hW.out), al_c x4 (.cells #[.int .i64 ((kk : Nat) : Int)] 3), al_c z0 (.cells #[.int .i64 ((kk : Nat) : Int)] 3), al_c z1 (.cells #[.int .i64 ((kk : Nat) : Int)] 3), al_c z2 (.cells #[.int .i64 ((kk : Nat) : Int)] 3)⟩
            | succ j =>
             cases j with
             | zero =>
              cases ht; cases ho
              obtain ⟨hW, hx0, x4, z0, z1, z2⟩ := hst
              have hrun := HRUN.out
              rw [← hW.out] at hrun
              go_simp
              exact hK (.tuple #[FV, st]) _ ⟨Lib.hid rfl, hx0, Lib.hid rfl⟩
             | succ j =>
              cases j with
              | zero =>
               cases ht; cases ho
               obtain ⟨hW, hx0, hx1⟩ := hst
               have hrow := HROW.out
               have hgw := HGW.out
               have hsz := hw8
               rw [← hW.out] at hrow hgw hsz
               refine step_app Tryz.underlying22 int_info rfl (by decide) (by decide) rfl _ _ rfl w.heap.size FV q (visN G) [.int .i64 ((kk : Nat) : Int)] rfl hrow hsz 1 wd.heap.size hx0.out hgw rfl (fun u hu => by rw [List.mem_singleton] at hu; subst hu; rfl) hq8 (fun vv ww h1 h2 h3 => hK vv ww ⟨hx1, Lib.hid h1, Lib.hid (by rw [← hW.out]; exact h3)⟩)
              | succ j =>
               cases j with
               | zero =>
                cases ht; cases ho
                obtain ⟨hx1, hrow, hgrow⟩ := hst
                have hg2 := hgrow.out
                have ho3 := (hg2.grown.block mb (blk_lt HO8.out) (fun e => HNN.out.1 e.symm)).trans HO8.out
                obtain ⟨w9, e1, e2, e3⟩ := HSTO.out (x 2) WN ho3
                have e1 : (Instr.entryStore 78 (.map (some mb)) st (x 2)).run Tryz.prog WN = .ok () w9 := e1
                go_simp
                have hg2f := hg2
                rw [HFV.out] at hg2f
                have hrw : WN.ownsRow w.heap.size 3 1 (x 2) ((grpL L sts i q s.1).length + 1) (visN (grpL L sts i q s.1 ++ [L.idxOf t])) := by rw [← HGE.out.1, HGE.out.2, ← HTL.out.2.2.2.1, show visN (G ++ [kk]) = visN G ++ [.int .i64 ((kk : Nat) : Int)] by simp [visN]]; exact hrow.out
                have hXX := HXA.out.pushed HN4.out HPA.out HG1.out hg2f hrw e2 e3 HSI.out HT.out HAN.out hxlt hglt hmlt hgm hxm
                refine hK undef w9 ⟨Lib.hid hXX, Lib.hid (blk_push HG1.out hg2 e3 HKA.out ?_ HNN.out.2.1), Lib.hid ?_⟩
                ·omega
                ·exact HMA.out.heap (show w9.heap[w.heap.size]? = wa.heap[w.heap.size]? by obtain ⟨es, c, hm⟩ := HMA.out.is; rw [hm]; exact blk_push HG1.out hg2 e3 hm (by omega) HNN.out.2.2)
               | succ j =>
                simp at ht
           case he =>
            obtain ⟨hX, hkS, hM⟩ := hst
            clear x4 z0 z1 z2 HX7 HKS7 HM7 HPA HXA HKA HMA HRUN HG1 HO8 HSTO HFV HGE HROW HGW HWA HWD HNN HN4
            have hel3 : ((earl sts i (q + 1)).length : Int) = ((earl sts i q).length : Int) + 1 := by rw [earl_step HSI.out HT.out]; simp
            have hL7 : (earl sts i q).length ≤ L.length := HS4.out.len
            obtain ⟨g1, g2, g3, g4, g5, g6⟩ := HTL.out
            have hmf := hM.out
            rw [g4, g5] at hmf
            have hSN := Lib.hid (HS4.out.step HSI.out HT.out HNE.out HLA.out g1 g2 g3 hX.out hn5 hmf)
            have hwr : IntKind.i64.wrap (((earl sts i q).length : Int) + 1) = ((earl sts i (q + 1)).length : Int) := by rw [hel3]; exact IntWalk.i64_in _ (by omega)
            have hwq : IntKind.i64.wrap ((q : Int) + 1) = ((q + 1 : Nat) : Int) := by rw [IntWalk.i64_in _ (by omega)]; omega
            clear g1 g2 g3 g4 g5 g6 hmf hX hM hel3 hL7
            go_wp2
            go_roundw
            case rel => exact ⟨q + 1, by omega, by first | rfl | go_num, by first | rfl | exact congrArg _ hwr, hSN, hkS⟩
            case measure => simp [intOf]; omega
      ·obtain rfl : q = s.2.length := by omega
       have hel3 : ((earl sts (i + 1) 0).length : Int) = ((earl sts i s.2.length).length : Int) := by rw [earl_next HSI.out]
       have hSN := Lib.hid (hS.out.next HSI.out hlt0 HAN.out)
       have hwi : IntKind.i64.wrap ((i : Int) + 1) = ((i + 1 : Nat) : Int) := by rw [IntWalk.i64_in _ (by omega)]; omega
       clear hS hkS
       go_wp2
       go_roundw
       case rel => exact ⟨i + 1, by omega, by first | rfl | go_num, by rw [hel3], hSN⟩
       case measure => simp [intOf]; omega
  ·obtain rfl : i = sts.length := by omega
   have x0 := hS.out.x.pil.c0
   have c4 := hS.out.x.kp.cell HP.out.c4 HPB.out.1 HPB.out.2.1
   obtain ⟨CC, hCC⟩ : ∃ c : Int, c = ((earl sts sts.length 0).length : Int) := ⟨_, rfl⟩
   rw [← hCC]
   obtain ⟨bE, hbE⟩ : ∃ b, (CC == (L.length : Int)) = b := ⟨_, rfl⟩
   have HBE := Lib.hid hbE
   have HCC := Lib.hid hCC
   clear hbE hCC
   obtain ⟨wo, hwo⟩ : ∃ x, x = wr := ⟨_, rfl⟩
   subst hwo
   go_wp2_with fail
   have hS2 := hS.out
   have hbR : (CC == (L.length : Int)) = R := by
    rw [HBE.out]
    have h1 := HBE.out
    rw [HCC.out] at h1
    cases bE with
    | true =>
     have h2 : (earl sts sts.length 0).length = L.length := by have := eq_of_beq h1; omega
     rw [earl_zero, List.take_length] at h2
     exact (HYES.out (hS2.inv.done h2)).symm
    | false =>
     refine (HNOT.out fun hP => ?_).symm
     have h2 := hP.many
     rw [← List.take_length (l := sts), ← earl_zero] at h2
     rw [h2] at h1
     simp at h1
   obtain ⟨n, f, m1, m2⟩ := hS2.x.map
   have hle := hS2.len
   have HF := Lib.hid (show LieF w pb vm (.slice (some ⟨ga, 0, none⟩) L.length ca) L sts xb gl mb wo from ⟨hS2.x.pil, hS2.x.lev, n, f, by omega, m2⟩)
   have HK := Lib.hid hS2.x.kp
   clear hS2 m1 m2 hle hS x0 c4
   go_ret
   exact ⟨ret_bool hbR, HK.out, fun _ => HF.out⟩
end
end Go.Proofs.YtpkjekedgodccaaGreatDoor
