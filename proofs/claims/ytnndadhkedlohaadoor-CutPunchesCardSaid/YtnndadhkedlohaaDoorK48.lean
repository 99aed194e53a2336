/- samePieces: are two lists of pieces the same? Printed by gen_sap.py.. A drawn region with a chain of operations that change memory; what waits for a link of the chain may hang on what it brings (a tuple's parts).. -/
import Derived.Test.YtnndadhkedlohaaDoorK24
import Derived.Test.YtnndadhkedlohaaDoorK11
import Derived.Test.YtnndadhkedlohaaDoorK17
import Derived.Test.YtnndadhkedlohaaDoorK25
namespace Go.Proofs.YtnndadhkedlohaaDoor
set_option linter.unusedSimpArgs false
set_option linter.unusedVariables false
section
open Go.RowKit
theorem RowsT.at_ {w : World} {B : Nat} {v : Value} {fs : List (List T3)} {vs : List Value} (h : RowsT w B v fs vs) {i : Nat} {f : List T3} (hf : fs[i]? = some f) : ∃ g c A c', v = .slice (some ⟨g, 0, none⟩) fs.length c ∧ w.cell? ⟨g, i, none⟩ = some (.slice A f.length c') ∧ Rd w 3 A f.length (tcT f) ∧ f.length ≤ 9223372036854775807 := by
 have hi := (List.getElem?_eq_some_iff.1 hf).1
 obtain ⟨g, c, cur, rfl, _, _, _, _⟩ := own_addr h.own (by omega)
 obtain ⟨b, off, e, _, hc⟩ := (Rd.of_own h.own).2 (by omega)
 cases e
 obtain ⟨vj, h1, h2⟩ := h.row i f hf
 obtain ⟨A, c', rfl, h3, h4⟩ := own_slice h2
 have h5 := hc i _ h1
 rw [Nat.zero_add] at h5
 exact ⟨g, c, A, c', rfl, h5, Rd.of_own h2, by simp only [maxLen] at h4; omega⟩
set_option maxRecDepth 100000 in
set_option maxHeartbeats 3200000 in
theorem samePieces_any (B1 B2 : Nat) (v u : Value) (fs gs : List (List T3)) (vs us : List Value) (w : World) (hv : RowsT w B1 v fs vs) (hu : RowsT w B2 u gs us) :
  Calls Tryd.prog 11 #[v, u] w fun e w' => e = .returned (.bool (decide (fs = gs))) ∧ Below w.heap.size w w' := by
 obtain ⟨A1, c1, hv1, hc1, hm1⟩ := own_slice hv.own
 have hfl : fs.length ≤ 9223372036854775807 := by simp only [maxLen] at hm1; omega
 obtain ⟨A2, c2, hu1, _, _⟩ := own_slice hu.own
 subst hv1 hu1
 have HV := Lib.hid hv
 have HU := Lib.hid hu
 by_cases hl : fs.length = gs.length
 rotate_left
 ·have hd : decide (fs = gs) = false := decide_eq_false fun e => hl (by rw [e])
  rw [hd]
  obtain ⟨n, hn⟩ : ∃ n, n = fs.length := ⟨_, rfl⟩
  obtain ⟨m, hm⟩ : ∃ n, n = gs.length := ⟨_, rfl⟩
  rw [← hn, ← hm] at hl ⊢
  have hne : ((n : Int) != (m : Int)) = true := by simp; omega
  clear HV HU hv hu hd hn hm
  go_enter Tryd.func11, Tryd.ntmps11
  go_wp2
  go_ret
  exact ⟨rfl, Below.refl _ _⟩
 ·rw [← hl]
  have HL := Lib.hid hl
  obtain ⟨R, hR⟩ : ∃ b, b = decide (fs = gs) := ⟨_, rfl⟩
  rw [← hR]
  have HR := Lib.hid hR
  have hne : ((fs.length : Int) != (fs.length : Int)) = false := by simp
  clear hl hv hu hR
  go_enter Tryd.func11, Tryd.ntmps11
  go_wp2_with fail
  go_loopw [5] (fun x wr => ∃ i : Nat, i ≤ fs.length ∧ x = .int .i64 i ∧ Hid (fs.take i = gs.take i) ∧ Hid (Below w.heap.size w wr)) (fun x _ => fs.length - (intOf x).toNat)
  case atStart => exact ⟨0, by omega, rfl, Lib.hid (by simp), Lib.hid (Below.refl _ _)⟩
  case round =>
   obtain ⟨i, hi, rfl, hT, hB⟩ := hrel
   by_cases hil : i < fs.length
   ·have hii : (i : Int) < (fs.length : Int) := by omega
    have hi0 : (0 : Int) ≤ (i : Int) := by omega
    obtain ⟨f, hf⟩ : ∃ f, fs[i]? = some f := ⟨_, List.getElem?_eq_getElem hil⟩
    obtain ⟨g, hg⟩ : ∃ g, gs[i]? = some g := ⟨_, List.getElem?_eq_getElem (by have := HL.out; omega)⟩
    obtain ⟨b1, d1, F1, e1, q1, x1, r1, z1⟩ := (HV.out.below hB.out).at_ hf
    obtain ⟨b2, d2, F2, e2, q2, x2, r2, z2⟩ := (HU.out.below hB.out).at_ hg
    cases q1
    rw [← HL.out] at q2
    cases q2
    have cS := fun (W : World) (hb : Below wr.heap.size wr W) => sameTris_any F1 F2 f.length g.length e1 e2 f g W (r1.below hb) (r2.below hb) z1 z2
    obtain ⟨D, hD⟩ : ∃ b, b = decide (f = g) := ⟨_, rfl⟩
    rw [← hD] at cS
    have hyes : D = true → fs.take (i + 1) = gs.take (i + 1) := fun h => by
     rw [List.take_add_one, List.take_add_one, hf, hg, hT.out, of_decide_eq_true (hD.symm.trans h)]
    have hno : D = false → R = false := fun h => by
     rw [HR.out]
     refine decide_eq_false fun e => ?_
     rw [e, hg] at hf
     cases hf
     rw [h] at hD
     simp at hD
    have CS := Lib.hid cS
    have HY := Lib.hid hyes
    have HN := Lib.hid hno
    clear cS hyes hno hD hf hg r1 r2 z1 z2
    go_wp2_with fail
    refine rg_plain (fin := ?z1) [.slice (some ⟨b1, 0, none⟩) fs.length c1, .int .i64 (i : Int), .pointer (some ⟨b1, i, none⟩), .slice F1 f.length e1, .slice (some ⟨b2, 0, none⟩) fs.length c2, .int .i64 (i : Int), .pointer (some ⟨b2, i, none⟩), .slice F2 g.length e2, .bool D, .bool (!D)] (fun WN => WN.cell? ⟨b1, i, none⟩ = some (.slice F1 f.length e1) ∧ WN.cell? ⟨b2, i, none⟩ = some (.slice F2 g.length e2) ∧ Below wr.heap.size wr WN) ?hf (by kernel_rfl) (by kernel_rfl) rfl ⟨x1, x2, (Below.refl _ _).drew⟩ (fun WN hst => ?hs) (fun WN hst => ?he)
    case hf => simp only [putOps, Act.put, List.setIfInBounds_toArray, List.set_cons_succ, List.set_cons_zero]; exact rfl
    case hs =>
     have HST := Lib.hid hst
     obtain ⟨x1, x2, hbl⟩ := hst
     iterate 10 refine ⟨?_, fun K hK => ?_⟩
     ·trivial
     all_goals try (go_simp; exact hK _ HST.out; done)
     ·go_simp
      refine (CS.out WN hbl).mono ?_
      rintro e' wc ⟨he, hbc⟩
      subst he
      exact hK _ ⟨sd x1 hbc, sd x2 hbc, stay_b hbl hbc⟩
    case he =>
     obtain ⟨x1, x2, hbl⟩ := hst
     have HBN := Lib.hid (stay_b hB.out hbl)
     cases D with
     | true =>
      go_wp2
      go_roundw
      case rel => exact ⟨i + 1, by omega, by go_num, Lib.hid (HY.out (by first | rfl | trivial)), HBN⟩
      case measure => simp [intOf]; omega
     | false =>
      have hr := HN.out (by first | rfl | trivial)
      subst hr
      go_wp2
      go_ret
      exact ⟨rfl, HBN.out⟩
   ·obtain rfl : i = fs.length := by omega
    have hr : R = true := by
     rw [HR.out]
     refine decide_eq_true ?_
     have := hT.out
     rw [List.take_length] at this
     rw [this, HL.out, List.take_length]
    subst hr
    go_wp2
    go_ret
    exact ⟨rfl, hB.out⟩
end
section
open Go.RowKit
section
variable {P : Program} {ops : Array Oper}
theorem Fr.turn2 {σ : Type} {vals : σ → List Value} {a0 : Act} {fin : σ → Act} (hf : ∀ x, putOps ops.toList (vals x) a0 = fin x) (hln : ∀ x, (vals x).length = ops.size) (hb : rgB ops = true) {x x' : σ} {L : Array Bool} {a : Act} (h : Fr ops (fin x) L a) {i : Nat} {o : Oper} (ho : ops[i]? = some o)
  {u v : Value} (hu : (fin x).put o.dst u = (fin x).put o.dst v) (hv1 : (vals x')[i]? = some v) (hv2 : ∀ k, k ≠ i → L.getD k false = true → (vals x')[k]? = (vals x)[k]?) : Fr ops (fin x') (L.setIfInBounds i true) (a.put o.dst u) := by
 have b4 := fun (k : Nat) (p : Oper) (hk : ops[k]? = some p) => (rgB_op hb hk).2.2.2
 have hi := (Array.getElem?_eq_some_iff.1 ho).1
 have at_ : ∀ (y : σ) (k : Nat) (p : Oper) (d : Tmp), ops[k]? = some p → p.dst = some d → (fin y).tmps[d]? = match (vals y)[k]? with | some v => (if d < a0.tmps.size then some v else none) | none => a0.tmps[d]? := fun y k p d hk hd => by
  rw [← hf y]
  exact putOps_at _ _ _ k p d (by simpa using hk) hd fun k' o' hk' hne e => b4 k p hk k' o' d (by simpa using hk') hne e hd
 have sz : ∀ y, (fin y).tmps.size = a0.tmps.size := fun y => by rw [← hf y]; exact (putOps_out _ _ _).2.1
 have df : ∀ y, (fin y).defers = a0.defers := fun y => by rw [← hf y]; exact (putOps_out _ _ _).1
 have out : ∀ y (j : Nat), (∀ (k : Nat) (p : Oper), ops[k]? = some p → p.dst ≠ some j) → (fin y).tmps[j]? = a0.tmps[j]? := fun y j hj => by
  rw [← hf y]
  refine (putOps_out _ _ _).2.2 j fun p hp => ?_
  obtain ⟨k, hk⟩ := List.getElem?_of_mem hp
  exact hj k p (by simpa using hk)
 have psz : ∀ (b : Act), (b.put o.dst u).tmps.size = b.tmps.size := fun b => by cases o.dst <;> simp [Act.put]
 refine ⟨?_, ?_, ?_, ?_⟩
 ·rw [df]
  have := h.df
  rw [df] at this
  rw [← this]
  cases o.dst <;> rfl
 ·rw [psz, h.ts, sz, sz]
 ·intro j hj
  rw [out x' j hj, ← out x j hj, ← h.out j hj]
  cases hd : o.dst with
  | none => rfl
  | some c =>
   have : c ≠ j := fun e => hj i o ho (by rw [hd, e])
   simp [Act.put, Array.getElem?_setIfInBounds_ne this]
 ·intro k p d hk hp hL
  by_cases e : i = k
  ·subst e
   rw [ho] at hk
   cases hk
   rw [at_ x' i o d ho hp, hv1, hp]
   rw [hp] at hu
   have h2 := congrArg (fun b : Act => b.tmps[d]?) hu
   have h3 := h.ts
   have h4 := sz x
   simp only [Act.put, Array.getElem?_setIfInBounds] at h2 ⊢
   simp only [h3, h4] at h2 ⊢
   by_cases h5 : d < a0.tmps.size
   ·simp [h5] at h2 ⊢
    exact h2
   ·simp [h5]
  ·have hne : o.dst ≠ some d := fun e2 => b4 k p hk i o d ho e e2 hp
   have h1 : (fin x').tmps[d]? = (fin x).tmps[d]? := by
    rw [at_ x' k p d hk hp, at_ x k p d hk hp, hv2 k (Ne.symm e) (up e hL)]
   rw [h1, ← h.val k p d hk hp (up e hL)]
   cases hd : o.dst with
   | none => rfl
   | some c =>
    have : c ≠ d := fun e3 => hne (by rw [hd, e3])
    simp [Act.put, Array.getElem?_setIfInBounds_ne this]
theorem rg_val2 {id : Nat} {a : Act} {w : World} {Q : Exit → Act → World → Prop} {σ : Type} (vals : σ → List Value) (I : σ → Array Bool → World → Prop) {fin : σ → Act} (hf : ∀ x, putOps ops.toList (vals x) a = fin x) (hm : P.follows .mixedOrders = true) (hb : rgB ops = true) (hln : ∀ x, (vals x).length = ops.size)
  (x0 : σ) (h0 : I x0 (Array.replicate ops.size false) w.drew)
  (hstep : ∀ x L W, L.size = ops.size → (∀ i k, Region.waitsFor .any ops i k = true → L.getD i false = true → L.getD k false = true) → I x L W → ∀ i o, ops[i]? = some o → L.getD i true = false → (∀ k, Region.waitsFor .any ops i k = true → L.getD k false = true) →
   ∀ K : Act → World → Prop, (∀ W', I x (L.setIfInBounds i true) W' → K (fin x) W') → (∀ v x' W', ((vals x')[i]? = some v ∧ ∀ k, k ≠ i → L.getD k false = true → (vals x')[k]? = (vals x)[k]?) → I x' (L.setIfInBounds i true) W' → K ((fin x).put o.dst v) W') →
    if Region.wanted o (yielded ops (fin x).tmps) = true then o.wp P (fin x) W K rgQ else K ((fin x).put o.dst undef) W)
  (hend : ∀ x L W, I x L W → (∀ k, k < ops.size → L.getD k false = true) → Q .normal (fin x) W) : (Code.region id ops true).wp P Q a w := by
 have hoff0 : ∀ i, (Array.replicate ops.size false).getD i false = false := fun i => by
  simp only [Array.getD_eq_getD_getElem?, Array.getElem?_replicate]
  split <;> rfl
 refine wp_region_inv (fun L a' W => L.size = ops.size ∧ (∀ i k, Region.waitsFor .any ops i k = true → L.getD i false = true → L.getD k false = true) ∧ ∃ x, Fr ops (fin x) L a' ∧ I x L W) hm ⟨by simp, (fun i k _ h => by rw [hoff0] at h; cases h), x0, Fr.start (hf x0), h0⟩ ?_ ?_
 ·rintro L a' W i ⟨hsz, hcl, x, hF, hI⟩ hr
  obtain ⟨hoff, o, ho, hdep⟩ := mem_ready.1 hr
  have hgo := hstep x L W hsz hcl hI i o ho hoff (fun k hk => ready_dep hr hk)
   (fun b W' => (b = fin x ∧ I x (L.setIfInBounds i true) W') ∨ ∃ v x', b = (fin x).put o.dst v ∧ ((vals x')[i]? = some v ∧ ∀ k, k ≠ i → L.getD k false = true → (vals x')[k]? = (vals x)[k]?) ∧ I x' (L.setIfInBounds i true) W') (fun W' h => .inl ⟨rfl, h⟩) (fun v x' W' hv h => .inr ⟨v, x', rfl, hv, h⟩)
  obtain ⟨e1, e2⟩ := hF.eval hb ho hr
  have key : ∀ u W', (((fin x).put o.dst u = fin x ∧ I x (L.setIfInBounds i true) W') ∨ ∃ v x', (fin x).put o.dst u = (fin x).put o.dst v ∧ ((vals x')[i]? = some v ∧ ∀ k, k ≠ i → L.getD k false = true → (vals x')[k]? = (vals x)[k]?) ∧ I x' (L.setIfInBounds i true) W') →
    (L.setIfInBounds i true).size = ops.size ∧ (∀ j k, Region.waitsFor .any ops j k = true → (L.setIfInBounds i true).getD j false = true → (L.setIfInBounds i true).getD k false = true) ∧ ∃ x, Fr ops (fin x) (L.setIfInBounds i true) (a'.put o.dst u) ∧ I x (L.setIfInBounds i true) W' := by
   intro u W' hh
   refine ⟨by simpa using hsz, (fun j k hw hj => ?_), ?_⟩
   ·by_cases e : i = j
    ·subst e
     exact getD_set_true (ready_dep hr hw)
    ·exact getD_set_true (hcl j k hw (up e hj))
   ·rcases hh with ⟨hv, hI'⟩ | ⟨v, x', hu, hv, hI'⟩
    ·exact ⟨x, hF.put hb ho hv, hI'⟩
    ·exact ⟨x', hF.turn2 hf hln hb ho hu hv.1 hv.2, hI'⟩
  unfold wpOp
  simp only [ho]
  rw [e2]
  split
  ·rename_i hw
   rw [if_pos hw] at hgo
   refine .inl ?_
   unfold Oper.wp at hgo ⊢
   rw [e1]
   generalize (execOp (fin x).eval o).run P W = r at hgo ⊢
   cases r with
   | ok nx W' =>
    cases nx <;> simp only [Oper.upon] at hgo ⊢
    case value v => exact key v W' hgo
    case skip => exact key undef W' hgo
    case defer d =>
     exfalso
     rcases hgo with ⟨h1, _⟩ | ⟨v, x', h1, _, _⟩ <;> (have := congrArg Act.defers h1; cases hd : o.dst <;> simp [hd, Act.put] at this)
    case enter f args =>
     refine Calls.mono hgo fun e W'' he => ?_
     cases e with
     | returned v => exact key v W'' he
     | panicked c => exact he.elim
     | outgrown =>
      obtain ⟨_, _, h⟩ := he
      exact h.elim
    case row r args => exact Rows.mono hgo fun v W'' he => key v W'' he
   | halt x W' => cases x <;> simp only [Oper.upon] at hgo ⊢ <;> exact hgo.elim
  ·rename_i hw
   rw [if_neg hw] at hgo
   exact key undef W hgo
 ·rintro L a' W ⟨hsz, hcl, x, hF, hI⟩ hr
  have hall := all_listedM hr hsz ((Bool.and_eq_true _ _).mp hb).1
  have : a' = fin x := by
   obtain ⟨t1, d1⟩ := a'
   have hfx := hf x
   revert hF
   generalize fin x = fx
   intro hF
   obtain ⟨t2, d2⟩ := fx
   have h1 := hF.df
   simp only at h1
   subst h1
   congr 1
   apply Array.ext_getElem?
   intro j
   by_cases hq : ∀ (k : Nat) (p : Oper), ops[k]? = some p → p.dst ≠ some j
   ·exact hF.out j hq
   ·simp only [Classical.not_forall, Classical.not_not] at hq
    obtain ⟨k, p, hk, hp⟩ := hq
    exact hF.val k p j hk hp (hall k (Array.getElem?_eq_some_iff.1 hk).1)
  subst this
  exact hend x L W hI hall
def dnB (ops : Array Oper) : List Nat → List Nat → Bool
 | _, [] => true
 | acc, k :: ks => (acc.any fun s => Region.waitsFor .any ops k s) && dnB ops (k :: acc) ks
theorem dnB_off {L : Array Bool} (hcl : ∀ i k, Region.waitsFor .any ops i k = true → L.getD i false = true → L.getD k false = true) : ∀ (ks acc : List Nat), dnB ops acc ks = true → (∀ s ∈ acc, L.getD s false = false) → ∀ k ∈ ks, L.getD k false = false
 | [], _, _, _, k, hk => by simp at hk
 | a :: ks, acc, h, ha, k, hk => by
  unfold dnB at h
  obtain ⟨h1, h2⟩ := (Bool.and_eq_true _ _).mp h
  obtain ⟨s, hs, hw⟩ := List.any_eq_true.1 h1
  have h3 : L.getD a false = false := by
   cases h4 : L.getD a false with
   | false => rfl
   | true =>
    have := hcl a s hw h4
    rw [ha s hs] at this
    cases this
  rcases List.mem_cons.1 hk with rfl | hk
  ·exact h3
  ·exact dnB_off hcl ks (a :: acc) h2 (fun s hs => by rcases List.mem_cons.1 hs with rfl | hs; exact h3; exact ha s hs) k hk
theorem dnB_wait : ∀ (ks acc : List Nat), dnB ops acc ks = true → ∀ k ∈ ks, ∃ s, (s ∈ acc ∨ s ∈ ks) ∧ Region.waitsFor .any ops k s = true
 | [], _, _, k, hk => by simp at hk
 | a :: ks, acc, h, k, hk => by
  unfold dnB at h
  obtain ⟨h1, h2⟩ := (Bool.and_eq_true _ _).mp h
  rcases List.mem_cons.1 hk with rfl | hk
  ·obtain ⟨s, hs, hw⟩ := List.any_eq_true.1 h1
   exact ⟨s, .inl hs, hw⟩
  ·obtain ⟨s, hs, hw⟩ := dnB_wait ks (a :: acc) h2 k hk
   refine ⟨s, ?_, hw⟩
   rcases hs with hs | hs
   ·rcases List.mem_cons.1 hs with rfl | hs
    ·exact .inr (List.mem_cons_self ..)
    ·exact .inl hs
   ·exact .inr (List.mem_cons_of_mem _ hs)
def chnB2 (ops : Array Oper) (T : List Nat) (fs : List (List Bool)) (cl dn : List (List Nat)) : Bool :=
 (T.all fun t => Nat.blt t ops.size) && (List.range T.length).all (fun q => Nat.beq q 0 || Region.waitsFor .any ops (T.getD q 0) (T.getD (q - 1) 0)) && (List.range T.length).all (fun q => cloB ops [T.getD q 0] (cl.getD q [])) &&
 (List.range ops.size).all (fun i => T.contains i || (List.range (T.length + 1)).all fun j => (fs.getD j []).getD i false || ((!Nat.beq j 0 && (cl.getD (j - 1) []).contains i) || ((T.drop j).any fun t => Region.waitsFor .any ops i t) || (List.range T.length).any fun q => Nat.ble j q && (dn.getD q []).contains i)) && decide T.Nodup
def agr (t : Nat) (v : Value) (dn : List Nat) : Nat → List Value → List Value → Prop
 | i, a :: l, b :: m => (bif Nat.beq i t then b = v else bif dn.contains i then True else b = a) ∧ agr t v dn (i + 1) l m
 | _, [], [] => True
 | _, _, _ => False
theorem agr_get {t : Nat} {v : Value} {dn : List Nat} : ∀ {l m : List Value} {i : Nat}, agr t v dn i l m → ∀ k, (i + k = t → k < l.length → m[k]? = some v) ∧ (i + k ≠ t → dn.contains (i + k) = false → m[k]? = l[k]?)
 | [], [], i, _, k => ⟨fun _ h => by simp at h, fun _ _ => rfl⟩
 | a :: l, b :: m, i, h, 0 => by
  unfold agr at h
  refine ⟨fun e _ => ?_, fun e hd => ?_⟩
  ·have h1 := h.1
   rw [show Nat.beq i t = true from by simpa using e] at h1
   simp only [cond_true] at h1
   simp [h1]
  ·have h1 := h.1
   rw [show Nat.beq i t = false from by rw [← Bool.not_eq_true, Nat.beq_eq]; exact e, show dn.contains i = false from hd] at h1
   simp only [cond_false] at h1
   simp [h1]
 | a :: l, b :: m, i, h, k + 1 => by
  unfold agr at h
  have := agr_get h.2 k
  rw [show i + 1 + k = i + (k + 1) by omega] at this
  simpa using this
 | [], _ :: _, i, h, _ => by simp [agr] at h
 | _ :: _, [], i, h, _ => by simp [agr] at h
theorem agr_at {t : Nat} {v : Value} {dn : List Nat} {l m : List Value} (h : agr t v dn 0 l m) (hl : t < l.length) : m[t]? = some v := (agr_get h t).1 (by omega) hl
theorem agr_ne {t : Nat} {v : Value} {dn : List Nat} {l m : List Value} (h : agr t v dn 0 l m) {k : Nat} (hk : k ≠ t) (hd : dn.contains k = false) : m[k]? = l[k]? := (agr_get h k).2 (by omega) (by rw [Nat.zero_add]; exact hd)
theorem rg_chn2 {id : Nat} {a : Act} {w : World} {Q : Exit → Act → World → Prop} (T : List Nat) (fs : List (List Bool)) (cl dn : List (List Nat)) (vals : (Nat → Value) → List Value) (St : Nat → (Nat → Value) → World → Prop) {fin : (Nat → Value) → Act} (hf : ∀ x, putOps ops.toList (vals x) a = fin x) (hm : P.follows .mixedOrders = true) (hb : rgB ops = true) (hln : ∀ x, (vals x).length = ops.size)
  (hc : chnB2 ops T fs cl dn = true) (hdn : (List.range T.length).all (fun q => dnB ops [T.getD q 0] (dn.getD q [])) = true) (hvs : ∀ x j t v, T[j]? = some t → agr t v (dn.getD j []) 0 (vals x) (vals (updV x j v))) (h0 : St 0 (fun _ => undef) w.drew)
  (hA : ∀ j x W, j ≤ T.length → St j x W → RgF P ops (fin x) (St j x) W ops.toList (fs.getD j []))
  (hT : ∀ j t x W, T[j]? = some t → St j x W → ∀ o, ops[t]? = some o → ∀ K : Act → World → Prop, (∀ v W', St (j + 1) (updV x j v) W' → K ((fin x).put o.dst v) W') →
    if Region.wanted o (yielded ops (fin x).tmps) = true then o.wp P (fin x) W K rgQ else K ((fin x).put o.dst undef) W)
  (hend : ∀ x W, St T.length x W → Q .normal (fin x) W) : (Code.region id ops true).wp P Q a w := by
 unfold chnB2 at hc
 obtain ⟨hc, c5⟩ := (Bool.and_eq_true _ _).mp hc
 obtain ⟨hc, c4⟩ := (Bool.and_eq_true _ _).mp hc
 obtain ⟨hc, c3⟩ := (Bool.and_eq_true _ _).mp hc
 obtain ⟨c1, c2⟩ := (Bool.and_eq_true _ _).mp hc
 have hnd : T.Nodup := of_decide_eq_true c5
 have hlt : ∀ q t, T[q]? = some t → t < ops.size := fun q t h => Nat.le_of_ble_eq_true (List.all_eq_true.1 c1 t (List.mem_of_getElem? h))
 have hww : ∀ q t s, T[q + 1]? = some t → T[q]? = some s → Region.waitsFor .any ops t s = true := fun q t s h1 h2 => by
  have h3 := (List.getElem?_eq_some_iff.1 h1).1
  have h := List.all_eq_true.1 c2 (q + 1) (List.mem_range.2 h3)
  simp only [List.getD_eq_getElem?_getD, h1, Nat.add_sub_cancel, h2, Option.getD_some] at h
  rcases Bool.or_eq_true _ _ |>.mp h with h | h
  ·simp at h
  ·exact h
 have hoff0 : ∀ i, (Array.replicate ops.size false).getD i false = false := fun i => by
  simp only [Array.getD_eq_getD_getElem?, Array.getElem?_replicate]
  split <;> rfl
 refine rg_val2 vals (fun x L W => ∃ j, j ≤ T.length ∧ (∀ q t, T[q]? = some t → (L.getD t false = true ↔ q < j)) ∧ St j x W) hf hm hb hln (fun _ => undef) ⟨0, Nat.zero_le _, fun q t _ => by rw [hoff0]; simp, h0⟩ ?_ ?_
 ·rintro x L W hsz hcl ⟨j, hj, hon, hst⟩ i o ho hoff hdep K hK hKx
  have hi := (Array.getElem?_eq_some_iff.1 ho).1
  have hself : (L.setIfInBounds i true).getD i false = true := by
   have : i < L.size := by omega
   simp [this]
  have hoff2 : L.getD i false = false := off_of hoff
  by_cases hT' : ∃ q : Nat, T[q]? = some i
  ·obtain ⟨q, hq⟩ := hT'
   have h1 : ¬ q < j := fun h => by rw [(hon q i hq).2 h] at hoff2; cases hoff2
   have h2 : q = j := by
    cases q with
    | zero => omega
    | succ q =>
     have hql := (List.getElem?_eq_some_iff.1 hq).1
     obtain ⟨s, hs⟩ : ∃ s, T[q]? = some s := ⟨_, List.getElem?_eq_getElem (by omega)⟩
     have := (hon q s hs).1 (hdep s (hww q i s hq hs))
     omega
   subst h2
   have hql := (List.getElem?_eq_some_iff.1 hq).1
   refine hT q i x W hq hst o ho K fun v W' h => hKx v (updV x q v) W' ⟨agr_at (hvs x q i v hq) (by rw [hln]; exact hi), fun k hk hL => agr_ne (hvs x q i v hq) hk (by
   have h7 := List.all_eq_true.1 hdn q (List.mem_range.2 hql)
   rw [show T.getD q 0 = i from by rw [List.getD_eq_getElem?_getD, hq]; rfl] at h7
   cases h8 : (dn.getD q []).contains k with
   | false => rfl
   | true =>
    have h9 := dnB_off hcl (dn.getD q []) [i] h7 (by intro s hs; rw [List.mem_singleton] at hs; subst hs; exact hoff2) k (List.contains_iff_mem.1 h8)
    rw [h9] at hL
    cases hL)⟩ ⟨q + 1, by omega, fun q' t' hq' => ?_, h⟩
   by_cases e : i = t'
   ·subst e
    have : q' = q := by
     have a1 := (List.getElem?_eq_some_iff.1 hq')
     have a2 := (List.getElem?_eq_some_iff.1 hq)
     exact (List.getElem_inj hnd).1 (a1.2.trans a2.2.symm)
    subst this
    rw [hself]
    simp
   ·rw [getD_set_ne false e, hon q' t' hq']
    have : q' ≠ q := fun e2 => by rw [e2, hq] at hq'; exact e (Option.some.inj hq')
    omega
  ·have hni : T.contains i = false := by
    rw [← Bool.not_eq_true, List.contains_iff_mem]
    intro hm'
    obtain ⟨q, hq⟩ := List.getElem?_of_mem hm'
    exact hT' ⟨q, hq⟩
   have h4 := List.all_eq_true.1 c4 i (List.mem_range.2 hi)
   rw [hni, Bool.false_or] at h4
   have h4 := List.all_eq_true.1 h4 j (List.mem_range.2 (by omega))
   have key : ∀ W', St j x W' → K (fin x) W' := fun W' h => hK W' ⟨j, hj, fun q t hq => by
    have : i ≠ t := fun e => hT' ⟨q, by rw [e]; exact hq⟩
    rw [getD_set_ne false this]
    exact hon q t hq, h⟩
   have fl : (fs.getD j []).getD i false = true → (fs.getD j [])[i]? = some true := fun h => by
    rw [List.getD_eq_getElem?_getD] at h
    cases hq : (fs.getD j [])[i]? with
    | none => rw [hq] at h; cases h
    | some b => rw [hq] at h; simp at h; rw [h]
   refine (hA j x W hj hst).at_ (by simpa using ho) (fl ?_) K key
   rcases Bool.or_eq_true _ _ |>.mp h4 with h5 | h5
   ·exact h5
   ·exfalso
    rcases Bool.or_eq_true _ _ |>.mp h5 with h5 | h5
    case inr =>
     obtain ⟨q, hq, hqq⟩ := List.any_eq_true.1 h5
     obtain ⟨hjq, hqd⟩ := (Bool.and_eq_true _ _).mp hqq
     have hjq := Nat.le_of_ble_eq_true hjq
     have hql := List.mem_range.1 hq
     obtain ⟨t, ht⟩ : ∃ t, T[q]? = some t := ⟨_, List.getElem?_eq_getElem hql⟩
     have h7 := List.all_eq_true.1 hdn q hq
     rw [show T.getD q 0 = t from by rw [List.getD_eq_getElem?_getD, ht]; rfl] at h7
     have htoff : L.getD t false = false := by
      cases h8 : L.getD t false with
      | false => rfl
      | true =>
       have := (hon q t ht).1 h8
       omega
     have hao : ∀ s ∈ [t], L.getD s false = false := by intro s hs; rw [List.mem_singleton] at hs; subst hs; exact htoff
     obtain ⟨s, hs, hw⟩ := dnB_wait (dn.getD q []) [t] h7 i (List.contains_iff_mem.1 hqd)
     have hson := hdep s hw
     rcases hs with hs | hs
     ·rw [hao s hs] at hson
      cases hson
     ·rw [dnB_off hcl (dn.getD q []) [t] h7 hao s hs] at hson
      cases hson
    rcases Bool.or_eq_true _ _ |>.mp h5 with h5 | h5
    case inr =>
     obtain ⟨t, ht, hw⟩ := List.any_eq_true.1 h5
     obtain ⟨q, hq⟩ := List.getElem?_of_mem ht
     rw [List.getElem?_drop] at hq
     have := (hon (j + q) t hq).1 (hdep t hw)
     omega
    obtain ⟨h6, h5⟩ := (Bool.and_eq_true _ _).mp h5
    cases j with
    | zero => cases h6
    | succ j =>
     rw [Nat.add_sub_cancel, List.contains_iff_mem] at h5
     obtain ⟨s, hs⟩ : ∃ s, T[j]? = some s := ⟨_, List.getElem?_eq_getElem (by omega)⟩
     have hs2 : T.getD j 0 = s := by rw [List.getD_eq_getElem?_getD, hs]; rfl
     have := cloB_on hcl (cl.getD j []) [T.getD j 0] (List.all_eq_true.1 c3 j (List.mem_range.2 (by omega))) (by intro k hk; rw [List.mem_singleton] at hk; subst hk; rw [hs2]; exact (hon j s hs).2 (by omega)) i h5
     rw [hoff2] at this
     cases this
 ·rintro x L W ⟨j, hj, hon, hst⟩ hall
  have : j = T.length := by
   by_cases h : j < T.length
   ·exfalso
    obtain ⟨s, hs⟩ : ∃ s, T[j]? = some s := ⟨_, List.getElem?_eq_getElem h⟩
    have := (hon j s hs).1 (hall s (hlt j s hs))
    omega
   ·omega
  subst this
  exact hend x W hst
end
end
end Go.Proofs.YtnndadhkedlohaaDoor
