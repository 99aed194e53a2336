/- joined: is a sheet one piece? -/
import Derived.Test.YtoienokpchbglaaDoorSpr
namespace Go.Proofs.YtoienokpchbglaaDoor
set_option linter.unusedSimpArgs false
set_option linter.unusedVariables false
open Go.RowKit Go.Maps

noncomputable def joinB (L : List T3) : Bool := match L with
  | [] => false
  | a :: _ => decide ((compL L (fun _ => true) a).length = L.length)
theorem joined1_enter (args : Array Value) (wx : World) : (callFunc 87 args).run Tryd.prog wx = .ok (.enter 87 args) wx := by kernel_rfl
theorem joined1_any (e : E4) (w : World) : Calls Tryd.prog 87 #[aggE e] w fun r w' => r = .returned (.bool true) ∧ Below w.heap.size w w' := by
  go_enter Tryd.func87, Tryd.ntmps87
  go_wp2
  go_ret
  exact ⟨rfl, below_new _ _⟩
theorem cross_all (w : World) (L : List T3) : CrossR w 87 #[] (fun _ => true) L := by
  intro W' t i _ _ _
  exact joined1_any (eT t i) W'
set_option maxRecDepth 100000 in
set_option maxHeartbeats 3200000 in
theorem joined_any (pb nb kb W H B : Nat) (vm vc vt : Value) (L : List T3) (mn mk : Nat) (fk : E4 → Option Int) (w : World) (hs : Steps w) (hp : PapI w pb nb kb W H vm vc vt L mn mk fk) (ho : w.ownsRow B 93 3 vt L.length (tcT L))
    (hL : ∀ t ∈ L, SmT t) (hLl : L.length ≤ 1000) (hso : L.Pairwise triLt) :
    Calls Tryd.prog 62 #[.pointer (some ⟨pb, 0, none⟩)] w fun r w' => r = .returned (.bool (joinB L)) ∧ Below w.heap.size w w' := by
  have hc4 := hp.c4
  cases L with
  | nil =>
    have hv : ∃ A c, vt = .slice A 0 c := by
      obtain ⟨A, c, h, _⟩ := own_slice ho
      exact ⟨A, c, h⟩
    obtain ⟨A, c, rfl⟩ := hv
    clear hp ho hs
    go_enter Tryd.func62, Tryd.ntmps62
    go_upto_region 1 with fail
    go_quiet (fail)
    go_wp2
    go_ret
    exact ⟨rfl, below_drewN (Below.refl _ _) _⟩
  | cons a L0 =>
    obtain ⟨L, hLe⟩ : ∃ L, L = a :: L0 := ⟨_, rfl⟩
    have hjb : joinB (a :: L0) = decide ((compL L (fun _ => true) a).length = L.length) := by rw [hLe]; rfl
    rw [hjb]
    rw [← hLe] at hp ho hL hLl hso
    have ha0 : L[0]? = some a := by rw [hLe]; rfl
    have hLpos : 0 < L.length := by rw [hLe]; simp
    have haL : a ∈ L := List.mem_of_getElem? ha0
    obtain ⟨g, cp, cur, rfl, _, _, hBg, _⟩ := own_addr ho hLpos
    obtain ⟨t0, t1, t2⟩ := own_tri ho ha0
    have hpos : decide ((0 : Int) < (L.length : Int)) = true := decide_eq_true (by omega)
    have hpos2 : decide (0 < L.length) = true := decide_eq_true hLpos
    have hwr0 : ∀ q : List T3, Closed L (fun _ => true) a q → (compL L (fun _ => true) a).length = q.length := fun q hq => comp_len hso haL hq
    have cS := fun (w1 : World) (hb : Below w.heap.size w w1) => spread_any pb nb kb W H 87 vm vc (.slice (some ⟨g, 0, none⟩) L.length cp) L mn mk fk a (fun _ => true) w1 (hs.below hb) (hp.below hb) hL hLl haL joined1_enter #[] (cross_all w1 L)
    have HCL := Lib.hid hwr0
    have CS := Lib.hid cS
    obtain ⟨R, hR⟩ : ∃ R, R = (compL L (fun _ => true) a).length := ⟨_, rfl⟩
    rw [← hR]
    have HR := Lib.hid hR
    clear hwr0 cS hR hjb hL hLe hso hp ho hs haL ha0
    go_enter Tryd.func62, Tryd.ntmps62
    go_upto_region 1 with fail
    have hS : w.drew.cell? ⟨pb, 4, none⟩ = some (.slice (some ⟨g, 0, none⟩) L.length cp) ∧ w.drew.cell? ⟨g, 0, none⟩ = some (.int .i64 a.1) ∧ w.drew.cell? ⟨g, 1, none⟩ = some (.int .i64 a.2.1) ∧ w.drew.cell? ⟨g, 2, none⟩ = some (.int .i64 a.2.2) ∧ Below w.heap.size w w.drew := ⟨hc4, by simpa using t0, by simpa using t1, by simpa using t2, (Below.refl _ _).drew⟩
    clear t0 t1 t2 hc4
    go_region_held3 (fun w' => w'.cell? ⟨pb, 4, none⟩ = some (.slice (some ⟨g, 0, none⟩) L.length cp) ∧ w'.cell? ⟨g, 0, none⟩ = some (.int .i64 a.1) ∧ w'.cell? ⟨g, 1, none⟩ = some (.int .i64 a.2.1) ∧ w'.cell? ⟨g, 2, none⟩ = some (.int .i64 a.2.2) ∧ Below w.heap.size w w')
      (first
        | with_reducible exact hS
        | with_reducible assumption
        | (go_split_ands; exact ⟨stay_c ‹_› hbc (Nat.le_refl _), stay_c ‹_› hbc (Nat.le_refl _), stay_c ‹_› hbc (Nat.le_refl _), stay_c ‹_› hbc (Nat.le_refl _), stay_b ‹_› hbc⟩))
      (first
        | (go_split_ands; (with_reducible refine (CS.out _ (by assumption)).mono ?_); rintro r wc ⟨v, q, s, rfl, hcl, hpm, _, hown, hbc⟩; obtain ⟨A9, c9, hv9, _, _⟩ := own_slice hown; subst hv9; have hlen := hpm.length_eq; rw [HCL.out q hcl |>.symm, ← HR.out] at hlen; rw [hlen]))
    rename_i hSS
    have hfin : ((R : Int) == (L.length : Int)) = decide (R = L.length) := by
      rw [Bool.eq_iff_iff]
      simp only [beq_iff_eq, decide_eq_true_eq]
      omega
    go_wp2
    go_ret
    exact ⟨ret_bool hfin, hSS.2.2.2.2⟩
end Go.Proofs.YtoienokpchbglaaDoor
