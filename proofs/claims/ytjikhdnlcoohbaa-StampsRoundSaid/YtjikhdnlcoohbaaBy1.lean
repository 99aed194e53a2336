/- IndexFunc and DeleteFunc over rows, with a predicate that lays blocks. -/
import Derived.Test.YtjikhdnlcoohbaaOd4
import Derived.Lib.SlKept
namespace Go.Proofs.Ytjikhdnlcoohbaa
set_option linter.unusedSimpArgs false
set_option linter.unusedVariables false
open Go.RowKit Go.Sort Go.Shelf St Go.Lib
attribute [local go_sem] Oper.semAt_some

/-- What is asked of the predicate. -/
def PredR (w : World) (B N f : Nat) (lb : Array Value) (G : List Int → Prop) (p : List Int → Bool) : Prop :=
  ∀ (W' : World) (x : Rw w N), G (lstR x) → KpI w W' → Below B w W' → Calls Try.prog f (#[encR x] ++ lb) W' fun e W'' => e = .returned (.bool (p (lstR x))) ∧ Below W'.heap.size W' W''
theorem by1_enter (args : Array Value) (wx : World) : (callFunc 33 args).run Try.prog wx = .ok (.enter 33 args) wx := by kernel_rfl
set_option maxRecDepth 100000 in
set_option maxHeartbeats 1600000 in
theorem indexR_any (Bw gb cap N B : Nat) (G : List Int → Prop) (p : List Int → Bool) (w : World) (d : Array (Rw w N)) [Inhabited (Rw w N)] (hP : PredR w B N 33 #[.pointer (some ⟨Bw, 0, none⟩)] G p) (hG : ∀ m, m < d.size → G (lstR d[m]!))
    (hrow : ∀ m, m < d.size → w.cell? ⟨gb, m, none⟩ = some (encR d[m]!)) (hgb : gb < w.heap.size) (hB : B ≤ w.heap.size) (hn : d.size ≤ 100000) :
    Calls Try.prog 44 #[.slice (some ⟨gb, 0, none⟩) d.size cap, .func (.func 33) #[] #[.pointer (some ⟨Bw, 0, none⟩)]] w fun e w' =>
      (∃ r : Int, e = .returned (.int .i64 r) ∧ ((r = -1 ∧ ∀ j, j < d.size → p (lstR d[j]!) = false) ∨ (∃ k : Nat, k < d.size ∧ r = k ∧ p (lstR d[k]!) = true ∧ ∀ j, j < k → p (lstR d[j]!) = false))) ∧ Below w.heap.size w w' := by
  have HP := Lib.hid hP
  have HR := Lib.hid hrow
  have EF := Lib.hid by1_enter
  have GG := Lib.hid hG
  obtain ⟨n, hnn⟩ : ∃ n, n = d.size := ⟨_, rfl⟩
  rw [← hnn] at hn HR GG ⊢
  clear hP hrow hnn hG
  go_enter Try.func44, Try.ntmps44
  go_wp2
  go_loopw [8] (fun i wr => ∃ k : Nat, k ≤ n ∧ i = .int .i64 k ∧ Hid (∀ j, j < k → p (lstR d[j]!) = false) ∧ Below w.heap.size w wr) (fun i _ => n - (intOf i).toNat)
  case atStart => exact ⟨0, by omega, rfl, Lib.hid (fun j hj => by omega), Below.refl _ _⟩
  case round =>
    obtain ⟨k, hk, rfl, hall, hb⟩ := hrel
    by_cases hkn : k < n
    · have hc := stay_c (HR.out k hkn) hb (Nat.le_refl _)
      have hC := HP.out wr d[k]! (GG.out k hkn) (KpI.of_below hb) (hb.mono hB)
      have hent := EF.out
      obtain ⟨u, hu⟩ : ∃ u, u = encR d[k]! := ⟨_, rfl⟩
      obtain ⟨q, hq⟩ : ∃ q, q = p (lstR d[k]!) := ⟨_, rfl⟩
      rw [← hu] at hc hC
      rw [← hq] at hC
      have HQ := Lib.hid hq
      have CP := Lib.hid hC
      clear hu hq hC
      go_wp2_with fail
      refine (CP.out).mono ?_
      rintro e w1 ⟨rfl, hb1⟩
      have hbn := stay_b hb hb1
      cases q with
      | false =>
        go_wp2
        go_roundw
        case rel =>
          refine ⟨k + 1, by omega, by go_num, Lib.hid (fun j hj => ?_), hbn⟩
          by_cases hjk : j = k
          · subst hjk; exact HQ.out.symm
          · exact hall.out j (by omega)
        case measure => simp [intOf]; omega
      | true =>
        go_wp2
        go_ret
        exact ⟨⟨k, rfl, .inr ⟨k, hkn, rfl, HQ.out.symm, hall.out⟩⟩, hbn⟩
    · obtain rfl : k = n := by omega
      go_wp2
      go_ret
      exact ⟨⟨-1, rfl, .inl ⟨rfl, hall.out⟩⟩, hb⟩
end Go.Proofs.Ytjikhdnlcoohbaa
