/- The walks of the dragon's small functions. -/
import Derived.Test.YthfhkmgegkhljaaKit
namespace Go.Proofs.Ythfhkmgegkhljaa
open Go.RowKit

theorem strange_any (k : Int) (w : World) : Calls Try.prog 43 #[.int .i64 k] w fun e w' => e = .returned (.bool (k != 1 && k != 2)) ∧ w = w' := by
  by_cases h1 : k = 1
  · subst h1
    go_enter Try.func43, Try.ntmps43
    go_wp2
    go_ret
    exact ⟨rfl, rfl⟩
  · by_cases h2 : k = 2
    · subst h2
      go_enter Try.func43, Try.ntmps43
      go_wp2
      go_ret
      exact ⟨rfl, rfl⟩
    · have e1 : (k != 1) = true := by simpa using h1
      have e2 : (k != 2) = true := by simpa using h2
      have H : Hid ((k != 1 && k != 2) = true) := Lib.hid (by simp [e1, e2])
      go_enter Try.func43, Try.ntmps43
      go_wp2
      go_ret
      exact ⟨ret_bool H.out.symm, rfl⟩

theorem other_any (k : Int) (w : World) (h1 : 0 ≤ k) (h2 : k ≤ 10) : Calls Try.prog 45 #[.int .i64 k] w fun e w' => e = .returned (.int .i64 (3 - k)) ∧ w = w' := by
  go_enter Try.func45, Try.ntmps45
  go_wp2
  go_ret
  exact ⟨rfl, rfl⟩

/-- A function value that captures nothing and answers by p, quietly. -/
structure IsPred (g : FuncId) (p : Int → Bool) : Prop where
  enter : ∀ args (wx : World), (callFunc g args).run Try.prog wx = .ok (.enter g args) wx
  call : ∀ (z : Int) (wx : World), Calls Try.prog g #[.int .i64 z] wx fun e w' => e = .returned (.bool (p z)) ∧ wx = w'
def NoneBefore (p : Int → Bool) (zs : List Int) (k : Nat) : Prop := ∀ z ∈ zs.take k, p z = false

theorem noneBefore_succ {p : Int → Bool} {zs : List Int} {k : Nat} {z : Int} (h : NoneBefore p zs k) (hz : zs[k]? = some z) (hp : p z = false) : NoneBefore p zs (k + 1) := by
  intro y hy
  rw [List.take_add_one, hz] at hy
  rcases List.mem_append.1 hy with h1 | h1
  · exact h y h1
  · simp at h1; subst h1; exact hp
theorem noneBefore_all {p : Int → Bool} {zs : List Int} (h : NoneBefore p zs zs.length) : zs.any p = false := by
  rw [List.any_eq_false]; intro z hz; rw [h z (by simpa using hz)]; simp
theorem noneBefore_idx {p : Int → Bool} {zs : List Int} {k : Nat} {z : Int} (hz : zs[k]? = some z) (hp : p z = true) : zs.any p = true := by
  rw [List.any_eq_true]; exact ⟨z, List.mem_of_getElem? hz, hp⟩

set_option maxHeartbeats 400000 in
theorem indexFunc_any (g : FuncId) (p : Int → Bool) (hp : IsPred g p) (A : Option Addr) (n c : Nat) (zs : List Int) (w : World) (h : Rd w 1 A n (vis zs)) (hn : n ≤ 9223372036854775807) :
    Calls Try.prog 54 #[.slice A n c, .func (.func g) #[] #[]] w fun e w' => (∃ i : Int, e = .returned (.int .i64 i) ∧ decide (0 ≤ i) = zs.any p) ∧ w = w' := by
  have hl := h.ints_len
  have HL := Lib.hid hl
  clear hl
  have hent := hp.enter
  go_enter Try.func54, Try.ntmps54
  go_wp2
  go_loop [8] (fun i => ∃ k : Nat, k ≤ n ∧ i = .int .i64 k ∧ NoneBefore p zs k) (fun i => n - (intOf i).toNat)
  case atStart => exact ⟨0, Nat.zero_le _, rfl, by intro z hz; simp at hz⟩
  case round =>
    obtain ⟨k, hk, rfl, hnb⟩ := hrel
    by_cases hlt : k < n
    · obtain ⟨b, off, z, rfl, hb, hz, hc⟩ := h.int hlt
      have HZ := Lib.hid hz
      clear hz
      cases hpz : p z
      · have HP := Lib.hid hpz
        clear hpz
        go_wp2_with fail
        refine (hp.call _ _).mono ?_
        rintro e w1 ⟨rfl, rfl⟩
        rw [HP.out]
        go_wp2
        go_round
        case rel => exact ⟨k + 1, by omega, by go_num, noneBefore_succ hnb HZ.out HP.out⟩
        case measure => simp [intOf]; omega
      · have HP := Lib.hid hpz
        clear hpz
        go_wp2_with fail
        refine (hp.call _ _).mono ?_
        rintro e w1 ⟨rfl, rfl⟩
        rw [HP.out]
        go_wp2
        go_ret
        exact ⟨⟨k, rfl, by rw [noneBefore_idx HZ.out HP.out]; simp⟩, rfl⟩
    · go_wp2
      go_ret
      refine ⟨⟨-1, rfl, ?_⟩, rfl⟩
      have : k = zs.length := by have := HL.out; omega
      subst this
      rw [noneBefore_all hnb]; rfl

set_option maxHeartbeats 400000 in
theorem containsFunc_any (g : FuncId) (p : Int → Bool) (hp : IsPred g p) (A : Option Addr) (n c : Nat) (zs : List Int) (w : World) (h : Rd w 1 A n (vis zs)) (hn : n ≤ 9223372036854775807) :
    Calls Try.prog 42 #[.slice A n c, .func (.func g) #[] #[]] w fun e w' => e = .returned (.bool (zs.any p)) ∧ w = w' := by
  go_enter Try.func42, Try.ntmps42
  go_wp2_with fail
  refine (indexFunc_any g p hp A n c zs w h hn).mono ?_
  rintro e w1 ⟨⟨i, rfl, hi⟩, rfl⟩
  have HI := Lib.hid hi
  clear hi
  go_wp2
  go_ret
  exact ⟨ret_bool HI.out, rfl⟩

def strangeB (k : Int) : Bool := k != 1 && k != 2
theorem strange_pred : IsPred 43 strangeB := ⟨fun args wx => by kernel_rfl, fun z wx => strange_any z wx⟩

/-- 'check': 2, if there are too many; 4, if one is strange; else 0. -/
def checkE (zs : List Int) : Int := if 10 < zs.length then 2 else if zs.any strangeB then 4 else 0

set_option maxHeartbeats 400000 in
theorem dcheck_any (A : Option Addr) (n c : Nat) (zs : List Int) (w : World) (h : Rd w 1 A n (vis zs)) (hn : n ≤ 9223372036854775807) :
    Calls Try.prog 33 #[.slice A n c] w fun e w' => e = .returned (.int .i64 (checkE zs)) ∧ w = w' := by
  have HL := Lib.hid h.ints_len
  by_cases h10 : 10 < n
  · go_enter Try.func33, Try.ntmps33
    go_wp2
    go_ret
    exact ⟨ret_int (by unfold checkE; rw [if_pos (by rw [HL.out]; exact h10)]), rfl⟩
  · cases hs : zs.any strangeB
    all_goals
      have HS := Lib.hid hs
      clear hs
      go_enter Try.func33, Try.ntmps33
      go_wp2_with fail
      refine (containsFunc_any _ _ strange_pred A n c zs w h hn).mono ?_
      rintro e w1 ⟨rfl, rfl⟩
      rw [HS.out]
      go_wp2
      go_ret
      exact ⟨ret_int (by unfold checkE; rw [if_neg (by rw [HL.out]; exact h10), HS.out]; rfl), rfl⟩
end Go.Proofs.Ythfhkmgegkhljaa
