/- Points and straights that are too far: what 'check' and 'FarMay' answer. -/
import Derived.Test.YthfhkmgegkhljaaDragT3
namespace Go.Proofs.Ythfhkmgegkhljaa
open Go.RowKit

abbrev V3 := Int × Int × Int
abbrev vst (l : V3) : List Value := [.int .i64 l.1, .int .i64 l.2.1, .int .i64 l.2.2]
abbrev vsts (l : List V3) : List Value := l.flatMap vst
def farN (n : Int) : Bool := decide (n < -1000) || decide (1000 < n)
def farP (p : V2) : Bool := farN p.1 || farN p.2
def farL (l : V3) : Bool := farN l.1 || farN l.2.1 || farN l.2.2
def nilL (l : V3) : Bool := (l.1 == 0) && (l.2.1 == 0)
/-- What is wrong with points and straights that are handed in. -/
def farE (ps : List V2) (ls : List V3) : Int := if ps.any farP then 3 else if ls.any farL then 3 else if ls.any nilL then 1 else 0

theorem vsts_at (l : List V3) : ∀ i, (vsts l)[i * 3]? = (l[i]?).map (fun p => .int .i64 p.1) := by
  induction l with
  | nil => intro i; simp
  | cons p l ih =>
    intro i
    cases i with
    | zero => simp
    | succ i =>
      have : (i + 1) * 3 = i * 3 + 1 + 1 + 1 := by omega
      rw [this]
      simp only [vsts, List.flatMap_cons, List.cons_append, List.nil_append, List.getElem?_cons_succ] at ih ⊢
      exact ih i
theorem vsts_at1 (l : List V3) : ∀ i, (vsts l)[i * 3 + 1]? = (l[i]?).map (fun p => .int .i64 p.2.1) := by
  induction l with
  | nil => intro i; simp
  | cons p l ih =>
    intro i
    cases i with
    | zero => simp
    | succ i =>
      have : (i + 1) * 3 + 1 = i * 3 + 1 + 1 + 1 + 1 := by omega
      rw [this]
      simp only [vsts, List.flatMap_cons, List.cons_append, List.nil_append, List.getElem?_cons_succ] at ih ⊢
      exact ih i
theorem vsts_at2 (l : List V3) : ∀ i, (vsts l)[i * 3 + 2]? = (l[i]?).map (fun p => .int .i64 p.2.2) := by
  induction l with
  | nil => intro i; simp
  | cons p l ih =>
    intro i
    cases i with
    | zero => simp
    | succ i =>
      have : (i + 1) * 3 + 2 = i * 3 + 2 + 1 + 1 + 1 := by omega
      rw [this]
      simp only [vsts, List.flatMap_cons, List.cons_append, List.nil_append, List.getElem?_cons_succ] at ih ⊢
      exact ih i
theorem vps_len (l : List V2) : (vps l).length = l.length * 2 := by
  induction l with
  | nil => rfl
  | cons p l ih => simp only [vps, List.flatMap_cons, List.length_append, List.length_cons, List.length_nil] at ih ⊢; omega
theorem vsts_len (l : List V3) : (vsts l).length = l.length * 3 := by
  induction l with
  | nil => rfl
  | cons p l ih => simp only [vsts, List.flatMap_cons, List.length_append, List.length_cons, List.length_nil] at ih ⊢; omega
theorem Rd.pt {w : World} {A : Option Addr} {n : Nat} {ps : List V2} (h : Rd w 2 A n (vps ps)) {k : Nat} (hk : k < n) :
    ∃ b off x y, A = some ⟨b, off, none⟩ ∧ b < w.heap.size ∧ ps[k]? = some (x, y) ∧ w.cell? ⟨b, off + k * 2, none⟩ = some (.int .i64 x) ∧ w.cell? ⟨b, off + k * 2 + 1, none⟩ = some (.int .i64 y) := by
  obtain ⟨b, off, e, hb, hc⟩ := h.2 (by omega)
  have hl : ps.length = n := by have := h.1; rw [vps_len] at this; omega
  obtain ⟨⟨x, y⟩, hp⟩ : ∃ p, ps[k]? = some p := ⟨_, List.getElem?_eq_getElem (by omega)⟩
  exact ⟨b, off, x, y, e, hb, hp, hc _ _ (by rw [vps_at, hp]; rfl), by rw [Nat.add_assoc]; exact hc _ _ (by rw [vps_at1, hp]; rfl)⟩
theorem Rd.st {w : World} {A : Option Addr} {n : Nat} {ls : List V3} (h : Rd w 3 A n (vsts ls)) {k : Nat} (hk : k < n) :
    ∃ b off x y z, A = some ⟨b, off, none⟩ ∧ b < w.heap.size ∧ ls[k]? = some (x, y, z) ∧ w.cell? ⟨b, off + k * 3, none⟩ = some (.int .i64 x) ∧ w.cell? ⟨b, off + k * 3 + 1, none⟩ = some (.int .i64 y) ∧ w.cell? ⟨b, off + k * 3 + 2, none⟩ = some (.int .i64 z) := by
  obtain ⟨b, off, e, hb, hc⟩ := h.2 (by omega)
  have hl : ls.length = n := by have := h.1; rw [vsts_len] at this; omega
  obtain ⟨⟨x, y, z⟩, hp⟩ : ∃ p, ls[k]? = some p := ⟨_, List.getElem?_eq_getElem (by omega)⟩
  exact ⟨b, off, x, y, z, e, hb, hp, hc _ _ (by rw [vsts_at, hp]; rfl), by rw [Nat.add_assoc]; exact hc _ _ (by rw [vsts_at1, hp]; rfl), by rw [Nat.add_assoc]; exact hc _ _ (by rw [vsts_at2, hp]; rfl)⟩
theorem Rd.len2 {w : World} {A : Option Addr} {n : Nat} {ps : List V2} (h : Rd w 2 A n (vps ps)) : ps.length = n := by have := h.1; rw [vps_len] at this; omega
theorem Rd.len3 {w : World} {A : Option Addr} {n : Nat} {ls : List V3} (h : Rd w 3 A n (vsts ls)) : ls.length = n := by have := h.1; rw [vsts_len] at this; omega

/-- No one of the first k of a list answers yes. -/
def NoneB {α : Type} (p : α → Bool) (l : List α) (k : Nat) : Prop := ∀ z ∈ l.take k, p z = false
theorem noneB_zero {α : Type} (p : α → Bool) (l : List α) : NoneB p l 0 := by intro z hz; simp at hz
theorem noneB_succ {α : Type} {p : α → Bool} {l : List α} {k : Nat} {z : α} (h : NoneB p l k) (hz : l[k]? = some z) (hp : p z = false) : NoneB p l (k + 1) := by
  intro y hy
  rw [List.take_add_one, hz] at hy
  rcases List.mem_append.1 hy with h1 | h1
  · exact h y h1
  · simp at h1; subst h1; exact hp
theorem noneB_all {α : Type} {p : α → Bool} {l : List α} {k : Nat} (h : NoneB p l k) (hk : l.length ≤ k) : l.any p = false := by
  rw [List.any_eq_false]; intro z hz; rw [h z (by rw [List.take_of_length_le hk]; exact hz)]; simp
theorem noneB_idx {α : Type} {p : α → Bool} {l : List α} {k : Nat} {z : α} (hz : l[k]? = some z) (hp : p z = true) : l.any p = true := by
  rw [List.any_eq_true]; exact ⟨z, List.mem_of_getElem? hz, hp⟩

theorem far1_any (z : Int) (w : World) : Calls Try.prog 55 #[.int .i64 z] w fun e w' => e = .returned (.bool (farN z)) ∧ w = w' := by
  by_cases h1 : z < -1000
  · have HF : Hid (farN z = true) := Lib.hid (by simp [farN, h1])
    go_enter Try.func55, Try.ntmps55
    go_wp2
    go_ret
    exact ⟨ret_bool HF.out.symm, rfl⟩
  · by_cases h2 : 1000 < z
    · have HF : Hid (farN z = true) := Lib.hid (by simp [farN, h2])
      go_enter Try.func55, Try.ntmps55
      go_wp2
      go_ret
      exact ⟨ret_bool HF.out.symm, rfl⟩
    · have HF : Hid (farN z = false) := Lib.hid (by simp [farN]; omega)
      go_enter Try.func55, Try.ntmps55
      go_wp2
      go_ret
      exact ⟨ret_bool HF.out.symm, rfl⟩
theorem far1_pred : IsPred 55 farN := ⟨fun args wx => by kernel_rfl, fun z wx => far1_any z wx⟩
theorem far_any (A : Option Addr) (n c : Nat) (zs : List Int) (w : World) (h : Rd w 1 A n (vis zs)) (hn : n ≤ 9223372036854775807) :
    Calls Try.prog 46 #[.slice A n c] w fun e w' => e = .returned (.bool (zs.any farN)) ∧ w = w' := by
  go_enter Try.func46, Try.ntmps46
  go_wp2_with fail
  refine (containsFunc_any _ _ far1_pred A n c zs w h hn).mono ?_
  rintro e w1 ⟨rfl, rfl⟩
  go_wp2
  go_ret
  exact ⟨rfl, rfl⟩
theorem check1_any (l : V3) (w : World) : Calls Try.prog 48 #[.agg #[.int .i64 l.1, .int .i64 l.2.1, .int .i64 l.2.2]] w fun e w' => e = .returned (.bool (nilL l)) ∧ Below w.heap.size w w' := by
  obtain ⟨a, b, c⟩ := l
  by_cases h1 : a = 0
  · subst h1
    by_cases h2 : b = 0
    · subst h2
      go_enter Try.func48, Try.ntmps48
      go_wp2
      go_ret
      exact ⟨rfl, (Below.refl _ _).alloc (Nat.le_refl _) _⟩
    · have h2' : (b == 0) = false := by simpa using h2
      have HF : Hid (nilL (0, b, c) = false) := Lib.hid (by simp [nilL, h2])
      go_enter Try.func48, Try.ntmps48
      go_wp2
      go_ret
      exact ⟨ret_bool HF.out.symm, (Below.refl _ _).alloc (Nat.le_refl _) _⟩
  · have h1' : (a == 0) = false := by simpa using h1
    have HF : Hid (nilL (a, b, c) = false) := Lib.hid (by simp [nilL, h1])
    go_enter Try.func48, Try.ntmps48
    go_wp2
    go_ret
    exact ⟨ret_bool HF.out.symm, (Below.refl _ _).alloc (Nat.le_refl _) _⟩
theorem check1_enter (args : Array Value) (wx : World) : (callFunc 48 args).run Try.prog wx = .ok (.enter 48 args) wx := by kernel_rfl

set_option maxHeartbeats 800000 in
theorem indexNil_any (A : Option Addr) (n c : Nat) (ls : List V3) (w : World) (h : Rd w 3 A n (vsts ls)) (hn : n ≤ 9223372036854775807) :
    Calls Try.prog 56 #[.slice A n c, .func (.func 48) #[] #[]] w fun e w' => (∃ i : Int, e = .returned (.int .i64 i) ∧ decide (0 ≤ i) = ls.any nilL) ∧ Below w.heap.size w w' := by
  have HL := Lib.hid h.len3
  have hent := check1_enter
  go_enter Try.func56, Try.ntmps56
  go_wp2
  go_loopw [8] (fun i wr => ∃ k : Nat, k ≤ n ∧ i = .int .i64 k ∧ NoneB nilL ls k ∧ Below w.heap.size w wr) (fun i _ => n - (intOf i).toNat)
  case atStart => exact ⟨0, Nat.zero_le _, rfl, noneB_zero _ _, Below.refl _ _⟩
  case round =>
    obtain ⟨k, hk, rfl, hnb, hbel⟩ := hrel
    by_cases hlt : k < n
    · obtain ⟨b, off, x, y, z, hA, hb, hz, c0, c1, c2⟩ := (h.below hbel).st hlt
      have HZ := Lib.hid hz
      clear hz
      subst hA
      cases hpz : nilL (x, y, z)
      · have HP := Lib.hid hpz
        clear hpz
        go_wp2_with fail
        refine (check1_any (x, y, z) _).mono ?_
        rintro e w1 ⟨rfl, hb1⟩
        rw [HP.out]
        go_wp2
        go_roundw
        case rel => exact ⟨k + 1, by omega, by go_num, noneB_succ hnb HZ.out HP.out, hbel.trans (hb1.mono hbel.size)⟩
        case measure => simp [intOf]; omega
      · have HP := Lib.hid hpz
        clear hpz
        go_wp2_with fail
        refine (check1_any (x, y, z) _).mono ?_
        rintro e w1 ⟨rfl, hb1⟩
        rw [HP.out]
        go_wp2
        go_ret
        exact ⟨⟨k, rfl, by rw [noneB_idx HZ.out HP.out]; simp⟩, hbel.trans (hb1.mono hbel.size)⟩
    · go_wp2
      go_ret
      refine ⟨⟨-1, rfl, ?_⟩, hbel⟩
      rw [noneB_all hnb (by have := HL.out; omega)]; rfl
set_option maxHeartbeats 400000 in
theorem containsNil_any (A : Option Addr) (n c : Nat) (ls : List V3) (w : World) (h : Rd w 3 A n (vsts ls)) (hn : n ≤ 9223372036854775807) :
    Calls Try.prog 47 #[.slice A n c, .func (.func 48) #[] #[]] w fun e w' => e = .returned (.bool (ls.any nilL)) ∧ Below w.heap.size w w' := by
  go_enter Try.func47, Try.ntmps47
  go_wp2_with fail
  refine (indexNil_any A n c ls w h hn).mono ?_
  rintro e w1 ⟨⟨i, rfl, hi⟩, hb⟩
  have HI := Lib.hid hi
  clear hi
  go_wp2
  go_ret
  exact ⟨ret_bool HI.out, hb⟩
end Go.Proofs.Ythfhkmgegkhljaa
