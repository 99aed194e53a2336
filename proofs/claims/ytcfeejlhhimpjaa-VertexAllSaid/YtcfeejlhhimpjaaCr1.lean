/- more, size, the smallest and the greatest of a slice, a clone, the first that is not. -/
import Derived.Test.YtcfeejlhhimpjaaPl
namespace Go.Proofs.Ytcfeejlhhimpjaa
set_option linter.unusedSimpArgs false
set_option linter.unusedVariables false
open Go.RowKit Vx

def ks : List Int → Int
  | [] => 0
  | k :: l => sg k + ks l
theorem ks_app (a b : List Int) : ks (a ++ b) = ks a + ks b := by
  induction a with
  | nil => simp [ks]
  | cons p a ih => simp [ks, ih]; omega
theorem ks_bd {l : List Int} (h : ∀ z ∈ l, z = 1 ∨ z = 2) : -(l.length : Int) ≤ ks l ∧ ks l ≤ l.length := by
  induction l with
  | nil => simp [ks]
  | cons z l ih =>
    have := ih (fun y hy => h y (List.mem_cons_of_mem _ hy))
    have hz := h z List.mem_cons_self
    simp only [ks, sg, List.length_cons]
    omega
theorem take_succ {α : Type} {l : List α} {k : Nat} {z : α} (h : l[k]? = some z) : l.take (k + 1) = l.take k ++ [z] := by
  rw [List.take_add_one, h]; rfl

set_option maxHeartbeats 800000 in
theorem more_any (A : Option Addr) (n c : Nat) (xs : List Int) (w : World) (h : Rd w 1 A n (vis xs)) (hn : n ≤ 100) (hk : ∀ z ∈ xs, z = 1 ∨ z = 2) :
    Calls Try.prog 26 #[.slice A n c] w fun e w' => e = .returned (.int .i64 (ks xs)) ∧ w = w' := by
  have HL := Lib.hid h.ints_len
  have HK := Lib.hid hk
  clear hk
  go_enter Try.func26, Try.ntmps26
  go_wp2
  go_loopw [3, 8] (fun s i wr => ∃ k : Nat, k ≤ n ∧ i = .int .i64 k ∧ s = .int .i64 (ks (xs.take k)) ∧ w = wr) (fun _ i _ => n - (intOf i).toNat)
  case atStart => exact ⟨0, by omega, rfl, rfl, rfl⟩
  case round =>
    obtain ⟨k, hk, rfl, rfl, rfl⟩ := hrel
    by_cases hlt : k < n
    · obtain ⟨b, off, z, hA, hb, hz, hc⟩ := h.int hlt
      subst hA
      have hz2 := HK.out z (List.mem_of_getElem? hz)
      have hnx : ks (xs.take (k + 1)) = ks (xs.take k) + sg z := by rw [take_succ hz, ks_app]; simp [ks]
      have hbd := ks_bd (l := xs.take k) (fun y hy => HK.out y (List.mem_of_mem_take hy))
      have hlen : (xs.take k).length = k := by rw [List.length_take, HL.out]; omega
      rw [hlen] at hbd
      obtain ⟨S, hS⟩ : ∃ S, S = ks (xs.take k) := ⟨_, rfl⟩
      rw [← hS] at hnx hbd ⊢
      have HN := Lib.hid hnx
      clear hnx hS hz hlen
      unfold sg at HN
      rcases hz2 with rfl | rfl
      · go_wp2
        go_roundw
        case rel => exact ⟨k + 1, by omega, by go_num, by rw [HN.out]; go_num, by simp⟩
        case measure => simp [intOf]; omega
      · go_wp2
        go_roundw
        case rel => exact ⟨k + 1, by omega, by go_num, by rw [HN.out]; go_num, by simp⟩
        case measure => simp [intOf]; omega
    · go_wp2
      go_ret
      obtain rfl : k = n := by omega
      exact ⟨by rw [List.take_of_length_le (by rw [HL.out]; exact Nat.le_refl _)]; rfl, rfl⟩
theorem size_any (m : Int) (w : World) (h1 : -1000 ≤ m) (h2 : m ≤ 1000) : Calls Try.prog 25 #[.int .i64 m] w fun e w' => e = .returned (.int .i64 (if m < -m then -m else m)) ∧ w = w' := by
  have hw : IntKind.i64.wrap (-m) = -m := IntWalk.i64_in _ (by omega)
  by_cases hc : m < -m
  · rw [if_pos hc]
    go_enter Try.func25, Try.ntmps25
    go_wp2
    · go_ret
      exact ⟨rfl, rfl⟩
  · rw [if_neg hc]
    go_enter Try.func25, Try.ntmps25
    go_wp2
    · go_ret
      exact ⟨rfl, rfl⟩
def minL : List Int → Int
  | [] => 0
  | a :: l => l.foldl min a
def maxL : List Int → Int
  | [] => 0
  | a :: l => l.foldl max a
theorem minL_snoc (a : Int) (l : List Int) (z : Int) : minL (a :: l ++ [z]) = min (minL (a :: l)) z := by simp [minL]
theorem maxL_snoc (a : Int) (l : List Int) (z : Int) : maxL (a :: l ++ [z]) = max (maxL (a :: l)) z := by simp [maxL]
theorem take_cons {α : Type} {l : List α} {k : Nat} (h : 0 < k) (h0 : 0 < l.length) : ∃ a r, l.take k = a :: r := by
  cases l with
  | nil => simp at h0
  | cons a l =>
    obtain ⟨j, rfl⟩ : ∃ j, k = j + 1 := ⟨k - 1, by omega⟩
    exact ⟨a, l.take j, rfl⟩
set_option maxHeartbeats 800000 in
theorem min_any (A : Option Addr) (n c : Nat) (xs : List Int) (w : World) (h : Rd w 1 A n (vis xs)) (hn : n ≤ 100) (h0 : 0 < n) :
    Calls Try.prog 23 #[.slice A n c] w fun e w' => e = .returned (.int .i64 (minL xs)) ∧ w = w' := by
  have HL := Lib.hid h.ints_len
  obtain ⟨b, off, z, hA, hb, hz, hc⟩ := h.int h0
  subst hA
  have hc0 : w.cell? ⟨b, off, none⟩ = some (.int .i64 z) := hc
  clear hc
  have h1 : minL (xs.take 1) = z := by rw [take_succ hz]; rfl
  have H1 := Lib.hid h1
  clear h1 hz
  go_enter Try.func23, Try.ntmps23
  go_wp2
  go_loopw [3, 4] (fun s i wr => ∃ k : Nat, 0 < k ∧ k ≤ n ∧ i = .int .i64 k ∧ s = .int .i64 (minL (xs.take k)) ∧ w = wr) (fun _ i _ => n - (intOf i).toNat)
  case atStart => exact ⟨1, by omega, by omega, rfl, by rw [H1.out], rfl⟩
  case round =>
    obtain ⟨k, hk0, hk, rfl, rfl, rfl⟩ := hrel
    by_cases hlt : k < n
    · obtain ⟨b', off', y, hA, hb', hy, hc'⟩ := h.int hlt
      simp only [Option.some.injEq, Addr.mk.injEq, and_true] at hA
      obtain ⟨rfl, rfl⟩ := hA
      have hnx : minL (xs.take (k + 1)) = min (minL (xs.take k)) y := by
        obtain ⟨a, r, e⟩ := take_cons (l := xs) hk0 (by rw [HL.out]; omega)
        rw [take_succ hy, e, minL_snoc]
      obtain ⟨S, hS⟩ : ∃ S, S = minL (xs.take k) := ⟨_, rfl⟩
      rw [← hS] at hnx ⊢
      have HN := Lib.hid hnx
      clear hnx hS hy
      go_wp2
      all_goals
        go_roundw
        case rel => exact ⟨k + 1, by omega, by omega, by go_num, by rw [HN.out]; congr 1; omega, by simp⟩
        case measure => simp [intOf]; omega
    · go_wp2
      go_ret
      obtain rfl : k = n := by omega
      exact ⟨by rw [List.take_of_length_le (by rw [HL.out]; exact Nat.le_refl _)]; rfl, rfl⟩
set_option maxHeartbeats 800000 in
theorem max_any (A : Option Addr) (n c : Nat) (xs : List Int) (w : World) (h : Rd w 1 A n (vis xs)) (hn : n ≤ 100) (h0 : 0 < n) :
    Calls Try.prog 24 #[.slice A n c] w fun e w' => e = .returned (.int .i64 (maxL xs)) ∧ w = w' := by
  have HL := Lib.hid h.ints_len
  obtain ⟨b, off, z, hA, hb, hz, hc⟩ := h.int h0
  subst hA
  have hc0 : w.cell? ⟨b, off, none⟩ = some (.int .i64 z) := hc
  clear hc
  have h1 : maxL (xs.take 1) = z := by rw [take_succ hz]; rfl
  have H1 := Lib.hid h1
  clear h1 hz
  go_enter Try.func24, Try.ntmps24
  go_wp2
  go_loopw [3, 4] (fun s i wr => ∃ k : Nat, 0 < k ∧ k ≤ n ∧ i = .int .i64 k ∧ s = .int .i64 (maxL (xs.take k)) ∧ w = wr) (fun _ i _ => n - (intOf i).toNat)
  case atStart => exact ⟨1, by omega, by omega, rfl, by rw [H1.out], rfl⟩
  case round =>
    obtain ⟨k, hk0, hk, rfl, rfl, rfl⟩ := hrel
    by_cases hlt : k < n
    · obtain ⟨b', off', y, hA, hb', hy, hc'⟩ := h.int hlt
      simp only [Option.some.injEq, Addr.mk.injEq, and_true] at hA
      obtain ⟨rfl, rfl⟩ := hA
      have hnx : maxL (xs.take (k + 1)) = max (maxL (xs.take k)) y := by
        obtain ⟨a, r, e⟩ := take_cons (l := xs) hk0 (by rw [HL.out]; omega)
        rw [take_succ hy, e, maxL_snoc]
      obtain ⟨S, hS⟩ : ∃ S, S = maxL (xs.take k) := ⟨_, rfl⟩
      rw [← hS] at hnx ⊢
      have HN := Lib.hid hnx
      clear hnx hS hy
      go_wp2
      all_goals
        go_roundw
        case rel => exact ⟨k + 1, by omega, by omega, by go_num, by rw [HN.out]; congr 1; omega, by simp⟩
        case measure => simp [intOf]; omega
    · go_wp2
      go_ret
      obtain rfl : k = n := by omega
      exact ⟨by rw [List.take_of_length_le (by rw [HL.out]; exact Nat.le_refl _)]; rfl, rfl⟩

end Go.Proofs.Ytcfeejlhhimpjaa
