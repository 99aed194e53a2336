/- check: what angles may be. -/
import Derived.Test.YtcfeejlhhimpjaaCr6
namespace Go.Proofs.Ytcfeejlhhimpjaa
set_option linter.unusedSimpArgs false
set_option linter.unusedVariables false
open Go.RowKit Vx

def sizeBad (n : Nat) : Bool := decide (n < 2) || decide (8 < n) || decide (n % 2 = 1)
def inR (x : Int) : Bool := decide (1 ≤ x) && decide (x ≤ 1000)
def chkE (xs : List Int) : Int := if sizeBad xs.length = true then 2 else if xs.all inR = false then 3 else if alt xs ≠ 0 then 8 else 0
theorem alt_bd : ∀ {l : List Int}, (∀ x ∈ l, inR x = true) → -(1000 * (l.length : Int)) ≤ alt l ∧ alt l ≤ 1000 * l.length := by
  intro l
  induction l with
  | nil => intro _; simp [alt]
  | cons a l ih =>
    intro h
    have h1 := ih (fun x hx => h x (List.mem_cons_of_mem _ hx))
    have h2 := h a List.mem_cons_self
    simp [inR] at h2
    simp only [alt, List.length_cons]
    omega
set_option maxHeartbeats 1600000 in
theorem check_any (A : Option Addr) (n c : Nat) (xs : List Int) (w : World) (h : Rd w 1 A n (vis xs)) (hn : n ≤ 9223372036854775807) :
    Calls Try.prog 15 #[.slice A n c] w fun e w' => e = .returned (.int .i64 (chkE xs)) ∧ w = w' := by
  have hl := h.ints_len
  have hand : bits .and .i64 (n : Int) 1 = (n : Int) % 2 := and1 _
  have HL := Lib.hid hl
  by_cases hb : n < 2
  · have he : chkE xs = 2 := by simp [chkE, sizeBad, hl, hb]
    have HE := Lib.hid he
    clear he hl hand
    have hb1 : ((n : Int) < 2) := by omega
    go_enter Try.func15, Try.ntmps15
    go_wp2
    go_ret
    exact ⟨by rw [HE.out]; rfl, rfl⟩
  by_cases hb2 : 8 < n
  · have he : chkE xs = 2 := by simp [chkE, sizeBad, hl, hb2]
    have HE := Lib.hid he
    clear he hl hand
    go_enter Try.func15, Try.ntmps15
    go_wp2
    go_ret
    exact ⟨by rw [HE.out]; rfl, rfl⟩
  by_cases hb3 : n % 2 = 1
  · have he : chkE xs = 2 := by simp [chkE, sizeBad, hl, hb3]
    have HE := Lib.hid he
    have hand1 : bits .and .i64 (n : Int) 1 = 1 := by rw [hand]; omega
    clear he hl hand
    go_enter Try.func15, Try.ntmps15
    go_wp2
    go_ret
    exact ⟨by rw [HE.out]; rfl, rfl⟩
  have hand0 : bits .and .i64 (n : Int) 1 = 0 := by rw [hand]; omega
  have hs : sizeBad xs.length = false := by simp [sizeBad, hl]; omega
  have HS := Lib.hid hs
  clear hand hl hs
  go_enter Try.func15, Try.ntmps15
  go_wp2
  go_loopw [4, 22] (fun s i wr => ∃ k : Nat, k ≤ n ∧ i = .int .i64 k ∧ s = .int .i64 (alt (xs.take k)) ∧ (∀ x ∈ xs.take k, inR x = true) ∧ w = wr) (fun _ i _ => n - (intOf i).toNat)
  case atStart => exact ⟨0, by omega, rfl, rfl, by simp, rfl⟩
  case round =>
    obtain ⟨k, hk, rfl, rfl, hall, rfl⟩ := hrel
    have HA := Lib.hid hall
    clear hall
    by_cases hlt : k < n
    · obtain ⟨b, off, z, hA, hb0, hz, hc⟩ := h.int hlt
      subst hA
      have HZ := Lib.hid hz
      have hbd := alt_bd HA.out
      have hlen : (xs.take k).length = k := by rw [List.length_take, HL.out]; omega
      rw [hlen] at hbd
      have hnx : alt (xs.take (k + 1)) = alt (xs.take k) + (if k % 2 = 0 then z else -z) := by
        rw [take_succ hz, alt_app, hlen]
        simp [alt]
      obtain ⟨S, hS⟩ : ∃ S, S = alt (xs.take k) := ⟨_, rfl⟩
      rw [← hS] at hbd hnx ⊢
      have HN := Lib.hid hnx
      have hkand : bits .and .i64 (k : Int) 1 = (k : Int) % 2 := and1 _
      clear hz hlen hnx hS
      by_cases hz1 : z < 1
      · have he : chkE xs = 3 := by
          have : xs.all inR = false := by
            apply List.all_eq_false.2
            exact ⟨z, List.mem_of_getElem? HZ.out, by simp [inR]; omega⟩
          simp [chkE, HS.out, this]
        have HE := Lib.hid he
        clear he hkand
        go_wp2
        go_ret
        exact ⟨by rw [HE.out]; rfl, by simp⟩
      by_cases hz2 : 1000 < z
      · have he : chkE xs = 3 := by
          have : xs.all inR = false := by
            apply List.all_eq_false.2
            exact ⟨z, List.mem_of_getElem? HZ.out, by simp [inR]; omega⟩
          simp [chkE, HS.out, this]
        have HE := Lib.hid he
        clear he hkand
        go_wp2
        go_ret
        exact ⟨by rw [HE.out]; rfl, by simp⟩
      have hnew : ∀ x ∈ xs.take (k + 1), inR x = true := by
        intro x hx
        rw [take_succ HZ.out] at hx
        rcases List.mem_append.1 hx with hx | hx
        · exact HA.out x hx
        · simp at hx
          subst hx
          simp [inR]; omega
      have HNew := Lib.hid hnew
      clear hnew
      by_cases hpar : k % 2 = 0
      · have hka : bits .and .i64 (k : Int) 1 = 0 := by rw [hkand]; omega
        have hpr := HN.out
        rw [if_pos hpar] at hpr
        have HP := Lib.hid hpr
        clear hpr hkand
        go_wp2
        go_roundw
        case rel => exact ⟨k + 1, by omega, by go_num, by rw [HP.out], HNew.out, by simp⟩
        case measure => simp [intOf]; omega
      · have hka : bits .and .i64 (k : Int) 1 = 1 := by rw [hkand]; omega
        have hpr := HN.out
        rw [if_neg hpar] at hpr
        have HP := Lib.hid hpr
        clear hpr hkand
        go_wp2
        go_roundw
        case rel => exact ⟨k + 1, by omega, by go_num, by rw [HP.out], HNew.out, by simp⟩
        case measure => simp [intOf]; omega
    · obtain rfl : k = n := by omega
      have htk : xs.take k = xs := List.take_of_length_le (by rw [HL.out]; exact Nat.le_refl _)
      rw [htk]
      have hal : xs.all inR = true := by
        have := HA.out
        rw [htk] at this
        exact List.all_eq_true.2 this
      have he : chkE xs = if alt xs ≠ 0 then 8 else 0 := by simp [chkE, HS.out, hal]
      obtain ⟨S, hS⟩ : ∃ S, S = alt xs := ⟨_, rfl⟩
      rw [← hS] at he ⊢
      have HE := Lib.hid he
      clear he hal htk hS
      by_cases h0 : S = 0
      · subst h0
        go_wp2
        go_ret
        exact ⟨by rw [HE.out]; rfl, by simp⟩
      · have hq : (S == 0) = false := by simp [h0]
        go_wp2
        go_ret
        exact ⟨by rw [HE.out, if_pos h0]; rfl, by simp⟩
end Go.Proofs.Ytcfeejlhhimpjaa
