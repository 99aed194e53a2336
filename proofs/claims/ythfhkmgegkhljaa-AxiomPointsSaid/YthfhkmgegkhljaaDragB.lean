/- The walks of kinds and word. -/
import Derived.Test.YthfhkmgegkhljaaDragA
import Derived.Test.YthfhkmgegkhljaaPick
namespace Go.Proofs.Ythfhkmgegkhljaa
open Go.RowKit

def kindOfRaw (z : Int) : Int := 1 + pick z 2

set_option maxHeartbeats 400000 in
theorem kinds_any (A : Option Addr) (n c : Nat) (zs : List Int) (m : Nat) (w : World) (h : Rd w 1 A n (vis zs)) (hn : n ≤ 9223372036854775807) (hm : m ≤ 100)
    (hz : ∀ z ∈ zs, -9223372036854775808 ≤ z ∧ z ≤ 9223372036854775807) :
    Calls Try.prog 10 #[.slice A n c, .int .i64 m] w fun e w' =>
      ∃ v, e = .returned v ∧ w'.ownsRow w.heap.size 3 1 v (min n m) (vis ((zs.take m).map kindOfRaw)) ∧ Below w.heap.size w w' := by
  have HL := Lib.hid h.ints_len
  have HZ := Lib.hid hz
  clear hz
  go_enter Try.func10, Try.ntmps10
  go_wp2
  go_loopw [5, 6] (fun v i wr => ∃ k : Nat, k ≤ min n m ∧ i = .int .i64 k ∧ wr.ownsRow w.heap.size 3 1 v k (vis ((zs.take k).map kindOfRaw)) ∧ Below w.heap.size w wr) (fun _ i _ => min n m - (intOf i).toNat)
  case atStart => exact ⟨0, Nat.zero_le _, rfl, World.ownsRow_nil _ _ _ _, Below.refl _ _⟩
  case round =>
    obtain ⟨k, hk, rfl, hown, hbel⟩ := hrel
    obtain ⟨hkn, hkm⟩ : k ≤ n ∧ k ≤ m := by omega
    clear hk
    by_cases hlt : k < n
    · by_cases hltm : k < m
      · obtain ⟨b, off, z, hA, hb, hz, hc⟩ := (h.below hbel).int hlt
        subst hA
        have HZ1 := Lib.hid hz
        clear hz
        have hzb := HZ.out z (List.mem_of_getElem? HZ1.out)
        have p1 := pick_lo z 2 (by omega)
        have p2 := pick_hi z 2 (by omega)
        obtain ⟨z1, z2⟩ := hzb
        go_wp2_with fail
        refine (picked_any z 2 _ z1 z2 (by omega)).mono ?_
        rintro e w1 ⟨rfl, rfl⟩
        go_wp2_with (at_builtin; refine app_ints rfl (.tmp 18) (.tmp 25) rfl w.heap.size _ k ((zs.take k).map kindOfRaw) [kindOfRaw z] rfl hown hbel.size 1 _ rfl rfl rfl (by omega) ?_; intro v' w' hown' hb' _)
        go_roundw
        case rel => exact ⟨k + 1, by omega, by go_num, by rw [List.take_add_one, HZ1.out]; simpa using hown', hbel.trans hb'⟩
        case measure => simp [intOf]; omega
      · go_wp2
        go_ret
        have : k = m := by omega
        subst this
        exact ⟨_, rfl, by rw [Nat.min_eq_right hkn]; exact hown, hbel⟩
    · go_wp2
      go_ret
      have : k = n := by omega
      subst this
      exact ⟨_, rfl, by rw [Nat.min_eq_left hkm, List.take_of_length_le (by have := HL.out; omega)]; rw [List.take_of_length_le (by have := HL.out; omega)] at hown; exact hown, hbel⟩
end Go.Proofs.Ythfhkmgegkhljaa
