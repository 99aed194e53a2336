/- Count; how many lists there are where all angles are alike. -/
import Derived.Test.YtcfeejlhhimpjaaCr11
namespace Go.Proofs.Ytcfeejlhhimpjaa
set_option linter.unusedSimpArgs false
set_option linter.unusedVariables false
open Go.RowKit Vx

theorem count_ok (b off n c : Nat) (xs : List Int) (w : World) (h : Rd w 1 (some ⟨b, off, none⟩) n (vis xs)) (hnc : n ≤ c) (hcc : c ≤ maxLen) (he : chkE xs = 0) :
    Calls Try.prog 13 #[.slice (some ⟨b, off, none⟩) n c] w fun e w' => e = .returned (.tuple #[.int .i64 (goods xs n (2 ^ n)).length, .int .i64 0]) ∧ Below w.heap.size w w' := by
  have CA := Lib.hid (all_ok b off n c xs w h hnc hcc he)
  clear h he
  obtain ⟨m, hm⟩ : ∃ m, m = (goods xs n (2 ^ n)).length := ⟨_, rfl⟩
  rw [← hm]
  have HM := Lib.hid hm
  clear hm
  go_enter Try.func13, Try.ntmps13
  go_wp2_with fail
  refine (CA.out).mono ?_
  rintro e w1 ⟨v, vals, rfl, hrow, hrows, hb⟩
  obtain ⟨A, c1, rfl, _, _⟩ := own_slice hrow
  rw [← HM.out]
  go_wp2
  exact bodyPost_ret (v := .tuple #[.int .i64 m, .int .i64 0]) (by simp [results, Try.results13, go_sem]) rfl ⟨rfl, hb⟩
def two2 (K : List Int) : Bool := decide (ks K = 2 ∨ ks K = -2)
theorem goods_alike (k : Nat) (hk : 0 < k) (m : Nat) : goods (List.replicate k 7) k m = ((List.range m).map (kindsOf k)).filter two2 := by
  unfold goods
  apply List.filter_congr
  intro K hK
  obtain ⟨i, _, rfl⟩ := List.mem_map.1 hK
  have hne : List.replicate k (7 : Int) ≠ [] := by
    intro h0
    have := congrArg List.length h0
    simp at this
    omega
  have hmx := (maxL_le hne).1
  have hmn := (minL_mem hne).1
  rw [alike hne (by simp [kindsOf_len]) (by rw [List.eq_of_mem_replicate hmx, List.eq_of_mem_replicate hmn])]
  rfl
def wantOf (k : Nat) : Int := if k = 2 then 2 else if k = 4 then 8 else if k = 6 then 30 else 112
theorem goods_many {k : Nat} (hk : k = 2 ∨ k = 4 ∨ k = 6 ∨ k = 8) : ((goods (List.replicate k 7) k (2 ^ k)).length : Int) = wantOf k := by
  rw [goods_alike k (by omega)]
  rcases hk with rfl | rfl | rfl | rfl <;> decide +kernel
end Go.Proofs.Ytcfeejlhhimpjaa
