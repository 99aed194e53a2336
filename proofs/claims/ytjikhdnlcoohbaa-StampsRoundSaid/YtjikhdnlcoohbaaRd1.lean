/- Orders turned round; the uppermost stamp put below; by any kinds an order. -/
import Derived.Test.YtjikhdnlcoohbaaBy4
namespace Go.Proofs.Ytjikhdnlcoohbaa
set_option linter.unusedSimpArgs false
set_option linter.unusedVariables false
open Go.RowKit St

theorem pair_rev {n : Int} {a b c d : Int} : (btw (n - c) (n - a) (n - b) == btw (n - d) (n - a) (n - b)) = (btw c a b == btw d a b) := by
  have e : ∀ x, btw (n - x) (n - a) (n - b) = btw x a b := by
    intro x
    unfold btw
    rw [decide_eq_decide]
    omega
  rw [e, e]
def cyc (n x : Int) : Int := if x = n then 0 else x + 1
theorem pair_cyc {n a b c d : Int} (ha : 0 ≤ a ∧ a ≤ n) (hb : 0 ≤ b ∧ b ≤ n) (hc : 0 ≤ c ∧ c ≤ n) (hd : 0 ≤ d ∧ d ≤ n) (h1 : a ≠ b) (h2 : a ≠ c) (h3 : a ≠ d) (h4 : b ≠ c) (h5 : b ≠ d) (h6 : c ≠ d) :
    (btw (cyc n c) (cyc n a) (cyc n b) == btw (cyc n d) (cyc n a) (cyc n b)) = (btw c a b == btw d a b) := by
  rw [Bool.eq_iff_iff, beq_iff_eq, beq_iff_eq]
  unfold btw cyc
  rw [decide_eq_decide, decide_eq_decide]
  by_cases q1 : a = n
  · rw [if_pos q1, if_neg (by omega), if_neg (by omega), if_neg (by omega)]
    omega
  · by_cases q2 : b = n
    · rw [if_neg q1, if_pos q2, if_neg (by omega), if_neg (by omega)]
      omega
    · by_cases q3 : c = n
      · rw [if_neg q1, if_neg q2, if_pos q3, if_neg (by omega)]
        omega
      · by_cases q4 : d = n
        · rw [if_neg q1, if_neg q2, if_neg q3, if_pos q4]
          omega
        · rw [if_neg q1, if_neg q2, if_neg q3, if_neg q4]
          omega
theorem ordG_of {o o' : List Int} (hl : o'.length = o.length) (h : ∀ i k, 0 < i → i < k → k < o.length → i % 2 = k % 2 → pairOk (fn (hsOf o)) i k = true → pairOk (fn (hsOf o')) i k = true) (hg : ordG o = true) : ordG o' = true := by
  unfold ordG at *
  rw [hl]
  rw [goodR_iff] at *
  exact fun i k h1 h2 h3 h4 => h i k h1 h2 h3 h4 (hg i k h1 h2 h3 h4)
theorem fn_idx {o : List Int} {i : Nat} (hi : i < o.length) : fn (hsOf o) i = (idx o ((i : Int) + 1) : Int) := hs_fn hi
theorem in_upto {o : List Int} {n i : Nat} (hp : o.Perm (upto n)) (hi : i < n) : ((i : Int) + 1) ∈ o := hp.mem_iff.2 (upto_mem.2 (by omega))
theorem idx_ne {o : List Int} {n i j : Nat} (hp : o.Perm (upto n)) (hi : i < n) (hj : j < n) (h : i ≠ j) : idx o ((i : Int) + 1) ≠ idx o ((j : Int) + 1) := by
  intro e
  obtain ⟨hl, hs⟩ := perm_self hp
  have := hs_inj hs i j (by omega) (by omega) (by rw [fn_idx (by omega), fn_idx (by omega), e])
  exact h this
theorem back_ok {o : List Int} {n : Nat} (hp : o.Perm (upto n)) (hg : ordG o = true) : o.reverse.Perm (upto n) ∧ ordG o.reverse = true := by
  obtain ⟨hl, hs⟩ := perm_self hp
  have hr : o.reverse.Perm (upto n) := (List.reverse_perm o).trans hp
  have hnd : o.Nodup := hp.nodup_iff.2 (upto_nodup n)
  have hix : ∀ i, i < n → (idx o.reverse ((i : Int) + 1) : Int) = ((n : Int) - 1) - idx o ((i : Int) + 1) := by
    intro i hi
    have hm := in_upto hp hi
    have hlt := idx_lt hm
    have : idx o.reverse ((i : Int) + 1) = n - 1 - idx o ((i : Int) + 1) := by
      refine idx_eq (hr.nodup_iff.2 (upto_nodup n)) ?_
      rw [List.getElem?_reverse (by omega), hl, show n - 1 - (n - 1 - idx o ((i : Int) + 1)) = idx o ((i : Int) + 1) by omega]
      exact idx_at hm
    omega
  refine ⟨hr, ordG_of (by simp) (fun i k h1 h2 h3 hpar h4 => ?_) hg⟩
  unfold pairOk at *
  rw [fn_idx (by simp; omega), fn_idx (by simp; omega), fn_idx (by simp; omega), fn_idx (by simp; omega), hix _ (by omega), hix _ (by omega), hix _ (by omega), hix _ (by omega), pair_rev]
  rw [fn_idx (by omega), fn_idx (by omega), fn_idx (by omega), fn_idx (by omega)] at h4
  exact h4
theorem under_ok {o : List Int} {n : Nat} {z : Int} (hp : o.Perm (upto n)) (hg : ordG o = true) (hz : o[n - 1]? = some z) : ([z] ++ o.take (n - 1)).Perm (upto n) ∧ ordG ([z] ++ o.take (n - 1)) = true := by
  obtain ⟨hl, hs⟩ := perm_self hp
  have hn := (List.getElem?_eq_some_iff.1 hz).1
  have ho : o = o.take (n - 1) ++ [z] := by
    have h1 := take_succ hz
    rw [List.take_of_length_le (by omega)] at h1
    exact h1
  have hpm : ([z] ++ o.take (n - 1)).Perm o := by
    conv => rhs; rw [ho]
    exact List.perm_append_comm
  have hpu := hpm.trans hp
  have hnd : ([z] ++ o.take (n - 1)).Nodup := hpu.nodup_iff.2 (upto_nodup n)
  have hlu : ([z] ++ o.take (n - 1)).length = o.length := hpm.length_eq
  have hix : ∀ i, i < n → (idx ([z] ++ o.take (n - 1)) ((i : Int) + 1) : Int) = cyc ((n : Int) - 1) (idx o ((i : Int) + 1)) := by
    intro i hi
    have hm := in_upto hp hi
    have hlt := idx_lt hm
    have hat := idx_at hm
    unfold cyc
    by_cases he : idx o ((i : Int) + 1) = n - 1
    · rw [if_pos (by omega)]
      rw [he, hz] at hat
      have : idx ([z] ++ o.take (n - 1)) ((i : Int) + 1) = 0 := idx_eq hnd (by simpa using hat)
      omega
    · rw [if_neg (by omega)]
      have : idx ([z] ++ o.take (n - 1)) ((i : Int) + 1) = idx o ((i : Int) + 1) + 1 := by
        refine idx_eq hnd ?_
        rw [List.singleton_append, List.getElem?_cons_succ, List.getElem?_take_of_lt (by omega)]
        exact hat
      omega
  refine ⟨hpu, ordG_of hlu (fun i k h1 h2 h3 hpar h4 => ?_) hg⟩
  have b := fun j (hj : j < n) => idx_lt (in_upto hp hj)
  unfold pairOk at *
  rw [fn_idx (by omega), fn_idx (by omega), fn_idx (by omega), fn_idx (by omega), hix _ (by omega), hix _ (by omega), hix _ (by omega), hix _ (by omega)]
  rw [fn_idx (by omega), fn_idx (by omega), fn_idx (by omega), fn_idx (by omega)] at h4
  rw [pair_cyc]
  · exact h4
  · have := b (i - 1) (by omega); omega
  · have := b i (by omega); omega
  · have := b (k - 1) (by omega); omega
  · have := b k (by omega); omega
  · have := idx_ne (i := i - 1) (j := i) hp (by omega) (by omega) (by omega); omega
  · have := idx_ne (i := i - 1) (j := k - 1) hp (by omega) (by omega) (by omega); omega
  · have := idx_ne (i := i - 1) (j := k) hp (by omega) (by omega) (by omega); omega
  · have := idx_ne (i := i) (j := k - 1) hp (by omega) (by omega) (by omega); omega
  · have := idx_ne (i := i) (j := k) hp (by omega) (by omega) (by omega); omega
  · have := idx_ne (i := k - 1) (j := k) hp (by omega) (by omega) (by omega); omega
/-! ### by any kinds -/
theorem upN_lt (u x : Nat) : (x < u → upN u x = x) ∧ (u ≤ x → upN u x = x + 1) := by
  unfold upN
  constructor
  · intro h
    have h1 : Nat.blt x u = true := by rw [Nat.blt_eq]; exact h
    rw [h1]
    rfl
  · intro h
    have h1 : Nat.blt x u = false := by rw [Bool.eq_false_iff]; simp [Nat.blt_eq]; omega
    rw [h1]
    rfl
theorem grow_kind {o : List Int} {k : Nat} (hp : o.Perm (upto (k + 1))) (hg : ordG o = true) (q : Int) (hq : q = 1 ∨ q = 2) :
    ∃ o' : List Int, o'.Perm (upto (k + 2)) ∧ ordG o' = true ∧ kOf o' = kOf o ++ [q] := by
  obtain ⟨hl, hs⟩ := perm_self hp
  obtain ⟨top, htop⟩ : ∃ t, t = idx o ((k : Int) + 1) := ⟨_, rfl⟩
  have hlt : top < k + 1 := by rw [htop, ← hl]; exact idx_lt (in_upto hp (by omega))
  -- above or below the last one
  obtain ⟨up, hup, hk1⟩ : ∃ up, (up = top ∨ up = top + 1) ∧ (if decide ((upN up top : Int) < up) = decide ((k + 1) % 2 = 1) then (2 : Int) else 1) = q := by
    have e1 : upN top top = top + 1 := (upN_lt top top).2 (Nat.le_refl _)
    have e2 : upN (top + 1) top = top := (upN_lt (top + 1) top).1 (by omega)
    by_cases hpar : (k + 1) % 2 = 1
    · rcases hq with rfl | rfl
      · refine ⟨top, .inl rfl, ?_⟩
        rw [e1, decide_eq_true hpar, decide_eq_false (by omega)]
        rfl
      · refine ⟨top + 1, .inr rfl, ?_⟩
        rw [e2, decide_eq_true hpar, decide_eq_true (by omega)]
        rfl
    · rcases hq with rfl | rfl
      · refine ⟨top + 1, .inr rfl, ?_⟩
        rw [e2, decide_eq_false hpar, decide_eq_true (by omega)]
        rfl
      · refine ⟨top, .inl rfl, ?_⟩
        rw [e1, decide_eq_false hpar, decide_eq_false (by omega)]
        rfl
  have hu : up ≤ k + 1 := by omega
  have hpn := insert_perm (up := up) hp hu
  obtain ⟨hl2, hs2⟩ := perm_self hpn
  have hno : (((k + 1 : Nat) : Int) + 1) ∉ o := fun h => by have := upto_mem.1 (hp.mem_iff.1 h); omega
  obtain ⟨o', ho'⟩ : ∃ o', o' = o.insertIdx up (((k + 1 : Nat) : Int) + 1) := ⟨_, rfl⟩
  have hA : ∀ i, i < k + 1 → (idx o' ((i : Int) + 1)) = upN up (idx o ((i : Int) + 1)) := by
    intro i hi
    rw [ho']
    exact insert_idx2 (by omega) (in_upto hp hi) (by omega)
  have hB : idx o' (((k + 1 : Nat) : Int) + 1) = up := by
    rw [ho']
    exact insert_idx hno (by omega)
  rw [← ho'] at hpn hl2 hs2
  have hmono : ∀ x y, upN up x < upN up y ↔ x < y := by
    intro x y
    have a := upN_lt up x
    have b := upN_lt up y
    omega
  have hfn : ∀ i, i < k + 1 → fn (hsOf o') i = (upN up (idx o ((i : Int) + 1)) : Int) := fun i hi => by rw [fn_idx (by omega), hA i hi]
  have hfl : fn (hsOf o') (k + 1) = (up : Int) := by rw [fn_idx (by omega), hB]
  have hfo : ∀ i, i < k + 1 → fn (hsOf o) i = (idx o ((i : Int) + 1) : Int) := fun i hi => fn_idx (by omega)
  refine ⟨o', hpn, ?_, ?_⟩
  · have hold : goodR (fn (hsOf o')) (k + 1) = true := by
      refine good_mono (Nat.le_refl _) ?_ (by unfold ordG at hg; rw [hl] at hg; exact hg)
      intro i j hi hj
      rw [hfn i hi, hfn j hj, hfo i hi, hfo j hj]
      have := hmono (idx o ((i : Int) + 1)) (idx o ((j : Int) + 1))
      omega
    unfold ordG
    rw [hl2, goodR_iff]
    rw [goodR_iff] at hold
    intro i m h1 h2 h3 h4
    by_cases hm : m < k + 1
    · exact hold i m h1 h2 hm h4
    · obtain rfl : m = k + 1 := by omega
      unfold pairOk btw
      rw [beq_iff_eq, decide_eq_decide, Nat.add_sub_cancel, hfl, hfn k (by omega), hfn (i - 1) (by omega), hfn i (by omega), ← htop]
      have n1 := idx_ne (i := i) (j := k) hp (by omega) (by omega) (by omega)
      have n2 := idx_ne (i := i - 1) (j := k) hp (by omega) (by omega) (by omega)
      rw [← htop] at n1 n2
      have a := upN_lt up top
      have b := upN_lt up (idx o ((i : Int) + 1))
      have c := upN_lt up (idx o (((i - 1 : Nat) : Int) + 1))
      omega
  · unfold kOf
    rw [hl2, hl, show k + 2 - 1 = k + 1 by omega, show k + 1 - 1 = k by omega, ksOf_succ]
    congr 1
    · unfold ksOf
      apply List.map_congr_left
      intro i hi
      have hi := List.mem_range.1 hi
      unfold kAt
      rw [hfn i (by omega), hfn (i + 1) (by omega), hfo i (by omega), hfo (i + 1) (by omega)]
      have := hmono (idx o ((i : Int) + 1)) (idx o (((i + 1 : Nat) : Int) + 1))
      have e : decide ((upN up (idx o ((i : Int) + 1)) : Int) < upN up (idx o (((i + 1 : Nat) : Int) + 1))) = decide ((idx o ((i : Int) + 1) : Int) < idx o (((i + 1 : Nat) : Int) + 1)) := by
        rw [decide_eq_decide]; omega
      rw [e]
    · unfold kAt
      rw [hfn k (by omega), hfl, ← htop, hk1]
theorem any_kinds : ∀ (r : List Int), (∀ x ∈ r, x = 1 ∨ x = 2) → ∃ o : List Int, o.Perm (upto (r.length + 1)) ∧ ordG o = true ∧ kOf o = r.reverse
  | [], _ => ⟨[1], by decide, by decide, by decide⟩
  | q :: r, h => by
    obtain ⟨o, h1, h2, h3⟩ := any_kinds r (fun x hx => h x (List.mem_cons_of_mem _ hx))
    obtain ⟨o', e1, e2, e3⟩ := grow_kind h1 h2 q (h q (List.mem_cons_self))
    exact ⟨o', e1, e2, by rw [e3, h3, List.reverse_cons]⟩
theorem by_some {ks : List Int} (h : ks.all isK = true) : 0 < (byL ks).length := by
  obtain ⟨o, h1, h2, h3⟩ := any_kinds ks.reverse (fun x hx => isK_split (List.all_eq_true.1 h x (List.mem_reverse.1 hx)))
  rw [List.length_reverse] at h1
  rw [List.reverse_reverse] at h3
  refine List.length_pos_of_mem (a := o) ?_
  unfold byL
  rw [List.mem_filter]
  refine ⟨?_, decide_eq_true h3⟩
  rw [mem_orders (ks.length + 1) [] o (by simp) (by simp) (by simp)]
  exact ⟨⟨o, rfl⟩, h1, h2⟩
end Go.Proofs.Ytjikhdnlcoohbaa
