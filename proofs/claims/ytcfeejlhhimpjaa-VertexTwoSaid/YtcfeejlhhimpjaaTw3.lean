/- The plain law of VertexTwo. -/
import Derived.Test.YtcfeejlhhimpjaaTw2
namespace Go.Proofs.Ytcfeejlhhimpjaa
set_option linter.unusedSimpArgs false
set_option linter.unusedVariables false
open Go.RowKit Vx

/-! ### every list of kinds is one of 'kindsOf' -/
theorem kinds_snoc (k m : Nat) : kindsOf (k + 1) m = kindsOf k (m / 2) ++ [1 + ((m % 2 : Nat) : Int)] := by
  unfold kindsOf
  rw [List.range_succ, List.map_append]
  congr 1
  · apply List.map_congr_left
    intro i hi
    have hi := List.mem_range.1 hi
    unfold kindAt
    rw [show k + 1 - 1 - i = (k - 1 - i) + 1 by omega, Nat.pow_succ, Nat.mul_comm, ← Nat.div_div_eq_div_mul]
  · simp [kindAt]
theorem kinds_all : ∀ (n : Nat) (K : List Int), K.length = n → (∀ z ∈ K, z = 1 ∨ z = 2) → ∃ m, m < 2 ^ n ∧ kindsOf n m = K := by
  intro n
  induction n with
  | zero =>
    intro K hl _
    exact ⟨0, by simp, by rw [List.length_eq_zero_iff.1 hl]; rfl⟩
  | succ n ih =>
    intro K hl hk
    have hne : K ≠ [] := by intro h; simp [h] at hl
    obtain ⟨T, z, rfl⟩ : ∃ T z, K = T ++ [z] := ⟨K.dropLast, K.getLast hne, (List.dropLast_concat_getLast hne).symm⟩
    obtain ⟨m, hm, e⟩ := ih T (by simpa using hl) (fun y hy => hk y (by simp [hy]))
    rcases hk z (by simp) with rfl | rfl
    · refine ⟨2 * m, by rw [Nat.pow_succ]; omega, ?_⟩
      rw [kinds_snoc, show 2 * m / 2 = m by omega, show 2 * m % 2 = 0 by omega, e]
      rfl
    · refine ⟨2 * m + 1, by rw [Nat.pow_succ]; omega, ?_⟩
      rw [kinds_snoc, show (2 * m + 1) / 2 = m by omega, show (2 * m + 1) % 2 = 1 by omega, e]
      rfl
theorem goods_ne {xs : List Int} (hr : Ring xs) : goods xs xs.length (2 ^ xs.length) ≠ [] := by
  obtain ⟨l, h1, h2, h3⟩ := can (xs.length + 1) xs (Nat.lt_succ_self _) hr
  have hz : xs.zip (l.map (·.2)) = l := by
    subst h1
    rw [List.zip_map']
    simp
  have hlen : (l.map (·.2)).length = xs.length := by rw [← h1]; simp
  obtain ⟨m, hm, e⟩ := kinds_all xs.length (l.map (·.2)) hlen (fun z hz => by obtain ⟨p, hp, rfl⟩ := List.mem_map.1 hz; exact h2 p hp)
  have : kindsOf xs.length m ∈ goods xs xs.length (2 ^ xs.length) := by
    unfold goods
    refine List.mem_filter.2 ⟨List.mem_map.2 ⟨m, List.mem_range.2 hm, rfl⟩, ?_⟩
    show Fb (xs.zip (kindsOf xs.length m)) = true
    rw [e, hz, Fb_iff]
    exact h3
  intro h0
  rw [h0] at this
  cases this
/-! ### four angles alike -/
theorem goods_same (a : Int) (k : Nat) (hk : 0 < k) (m : Nat) : goods (List.replicate k a) k m = ((List.range m).map (kindsOf k)).filter two2 := by
  unfold goods
  apply List.filter_congr
  intro K hK
  obtain ⟨i, _, rfl⟩ := List.mem_map.1 hK
  have hne : List.replicate k a ≠ [] := by
    intro h0
    have := congrArg List.length h0
    simp at this
    omega
  have hmx := (maxL_le hne).1
  have hmn := (minL_mem hne).1
  rw [alike hne (by simp [kindsOf_len]) (by rw [List.eq_of_mem_replicate hmx, List.eq_of_mem_replicate hmn])]
  rfl
theorem goods_four : (goods [1, 1, 1, 1] 4 (2 ^ 4)).length = 8 := by
  rw [show ([1, 1, 1, 1] : List Int) = List.replicate 4 1 from rfl, goods_same 1 4 (by decide)]
  decide +kernel
theorem chk_four : chkE [1, 1, 1, 1] = 0 := by decide
/-! ### all kinds changed; read from the other end -/
def turnK : List Int → List Int
  | [] => []
  | k :: t => k :: t.reverse
theorem turnK_len (K : List Int) : (turnK K).length = K.length := by cases K <;> simp [turnK]
theorem turnK_at {K : List Int} {n j : Nat} (hl : K.length = n) (hj : j < n) {z : Int} (h : K[(n - j) % n]? = some z) : (turnK K)[j]? = some z := by
  cases K with
  | nil => simp at hl; omega
  | cons k t =>
    simp only [List.length_cons] at hl
    cases j with
    | zero =>
      rw [Nat.sub_zero, Nat.mod_self] at h
      simpa [turnK] using h
    | succ j =>
      rw [Nat.mod_eq_of_lt (by omega), show n - (j + 1) = (t.length - 1 - j) + 1 by omega] at h
      simp only [List.getElem?_cons_succ] at h
      simp only [turnK, List.getElem?_cons_succ]
      rw [List.getElem?_reverse (by omega)]
      exact h
theorem rvk_zip (k : Int) : ∀ (l : List P2), rvk k l = ((l.map (·.1)).reverse).zip (((l.map (·.2)).tail).reverse.cons k |>.take l.length) := by
  intro l
  induction l with
  | nil => rfl
  | cons p t ih =>
    simp only [rvk, ih, List.map_cons, List.reverse_cons, List.tail_cons, List.length_cons]
    cases t with
    | nil => rfl
    | cons q t =>
      have e1 : (k :: ((q :: t).map (·.2)).reverse).take ((q :: t).length + 1) = (k :: (t.map (·.2)).reverse) ++ [q.2] := by
        rw [List.take_of_length_le (by simp)]
        simp
      have e2 : (k :: ((((q :: t).map (·.2)).tail).reverse)).take (q :: t).length = k :: (t.map (·.2)).reverse := by
        rw [List.take_of_length_le (by simp)]
        rfl
      rw [e1, e2, List.zip_append (by simp)]
      rfl
theorem rev_zip {xs K : List Int} (h : xs.length = K.length) : rev (xs.zip K) = xs.reverse.zip (turnK K) := by
  unfold rev
  rw [rvk_zip]
  have h1 : (xs.zip K).map (·.1) = xs := by rw [List.map_fst_zip (by omega)]
  have h2 : (xs.zip K).map (·.2) = K := by rw [List.map_snd_zip (by omega)]
  rw [h1, h2]
  cases K with
  | nil =>
    have : xs = [] := List.length_eq_zero_iff.1 (by simpa using h)
    subst this
    rfl
  | cons k t =>
    cases xs with
    | nil => simp at h
    | cons x xs =>
      simp only [List.zip_cons_cons, hk, List.tail_cons, turnK]
      rw [List.take_of_length_le (by simp at h ⊢; omega)]
def otherK (K : List Int) : List Int := K.map (3 - ·)
theorem flip_zip (xs K : List Int) : Vx.flip (xs.zip K) = xs.zip (otherK K) := by
  unfold Vx.flip otherK
  rw [List.zip_map_right]
  rfl
theorem alt_rev : ∀ l : List Int, alt l.reverse = if l.length % 2 = 0 then - alt l else alt l := by
  intro l
  induction l with
  | nil => rfl
  | cons x t ih =>
    rw [List.reverse_cons, alt_app, ih, List.length_reverse]
    simp only [alt, List.length_cons]
    split <;> split <;> omega
theorem chk_rev {xs : List Int} (h : chkE xs = 0) : chkE xs.reverse = 0 := by
  have hr := (chk_ok h).2.2.1
  have e1 : alt xs.reverse = 0 := by rw [alt_rev, if_pos hr.even, hr.alt]; rfl
  unfold chkE at h ⊢
  rw [List.length_reverse, List.all_reverse, e1]
  split at h
  · cases h
  · rw [if_neg (by assumption)]
    split at h
    · cases h
    · rw [if_neg (by assumption)]
      simp
theorem all_isK {K : List Int} (h : ∀ z ∈ K, z = 1 ∨ z = 2) : K.all isK = true := List.all_eq_true.2 fun z hz => by simpa [isK] using h z hz
/-- THE PLAIN LAW. -/
theorem two_law {xs K : List Int} (hl : xs.length = K.length) (he : chkE xs = 0) (hk : ∀ z ∈ K, z = 1 ∨ z = 2) (hF : Fb (xs.zip K) = true) :
    (ks K = 2 ∨ ks K = -2) ∧ flatR xs (otherK K) = (true, 0) ∧ flatR xs.reverse (turnK K) = (true, 0) := by
  have hF := Fb_iff.1 hF
  refine ⟨?_, ?_, ?_⟩
  · have := tot_F hF
    rwa [tot_zip _ _ hl] at this
  · have h1 : (otherK K).all isK = true := all_isK fun z hz => by
      obtain ⟨y, hy, rfl⟩ := List.mem_map.1 hz
      rcases hk y hy with rfl | rfl
      · exact .inr rfl
      · exact .inl rfl
    unfold flatR
    rw [if_neg (by rw [he]; simp [otherK, hl]), if_neg (by rw [he]; simp), if_neg (by rw [h1]; simp), ← flip_zip]
    rw [Fb_iff.2 (F_flip hF)]
  · have h1 : (turnK K).all isK = true := all_isK fun z hz => hk z (by
      cases K with
      | nil => exact hz
      | cons k t => simpa [turnK] using hz)
    have h2 := chk_rev he
    unfold flatR
    rw [if_neg (by rw [h2]; simp [turnK_len, hl]), if_neg (by rw [h2]; simp), if_neg (by rw [h1]; simp), ← rev_zip hl]
    rw [Fb_iff.2 (F_rev hF)]
end Go.Proofs.Ytcfeejlhhimpjaa
