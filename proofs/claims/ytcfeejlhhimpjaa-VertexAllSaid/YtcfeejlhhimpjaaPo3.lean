/- Orders of the sectors around a point, as the document tries them: what the trying comes to. -/
import Derived.Test.YtcfeejlhhimpjaaPo2
namespace Go.Proofs.Ytcfeejlhhimpjaa.Vo
set_option linter.unusedSimpArgs false
set_option linter.unusedVariables false
set_option linter.unusedSectionVars false
set_option linter.unusedVariables false
/-! ### orders as the document tries them -/
def pv (n j : Nat) : Nat := (j + n - 1) % n
def btwB (h a b : Int) : Bool := decide ((a < h ∧ h < b) ∨ (b < h ∧ h < a))
def pastB (X : Nat → Int) (j c : Nat) : Bool := decide ((X c < X j ∧ X j < X (c + 1)) ∨ (X (c + 1) < X j ∧ X j < X c))
def ok1 (X H : Nat → Int) (n j c : Nat) : Bool := !(pastB X j c && btwB (H c) (H (pv n j)) (H j))
def ok2 (X H : Nat → Int) (n j k : Nat) : Bool :=
  !(decide (X k = X j) && (decide (X k < X (k + 1)) == decide (X j < X (j + 1))) && decide (H (pv n k) ≠ H (pv n j) ∧ H (pv n k) ≠ H j ∧ H k ≠ H (pv n j) ∧ H k ≠ H j) && (btwB (H (pv n k)) (H (pv n j)) (H j) != btwB (H k) (H (pv n j)) (H j)))
def okJ (X H : Nat → Int) (n j : Nat) : Bool := (List.range n).all (ok1 X H n j) && (List.range j).all (ok2 X H n j)
def goodB (X H : Nat → Int) (n : Nat) : Bool := (List.range n).all (okJ X H n)
def bitK (H : Nat → Int) (n j : Nat) : Bool := decide (H (pv n j) < H j) == decide (pv n j % 2 = 0)
def knum (H : Nat → Int) (n : Nat) : Nat → Nat
  | 0 => 0
  | j + 1 => 2 * knum H n j + (if bitK H n j = true then 1 else 0)
def numK (K : Nat → Int) : Nat → Nat
  | 0 => 0
  | j + 1 => 2 * numK K j + (if K j = 2 then 1 else 0)
def fn (l : List Int) (i : Nat) : Int := l.getD i 0
def reachB (X : Nat → Int) (n : Nat) : Nat → List Int → Nat → Bool
  | 0, pre, m => goodB X (fn pre) n && (knum (fn pre) n n == m)
  | r + 1, pre, m => (List.range n).any fun (h : Nat) => !(pre.contains (h : Int)) && reachB X n r (pre ++ [(h : Int)]) m
theorem knum_lt (H : Nat → Int) (n j : Nat) : knum H n j < 2 ^ j := by
  induction j with
  | zero => simp [knum]
  | succ j ih =>
    simp only [knum, Nat.pow_succ]
    split <;> omega
theorem num_eq {H K : Nat → Int} {n : Nat} : ∀ j, (knum H n j = numK K j ↔ ∀ i < j, (bitK H n i = true ↔ K i = 2)) := by
  intro j
  induction j with
  | zero => simp [knum, numK]
  | succ j ih =>
    simp only [knum, numK]
    constructor
    · intro h i hi
      have h1 : knum H n j = numK K j ∧ (bitK H n j = true ↔ K j = 2) := by
        by_cases hb : bitK H n j = true
        · by_cases hK : K j = 2
          · rw [if_pos hb, if_pos hK] at h
            exact ⟨by omega, fun _ => hK, fun _ => hb⟩
          · rw [if_pos hb, if_neg hK] at h
            omega
        · by_cases hK : K j = 2
          · rw [if_neg hb, if_pos hK] at h
            omega
          · rw [if_neg hb, if_neg hK] at h
            exact ⟨by omega, fun h => absurd h hb, fun h => absurd h hK⟩
      by_cases hij : i = j
      · rw [hij]; exact h1.2
      · exact ih.1 h1.1 i (by omega)
    · intro h
      have h1 := ih.2 (fun i hi => h i (by omega))
      have h2 := h j (by omega)
      rw [h1]
      by_cases hb : bitK H n j = true
      · rw [if_pos hb, if_pos (h2.1 hb)]
      · rw [if_neg hb, if_neg (fun hh => hb (h2.2 hh))]
/-- which lists of heights the trying comes to -/
theorem reach_iff (X : Nat → Int) (n : Nat) : ∀ (r : Nat) (pre : List Int) (m : Nat), reachB X n r pre m = true ↔
    ∃ S : List Int, S.length = r ∧ (∀ s ∈ S, 0 ≤ s ∧ s < n) ∧ S.Nodup ∧ (∀ s ∈ S, s ∉ pre) ∧ goodB X (fn (pre ++ S)) n = true ∧ knum (fn (pre ++ S)) n n = m := by
  intro r
  induction r with
  | zero =>
    intro pre m
    simp only [reachB, Bool.and_eq_true, beq_iff_eq]
    constructor
    · rintro ⟨h1, h2⟩
      exact ⟨[], rfl, by simp, by simp, by simp, by simpa using h1, by simpa using h2⟩
    · rintro ⟨S, h1, _, _, _, h5, h6⟩
      have : S = [] := List.length_eq_zero_iff.1 h1
      subst this
      exact ⟨by simpa using h5, by simpa using h6⟩
  | succ r ih =>
    intro pre m
    simp only [reachB, List.any_eq_true, List.mem_range, Bool.and_eq_true, Bool.not_eq_true', List.contains_eq_mem, decide_eq_false_iff_not]
    constructor
    · rintro ⟨h, hh, hp, hr⟩
      obtain ⟨S, h1, h2, h3, h4, h5, h6⟩ := (ih _ _).1 hr
      refine ⟨(h : Int) :: S, by simp [h1], ?_, ?_, ?_, by simpa using h5, by simpa using h6⟩
      · intro s hs
        rcases List.mem_cons.1 hs with rfl | hs
        · omega
        · exact h2 s hs
      · rw [List.nodup_cons]
        exact ⟨fun hm => h4 _ hm (by simp), h3⟩
      · intro s hs
        rcases List.mem_cons.1 hs with rfl | hs
        · exact hp
        · exact fun hm => h4 s hs (by simp [hm])
    · rintro ⟨S, h1, h2, h3, h4, h5, h6⟩
      cases S with
      | nil => simp at h1
      | cons s S =>
        have hs := h2 s (by simp)
        rw [List.nodup_cons] at h3
        refine ⟨s.toNat, by omega, ?_, ?_⟩
        · rw [Int.toNat_of_nonneg hs.1]
          exact h4 s (by simp)
        · rw [Int.toNat_of_nonneg hs.1]
          refine (ih _ _).2 ⟨S, by simpa using h1, fun t ht => h2 t (by simp [ht]), h3.2, ?_, by simpa using h5, by simpa using h6⟩
          intro t ht hm
          rcases List.mem_append.1 hm with hm | hm
          · exact h4 t (by simp [ht]) hm
          · simp at hm
            subst hm
            exact h3.1 ht
/-! ### creases by their numbers -/
theorem cp_at {z : Nd} {X : List Nd} {p : Nd × Nd} : p ∈ cp z X ↔ ∃ j : Nat, X[j]? = some p.2 ∧ (z :: X)[j]? = some p.1 := by
  induction X generalizing z with
  | nil => simp [cp]
  | cons s X ih =>
    simp only [cp, List.mem_cons, ih]
    constructor
    · rintro (rfl | ⟨j, h1, h2⟩)
      · exact ⟨0, rfl, rfl⟩
      · exact ⟨j + 1, by simpa using h1, by simpa using h2⟩
    · rintro ⟨j, h1, h2⟩
      cases j with
      | zero =>
        left
        simp at h1 h2
        exact Prod.ext h2.symm h1.symm
      | succ j => exact .inr ⟨j, by simpa using h1, by simpa using h2⟩
theorem lastN_at (s : Nd) (X : List Nd) : (s :: X)[X.length]? = some (lastN s X) := by
  induction X generalizing s with
  | nil => rfl
  | cons t X ih => exact ih t
theorem pv_zero {n : Nat} (h : 0 < n) : pv n 0 = n - 1 := by unfold pv; rw [Nat.zero_add, Nat.mod_eq_of_lt (by omega)]
theorem pv_succ {n j : Nat} (h : j + 1 < n) : pv n (j + 1) = j := by
  unfold pv
  rw [show j + 1 + n - 1 = j + n by omega, Nat.add_mod_right, Nat.mod_eq_of_lt (by omega)]
theorem pv_lt {n j : Nat} (h : 0 < n) : pv n j < n := Nat.mod_lt _ h
theorem cyc_at {N : List Nd} {p : Nd × Nd} : p ∈ cyc N ↔ ∃ j : Nat, N[j]? = some p.2 ∧ N[pv N.length j]? = some p.1 := by
  cases N with
  | nil => simp [cyc]
  | cons s X =>
    have hl := lastN_at s X
    show p ∈ cp (lastN s X) (s :: X) ↔ _
    rw [cp_at]
    constructor
    · rintro ⟨j, h1, h2⟩
      refine ⟨j, h1, ?_⟩
      cases j with
      | zero =>
        rw [pv_zero (by simp)]
        simp only [List.length_cons, Nat.add_sub_cancel]
        simp at h2
        rw [hl, h2]
      | succ j =>
        have := (List.getElem?_eq_some_iff.1 h1).1
        rw [pv_succ this]
        simpa using h2
    · rintro ⟨j, h1, h2⟩
      refine ⟨j, h1, ?_⟩
      cases j with
      | zero =>
        rw [pv_zero (by simp)] at h2
        simp only [List.length_cons, Nat.add_sub_cancel] at h2
        rw [hl] at h2
        simpa using h2
      | succ j =>
        have := (List.getElem?_eq_some_iff.1 h1).1
        rw [pv_succ this] at h2
        simpa using h2
/-! ### an order of heights is a good list of sectors -/
def mkN (X H K : Nat → Int) (n : Nat) : List Nd := (List.range n).map fun j => ⟨X j, X (j + 1), H j, K j⟩
theorem mkN_len (X H K : Nat → Int) (n : Nat) : (mkN X H K n).length = n := by simp [mkN]
theorem mkN_at {X H K : Nat → Int} {n j : Nat} {s : Nd} : (mkN X H K n)[j]? = some s ↔ j < n ∧ s = ⟨X j, X (j + 1), H j, K j⟩ := by
  unfold mkN
  rw [List.getElem?_map]
  by_cases h : j < n
  · rw [List.getElem?_range h]
    simp [h, eq_comm]
  · rw [List.getElem?_eq_none (by simpa using h)]
    simp [h]
theorem mkN_mem {X H K : Nat → Int} {n : Nat} {s : Nd} : s ∈ mkN X H K n ↔ ∃ j, j < n ∧ s = ⟨X j, X (j + 1), H j, K j⟩ := by
  unfold mkN
  simp only [List.mem_map, List.mem_range]
  exact ⟨fun ⟨j, h1, h2⟩ => ⟨j, h1, h2.symm⟩, fun ⟨j, h1, h2⟩ => ⟨j, h1, h2.symm⟩⟩
/-- the places of creases -/
structure Zig (X : Nat → Int) (n : Nat) : Prop where
  pos : 0 < n
  even : n % 2 = 0
  up : ∀ j, j < n → j % 2 = 0 → X j < X (j + 1)
  dn : ∀ j, j < n → j % 2 = 1 → X (j + 1) < X j
  ring : X n = X 0
theorem Zig.pv_u {X : Nat → Int} {n : Nat} (Z : Zig X n) {j : Nat} (hj : j < n) : X (pv n j + 1) = X j := by
  cases j with
  | zero => rw [pv_zero Z.pos, show n - 1 + 1 = n by have := Z.pos; omega, Z.ring]
  | succ j => rw [pv_succ hj]
theorem Zig.pv_par {X : Nat → Int} {n : Nat} (Z : Zig X n) {j : Nat} (hj : j < n) : (pv n j % 2 = 0 ↔ j % 2 = 1) := by
  have := Z.even
  have := Z.pos
  cases j with
  | zero => rw [pv_zero Z.pos]; omega
  | succ j => rw [pv_succ hj]; omega
theorem Zig.lt {X : Nat → Int} {n : Nat} (Z : Zig X n) {j : Nat} (hj : j < n) : (X j < X (j + 1) ↔ j % 2 = 0) := by
  have h1 := Z.up j hj
  have h2 := Z.dn j hj
  omega
theorem Zig.gt {X : Nat → Int} {n : Nat} (Z : Zig X n) {j : Nat} (hj : j < n) : (X (j + 1) < X j ↔ j % 2 = 1) := by
  have h1 := Z.up j hj
  have h2 := Z.dn j hj
  omega
theorem btwB_iff {h a b : Int} : btwB h a b = true ↔ Btw h a b := by unfold btwB Btw; simp
theorem good_mk {X H K : Nat → Int} {n : Nat} (Z : Zig X n) (hinj : ∀ i j, i < n → j < n → H i = H j → i = j) :
    (Good (mkN X H K n) ↔ goodB X H n = true ∧ ∀ j < n, (bitK H n j = true ↔ K j = 2)) := by
  have hcy : ∀ p : Nd × Nd, p ∈ cyc (mkN X H K n) ↔ ∃ j, j < n ∧ p.2 = ⟨X j, X (j + 1), H j, K j⟩ ∧ p.1 = ⟨X (pv n j), X (pv n j + 1), H (pv n j), K (pv n j)⟩ := by
    intro p
    rw [cyc_at]
    simp only [mkN_len, mkN_at]
    constructor
    · rintro ⟨j, ⟨h1, h2⟩, _, h3⟩
      exact ⟨j, h1, h2, h3⟩
    · rintro ⟨j, h1, h2, h3⟩
      exact ⟨j, ⟨h1, h2⟩, pv_lt Z.pos, h3⟩
  have hpne : ∀ j, j < n → H (pv n j) ≠ H j := by
    intro j hj e
    have := hinj _ _ (pv_lt Z.pos) hj e
    have h2 := Z.pv_par hj
    rw [this] at h2
    omega
  have hbit : ∀ j, j < n → (bitK H n j = true ↔ (X j < X (j + 1) ↔ H j < H (pv n j))) := by
    intro j hj
    unfold bitK
    rw [beq_iff_eq, decide_eq_decide, Z.lt hj, Z.pv_par hj]
    have := hpne j hj
    omega
  constructor
  · intro hG
    have memj : ∀ j, j < n → ((⟨X (pv n j), X (pv n j + 1), H (pv n j), K (pv n j)⟩ : Nd), (⟨X j, X (j + 1), H j, K j⟩ : Nd)) ∈ cyc (mkN X H K n) := fun j hj => (hcy _).2 ⟨j, hj, rfl, rfl⟩
    refine ⟨?_, ?_⟩
    · unfold goodB okJ
      simp only [List.all_eq_true, List.mem_range, Bool.and_eq_true]
      intro j hj
      refine ⟨fun c hc => ?_, fun k hk => ?_⟩
      · unfold ok1
        rw [Bool.not_eq_true', Bool.and_eq_false_iff]
        by_cases hp : pastB X j c = true
        · right
          have := hG.r1 _ (memj j hj) ⟨X c, X (c + 1), H c, K c⟩ (mkN_mem.2 ⟨c, hc, rfl⟩)
          unfold pastB at hp
          simp only [decide_eq_true_eq] at hp
          simp only [Nd.lo, Nd.hi] at this
          have h2 := this (by omega) (by omega)
          rw [← btwB_iff] at h2
          simpa using h2
        · left
          simpa using hp
      · unfold ok2
        rw [Bool.not_eq_true', Bool.and_eq_false_iff]
        by_cases hc : (decide (X k = X j) && (decide (X k < X (k + 1)) == decide (X j < X (j + 1))) && decide (H (pv n k) ≠ H (pv n j) ∧ H (pv n k) ≠ H j ∧ H k ≠ H (pv n j) ∧ H k ≠ H j)) = true
        · right
          simp only [Bool.and_eq_true, decide_eq_true_eq, beq_iff_eq, decide_eq_decide] at hc
          obtain ⟨⟨c1, c2⟩, c3, c4, c5, c6⟩ := hc
          have := hG.r2 _ (memj j hj) _ (memj k (by omega)) c1.symm c2.symm c3.symm c5.symm c4.symm c6.symm
          simp only at this
          rw [← btwB_iff, ← btwB_iff] at this
          rw [bne_eq_false_iff_eq, Bool.eq_iff_iff]
          exact this
        · left
          simpa using hc
    · intro j hj
      rw [hbit j hj]
      exact (hG.link _ (memj j hj)).2.2
  · rintro ⟨hg, hk⟩
    unfold goodB okJ at hg
    simp only [List.all_eq_true, List.mem_range, Bool.and_eq_true] at hg
    refine ⟨?_, ?_, ?_, ?_, ?_⟩
    · intro s hs
      obtain ⟨j, hj, rfl⟩ := mkN_mem.1 hs
      have h1 := Z.up j hj
      have h2 := Z.dn j hj
      simp only
      omega
    · unfold mkN
      rw [List.pairwise_map]
      refine List.Pairwise.imp_of_mem ?_ (List.pairwise_lt_range (n := n))
      intro i j hi hj hij e
      have := hinj i j (List.mem_range.1 hi) (List.mem_range.1 hj) e
      omega
    · intro p hp
      obtain ⟨j, hj, h2, h1⟩ := (hcy p).1 hp
      rw [h1, h2]
      simp only
      refine ⟨Z.pv_u hj, ?_, ?_⟩
      · rw [Z.lt (pv_lt Z.pos), Z.gt hj, Z.pv_par hj]
      · rw [← hk j hj, hbit j hj]
    · intro p hp c hc x1 x2
      obtain ⟨j, hj, h2, h1⟩ := (hcy p).1 hp
      obtain ⟨i, hi, rfl⟩ := mkN_mem.1 hc
      rw [h1, h2]
      rw [h2] at x1 x2
      simp only [Nd.lo, Nd.hi] at x1 x2 ⊢
      have := (hg j hj).1 i hi
      unfold ok1 at this
      rw [Bool.not_eq_true', Bool.and_eq_false_iff] at this
      rcases this with h | h
      · exfalso
        unfold pastB at h
        simp only [decide_eq_false_iff_not] at h
        omega
      · rw [← btwB_iff, h]
        simp
    · intro p hp p' hp' hu hs n1 n2 n3 n4
      obtain ⟨j, hj, h2, h1⟩ := (hcy p).1 hp
      obtain ⟨k, hk', h2', h1'⟩ := (hcy p').1 hp'
      obtain ⟨p1, p2⟩ := p
      obtain ⟨q1, q2⟩ := p'
      simp only at h1 h2 h1' h2'
      subst h1 h2 h1' h2'
      simp only at hu hs n1 n2 n3 n4 ⊢
      -- two numbers: the greater one is the document's j
      have key : ∀ j k, j < n → k < j → X j = X k → (X j < X (j + 1) ↔ X k < X (k + 1)) → H (pv n j) ≠ H (pv n k) → H (pv n j) ≠ H k → H j ≠ H (pv n k) → H j ≠ H k →
          (Btw (H (pv n k)) (H (pv n j)) (H j) ↔ Btw (H k) (H (pv n j)) (H j)) := by
        intro j k hj hk hu hs n1 n2 n3 n4
        have := (hg j hj).2 k hk
        unfold ok2 at this
        rw [Bool.not_eq_true', Bool.and_eq_false_iff] at this
        rcases this with h | h
        · exfalso
          have e1 : decide (X k = X j) = true := by simp [hu]
          have e2 : (decide (X k < X (k + 1)) == decide (X j < X (j + 1))) = true := by rw [beq_iff_eq, decide_eq_decide]; exact hs.symm
          have e3 : decide (H (pv n k) ≠ H (pv n j) ∧ H (pv n k) ≠ H j ∧ H k ≠ H (pv n j) ∧ H k ≠ H j) = true := by
            rw [decide_eq_true_eq]
            exact ⟨n1.symm, n3.symm, n2.symm, n4.symm⟩
          rw [e1, e2, e3] at h
          cases h
        · rw [bne_eq_false_iff_eq, Bool.eq_iff_iff, btwB_iff, btwB_iff] at h
          exact h
      rcases Nat.lt_trichotomy k j with h | h | h
      · exact key j k hj h hu hs n1 n2 n3 n4
      · subst h
        exact absurd rfl n1
      · have h3 := key k j hk' h hu.symm hs.symm n1.symm n3.symm n2.symm n4.symm
        unfold Btw at h3 ⊢
        omega
open Vx
/-! ### what the trying finds is what crimps find -/
def XX (xs : List Int) (j : Nat) : Int := alt (xs.take j)
theorem XX_succ {xs : List Int} {j : Nat} {a : Int} (h : xs[j]? = some a) : XX xs (j + 1) = XX xs j + (if j % 2 = 0 then a else -a) := by
  unfold XX
  have hl := (List.getElem?_eq_some_iff.1 h).1
  rw [List.take_add_one, h, alt_app, List.length_take, Nat.min_eq_left (by omega)]
  simp [alt]
theorem zig_of {xs : List Int} (hR : Ring xs) (hpos : ∀ x ∈ xs, 0 < x) : Zig (XX xs) xs.length := by
  refine ⟨List.length_pos_iff.2 hR.ne, hR.even, ?_, ?_, ?_⟩
  · intro j hj hp
    have h := List.getElem?_eq_getElem hj
    rw [XX_succ h, if_pos hp]
    have := hpos _ (List.getElem_mem hj)
    omega
  · intro j hj hp
    have h := List.getElem?_eq_getElem hj
    rw [XX_succ h, if_neg (by omega)]
    have := hpos _ (List.getElem_mem hj)
    omega
  · unfold XX
    rw [List.take_length, hR.alt]
    rfl
theorem btw_mono {φ : Int → Int} {x a b : Int} (h1 : x < a ↔ φ x < φ a) (h2 : a < x ↔ φ a < φ x) (h3 : x < b ↔ φ x < φ b) (h4 : b < x ↔ φ b < φ x) : Btw (φ x) (φ a) (φ b) ↔ Btw x a b := by
  unfold Btw
  rw [h1, h2, h3, h4]
theorem Good.shift {N : List Nd} (h : Good N) (u0 : Int) (φ : Int → Int) (hφ : ∀ a ∈ N, ∀ b ∈ N, (a.h < b.h ↔ φ a.h < φ b.h)) : Good (N.map fun c => ⟨c.u - u0, c.v - u0, φ c.h, c.k⟩) := by
  have ne : ∀ a ∈ N, ∀ b ∈ N, (a.h ≠ b.h ↔ φ a.h ≠ φ b.h) := by
    intro a ha b hb
    have h1 := hφ a ha b hb
    have h2 := hφ b hb a ha
    omega
  refine ⟨?_, ?_, ?_, ?_, ?_⟩
  · intro s hs
    obtain ⟨t, ht, rfl⟩ := List.mem_map.1 hs
    have := h.ne t ht
    simp only
    omega
  · rw [List.pairwise_map]
    exact h.dis.imp_of_mem fun {a b} ha hb hab => (ne a ha b hb).1 hab
  · intro p hp
    rw [cyc_map] at hp
    obtain ⟨q, hq, rfl⟩ := List.mem_map.1 hp
    obtain ⟨a, b, c⟩ := h.link q hq
    have := hφ _ (cyc_mem hq).2 _ (cyc_mem hq).1
    simp only
    refine ⟨by omega, by omega, ?_⟩
    rw [← c, ← this]
    have : q.2.u - u0 < q.2.v - u0 ↔ q.2.u < q.2.v := by omega
    rw [this]
  · intro p hp c hc
    rw [cyc_map] at hp
    obtain ⟨q, hq, rfl⟩ := List.mem_map.1 hp
    obtain ⟨d, hd, rfl⟩ := List.mem_map.1 hc
    have := h.r1 q hq d hd
    have m := cyc_mem hq
    simp only [Nd.lo, Nd.hi] at this ⊢
    rw [btw_mono (hφ _ hd _ m.1) (hφ _ m.1 _ hd) (hφ _ hd _ m.2) (hφ _ m.2 _ hd)]
    intro h1 h2
    exact this (by omega) (by omega)
  · intro p hp p' hp'
    rw [cyc_map] at hp hp'
    obtain ⟨q, hq, rfl⟩ := List.mem_map.1 hp
    obtain ⟨q', hq', rfl⟩ := List.mem_map.1 hp'
    have := h.r2 q hq q' hq'
    have m := cyc_mem hq
    have m' := cyc_mem hq'
    simp only at this ⊢
    rw [btw_mono (hφ _ m'.1 _ m.1) (hφ _ m.1 _ m'.1) (hφ _ m'.1 _ m.2) (hφ _ m.2 _ m'.1), btw_mono (hφ _ m'.2 _ m.1) (hφ _ m.1 _ m'.2) (hφ _ m'.2 _ m.2) (hφ _ m.2 _ m'.2)]
    intro h1 h2 h3 h4 h5 h6
    exact this (by omega) (by omega) ((ne _ m.1 _ m'.1).2 h3) ((ne _ m.1 _ m'.2).2 h4) ((ne _ m.2 _ m'.1).2 h5) ((ne _ m.2 _ m'.2).2 h6)
def rank (hs : List Int) (v : Int) : Int := (hs.filter fun x => decide (x < v)).length
theorem rank_le {hs : List Int} {a b : Int} (h : a ≤ b) : rank hs a ≤ rank hs b := by
  unfold rank
  induction hs with
  | nil => simp
  | cons x hs ih =>
    simp only [List.filter_cons]
    split
    · split
      · simp only [List.length_cons]; omega
      · rename_i h1 h2; simp at h1 h2; omega
    · split
      · simp only [List.length_cons]; omega
      · exact ih
theorem rank_lt {hs : List Int} {a b : Int} (ha : a ∈ hs) (h : a < b) : rank hs a < rank hs b := by
  induction hs with
  | nil => cases ha
  | cons x hs ih =>
    have hle := rank_le (hs := hs) (Int.le_of_lt h)
    unfold rank at ih hle ⊢
    simp only [List.filter_cons]
    rcases List.mem_cons.1 ha with rfl | ha
    · have h1 : ¬ a < a := by omega
      simp only [h1, h, decide_true, decide_false, if_true, List.length_cons]
      simp only [Bool.false_eq_true, if_false]
      omega
    · have := ih ha
      split
      · split
        · simp only [List.length_cons]; omega
        · rename_i h1 h2; simp at h1 h2; omega
      · split
        · simp only [List.length_cons]; omega
        · exact this
theorem rank_iff {hs : List Int} {a b : Int} (ha : a ∈ hs) (hb : b ∈ hs) : (a < b ↔ rank hs a < rank hs b) := by
  constructor
  · exact rank_lt ha
  · intro h
    by_cases hab : a < b
    · exact hab
    · have := rank_le (hs := hs) (show b ≤ a by omega)
      omega
theorem rank_bd {hs : List Int} {a : Int} (ha : a ∈ hs) : 0 ≤ rank hs a ∧ rank hs a < hs.length := by
  refine ⟨by unfold rank; omega, ?_⟩
  have h1 : rank hs a < rank hs (a + 1) := rank_lt ha (by omega)
  have h2 : rank hs (a + 1) ≤ hs.length := by
    unfold rank
    have := List.length_filter_le (fun x => decide (x < a + 1)) hs
    omega
  omega
theorem at_zip {xs K : List Int} {j : Nat} {p : Int × Int} (h : (xs.zip K)[j]? = some p) : xs[j]? = some p.1 ∧ K[j]? = some p.2 := by
  rw [List.getElem?_zip_eq_some] at h
  exact h
theorem places {N : List Nd} (hG : Good N) {xs K : List Int} (hN : N.map ang = xs.zip K) (hl : xs.length = K.length) (hR : Ring xs) (hpos : ∀ x ∈ xs, 0 < x) {s : Nd} (hs : N[0]? = some s) (d : s.u < s.v) :
    ∀ (j : Nat) (c : Nd), N[j]? = some c → c.u = s.u + XX xs j ∧ c.v = s.u + XX xs (j + 1) ∧ K[j]? = some c.k := by
  have hat : ∀ (j : Nat) (c : Nd), N[j]? = some c → xs[j]? = some (c.hi - c.lo) ∧ K[j]? = some c.k := by
    intro j c hc
    have : (xs.zip K)[j]? = some (ang c) := by rw [← hN, List.getElem?_map, hc]; rfl
    exact at_zip this
  have Z := zig_of hR hpos
  have hlen : N.length = xs.length := by
    have := congrArg List.length hN
    simp at this
    omega
  intro j
  induction j with
  | zero =>
    intro c hc
    rw [hs] at hc
    obtain rfl := Option.some.inj hc
    obtain ⟨h1, h2⟩ := hat 0 s hs
    refine ⟨by simp [XX, alt], ?_, h2⟩
    rw [XX_succ h1]
    simp only [XX, List.take_zero, alt, Nd.hi, Nd.lo, Nat.zero_mod, if_true]
    omega
  | succ j ih =>
    intro c hc
    have hj1 := (List.getElem?_eq_some_iff.1 hc).1
    obtain ⟨b, hb⟩ : ∃ b, N[j]? = some b := ⟨_, List.getElem?_eq_getElem (by omega)⟩
    obtain ⟨e1, e2, e3⟩ := ih b hb
    have hm : (b, c) ∈ cyc N := cyc_at.2 ⟨j + 1, hc, by rw [pv_succ hj1]; exact hb⟩
    obtain ⟨l1, l2, _⟩ := hG.link _ hm
    obtain ⟨h1, h2⟩ := hat _ c hc
    have hne := hG.ne c (cyc_mem hm).2
    simp only at l1 l2
    have zl := Z.lt (j := j) (by omega)
    refine ⟨by omega, ?_, h2⟩
    rw [XX_succ h1]
    simp only [Nd.hi, Nd.lo]
    by_cases hp : j % 2 = 0
    · have h3 : b.u < b.v := by have := zl.2 hp; omega
      have h4 := l2.1 h3
      rw [if_neg (by omega)]
      omega
    · have h3 : ¬ b.u < b.v := fun hh => hp (zl.1 (by omega))
      have h4 : ¬ c.v < c.u := fun hh => h3 (l2.2 hh)
      rw [if_pos (by omega)]
      omega
theorem sg_right {l : List R2} (h : Sg l) (hne : l ≠ []) : ∃ N s, Good N ∧ N.map ang = l ∧ N[0]? = some s ∧ s.u < s.v := by
  obtain ⟨N, hG, e⟩ := h
  cases N with
  | nil => exact absurd e.symm hne
  | cons s N =>
    by_cases d : s.u < s.v
    · exact ⟨s :: N, s, hG, e, rfl, d⟩
    · have := hG.ne s (by simp)
      exact ⟨(s :: N).map mir, mir s, hG.mir, by rw [ang_mir, e], rfl, by simp only [mir]; omega⟩
theorem fn_at {l : List Int} {j : Nat} {a : Int} (h : l[j]? = some a) : fn l j = a := by
  unfold fn
  rw [List.getD_eq_getElem?_getD, h]
  rfl
theorem fn_ex {l : List Int} {j : Nat} (h : j < l.length) : l[j]? = some (fn l j) := by
  unfold fn
  rw [List.getD_eq_getElem?_getD, List.getElem?_eq_getElem h]
  rfl
theorem nodup_at {α : Type} {l : List α} (h : l.Nodup) {i j : Nat} {a : α} (hi : l[i]? = some a) (hj : l[j]? = some a) : i = j := by
  rw [List.nodup_iff_pairwise_ne, List.pairwise_iff_getElem] at h
  obtain ⟨q1, q2⟩ := List.getElem?_eq_some_iff.1 hi
  obtain ⟨q3, q4⟩ := List.getElem?_eq_some_iff.1 hj
  rcases Nat.lt_trichotomy i j with hh | hh | hh
  · exact absurd (q2.trans q4.symm) (h i j q1 q3 hh)
  · exact hh
  · exact absurd (q4.trans q2.symm) (h j i q3 q1 hh)
/-- THE LAW: the trying of all orders comes to a list of kinds just where crimps go through. -/
theorem reach_F {xs K : List Int} (hR : Ring xs) (hpos : ∀ x ∈ xs, 0 < x) (hl : xs.length = K.length) (hK : ∀ k ∈ K, k = 1 ∨ k = 2) :
    reachB (XX xs) xs.length xs.length [] (numK (fn K) xs.length) = true ↔ F (xs.zip K) := by
  have hz : (xs.zip K).map (·.1) = xs := List.map_fst_zip (by omega)
  have Z := zig_of hR hpos
  have hne : xs.zip K ≠ [] := by
    intro h
    have h0 := congrArg List.length h
    have := Z.pos
    rw [List.length_zip, List.length_nil] at h0
    omega
  rw [← sg_F (xs.zip K).length (xs.zip K) (Nat.le_refl _) (by rw [hz]; exact hR) (fun p hp => hpos _ (List.of_mem_zip hp).1) (fun p hp => hK _ (List.of_mem_zip hp).2)]
  rw [reach_iff]
  simp only [List.nil_append]
  constructor
  · rintro ⟨S, h1, h2, h3, _, h5, h6⟩
    have hinj : ∀ i j, i < xs.length → j < xs.length → fn S i = fn S j → i = j := by
      intro i j hi hj e
      have a1 := fn_ex (l := S) (j := i) (by omega)
      have a2 := fn_ex (l := S) (j := j) (by omega)
      rw [e] at a1
      exact nodup_at h3 a1 a2
    have hG := (good_mk (K := fn K) Z hinj).2 ⟨h5, (num_eq _).1 h6⟩
    refine ⟨_, hG, ?_⟩
    apply List.ext_getElem?
    intro j
    by_cases hj : j < xs.length
    · have b1 : (mkN (XX xs) (fn S) (fn K) xs.length)[j]? = some ⟨XX xs j, XX xs (j + 1), fn S j, fn K j⟩ := mkN_at.2 ⟨hj, rfl⟩
      have b2 := List.getElem?_eq_getElem hj
      have b3 : K[j]? = some (fn K j) := fn_ex (by omega)
      have b4 : (xs.zip K)[j]? = some (xs[j], fn K j) := by rw [List.getElem?_zip_eq_some]; exact ⟨b2, b3⟩
      rw [List.getElem?_map, b1, b4]
      simp only [Option.map_some, ang, Nd.hi, Nd.lo, Option.some.injEq, Prod.mk.injEq, and_true]
      rw [XX_succ b2]
      have := hpos _ (List.getElem_mem hj)
      split <;> omega
    · rw [List.getElem?_eq_none (by simp [mkN_len]; omega), List.getElem?_eq_none (by simp; omega)]
  · intro hS
    obtain ⟨N, s, hG, hN, hs, d⟩ := sg_right hS hne
    have hp := places hG hN hl hR hpos hs d
    have hlen : N.length = xs.length := by
      have := congrArg List.length hN
      simp at this
      omega
    have hmem : ∀ a ∈ N, a.h ∈ N.map Nd.h := fun a ha => List.mem_map_of_mem ha
    have hG2 := hG.shift s.u (rank (N.map Nd.h)) (fun a ha b hb => rank_iff (hmem a ha) (hmem b hb))
    obtain ⟨S, hSd⟩ : ∃ S, S = N.map (fun c => rank (N.map Nd.h) c.h) := ⟨_, rfl⟩
    have hSl : S.length = xs.length := by rw [hSd]; simp [hlen]
    have hSat : ∀ (j : Nat) (c : Nd), N[j]? = some c → fn S j = rank (N.map Nd.h) c.h := by
      intro j c hc
      apply fn_at
      rw [hSd, List.getElem?_map, hc]
      rfl
    have heq : (N.map fun c => (⟨c.u - s.u, c.v - s.u, rank (N.map Nd.h) c.h, c.k⟩ : Nd)) = mkN (XX xs) (fn S) (fn K) xs.length := by
      apply List.ext_getElem?
      intro j
      by_cases hj : j < xs.length
      · obtain ⟨c, hc⟩ : ∃ c, N[j]? = some c := ⟨_, List.getElem?_eq_getElem (by omega)⟩
        obtain ⟨p1, p2, p3⟩ := hp j c hc
        rw [List.getElem?_map, hc, mkN_at.2 ⟨hj, rfl⟩]
        simp only [Option.map_some, Option.some.injEq, Nd.mk.injEq]
        exact ⟨by omega, by omega, (hSat j c hc).symm, (fn_at p3).symm⟩
      · rw [List.getElem?_eq_none (by simp; omega), List.getElem?_eq_none (by simp [mkN_len]; omega)]
    rw [heq] at hG2
    have hinj : ∀ i j, i < xs.length → j < xs.length → fn S i = fn S j → i = j := by
      intro i j hi hj e
      obtain ⟨c, hc⟩ : ∃ c, N[i]? = some c := ⟨_, List.getElem?_eq_getElem (by omega)⟩
      obtain ⟨c', hc'⟩ : ∃ c, N[j]? = some c := ⟨_, List.getElem?_eq_getElem (by omega)⟩
      rw [hSat i c hc, hSat j c' hc'] at e
      have m1 := List.mem_of_getElem? hc
      have m2 := List.mem_of_getElem? hc'
      have e2 : c.h = c'.h := by
        have h1 := rank_iff (hmem c m1) (hmem c' m2)
        have h2 := rank_iff (hmem c' m2) (hmem c m1)
        omega
      have e3 := hG.inj m1 m2 e2
      subst e3
      have hnd : N.Nodup := hG.dis.imp fun hab e => hab (by rw [e])
      exact nodup_at hnd hc hc'
    obtain ⟨h5, h6⟩ := (good_mk (K := fn K) Z hinj).1 hG2
    refine ⟨S, hSl, ?_, ?_, by simp, h5, (num_eq _).2 h6⟩
    · intro v hv
      rw [hSd] at hv
      obtain ⟨c, hc, rfl⟩ := List.mem_map.1 hv
      have := rank_bd (hmem c hc)
      simp only [List.length_map] at this
      omega
    · rw [List.nodup_iff_pairwise_ne]
      rw [List.pairwise_iff_getElem]
      intro i j hi hj hij e
      have a1 := fn_at (List.getElem?_eq_getElem hi)
      have a2 := fn_at (List.getElem?_eq_getElem hj)
      have := hinj i j (by omega) (by omega) (by rw [a1, a2, e])
      omega
end Go.Proofs.Ytcfeejlhhimpjaa.Vo
