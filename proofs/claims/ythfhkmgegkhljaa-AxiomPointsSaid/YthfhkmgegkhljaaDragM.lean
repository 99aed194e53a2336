/- The plain law of the dragon: no step is gone twice; how far its way ends. -/
import Derived.Test.YthfhkmgegkhljaaDragE
namespace Go.Proofs.Ythfhkmgegkhljaa

abbrev V2 := Int × Int
def negV (d : V2) : V2 := (-d.1, -d.2)
def Unit4 (d : V2) : Prop := d = (1, 0) ∨ d = (-1, 0) ∨ d = (0, 1) ∨ d = (0, -1)
/-- The steps of a way: where each begins, and its direction. -/
def trail (p d : V2) : List Int → List (V2 × V2)
  | [] => [(p, d)]
  | k :: r => (p, d) :: trail (addV p d) (turnV k d) r
/-- A point of the way of one fold less, in the greater way. -/
def big (s : Int) (p : V2) : V2 := addV p (turnV s p)
def parity (p : V2) : Int := (p.1 + p.2) % 2
def expandE (s : Int) (e : V2 × V2) : List (V2 × V2) :=
  if parity e.1 = 0 then [(big s e.1, e.2), (addV (big s e.1) e.2, turnV s e.2)]
  else [(big s e.1, turnV s e.2), (addV (big s e.1) (turnV s e.2), e.2)]

theorem unit_turn {k : Int} {d : V2} (h : Unit4 d) : Unit4 (turnV k d) := by
  unfold Unit4 turnV at *
  rcases h with rfl | rfl | rfl | rfl <;> split <;> simp
theorem parity_add {p d : V2} (h : Unit4 d) : parity (addV p d) = 1 - parity p := by
  unfold parity addV
  rcases h with rfl | rfl | rfl | rfl <;> simp only <;> omega
theorem turn_comm (a b : Int) (d : V2) : turnV a (turnV b d) = turnV b (turnV a d) := by
  unfold turnV; split <;> split <;> simp
theorem turn_back {s : Int} (hs : s = 1 ∨ s = 2) (d : V2) : turnV (3 - s) (turnV s d) = d := by
  unfold turnV
  rcases hs with rfl | rfl <;> simp
theorem big_add (s : Int) (p d : V2) : big s (addV p d) = addV (addV (big s p) d) (turnV s d) := by
  unfold big addV turnV; split <;> simp only [Prod.mk.injEq] <;> omega
theorem big_add' (s : Int) (p d : V2) : big s (addV p d) = addV (addV (big s p) (turnV s d)) d := by
  unfold big addV turnV; split <;> simp only [Prod.mk.injEq] <;> omega

theorem trail_weave {s : Int} (hs : s = 1 ∨ s = 2) (l : List Int) : ∀ p d : V2, Unit4 d →
    (parity p = 0 → trail (big s p) d (weave s l) = (trail p d l).flatMap (expandE s)) ∧
    (parity p = 1 → trail (big s p) (turnV s d) (weave (3 - s) l) = (trail p d l).flatMap (expandE s)) := by
  induction l with
  | nil =>
    intro p d _
    refine ⟨fun h => ?_, fun h => ?_⟩
    · simp [trail, weave, expandE, h]
    · simp [trail, weave, expandE, h, turn_back hs]
  | cons x l ih =>
    intro p d hd
    have h1 := ih (addV p d) (turnV x d) (unit_turn hd)
    rw [parity_add hd] at h1
    refine ⟨fun h => ?_, fun h => ?_⟩
    · simp only [trail, weave, List.flatMap_cons, expandE, h, if_true, List.cons_append, List.nil_append]
      rw [turn_comm x s, ← big_add, h1.2 (by omega)]
    · simp only [trail, weave, List.flatMap_cons]
      have : expandE s (p, d) = [(big s p, turnV s d), (addV (big s p) (turnV s d), d)] := by simp [expandE, h]
      rw [this, turn_back hs, ← big_add', show (3 : Int) - (3 - s) = s from by omega, h1.1 (by omega)]
      rfl

/-- A step, told from its even end. -/
def oe (e : V2 × V2) : V2 × V2 := if parity e.1 = 0 then e else (addV e.1 e.2, negV e.2)
def Fine (e : V2 × V2) : Prop := Unit4 e.2
theorem parity01 (p : V2) : parity p = 0 ∨ parity p = 1 := by unfold parity; omega
theorem parity_big (s : Int) (p : V2) : parity (big s p) = 0 := by
  unfold parity big addV turnV; split <;> simp only <;> omega
theorem add_neg (p d : V2) : addV (addV p d) (negV d) = p := by
  unfold addV negV; ext <;> simp only <;> omega
theorem neg_neg' (d : V2) : negV (negV d) = d := by unfold negV; simp
theorem turn_neg (s : Int) (d : V2) : turnV s (negV d) = negV (turnV s d) := by unfold turnV negV; split <;> simp
theorem unit_neg {d : V2} (h : Unit4 d) : Unit4 (negV d) := by
  unfold Unit4 negV at *; rcases h with rfl | rfl | rfl | rfl <;> simp
theorem big_inj {s : Int} {p q : V2} (h : big s p = big s q) : p = q := by
  unfold big addV turnV at h
  split at h <;> simp only [Prod.mk.injEq] at h <;> (ext <;> omega)
theorem turn_inj {s : Int} {p q : V2} (h : turnV s p = turnV s q) : p = q := by
  unfold turnV at h
  split at h <;> simp only [Prod.mk.injEq] at h <;> (ext <;> omega)
theorem neg_inj {p q : V2} (h : negV p = negV q) : p = q := by
  unfold negV at h; simp only [Prod.mk.injEq] at h; ext <;> omega

theorem oe_fine {e : V2 × V2} (h : Fine e) : Fine (oe e) ∧ parity (oe e).1 = 0 := by
  unfold oe
  split
  · rename_i h0; exact ⟨h, h0⟩
  · rename_i h0
    refine ⟨unit_neg h, ?_⟩
    have h1 := parity01 e.1
    have h2 := parity_add (p := e.1) h
    simp only
    omega

/-- The two steps that come of one, told from their even ends. -/
def two (s : Int) (e : V2 × V2) : List (V2 × V2) := [(big s e.1, e.2), (big s (addV e.1 e.2), negV (turnV s e.2))]
theorem expand_two {s : Int} {e : V2 × V2} (h : Fine e) : ∀ x, x ∈ (expandE s e).map oe ↔ x ∈ two s (oe e) := by
  intro x
  rcases parity01 e.1 with h0 | h1
  · have a1 : oe (big s e.1, e.2) = (big s e.1, e.2) := by simp [oe, parity_big]
    have a2 : oe (addV (big s e.1) e.2, turnV s e.2) = (big s (addV e.1 e.2), negV (turnV s e.2)) := by
      have : parity (addV (big s e.1) e.2) = 1 := by rw [parity_add h, parity_big]; rfl
      simp [oe, this, big_add]
    have a3 : oe e = e := by simp [oe, h0]
    simp only [expandE, h0, if_true, List.map_cons, List.map_nil, a1, a2, two, a3]
  · have hu : Unit4 (turnV s e.2) := unit_turn h
    have a1 : oe (big s e.1, turnV s e.2) = (big s e.1, turnV s e.2) := by simp [oe, parity_big]
    have a2 : oe (addV (big s e.1) (turnV s e.2), e.2) = (big s (addV e.1 e.2), negV e.2) := by
      have : parity (addV (big s e.1) (turnV s e.2)) = 1 := by rw [parity_add hu, parity_big]; rfl
      simp [oe, this, big_add']
    have a3 : oe e = (addV e.1 e.2, negV e.2) := by simp [oe, h1]
    have a4 : expandE s e = [(big s e.1, turnV s e.2), (addV (big s e.1) (turnV s e.2), e.2)] := by simp [expandE, h1]
    rw [a4]
    simp only [List.map_cons, List.map_nil, a1, a2, two, a3, add_neg, turn_neg, neg_neg', List.mem_cons, List.not_mem_nil, or_false]
    exact Or.comm

theorem two_apart {s : Int} {e f : V2 × V2} (he : Fine e) (hf : Fine f) (pe : parity e.1 = 0) (pf : parity f.1 = 0) (hne : e ≠ f) :
    ∀ x ∈ two s e, ∀ y ∈ two s f, x ≠ y := by
  intro x hx y hy hxy
  subst hxy
  have oe1 : parity (addV e.1 e.2) = 1 := by rw [parity_add he, pe]; rfl
  have of1 : parity (addV f.1 f.2) = 1 := by rw [parity_add hf, pf]; rfl
  simp only [two, List.mem_cons, List.not_mem_nil, or_false] at hx hy
  rcases hx with rfl | rfl <;> rcases hy with hy | hy <;> simp only [Prod.mk.injEq] at hy
  · exact hne (Prod.ext (big_inj hy.1) hy.2)
  · have := big_inj hy.1; rw [this] at pe; omega
  · have := big_inj hy.1; rw [← this] at pf; omega
  · have h1 := big_inj hy.1
    have h2 := turn_inj (neg_inj hy.2)
    apply hne
    refine Prod.ext ?_ h2
    rw [h2] at h1
    unfold addV at h1
    simp only [Prod.mk.injEq] at h1
    ext <;> omega
theorem two_nodup {s : Int} {e : V2 × V2} (he : Fine e) (pe : parity e.1 = 0) : (two s e).Pairwise (· ≠ ·) := by
  have oe1 : parity (addV e.1 e.2) = 1 := by rw [parity_add he, pe]; rfl
  simp only [two, List.pairwise_cons, List.mem_cons, List.not_mem_nil, or_false, forall_eq, ne_eq, Prod.mk.injEq, not_and, List.Pairwise.nil, and_true, false_implies, implies_true]
  intro h1
  have := big_inj h1
  rw [this] at pe
  omega

theorem trail_fine (l : List Int) : ∀ p d : V2, Unit4 d → ∀ e ∈ trail p d l, Fine e := by
  induction l with
  | nil => intro p d hd e he; simp [trail] at he; subst he; exact hd
  | cons k l ih =>
    intro p d hd e he
    simp only [trail, List.mem_cons] at he
    rcases he with rfl | he
    · exact hd
    · exact ih _ _ (unit_turn hd) e he

theorem expand_fine {s : Int} {e : V2 × V2} (h : Fine e) : ∀ x ∈ expandE s e, Fine x := by
  intro x hx
  unfold expandE at hx
  split at hx <;> simp only [List.mem_cons, List.not_mem_nil, or_false] at hx <;> rcases hx with rfl | rfl
  · exact h
  · exact unit_turn h
  · exact unit_turn h
  · exact h
theorem expand_nodup {s : Int} {e : V2 × V2} (h : Fine e) : ((expandE s e).map oe).Pairwise (· ≠ ·) := by
  have h2 := two_nodup (s := s) (oe_fine h).1 (oe_fine h).2
  have hm := expand_two (s := s) h
  have hl : ∃ a b, (expandE s e).map oe = [a, b] := by unfold expandE; split <;> exact ⟨_, _, rfl⟩
  obtain ⟨a, b, hab⟩ := hl
  rw [hab] at hm ⊢
  simp only [List.pairwise_cons, List.mem_cons, List.not_mem_nil, or_false, forall_eq, ne_eq, List.Pairwise.nil, and_true, false_implies, implies_true]
  rintro rfl
  simp only [two, List.mem_cons, List.not_mem_nil, or_false, or_self] at hm
  have m1 := (hm _).2 (.inl rfl)
  have m2 := (hm _).2 (.inr rfl)
  simp only [two, List.pairwise_cons, List.mem_cons, List.not_mem_nil, or_false, forall_eq] at h2
  exact h2.1 (m1.trans m2.symm)

theorem nodup_expand {s : Int} (L : List (V2 × V2)) (hf : ∀ e ∈ L, Fine e) (hn : (L.map oe).Pairwise (· ≠ ·)) : ((L.flatMap (expandE s)).map oe).Pairwise (· ≠ ·) := by
  rw [List.map_flatMap, List.pairwise_flatMap]
  refine ⟨fun e he => expand_nodup (hf e he), ?_⟩
  rw [List.pairwise_map] at hn
  refine hn.imp_of_mem ?_
  intro a b ha hb hne x hx y hy
  have x1 := (expand_two (hf a ha) x).1 hx
  have y1 := (expand_two (hf b hb) y).1 hy
  exact two_apart (oe_fine (hf a ha)).1 (oe_fine (hf b hb)).1 (oe_fine (hf a ha)).2 (oe_fine (hf b hb)).2 hne x x1 y y1

theorem unit10 : Unit4 (1, 0) := .inl rfl
theorem dragon_trail {k : Int} {r : List Int} (hk : k = 1 ∨ k = 2) : trail (0, 0) (1, 0) (dw (k :: r)) = (trail (0, 0) (1, 0) (dw r)).flatMap (expandE k) := by
  have := (trail_weave hk (dw r) (0, 0) (1, 0) unit10).1 (by decide)
  have hb : big k (0, 0) = (0, 0) := by unfold big addV turnV; split <;> rfl
  rw [hb] at this
  exact this
theorem dragon_nodup {r : List Int} (h : Kinded r) : ((trail (0, 0) (1, 0) (dw r)).map oe).Pairwise (· ≠ ·) := by
  induction r with
  | nil => simp [dw, trail]
  | cons k r ih =>
    rw [dragon_trail (h k (by simp))]
    exact nodup_expand _ (trail_fine _ _ _ unit10) (ih fun z hz => h z (by simp [hz]))

/-! How far away. -/
def nrm (p : V2) : Int := p.1 * p.1 + p.2 * p.2
theorem nrm_big (s : Int) (p : V2) : nrm (big s p) = 2 * nrm p := by
  unfold nrm big addV turnV
  split <;> simp only <;> grind
def far2 : Nat → Int
  | 0 => 1 | 1 => 7 | 2 => 23 | 3 => 61 | 4 => 147 | 5 => 331 | 6 => 715 | 7 => 1507 | 8 => 3125 | 9 => 6411 | _ => 13051
def far1 : Nat → Int
  | 0 => 2 | 1 => 4 | 2 => 7 | 3 => 12 | 4 => 18 | 5 => 26 | 6 => 38 | 7 => 55 | 8 => 80 | _ => 114
theorem sq_le {x c : Int} (hc : 0 ≤ c) (h : x * x ≤ c * c) : -c ≤ x ∧ x ≤ c := by
  constructor
  · rcases Int.lt_or_le x (-c) with h1 | h1
    · have h2 : c + 1 ≤ -x := by omega
      have h3 := Int.mul_le_mul h2 h2 (by omega) (by omega)
      have h4 : (-x) * (-x) = x * x := by rw [Int.neg_mul_neg]
      have h5 : (c + 1) * (c + 1) = c * c + 2 * c + 1 := by grind
      omega
    · exact h1
  · rcases Int.lt_or_le c x with h1 | h1
    · have h2 : c + 1 ≤ x := by omega
      have h3 := Int.mul_le_mul h2 h2 (by omega) (by omega)
      have h5 : (c + 1) * (c + 1) = c * c + 2 * c + 1 := by grind
      omega
    · exact h1
theorem far_step {n : Nat} (h : n < 10) : 0 ≤ far1 n ∧ 2 * far2 n ≤ far1 n * far1 n ∧ far2 (n + 1) = 2 * far2 n + 2 * far1 n + 1 := by
  match n, h with
  | 0, _ => decide
  | 1, _ => decide
  | 2, _ => decide
  | 3, _ => decide
  | 4, _ => decide
  | 5, _ => decide
  | 6, _ => decide
  | 7, _ => decide
  | 8, _ => decide
  | 9, _ => decide
theorem nrm_nonneg (p : V2) : 0 ≤ p.1 * p.1 ∧ 0 ≤ p.2 * p.2 := by
  constructor
  · rcases Int.le_total 0 p.1 with h | h
    · exact Int.mul_nonneg h h
    · exact Int.mul_nonneg_of_nonpos_of_nonpos h h
  · rcases Int.le_total 0 p.2 with h | h
    · exact Int.mul_nonneg h h
    · exact Int.mul_nonneg_of_nonpos_of_nonpos h h
theorem nrm_comp {p : V2} {c : Int} (hc : 0 ≤ c) (h : nrm p ≤ c * c) : (-c ≤ p.1 ∧ p.1 ≤ c) ∧ (-c ≤ p.2 ∧ p.2 ≤ c) := by
  have hn := nrm_nonneg p
  unfold nrm at h
  exact ⟨sq_le hc (by omega), sq_le hc (by omega)⟩
theorem nrm_add {p d : V2} {c : Int} (hd : Unit4 d) (h : (-c ≤ p.1 ∧ p.1 ≤ c) ∧ (-c ≤ p.2 ∧ p.2 ≤ c)) : nrm (addV p d) ≤ nrm p + 2 * c + 1 := by
  unfold nrm addV
  rcases hd with rfl | rfl | rfl | rfl <;> simp only
  · have : (p.1 + 1) * (p.1 + 1) + (p.2 + 0) * (p.2 + 0) = p.1 * p.1 + p.2 * p.2 + 2 * p.1 + 1 := by grind
    omega
  · have : (p.1 + -1) * (p.1 + -1) + (p.2 + 0) * (p.2 + 0) = p.1 * p.1 + p.2 * p.2 - 2 * p.1 + 1 := by grind
    omega
  · have : (p.1 + 0) * (p.1 + 0) + (p.2 + 1) * (p.2 + 1) = p.1 * p.1 + p.2 * p.2 + 2 * p.2 + 1 := by grind
    omega
  · have : (p.1 + 0) * (p.1 + 0) + (p.2 + -1) * (p.2 + -1) = p.1 * p.1 + p.2 * p.2 - 2 * p.2 + 1 := by grind
    omega
theorem dragon_far {r : List Int} (h : Kinded r) (hl : r.length ≤ 10) : ∀ e ∈ trail (0, 0) (1, 0) (dw r), nrm e.1 ≤ far2 r.length ∧ nrm (addV e.1 e.2) ≤ far2 r.length := by
  induction r with
  | nil => intro e he; simp [dw, trail] at he; subst he; decide
  | cons k r ih =>
    intro e he
    rw [dragon_trail (h k (by simp)), List.mem_flatMap] at he
    obtain ⟨f, hf, he⟩ := he
    simp only [List.length_cons] at hl ⊢
    obtain ⟨f1, f2⟩ := ih (fun z hz => h z (by simp [hz])) (by omega) f hf
    have hfine : Unit4 f.2 := trail_fine _ _ _ unit10 f hf
    obtain ⟨s1, s2, s3⟩ := far_step (n := r.length) (by omega)
    have g1 : nrm (big k f.1) ≤ far1 r.length * far1 r.length := by rw [nrm_big]; omega
    have g2 : nrm (big k (addV f.1 f.2)) ≤ far1 r.length * far1 r.length := by rw [nrm_big]; omega
    have c1 := nrm_comp s1 g1
    rw [nrm_big] at g1 g2
    have n1 := nrm_big k f.1
    have n2 := nrm_big k (addV f.1 f.2)
    have a1 := nrm_add hfine c1
    have a2 := nrm_add (unit_turn (k := k) hfine) c1
    unfold expandE at he
    split at he <;> simp only [List.mem_cons, List.not_mem_nil, or_false] at he <;> rcases he with rfl | rfl
    · exact ⟨by simp only; omega, by simp only; omega⟩
    · refine ⟨by simp only; omega, ?_⟩
      have e1 : addV (addV (big k f.1) f.2) (turnV k f.2) = big k (addV f.1 f.2) := (big_add k f.1 f.2).symm
      simp only [e1]; omega
    · exact ⟨by simp only; omega, by simp only; omega⟩
    · refine ⟨by simp only; omega, ?_⟩
      have e1 : addV (addV (big k f.1) (turnV k f.2)) f.2 = big k (addV f.1 f.2) := (big_add' k f.1 f.2).symm
      simp only [e1]; omega
theorem far2_le (n : Nat) : far2 n ≤ 13051 := by unfold far2; split <;> decide

/-! The points of the way are where its steps begin, and the end. -/
def fin (p d : V2) : List Int → V2
  | [] => addV p d
  | k :: r => fin (addV p d) (turnV k d) r
theorem fin_weave {s : Int} (hs : s = 1 ∨ s = 2) (l : List Int) : ∀ p d : V2, Unit4 d →
    (parity p = 0 → fin (big s p) d (weave s l) = big s (fin p d l)) ∧ (parity p = 1 → fin (big s p) (turnV s d) (weave (3 - s) l) = big s (fin p d l)) := by
  induction l with
  | nil =>
    intro p d _
    refine ⟨fun _ => ?_, fun _ => ?_⟩
    · simp only [fin, weave, big_add]
    · simp only [fin, weave, turn_back hs, big_add']
  | cons x l ih =>
    intro p d hd
    have h1 := ih (addV p d) (turnV x d) (unit_turn hd)
    rw [parity_add hd] at h1
    refine ⟨fun h => ?_, fun h => ?_⟩
    · simp only [fin, weave]
      rw [turn_comm x s, ← big_add, h1.2 (by omega)]
    · simp only [fin, weave]
      rw [turn_back hs, ← big_add', show (3 : Int) - (3 - s) = s from by omega, h1.1 (by omega)]
theorem dragon_fin {r : List Int} (h : Kinded r) : nrm (fin (0, 0) (1, 0) (dw r)) = 2 ^ r.length := by
  induction r with
  | nil => decide
  | cons k r ih =>
    have := (fin_weave (h k (by simp)) (dw r) (0, 0) (1, 0) unit10).1 (by decide)
    have hb : big k (0, 0) = (0, 0) := by unfold big addV turnV; split <;> rfl
    rw [hb] at this
    simp only [dw, List.length_cons]
    rw [this, nrm_big, ih (fun z hz => h z (by simp [hz])), Int.pow_succ]
    omega
theorem pts_trail (l : List Int) : ∀ p d : V2, p :: addV p d :: pts (addV p d) d l = (trail p d l).map (·.1) ++ [fin p d l] := by
  induction l with
  | nil => intro p d; rfl
  | cons k l ih => intro p d; simp only [trail, fin, pts, List.map_cons, List.cons_append]; rw [← ih]
theorem trail_len (l : List Int) : ∀ p d : V2, (trail p d l).length = l.length + 1 := by
  induction l with
  | nil => intro p d; rfl
  | cons k l ih => intro p d; simp only [trail, List.length_cons, ih]
theorem pathS_eq (r : List Int) : pathS r = (trail (0, 0) (1, 0) (dw r)).map (·.1) ++ [fin (0, 0) (1, 0) (dw r)] := pts_trail (dw r) (0, 0) (1, 0)
theorem trail_next (l : List Int) : ∀ (p d : V2) (i : Nat) (e : V2 × V2), (trail p d l)[i]? = some e → ((trail p d l).map (·.1) ++ [fin p d l])[i + 1]? = some (addV e.1 e.2) := by
  induction l with
  | nil => intro p d i e h; cases i <;> simp [trail] at h; subst h; rfl
  | cons k l ih =>
    intro p d i e h
    cases i with
    | zero => simp [trail] at h; subst h; cases l <;> rfl
    | succ i => simp only [trail, List.getElem?_cons_succ] at h; simpa [trail, fin] using ih _ _ i e h
end Go.Proofs.Ythfhkmgegkhljaa
