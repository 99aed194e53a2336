/- Orders of the sectors around a point: a smallest sector with unlike kinds at its ends may be crimped: what was a good order gives a good order. -/
import Derived.Test.YtcfeejlhhimpjaaPl
namespace Go.Proofs.Ytcfeejlhhimpjaa.Vo
set_option linter.unusedSimpArgs false
set_option linter.unusedVariables false
set_option linter.unusedSectionVars false
set_option linter.unusedVariables false
/-- x lies between a and b -/
def Btw (x a b : Int) : Prop := (a < x ∧ x < b) ∨ (b < x ∧ x < a)
theorem btw_swap {x a b : Int} : Btw x a b ↔ Btw x b a := by unfold Btw; omega
/-- where a crease lies: at the lower ends of its sectors, or at the higher ones -/
def pl {ι : Type} (lo hi : ι → Int) (a : ι) (r : Bool) : Int := if r then lo a else hi a
theorem pl_t {ι : Type} (lo hi : ι → Int) (a : ι) : pl lo hi a true = lo a := rfl
theorem pl_f {ι : Type} (lo hi : ι → Int) (a : ι) : pl lo hi a false = hi a := rfl

/-- a good order around a crimp: s0 = [.., q], s1 = [p, q], s2 = [p, ..], one above the other -/
structure Around {ι : Type} (lo hi h : ι → Int) (T : ι → Prop) (P : ι → ι → Bool → Prop) (s0 s1 s2 : ι) (p q : Int) : Prop where
  pq : p < q
  len : ∀ c, T c → q - p ≤ hi c - lo c
  e0 : hi s0 = q
  e1 : lo s1 = p
  e1' : hi s1 = q
  e2 : lo s2 = p
  l0 : lo s0 ≤ p
  l2 : q ≤ hi s2
  h01 : h s0 < h s1
  h12 : h s1 < h s2
  ne0 : ∀ c, T c → h c ≠ h s0
  ne1 : ∀ c, T c → h c ≠ h s1
  ne2 : ∀ c, T c → h c ≠ h s2
  inj : ∀ c d, T c → T d → h c = h d → c = d
  sym : ∀ a b r, P a b r → P b a r
  end_ : ∀ a b r, P a b r → pl lo hi a r = pl lo hi b r
  mem : ∀ a b r, P a b r → T a ∨ (a = s0 ∧ r = true) ∨ (a = s2 ∧ r = false)
  nn : ∀ a b r, P a b r → h a ≠ h b
  r1 : ∀ a b r, P a b r → ∀ c, T c ∨ c = s0 ∨ c = s1 ∨ c = s2 → lo c < pl lo hi a r → pl lo hi a r < hi c → ¬ Btw (h c) (h a) (h b)
  r1q : ∀ c, T c → lo c < q → q < hi c → ¬ Btw (h c) (h s0) (h s1)
  r1p : ∀ c, T c → lo c < p → p < hi c → ¬ Btw (h c) (h s1) (h s2)
  r2 : ∀ a b a' b' r, P a b r → P a' b' r → pl lo hi a r = pl lo hi a' r → h a ≠ h a' → h a ≠ h b' → h b ≠ h a' → h b ≠ h b' → (Btw (h a') (h a) (h b) ↔ Btw (h b') (h a) (h b))
  r2q : ∀ a b, P a b false → hi a = q → (Btw (h a) (h s0) (h s1) ↔ Btw (h b) (h s0) (h s1))
  r2p : ∀ a b, P a b true → lo a = p → (Btw (h a) (h s1) (h s2) ↔ Btw (h b) (h s1) (h s2))

section necessity
variable {ι : Type} {lo hi h : ι → Int} {T : ι → Prop} {P : ι → ι → Bool → Prop} {s0 s1 s2 : ι} {p q : Int}
/-- below the merged sector? -/
def Dn (lo h : ι → Int) (s0 s1 s2 : ι) (p q : Int) (c : ι) : Prop := h c < h s0 ∨ (h c < h s1 ∧ q ≤ lo c) ∨ (h s1 < h c ∧ h c < h s2 ∧ p ≤ lo c)
/-- the new heights -/
structure New (lo h H : ι → Int) (T : ι → Prop) (s0 s1 s2 : ι) (p q : Int) : Prop where
  m0 : H s0 = h s1
  m2 : H s2 = h s1
  dn : ∀ c, T c → Dn lo h s0 s1 s2 p q c → H c = h c - (h s2 - h s0)
  up : ∀ c, T c → ¬ Dn lo h s0 s1 s2 p q c → H c = h c + (h s2 - h s0)
structure InA (hi h : ι → Int) (T : ι → Prop) (s0 s1 : ι) (q : Int) (c : ι) : Prop where
  t : T c
  a : h s0 < h c
  b : h c < h s1
  e : hi c ≤ q
structure InB (lo h : ι → Int) (T : ι → Prop) (s1 s2 : ι) (p : Int) (c : ι) : Prop where
  t : T c
  a : h s1 < h c
  b : h c < h s2
  e : p ≤ lo c

variable (W : Around lo hi h T P s0 s1 s2 p q)
include W
theorem Around.k1a {c : ι} (hc : T c) (h1 : h s0 < h c) (h2 : h c < h s1) : hi c ≤ q ∨ q ≤ lo c := by
  have := W.r1q c hc
  unfold Btw at this
  omega
theorem Around.k1b {c : ι} (hc : T c) (h1 : h s1 < h c) (h2 : h c < h s2) : hi c ≤ p ∨ p ≤ lo c := by
  have := W.r1p c hc
  unfold Btw at this
  omega
theorem Around.not_s0 {c : ι} (hc : T c) : c ≠ s0 := fun e => W.ne0 c hc (by rw [e])
theorem Around.not_s2 {c : ι} (hc : T c) : c ≠ s2 := fun e => W.ne2 c hc (by rw [e])
theorem Around.k2 {a b : ι} {r : Bool} (hA : InA hi h T s0 s1 q a) (hP : P a b r) (hx : p < pl lo hi a r) : r = false ∧ InA hi h T s0 s1 q b := by
  have hl := W.len a hA.t
  have ha := hA.a
  have hb := hA.b
  have he := hA.e
  have hpq := W.pq
  cases r with
  | true => rw [pl_t] at hx; omega
  | false =>
    have hend := W.end_ _ _ _ hP
    have h12 := W.h12
    have h01 := W.h01
    rw [pl_f] at hx
    simp only [pl_f] at hend
    have key : h s0 < h b ∧ h b < h s1 := by
      have hmb := W.mem _ _ _ (W.sym _ _ _ hP)
      have hb2 : T b ∨ b = s2 := by
        rcases hmb with hb | ⟨_, hb⟩ | ⟨hb, _⟩
        · exact .inl hb
        · cases hb
        · exact .inr hb
      have hbne : h b ≠ h s0 ∧ h b ≠ h s1 := by
        rcases hb2 with hb | rfl
        · exact ⟨W.ne0 b hb, W.ne1 b hb⟩
        · constructor <;> omega
      by_cases hq : hi a = q
      · have := W.r2q a b hP hq
        unfold Btw at this
        omega
      · have c0 := W.r1 a b _ hP s0 (.inr (.inl rfl))
        have c1 := W.r1 a b _ hP s1 (.inr (.inr (.inl rfl)))
        have := W.e0
        have := W.e1
        have := W.e1'
        have := W.l0
        unfold Btw at c0 c1
        simp only [pl_f] at c0 c1
        omega
    refine ⟨rfl, ?_, key.1, key.2, by omega⟩
    rcases W.mem _ _ _ (W.sym _ _ _ hP) with hb | ⟨_, hb⟩ | ⟨hb, _⟩
    · exact hb
    · cases hb
    · rw [hb] at key; omega
theorem Around.k3 {a b : ι} {r : Bool} (hB : InB lo h T s1 s2 p a) (hP : P a b r) (hx : pl lo hi a r < q) : r = true ∧ InB lo h T s1 s2 p b := by
  have hl := W.len a hB.t
  have ha := hB.a
  have hb := hB.b
  have he := hB.e
  have hpq := W.pq
  cases r with
  | false => rw [pl_f] at hx; omega
  | true =>
    have hend := W.end_ _ _ _ hP
    have h12 := W.h12
    have h01 := W.h01
    rw [pl_t] at hx
    simp only [pl_t] at hend
    have key : h s1 < h b ∧ h b < h s2 := by
      have hmb := W.mem _ _ _ (W.sym _ _ _ hP)
      have hb2 : T b ∨ b = s0 := by
        rcases hmb with hb | ⟨hb, _⟩ | ⟨_, hb⟩
        · exact .inl hb
        · exact .inr hb
        · cases hb
      have hbne : h b ≠ h s2 ∧ h b ≠ h s1 := by
        rcases hb2 with hb | rfl
        · exact ⟨W.ne2 b hb, W.ne1 b hb⟩
        · constructor <;> omega
      by_cases hq : lo a = p
      · have := W.r2p a b hP hq
        unfold Btw at this
        omega
      · have c0 := W.r1 a b _ hP s2 (.inr (.inr (.inr rfl)))
        have c1 := W.r1 a b _ hP s1 (.inr (.inr (.inl rfl)))
        have := W.e2
        have := W.e1
        have := W.e1'
        have := W.l2
        unfold Btw at c0 c1
        simp only [pl_t] at c0 c1
        omega
    refine ⟨rfl, ?_, key.1, key.2, by omega⟩
    rcases W.mem _ _ _ (W.sym _ _ _ hP) with hb | ⟨hb, _⟩ | ⟨_, hb⟩
    · exact hb
    · rw [hb] at key; omega
    · cases hb
variable {H : ι → Int} (N : New lo h H T s0 s1 s2 p q)
include N
theorem Around.hA {c : ι} (hA : InA hi h T s0 s1 q c) : H c = h c + (h s2 - h s0) := by
  refine N.up c hA.t fun hd => ?_
  have := hA.a
  have := hA.b
  have := hA.e
  have := W.len c hA.t
  have := W.pq
  unfold Dn at hd
  omega
theorem Around.hB {c : ι} (hB : InB lo h T s1 s2 p c) : H c = h c - (h s2 - h s0) := by
  refine N.dn c hB.t ?_
  have := hB.a
  have := hB.b
  have := hB.e
  unfold Dn
  omega
theorem Around.hT {c : ι} (hc : T c) : (Dn lo h s0 s1 s2 p q c ∧ H c = h c - (h s2 - h s0)) ∨ (¬ Dn lo h s0 s1 s2 p q c ∧ H c = h c + (h s2 - h s0)) := by
  by_cases hd : Dn lo h s0 s1 s2 p q c
  · exact .inl ⟨hd, N.dn c hc hd⟩
  · exact .inr ⟨hd, N.up c hc hd⟩
/-- only what lies in the two folds changes its order -/
theorem Around.k4 {x y : ι} (hx : T x ∨ x = s0 ∨ x = s2) (hy : T y ∨ y = s0 ∨ y = s2) (o1 : lo x < hi y) (o2 : lo y < hi x) (hlt : h x < h y) :
    H x < H y ∨ ((InA hi h T s0 s1 q x ∨ x = s0) ∧ (InB lo h T s1 s2 p y ∨ y = s2)) := by
  have h01 := W.h01
  have h12 := W.h12
  have e0 := W.e0
  have e2 := W.e2
  have hpq := W.pq
  rcases hx with hx | rfl | rfl
  · rcases hy with hy | rfl | rfl
    · have nx0 := W.ne0 x hx
      have nx1 := W.ne1 x hx
      have nx2 := W.ne2 x hx
      have ny0 := W.ne0 y hy
      have ny1 := W.ne1 y hy
      have ny2 := W.ne2 y hy
      rcases W.hT N hx with ⟨d1, v1⟩ | ⟨d1, v1⟩
      · rcases W.hT N hy with ⟨d2, v2⟩ | ⟨d2, v2⟩ <;> (left; omega)
      · rcases W.hT N hy with ⟨d2, v2⟩ | ⟨d2, v2⟩
        · right
          unfold Dn at d1 d2
          have ax : hi x ≤ q ∧ h s0 < h x ∧ h x < h s1 := by
            by_cases h1 : h x < h s1
            · have := W.k1a hx (by omega) h1
              omega
            · have := W.k1b hx (by omega) (by omega)
              omega
          have by_ : p ≤ lo y ∧ h s1 < h y ∧ h y < h s2 := by omega
          exact ⟨.inl ⟨hx, ax.2.1, ax.2.2, ax.1⟩, .inl ⟨hy, by_.2.1, by_.2.2, by_.1⟩⟩
        · left; omega
    · left
      have := N.dn x hx (.inl hlt)
      rw [this, N.m0]
      omega
    · have nx0 := W.ne0 x hx
      have nx1 := W.ne1 x hx
      rcases W.hT N hx with ⟨d1, v1⟩ | ⟨d1, v1⟩
      · left
        rw [v1, N.m2]
        unfold Dn at d1
        omega
      · right
        refine ⟨.inl ?_, .inr rfl⟩
        unfold Dn at d1
        by_cases h1 : h x < h s1
        · have := W.k1a hx (by omega) h1
          exact ⟨hx, by omega, h1, by omega⟩
        · have := W.k1b hx (by omega) (by omega)
          omega
  · rcases hy with hy | rfl | rfl
    · have ny1 := W.ne1 y hy
      rcases W.hT N hy with ⟨d1, v1⟩ | ⟨d1, v1⟩
      · right
        refine ⟨.inr rfl, .inl ?_⟩
        unfold Dn at d1
        have : p ≤ lo y ∧ h s1 < h y ∧ h y < h s2 := by omega
        exact ⟨hy, this.2.1, this.2.2, this.1⟩
      · left
        rw [v1, N.m0]
        omega
    · omega
    · exact .inr ⟨.inr rfl, .inr rfl⟩
  · rcases hy with hy | rfl | rfl
    · left
      have nd : ¬ Dn lo h s0 s1 x p q y := by unfold Dn; omega
      rw [N.up y hy nd, N.m2]
      omega
    · omega
    · omega
theorem Around.memR {a b : ι} {r : Bool} (hP : P a b r) : T a ∨ a = s0 ∨ a = s2 := by
  rcases W.mem _ _ _ hP with h | ⟨h, _⟩ | ⟨h, _⟩
  · exact .inl h
  · exact .inr (.inl h)
  · exact .inr (.inr h)
theorem Around.lenR {a : ι} (ha : T a ∨ a = s0 ∨ a = s2) : lo a < hi a := by
  have := W.pq
  have := W.l0
  have := W.l2
  have := W.e0
  have := W.e2
  rcases ha with h | rfl | rfl
  · have := W.len a h
    omega
  · omega
  · omega
/-- inverted pairs at one crease and beside it: none -/
theorem Around.n3 {a b : ι} {r : Bool} (hP : P a b r) (hlt : h a < h b) : H a < H b := by
  have ha := W.memR N hP
  have hb := W.memR N (W.sym _ _ _ hP)
  have la := W.lenR N ha
  have lb := W.lenR N hb
  have hend := W.end_ _ _ _ hP
  have hpq := W.pq
  have ov : lo a < hi b ∧ lo b < hi a := by cases r <;> simp only [pl_t, pl_f] at hend <;> omega
  rcases W.k4 N ha hb ov.1 ov.2 hlt with h1 | ⟨h1, h2⟩
  · exact h1
  · exfalso
    rcases h1 with h1 | rfl
    · by_cases hx : p < pl lo hi a r
      · have := (W.k2 h1 hP hx).2
        rcases h2 with h2 | rfl
        · have := this.b; have := h2.a; omega
        · exact W.ne2 _ this.t rfl
      · rcases h2 with h2 | rfl
        · have := (W.k3 h2 (W.sym _ _ _ hP) (by omega)).2
          have := this.a; have := h1.b; omega
        · rcases W.mem _ _ _ (W.sym _ _ _ hP) with h3 | ⟨h3, _⟩ | ⟨_, h3⟩
          · exact W.ne2 _ h3 rfl
          · have := W.h01; have := W.h12; rw [h3] at this; omega
          · subst h3
            have := W.l2
            simp only [pl_f] at hx hend
            omega
    · have hr : r = true := by
        rcases W.mem _ _ _ hP with h3 | ⟨_, h3⟩ | ⟨h3, _⟩
        · exact absurd rfl (W.ne0 _ h3)
        · exact h3
        · have := W.h01; have := W.h12; rw [← h3] at this; omega
      subst hr
      rcases h2 with h2 | rfl
      · have := W.l0
        have hx : pl lo hi b true < q := by rw [← hend]; simp only [pl_t]; omega
        have := (W.k3 h2 (W.sym _ _ _ hP) hx).2
        exact W.ne0 _ this.t rfl
      · rcases W.mem _ _ _ (W.sym _ _ _ hP) with h3 | ⟨h3, _⟩ | ⟨_, h3⟩
        · exact W.ne2 _ h3 rfl
        · have := W.h01; have := W.h12; rw [h3] at this; omega
        · cases h3
/-- rule 1 for what is not the merged sector -/
theorem Around.n1 {a b c : ι} {r : Bool} (hP : P a b r) (hc : T c) (x1 : lo c < pl lo hi a r) (x2 : pl lo hi a r < hi c) : ¬ Btw (H c) (H a) (H b) := by
  have ha := W.memR N hP
  have hb := W.memR N (W.sym _ _ _ hP)
  have la := W.lenR N ha
  have lb := W.lenR N hb
  have hend := W.end_ _ _ _ hP
  have hpq := W.pq
  have hold := W.r1 _ _ _ hP c (.inl hc) x1 x2
  have nab := W.nn _ _ _ hP
  have endne : ∀ z, pl lo hi z r = pl lo hi a r → h c = h z → (T z ∨ z = s0 ∨ z = s2) → False := by
    intro z hz e hz3
    rcases hz3 with hz3 | rfl | rfl
    · have := W.inj c z hc hz3 e
      subst this
      cases r <;> simp only [pl_t, pl_f] at hz x1 x2 <;> omega
    · exact W.ne0 c hc e
    · exact W.ne2 c hc e
  have na : h c ≠ h a := fun e => endne a rfl e ha
  have nb : h c ≠ h b := fun e => endne b hend.symm e hb
  have ova : lo c < hi a ∧ lo a < hi c := by cases r <;> simp only [pl_t, pl_f] at hend x1 x2 <;> omega
  have ovb : lo c < hi b ∧ lo b < hi c := by cases r <;> simp only [pl_t, pl_f] at hend x1 x2 <;> omega
  have h01 := W.h01
  have h12 := W.h12
  have c0 : c ≠ s0 := W.not_s0 hc
  have c2 : c ≠ s2 := W.not_s2 hc
  by_cases hA : InA hi h T s0 s1 q c
  · have he := hA.e
    have vc := W.hA N hA
    have cb := hA.b
    have ca := hA.a
    by_cases hB : InB lo h T s1 s2 p a ∨ InB lo h T s1 s2 p b
    · have hB2 : InB lo h T s1 s2 p a ∧ InB lo h T s1 s2 p b := by
        rcases hB with hB | hB
        · exact ⟨hB, (W.k3 hB hP (by omega)).2⟩
        · exact ⟨(W.k3 hB (W.sym _ _ _ hP) (by omega)).2, hB⟩
      have va := W.hB N hB2.1
      have vb := W.hB N hB2.2
      have := hB2.1.b
      have := hB2.2.b
      unfold Btw
      omega
    · have ns2 : ∀ z, pl lo hi z r = pl lo hi a r → (T z ∨ (z = s0 ∧ r = true) ∨ (z = s2 ∧ r = false)) → z ≠ s2 := by
        intro z hz hm e
        subst e
        rcases hm with hm | ⟨hm, _⟩ | ⟨_, hm⟩
        · exact W.ne2 _ hm rfl
        · rw [hm] at h12; omega
        · subst hm
          have := W.l2
          simp only [pl_f] at hz x2
          omega
      have n2a := ns2 a rfl (W.mem _ _ _ hP)
      have n2b := ns2 b hend.symm (W.mem _ _ _ (W.sym _ _ _ hP))
      have hnc : ¬ InB lo h T s1 s2 p c := fun hh => by have := hh.a; omega
      have i1 : h c < h a → H c < H a := fun hlt => by
        rcases W.k4 N (.inl hc) ha ova.1 ova.2 hlt with h1 | ⟨_, h1 | h1⟩
        · exact h1
        · exact absurd (.inl h1) hB
        · exact absurd h1 n2a
      have i2 : h c < h b → H c < H b := fun hlt => by
        rcases W.k4 N (.inl hc) hb ovb.1 ovb.2 hlt with h1 | ⟨_, h1 | h1⟩
        · exact h1
        · exact absurd (.inr h1) hB
        · exact absurd h1 n2b
      have i3 : h a < h c → H a < H c := fun hlt => by
        rcases W.k4 N ha (.inl hc) ova.2 ova.1 hlt with h1 | ⟨_, h1 | h1⟩
        · exact h1
        · exact absurd h1 hnc
        · exact absurd h1 c2
      have i4 : h b < h c → H b < H c := fun hlt => by
        rcases W.k4 N hb (.inl hc) ovb.2 ovb.1 hlt with h1 | ⟨_, h1 | h1⟩
        · exact h1
        · exact absurd h1 hnc
        · exact absurd h1 c2
      unfold Btw at hold ⊢
      omega
  · by_cases hBc : InB lo h T s1 s2 p c
    · have he := hBc.e
      have vc := W.hB N hBc
      have cb := hBc.b
      have ca := hBc.a
      by_cases hA2 : InA hi h T s0 s1 q a ∨ InA hi h T s0 s1 q b
      · have hA3 : InA hi h T s0 s1 q a ∧ InA hi h T s0 s1 q b := by
          rcases hA2 with hA2 | hA2
          · exact ⟨hA2, (W.k2 hA2 hP (by omega)).2⟩
          · exact ⟨(W.k2 hA2 (W.sym _ _ _ hP) (by omega)).2, hA2⟩
        have va := W.hA N hA3.1
        have vb := W.hA N hA3.2
        have := hA3.1.a
        have := hA3.2.a
        unfold Btw
        omega
      · have ns0 : ∀ z, pl lo hi z r = pl lo hi a r → (T z ∨ (z = s0 ∧ r = true) ∨ (z = s2 ∧ r = false)) → z ≠ s0 := by
          intro z hz hm e
          subst e
          rcases hm with hm | ⟨_, hm⟩ | ⟨hm, _⟩
          · exact W.ne0 _ hm rfl
          · subst hm
            have := W.l0
            simp only [pl_t] at hz x1
            omega
          · rw [hm] at h01; omega
        have n2a := ns0 a rfl (W.mem _ _ _ hP)
        have n2b := ns0 b hend.symm (W.mem _ _ _ (W.sym _ _ _ hP))
        have i1 : h c < h a → H c < H a := fun hlt => by
          rcases W.k4 N (.inl hc) ha ova.1 ova.2 hlt with h1 | ⟨h1 | h1, _⟩
          · exact h1
          · exact absurd h1 hA
          · exact absurd h1 c0
        have i2 : h c < h b → H c < H b := fun hlt => by
          rcases W.k4 N (.inl hc) hb ovb.1 ovb.2 hlt with h1 | ⟨h1 | h1, _⟩
          · exact h1
          · exact absurd h1 hA
          · exact absurd h1 c0
        have i3 : h a < h c → H a < H c := fun hlt => by
          rcases W.k4 N ha (.inl hc) ova.2 ova.1 hlt with h1 | ⟨h1 | h1, _⟩
          · exact h1
          · exact absurd (.inl h1) hA2
          · exact absurd h1 n2a
        have i4 : h b < h c → H b < H c := fun hlt => by
          rcases W.k4 N hb (.inl hc) ovb.2 ovb.1 hlt with h1 | ⟨h1 | h1, _⟩
          · exact h1
          · exact absurd (.inr h1) hA2
          · exact absurd h1 n2b
        unfold Btw at hold ⊢
        omega
    · have i1 : h c < h a → H c < H a := fun hlt => by
        rcases W.k4 N (.inl hc) ha ova.1 ova.2 hlt with h1 | ⟨h1 | h1, _⟩
        · exact h1
        · exact absurd h1 hA
        · exact absurd h1 c0
      have i2 : h c < h b → H c < H b := fun hlt => by
        rcases W.k4 N (.inl hc) hb ovb.1 ovb.2 hlt with h1 | ⟨h1 | h1, _⟩
        · exact h1
        · exact absurd h1 hA
        · exact absurd h1 c0
      have i3 : h a < h c → H a < H c := fun hlt => by
        rcases W.k4 N ha (.inl hc) ova.2 ova.1 hlt with h1 | ⟨_, h1 | h1⟩
        · exact h1
        · exact absurd h1 hBc
        · exact absurd h1 c2
      have i4 : h b < h c → H b < H c := fun hlt => by
        rcases W.k4 N hb (.inl hc) ovb.2 ovb.1 hlt with h1 | ⟨_, h1 | h1⟩
        · exact h1
        · exact absurd h1 hBc
        · exact absurd h1 c2
      unfold Btw at hold ⊢
      omega
/-- rule 1 for the merged sector -/
theorem Around.n1m {a b : ι} {r : Bool} (hP : P a b r) (ha : T a) (hb : T b) (x1 : lo s0 < pl lo hi a r) (x2 : pl lo hi a r < hi s2) : ¬ Btw (h s1) (H a) (H b) := by
  have key : ∀ a b, P a b r → T a → T b → lo s0 < pl lo hi a r → pl lo hi a r < hi s2 → ¬ (H a < h s1 ∧ h s1 < H b) := by
    intro a b hP ha hb x1 x2 ⟨o1, o2⟩
    have h01 := W.h01
    have h12 := W.h12
    have e0 := W.e0
    have e2 := W.e2
    have hpq := W.pq
    have na0 := W.ne0 a ha
    have nb0 := W.ne0 b hb
    have na1 := W.ne1 a ha
    have nb1 := W.ne1 b hb
    have na2 := W.ne2 a ha
    have nb2 := W.ne2 b hb
    have hend := W.end_ _ _ _ hP
    have hla := W.len a ha
    have hlb := W.len b hb
    have da : Dn lo h s0 s1 s2 p q a := by
      rcases W.hT N ha with ⟨d, _⟩ | ⟨d, v⟩
      · exact d
      · exfalso
        by_cases h1 : h a < h s0
        · exact d (.inl h1)
        · omega
    have ub : ¬ Dn lo h s0 s1 s2 p q b := by
      rcases W.hT N hb with ⟨d, v⟩ | ⟨d, _⟩
      · exfalso
        unfold Dn at d
        omega
      · exact d
    by_cases hx : pl lo hi a r < q
    · have c0 := W.r1 _ _ _ hP s0 (.inr (.inl rfl)) x1 (by rw [e0]; exact hx)
      unfold Btw at c0
      have hb0 : h s0 < h b := by
        by_cases h1 : h s0 < h b
        · exact h1
        · exact absurd (.inl (by omega)) ub
      have hB : InB lo h T s1 s2 p a := by
        unfold Dn at da
        have : p ≤ lo a ∧ h s1 < h a ∧ h a < h s2 := by
          cases r <;> simp only [pl_t, pl_f] at hx <;> omega
        exact ⟨ha, this.2.1, this.2.2, this.1⟩
      have := (W.k3 hB hP hx).2
      exact ub (.inr (.inr ⟨this.a, this.b, this.e⟩))
    · have c2 := W.r1 _ _ _ hP s2 (.inr (.inr (.inr rfl))) (by omega) x2
      unfold Btw at c2
      have hb2 : h b < h s2 := by
        unfold Dn at da
        omega
      have hA : InA hi h T s0 s1 q b := by
        unfold Dn at ub
        by_cases h1 : h b < h s1
        · have := W.k1a hb (by omega) h1
          exact ⟨hb, by omega, h1, by omega⟩
        · have := W.k1b hb (by omega) (by omega)
          cases r <;> simp only [pl_t, pl_f] at hx hend <;> omega
      have := (W.k2 hA (W.sym _ _ _ hP) (by rw [← hend]; omega)).2
      unfold Dn at da
      have t1 := this.a
      have t2 := this.b
      have t3 := this.e
      have := W.len _ this.t
      omega
  have hend := W.end_ _ _ _ hP
  have k1 := key a b hP ha hb x1 x2
  have k2 := key b a (W.sym _ _ _ hP) hb ha (by rw [← hend]; exact x1) (by rw [← hend]; exact x2)
  unfold Btw
  omega
/-- rule 2, where the first crease lies in the one fold and the second one at the other -/
theorem Around.n2x {a b a' b' : ι} {r : Bool} (hP : P a b r) (hP' : P a' b' r) (hx : pl lo hi a r = pl lo hi a' r) (hA : InA hi h T s0 s1 q a ∨ a = s0) (hB : InB lo h T s1 s2 p a' ∨ a' = s2)
    (n1 : h a ≠ h a') (n2 : h a ≠ h b') (n3 : h b ≠ h a') (n4 : h b ≠ h b') :
    (Btw (H a') (H a) (H b) ↔ Btw (H b') (H a) (H b)) ∧ (Btw (H a) (H a') (H b') ↔ Btw (H b) (H a') (H b')) := by
  have h01 := W.h01
  have h12 := W.h12
  have e0 := W.e0
  have e2 := W.e2
  have hpq := W.pq
  have l0 := W.l0
  have l2 := W.l2
  have hend := W.end_ _ _ _ hP
  have hend' := W.end_ _ _ _ hP'
  by_cases hxp : p < pl lo hi a r
  · have hA1 : InA hi h T s0 s1 q a := by
      rcases hA with hA | rfl
      · exact hA
      · exfalso
        rcases W.mem _ _ _ hP with h3 | ⟨_, h3⟩ | ⟨h3, _⟩
        · exact W.ne0 _ h3 rfl
        · subst h3; simp only [pl_t] at hxp; omega
        · rw [← h3] at h12; omega
    obtain ⟨rfl, hA2⟩ := W.k2 hA1 hP hxp
    simp only [pl_f] at hx hend hend' hxp
    have hxq : hi a' = q := by
      rcases hB with hB | rfl
      · have := hB.e
        have := W.len _ hB.t
        have := hA1.e
        omega
      · have := hA1.e
        omega
    have hr := W.r2q _ _ hP' hxq
    have va := W.hA N hA1
    have vb := W.hA N hA2
    have a1 := hA1.a
    have a2 := hA1.b
    have b1 := hA2.a
    have b2 := hA2.b
    have va' : H a' < h s2 ∧ ¬ Btw (h a') (h s0) (h s1) := by
      rcases hB with hB | rfl
      · have := W.hB N hB
        have := hB.a
        have := hB.b
        unfold Btw
        omega
      · have := N.m2
        unfold Btw
        omega
    have nb' : ¬ Btw (h b') (h s0) (h s1) := fun hh => va'.2 (hr.2 hh)
    have vb' : H b' < h s2 ∨ (H b' = h b' + (h s2 - h s0) ∧ h b' ≠ h s0 ∧ h b' ≠ h s1) := by
      rcases W.mem _ _ _ (W.sym _ _ _ hP') with h3 | ⟨_, h3⟩ | ⟨h3, _⟩
      · rcases W.hT N h3 with ⟨d, v⟩ | ⟨d, v⟩
        · left
          unfold Dn at d
          omega
        · exact .inr ⟨v, W.ne0 _ h3, W.ne1 _ h3⟩
      · cases h3
      · subst h3
        left
        have := N.m2
        omega
    have z1 := va'.1
    unfold Btw at nb' ⊢
    rcases vb' with vb' | ⟨vb', m0, m1⟩ <;> omega
  · have hB1 : InB lo h T s1 s2 p a' := by
      rcases hB with hB | rfl
      · exact hB
      · exfalso
        rcases W.mem _ _ _ hP' with h3 | ⟨h3, _⟩ | ⟨_, h3⟩
        · exact W.ne2 _ h3 rfl
        · rw [h3] at h12; omega
        · subst h3; simp only [pl_f] at hxp hx; omega
    obtain ⟨rfl, hB2⟩ := W.k3 hB1 hP' (by omega)
    simp only [pl_t] at hx hend hend' hxp
    have hxq : lo a = p := by
      have := hB1.e
      omega
    have hr := W.r2p _ _ hP hxq
    have va := W.hB N hB1
    have vb := W.hB N hB2
    have a1 := hB1.a
    have a2 := hB1.b
    have b1 := hB2.a
    have b2 := hB2.b
    have va' : h s0 < H a ∧ ¬ Btw (h a) (h s1) (h s2) := by
      rcases hA with hA | rfl
      · have := W.hA N hA
        have := hA.a
        have := hA.b
        unfold Btw
        omega
      · have := N.m0
        unfold Btw
        omega
    have nb' : ¬ Btw (h b) (h s1) (h s2) := fun hh => va'.2 (hr.2 hh)
    have vb' : h s0 < H b ∨ (H b = h b - (h s2 - h s0) ∧ h b ≠ h s2 ∧ h b ≠ h s1) := by
      rcases W.mem _ _ _ (W.sym _ _ _ hP) with h3 | ⟨h3, _⟩ | ⟨_, h3⟩
      · rcases W.hT N h3 with ⟨d, v⟩ | ⟨d, v⟩
        · exact .inr ⟨v, W.ne2 _ h3, W.ne1 _ h3⟩
        · left
          unfold Dn at d
          have := W.ne0 _ h3
          omega
      · subst h3
        left
        have := N.m0
        omega
      · cases h3
    have z1 := va'.1
    unfold Btw at nb' ⊢
    rcases vb' with vb' | ⟨vb', m0, m1⟩ <;> omega
theorem Around.n2 {a b a' b' : ι} {r : Bool} (hP : P a b r) (hP' : P a' b' r) (hx : pl lo hi a r = pl lo hi a' r)
    (n1 : h a ≠ h a') (n2 : h a ≠ h b') (n3 : h b ≠ h a') (n4 : h b ≠ h b') :
    Btw (H a') (H a) (H b) ↔ Btw (H b') (H a) (H b) := by
  have hPs := W.sym _ _ _ hP
  have hPs' := W.sym _ _ _ hP'
  have hend := W.end_ _ _ _ hP
  have hend' := W.end_ _ _ _ hP'
  have ra := W.memR N hP
  have rb := W.memR N hPs
  have ra' := W.memR N hP'
  have rb' := W.memR N hPs'
  have la := W.lenR N ra
  have lb := W.lenR N rb
  have la' := W.lenR N ra'
  have lb' := W.lenR N rb'
  by_cases hA1 : (InA hi h T s0 s1 q a ∨ a = s0) ∧ (InB lo h T s1 s2 p a' ∨ a' = s2)
  · exact (W.n2x N hP hP' hx hA1.1 hA1.2 n1 n2 n3 n4).1
  by_cases hA2 : (InA hi h T s0 s1 q a ∨ a = s0) ∧ (InB lo h T s1 s2 p b' ∨ b' = s2)
  · exact (W.n2x N hP hPs' (by omega) hA2.1 hA2.2 n2 n1 n4 n3).1.symm
  by_cases hA3 : (InA hi h T s0 s1 q b ∨ b = s0) ∧ (InB lo h T s1 s2 p a' ∨ a' = s2)
  · have := (W.n2x N hPs hP' (by omega) hA3.1 hA3.2 n3 n4 n1 n2).1
    rw [btw_swap (x := H a'), btw_swap (x := H b')]
    exact this
  by_cases hA4 : (InA hi h T s0 s1 q b ∨ b = s0) ∧ (InB lo h T s1 s2 p b' ∨ b' = s2)
  · have := (W.n2x N hPs hPs' (by omega) hA4.1 hA4.2 n4 n3 n2 n1).1
    rw [btw_swap (x := H a'), btw_swap (x := H b')]
    exact this.symm
  by_cases hB1 : (InA hi h T s0 s1 q a' ∨ a' = s0) ∧ (InB lo h T s1 s2 p a ∨ a = s2)
  · exact (W.n2x N hP' hP hx.symm hB1.1 hB1.2 n1.symm n3.symm n2.symm n4.symm).2
  by_cases hB2 : (InA hi h T s0 s1 q b' ∨ b' = s0) ∧ (InB lo h T s1 s2 p a ∨ a = s2)
  · exact (W.n2x N hPs' hP (by omega) hB2.1 hB2.2 n2.symm n4.symm n1.symm n3.symm).2.symm
  by_cases hB3 : (InA hi h T s0 s1 q a' ∨ a' = s0) ∧ (InB lo h T s1 s2 p b ∨ b = s2)
  · have := (W.n2x N hP' hPs (by omega) hB3.1 hB3.2 n3.symm n1.symm n4.symm n2.symm).2
    rw [btw_swap (x := H a'), btw_swap (x := H b')]
    exact this
  by_cases hB4 : (InA hi h T s0 s1 q b' ∨ b' = s0) ∧ (InB lo h T s1 s2 p b ∨ b = s2)
  · have := (W.n2x N hPs' hPs (by omega) hB4.1 hB4.2 n4.symm n2.symm n3.symm n1.symm).2
    rw [btw_swap (x := H a'), btw_swap (x := H b')]
    exact this.symm
  have hold := W.r2 _ _ _ _ _ hP hP' hx n1 n2 n3 n4
  have nab := W.nn _ _ _ hP
  have nab' := W.nn _ _ _ hP'
  have ov : ∀ y z, pl lo hi y r = pl lo hi a r → pl lo hi z r = pl lo hi a r → lo y < hi y → lo z < hi z → lo y < hi z ∧ lo z < hi y := by
    intro y z hy hz ly lz
    cases r <;> simp only [pl_t, pl_f] at hy hz <;> omega
  have o1 := ov a a' rfl hx.symm la la'
  have o2 := ov a b' rfl (by omega) la lb'
  have o3 := ov b a' hend.symm hx.symm lb la'
  have o4 := ov b b' hend.symm (by omega) lb lb'
  have i1 : h a < h a' → H a < H a' := fun hl => (W.k4 N ra ra' o1.1 o1.2 hl).resolve_right hA1
  have i2 : h a < h b' → H a < H b' := fun hl => (W.k4 N ra rb' o2.1 o2.2 hl).resolve_right hA2
  have i3 : h b < h a' → H b < H a' := fun hl => (W.k4 N rb ra' o3.1 o3.2 hl).resolve_right hA3
  have i4 : h b < h b' → H b < H b' := fun hl => (W.k4 N rb rb' o4.1 o4.2 hl).resolve_right hA4
  have j1 : h a' < h a → H a' < H a := fun hl => (W.k4 N ra' ra o1.2 o1.1 hl).resolve_right hB1
  have j2 : h b' < h a → H b' < H a := fun hl => (W.k4 N rb' ra o2.2 o2.1 hl).resolve_right hB2
  have j3 : h a' < h b → H a' < H b := fun hl => (W.k4 N ra' rb o3.2 o3.1 hl).resolve_right hB3
  have j4 : h b' < h b → H b' < H b := fun hl => (W.k4 N rb' rb o4.2 o4.1 hl).resolve_right hB4
  unfold Btw at hold ⊢
  omega
theorem Around.hne {c d : ι} (hc : T c) (hd : T d) (hne : h c ≠ h d) : H c ≠ H d := by
  have h01 := W.h01
  have h12 := W.h12
  have := W.ne0 c hc
  have := W.ne0 d hd
  rcases W.hT N hc with ⟨d1, v1⟩ | ⟨d1, v1⟩ <;> rcases W.hT N hd with ⟨d2, v2⟩ | ⟨d2, v2⟩ <;> unfold Dn at d1 d2 <;> omega
theorem Around.hne1 {c : ι} (hc : T c) : H c ≠ h s1 := by
  have h01 := W.h01
  have h12 := W.h12
  have := W.ne0 c hc
  rcases W.hT N hc with ⟨d1, v1⟩ | ⟨d1, v1⟩ <;> unfold Dn at d1 <;> omega
end necessity
/-- a sector: from u to v, its height, the kind of the crease ahead of it -/
structure Nd where
  u : Int
  v : Int
  h : Int
  k : Int
def Nd.lo (s : Nd) : Int := min s.u s.v
def Nd.hi (s : Nd) : Int := max s.u s.v
def cp (z : Nd) : List Nd → List (Nd × Nd)
  | [] => []
  | s :: T => (z, s) :: cp s T
def lastN (z : Nd) : List Nd → Nd
  | [] => z
  | s :: T => lastN s T
/-- creases: each sector with the one ahead of it, around -/
def cyc : List Nd → List (Nd × Nd)
  | [] => []
  | s :: T => cp (lastN s T) (s :: T)
theorem cp_app (z : Nd) (X Y : List Nd) : cp z (X ++ Y) = cp z X ++ cp (lastN z X) Y := by
  induction X generalizing z with
  | nil => rfl
  | cons s X ih => simp [cp, lastN, ih]
theorem lastN_app (z : Nd) (X Y : List Nd) : lastN z (X ++ Y) = lastN (lastN z X) Y := by
  induction X generalizing z with
  | nil => rfl
  | cons s X ih => simp [lastN, ih]
theorem lastN_ne (z z' : Nd) {X : List Nd} (h : X ≠ []) : lastN z X = lastN z' X := by
  cases X with
  | nil => exact absurd rfl h
  | cons s X => rfl
theorem lastN_mem (z : Nd) {X : List Nd} (h : X ≠ []) : lastN z X ∈ X := by
  induction X generalizing z with
  | nil => exact absurd rfl h
  | cons s X ih =>
    cases X with
    | nil => simp [lastN]
    | cons t X => exact List.mem_cons_of_mem _ (ih s (by simp))
theorem lastN_map (f : Nd → Nd) (z : Nd) (X : List Nd) : lastN (f z) (X.map f) = f (lastN z X) := by
  induction X generalizing z with
  | nil => rfl
  | cons s X ih => exact ih s
theorem cp_map (f : Nd → Nd) (z : Nd) (X : List Nd) : cp (f z) (X.map f) = (cp z X).map fun p => (f p.1, f p.2) := by
  induction X generalizing z with
  | nil => rfl
  | cons s X ih => simp [cp, ih]
theorem cyc_map (f : Nd → Nd) (X : List Nd) : cyc (X.map f) = (cyc X).map fun p => (f p.1, f p.2) := by
  cases X with
  | nil => rfl
  | cons s X =>
    show cp (lastN (f s) (X.map f)) ((s :: X).map f) = _
    rw [lastN_map, cp_map]
    rfl
theorem cyc_eq {X : List Nd} (z : Nd) (h : X ≠ []) : cyc X = cp (lastN z X) X := by
  cases X with
  | nil => exact absurd rfl h
  | cons s X => rfl
theorem cyc_rot {X Y : List Nd} (p : Nd × Nd) : p ∈ cyc (X ++ Y) ↔ p ∈ cyc (Y ++ X) := by
  cases X with
  | nil => simp
  | cons x X =>
    cases Y with
    | nil => simp
    | cons y Y =>
      simp only [cyc, List.cons_append, lastN_app, lastN, cp, cp_app, List.mem_cons, List.mem_append]
      grind
theorem cp_mem {z : Nd} {X : List Nd} {p : Nd × Nd} (h : p ∈ cp z X) : (p.1 = z ∨ p.1 ∈ X) ∧ p.2 ∈ X := by
  induction X generalizing z with
  | nil => cases h
  | cons s X ih =>
    rcases List.mem_cons.1 h with rfl | h
    · exact ⟨.inl rfl, List.mem_cons_self⟩
    · have := ih h
      exact ⟨.inr (by rcases this.1 with e | e; exact e ▸ List.mem_cons_self; exact List.mem_cons_of_mem _ e), List.mem_cons_of_mem _ this.2⟩
theorem cyc_mem {X : List Nd} {p : Nd × Nd} (h : p ∈ cyc X) : p.1 ∈ X ∧ p.2 ∈ X := by
  cases X with
  | nil => cases h
  | cons s X =>
    have := cp_mem h
    refine ⟨?_, this.2⟩
    rcases this.1 with e | e
    · rw [e]
      exact lastN_mem (X := s :: X) s (by simp)
    · exact e
structure Good (N : List Nd) : Prop where
  ne : ∀ s ∈ N, s.u ≠ s.v
  dis : N.Pairwise (fun a b => a.h ≠ b.h)
  link : ∀ p ∈ cyc N, p.1.v = p.2.u ∧ (p.1.u < p.1.v ↔ p.2.v < p.2.u) ∧ ((p.2.u < p.2.v ↔ p.2.h < p.1.h) ↔ p.2.k = 2)
  r1 : ∀ p ∈ cyc N, ∀ c ∈ N, c.lo < p.2.u → p.2.u < c.hi → ¬ Btw c.h p.1.h p.2.h
  r2 : ∀ p ∈ cyc N, ∀ p' ∈ cyc N, p.2.u = p'.2.u → (p.2.u < p.2.v ↔ p'.2.u < p'.2.v) → p.1.h ≠ p'.1.h → p.1.h ≠ p'.2.h → p.2.h ≠ p'.1.h → p.2.h ≠ p'.2.h → (Btw p'.1.h p.1.h p.2.h ↔ Btw p'.2.h p.1.h p.2.h)
theorem Good.rot {X Y : List Nd} (h : Good (X ++ Y)) : Good (Y ++ X) := by
  have hm : ∀ s, s ∈ Y ++ X → s ∈ X ++ Y := fun s hs => by simp at hs ⊢; exact hs.symm
  refine ⟨fun s hs => h.ne s (hm s hs), ?_, fun p hp => h.link p ((cyc_rot p).2 hp), fun p hp c hc => h.r1 p ((cyc_rot p).2 hp) c (hm c hc), fun p hp p' hp' => h.r2 p ((cyc_rot p).2 hp) p' ((cyc_rot p').2 hp')⟩
  have := h.dis
  rw [List.pairwise_append] at this ⊢
  exact ⟨this.2.1, this.1, fun a ha b hb => (this.2.2 b hb a ha).symm⟩
/-- mirrored -/
def mir (s : Nd) : Nd := ⟨-s.u, -s.v, -s.h, s.k⟩
/-- turned over -/
def ovr (s : Nd) : Nd := ⟨s.u, s.v, -s.h, 3 - s.k⟩
theorem Good.inj {N : List Nd} (h : Good N) {s t : Nd} (hs : s ∈ N) (ht : t ∈ N) (e : s.h = t.h) : s = t := by
  have hd := h.dis
  clear h
  induction N with
  | nil => cases hs
  | cons a N ih =>
    rw [List.pairwise_cons] at hd
    rcases List.mem_cons.1 hs with h1 | h1
    · rcases List.mem_cons.1 ht with h2 | h2
      · rw [h1, h2]
      · subst h1
        exact absurd e (hd.1 t h2)
    · rcases List.mem_cons.1 ht with h2 | h2
      · subst h2
        exact absurd e.symm (hd.1 s h1)
      · exact ih h1 h2 hd.2
theorem Good.nn {N : List Nd} (h : Good N) {p : Nd × Nd} (hp : p ∈ cyc N) : p.1.h ≠ p.2.h := by
  intro e
  have := h.inj (cyc_mem hp).1 (cyc_mem hp).2 e
  have hl := (h.link p hp).2.1
  have := h.ne _ (cyc_mem hp).1
  have e1 : p.1.u = p.2.u := by rw [‹p.1 = p.2›]
  have e2 : p.1.v = p.2.v := by rw [‹p.1 = p.2›]
  omega
theorem btw_neg {x a b : Int} : Btw (-x) (-a) (-b) ↔ Btw x a b := by unfold Btw; omega
theorem Good.mir {N : List Nd} (h : Good N) : Good (N.map mir) := by
  refine ⟨?_, ?_, ?_, ?_, ?_⟩
  · intro s hs
    obtain ⟨t, ht, rfl⟩ := List.mem_map.1 hs
    have := h.ne t ht
    simp only [Vo.mir]
    omega
  · rw [List.pairwise_map]
    exact h.dis.imp fun {a b} hab => by simp only [Vo.mir]; omega
  · intro p hp
    rw [cyc_map] at hp
    obtain ⟨q, hq, rfl⟩ := List.mem_map.1 hp
    obtain ⟨a, b, c⟩ := h.link q hq
    have hd := h.ne _ (cyc_mem hq).2
    have hd1 := h.ne _ (cyc_mem hq).1
    have hn := h.nn hq
    simp only [Vo.mir]
    refine ⟨by omega, by omega, ?_⟩
    rw [← c]
    have e1 : -q.2.u < -q.2.v ↔ ¬ (q.2.u < q.2.v) := by omega
    have e2 : -q.2.h < -q.1.h ↔ ¬ (q.2.h < q.1.h) := by omega
    rw [e1, e2]
    by_cases c1 : q.2.u < q.2.v <;> by_cases c2 : q.2.h < q.1.h <;> simp [c1, c2]
  · intro p hp c hc
    rw [cyc_map] at hp
    obtain ⟨q, hq, rfl⟩ := List.mem_map.1 hp
    obtain ⟨d, hd, rfl⟩ := List.mem_map.1 hc
    have := h.r1 q hq d hd
    simp only [Vo.mir, Nd.lo, Nd.hi, btw_neg] at this ⊢
    intro h1 h2
    exact this (by omega) (by omega)
  · intro p hp p' hp'
    rw [cyc_map] at hp hp'
    obtain ⟨q, hq, rfl⟩ := List.mem_map.1 hp
    obtain ⟨q', hq', rfl⟩ := List.mem_map.1 hp'
    have := h.r2 q hq q' hq'
    have n1 := h.ne _ (cyc_mem hq).2
    have n2 := h.ne _ (cyc_mem hq').2
    simp only [Vo.mir, btw_neg] at this ⊢
    intro h1 h2 h3 h4 h5 h6
    exact this (by omega) (by omega) (by omega) (by omega) (by omega) (by omega)
theorem Good.ovr {N : List Nd} (h : Good N) (hk : ∀ s ∈ N, s.k = 1 ∨ s.k = 2) : Good (N.map ovr) := by
  refine ⟨?_, ?_, ?_, ?_, ?_⟩
  · intro s hs
    obtain ⟨t, ht, rfl⟩ := List.mem_map.1 hs
    exact h.ne t ht
  · rw [List.pairwise_map]
    exact h.dis.imp fun {a b} hab => by simp only [Vo.ovr]; omega
  · intro p hp
    rw [cyc_map] at hp
    obtain ⟨q, hq, rfl⟩ := List.mem_map.1 hp
    obtain ⟨a, b, c⟩ := h.link q hq
    have hn := h.nn hq
    have hk2 := hk _ (cyc_mem hq).2
    simp only [Vo.ovr]
    refine ⟨a, b, ?_⟩
    have : 3 - q.2.k = 2 ↔ ¬ (q.2.k = 2) := by omega
    rw [this, ← c]
    have e2 : -q.2.h < -q.1.h ↔ ¬ (q.2.h < q.1.h) := by omega
    rw [e2]
    by_cases c1 : q.2.u < q.2.v <;> by_cases c2 : q.2.h < q.1.h <;> simp [c1, c2]
  · intro p hp c hc
    rw [cyc_map] at hp
    obtain ⟨q, hq, rfl⟩ := List.mem_map.1 hp
    obtain ⟨d, hd, rfl⟩ := List.mem_map.1 hc
    have := h.r1 q hq d hd
    simp only [Vo.ovr, Nd.lo, Nd.hi, btw_neg] at this ⊢
    exact this
  · intro p hp p' hp'
    rw [cyc_map] at hp hp'
    obtain ⟨q, hq, rfl⟩ := List.mem_map.1 hp
    obtain ⟨q', hq', rfl⟩ := List.mem_map.1 hp'
    have := h.r2 q hq q' hq'
    simp only [Vo.ovr, btw_neg] at this ⊢
    intro h1 h2 h3 h4 h5 h6
    exact this h1 h2 (by omega) (by omega) (by omega) (by omega)
theorem cp_cases {z : Nd} {X : List Nd} {p : Nd × Nd} (h : p ∈ cp z X) : (p.1 = z ∧ ∃ Y, X = p.2 :: Y) ∨ p.1 ∈ X := by
  cases X with
  | nil => cases h
  | cons s X =>
    rcases List.mem_cons.1 h with rfl | h
    · exact .inl ⟨rfl, X, rfl⟩
    · rcases (cp_mem h).1 with e | e
      · exact .inr (e ▸ List.mem_cons_self)
      · exact .inr (List.mem_cons_of_mem _ e)

/-! ### one crimp at the front -/
def PP (ps : List (Nd × Nd)) (a b : Nd) (r : Bool) : Prop := ∃ p ∈ ps, r = decide (p.2.u < p.2.v) ∧ ((a = p.1 ∧ b = p.2) ∨ (a = p.2 ∧ b = p.1))
theorem pl_pair {N : List Nd} (h : Good N) {p : Nd × Nd} (hp : p ∈ cyc N) : pl Nd.lo Nd.hi p.1 (decide (p.2.u < p.2.v)) = p.2.u ∧ pl Nd.lo Nd.hi p.2 (decide (p.2.u < p.2.v)) = p.2.u := by
  obtain ⟨a, b, _⟩ := h.link p hp
  have n1 := h.ne _ (cyc_mem hp).1
  have n2 := h.ne _ (cyc_mem hp).2
  by_cases hr : p.2.u < p.2.v
  · simp only [hr, decide_true, pl_t, Nd.lo]
    omega
  · simp only [hr, decide_false, pl_f, Nd.hi]
    omega
theorem cyc_three (s0 s1 s2 t : Nd) (T : List Nd) : cyc (s0 :: s1 :: s2 :: t :: T) = (lastN t T, s0) :: (s0, s1) :: (s1, s2) :: cp s2 (t :: T) := rfl
theorem around {s0 s1 s2 t : Nd} {T : List Nd} (h : Good (s0 :: s1 :: s2 :: t :: T)) (d : s0.u < s0.v) (o1 : s0.h < s1.h) (o2 : s1.h < s2.h)
    (hl : ∀ c ∈ s0 :: s1 :: s2 :: t :: T, s1.u - s1.v ≤ c.hi - c.lo) :
    Around Nd.lo Nd.hi Nd.h (fun c => c ∈ t :: T) (PP ((lastN t T, s0) :: cp s2 (t :: T))) s0 s1 s2 s1.v s1.u := by
  have hc := cyc_three s0 s1 s2 t T
  have m01 : (s0, s1) ∈ cyc (s0 :: s1 :: s2 :: t :: T) := by rw [hc]; simp
  have m12 : (s1, s2) ∈ cyc (s0 :: s1 :: s2 :: t :: T) := by rw [hc]; simp
  have mps : ∀ p ∈ (lastN t T, s0) :: cp s2 (t :: T), p ∈ cyc (s0 :: s1 :: s2 :: t :: T) := by
    intro p hp
    rw [hc]
    simp only [List.mem_cons] at hp ⊢
    rcases hp with hp | hp
    · exact .inl hp
    · exact .inr (.inr (.inr hp))
  obtain ⟨a1, b1, _⟩ := h.link _ m01
  obtain ⟨a2, b2, _⟩ := h.link _ m12
  have ne1 := h.ne s1 (by simp)
  have ne2 := h.ne s2 (by simp)
  have l0 := hl s0 (by simp)
  have l2 := hl s2 (by simp)
  simp only at a1 a2 b1 b2
  have mT : ∀ c, c ∈ t :: T → c ∈ s0 :: s1 :: s2 :: t :: T := fun c hc => by simp only [List.mem_cons] at hc ⊢; exact .inr (.inr (.inr hc))
  have hd := h.dis
  have hd0 := (List.pairwise_cons.1 hd)
  have hd1 := (List.pairwise_cons.1 hd0.2)
  have hd2 := (List.pairwise_cons.1 hd1.2)
  have hmem : ∀ a b r, PP ((lastN t T, s0) :: cp s2 (t :: T)) a b r → a ∈ t :: T ∨ (a = s0 ∧ r = true) ∨ (a = s2 ∧ r = false) := by
    rintro a b r ⟨p, hp, hr, hab⟩
    rcases List.mem_cons.1 hp with rfl | hp
    · rcases hab with ⟨rfl, rfl⟩ | ⟨rfl, rfl⟩
      · exact .inl (lastN_mem (X := t :: T) t (by simp))
      · exact .inr (.inl ⟨rfl, by rw [hr]; simpa using d⟩)
    · have hpc := mps p (List.mem_cons_of_mem _ hp)
      obtain ⟨a3, b3, _⟩ := h.link p hpc
      rcases hab with ⟨rfl, rfl⟩ | ⟨rfl, rfl⟩
      · rcases (cp_mem hp).1 with e | e
        · refine .inr (.inr ⟨e, ?_⟩)
          rw [hr]
          rw [e] at b3
          simp
          omega
        · exact .inl e
      · exact .inl (cp_mem hp).2
  constructor
  case pq => omega
  case len => exact fun c hc => hl c (mT c hc)
  case e0 => simp only [Nd.hi]; omega
  case e1 => simp only [Nd.lo]; omega
  case e1' => simp only [Nd.hi]; omega
  case e2 => simp only [Nd.lo]; omega
  case l0 => simp only [Nd.lo, Nd.hi] at l0 ⊢; omega
  case l2 => simp only [Nd.lo, Nd.hi] at l2 ⊢; omega
  case h01 => exact o1
  case h12 => exact o2
  case ne0 => exact fun c hc => (hd0.1 c (by simp only [List.mem_cons] at hc ⊢; exact .inr (.inr hc))).symm
  case ne1 => exact fun c hc => (hd1.1 c (by simp only [List.mem_cons] at hc ⊢; exact .inr hc)).symm
  case ne2 => exact fun c hc => (hd2.1 c hc).symm
  case inj => exact fun c e hc he hce => h.inj (mT c hc) (mT e he) hce
  case sym =>
    rintro a b r ⟨p, hp, hr, hab⟩
    exact ⟨p, hp, hr, by rcases hab with ⟨h1, h2⟩ | ⟨h1, h2⟩; exact .inr ⟨h2, h1⟩; exact .inl ⟨h2, h1⟩⟩
  case end_ =>
    rintro a b r ⟨p, hp, rfl, hab⟩
    obtain ⟨e1, e2⟩ := pl_pair h (mps p hp)
    rcases hab with ⟨rfl, rfl⟩ | ⟨rfl, rfl⟩ <;> omega
  case mem => exact hmem
  case nn =>
    rintro a b r ⟨p, hp, rfl, hab⟩
    have := h.nn (mps p hp)
    rcases hab with ⟨rfl, rfl⟩ | ⟨rfl, rfl⟩
    · exact this
    · exact this.symm
  case r1 =>
    rintro a b r ⟨p, hp, rfl, hab⟩ c hc x1 x2
    obtain ⟨e1, e2⟩ := pl_pair h (mps p hp)
    have hcm : c ∈ s0 :: s1 :: s2 :: t :: T := by
      rcases hc with hc | rfl | rfl | rfl
      · exact mT c hc
      · simp
      · simp
      · simp
    have := h.r1 p (mps p hp) c hcm
    rcases hab with ⟨rfl, rfl⟩ | ⟨rfl, rfl⟩
    · rw [e1] at x1 x2
      exact this x1 x2
    · rw [e2] at x1 x2
      rw [btw_swap]
      exact this x1 x2
  case r1q => exact fun c hc x1 x2 => h.r1 _ m01 c (mT c hc) x1 x2
  case r1p => exact fun c hc x1 x2 => h.r1 _ m12 c (mT c hc) (by simp only; omega) (by simp only; omega)
  case r2 =>
    rintro a b a' b' r ⟨p, hp, rfl, hab⟩ ⟨p', hp', hr, hab'⟩ hx n1 n2 n3 n4
    obtain ⟨e1, e2⟩ := pl_pair h (mps p hp)
    obtain ⟨e1', e2'⟩ := pl_pair h (mps p' hp')
    have hs : (p.2.u < p.2.v ↔ p'.2.u < p'.2.v) := by simpa using hr
    rw [hr] at hx e1 e2
    have hpl : p.2.u = p'.2.u := by
      rcases hab with ⟨rfl, rfl⟩ | ⟨rfl, rfl⟩ <;> rcases hab' with ⟨rfl, rfl⟩ | ⟨rfl, rfl⟩ <;> omega
    have := h.r2 p (mps p hp) p' (mps p' hp') hpl hs
    rcases hab with ⟨rfl, rfl⟩ | ⟨rfl, rfl⟩ <;> rcases hab' with ⟨rfl, rfl⟩ | ⟨rfl, rfl⟩
    · exact this n1 n2 n3 n4
    · exact (this n2 n1 n4 n3).symm
    · rw [btw_swap, btw_swap (x := p'.2.h)]
      exact this n3 n4 n1 n2
    · rw [btw_swap, btw_swap (x := p'.1.h)]
      exact (this n4 n3 n2 n1).symm
  case r2q =>
    rintro a b ⟨p, hp, hr, hab⟩ hx
    obtain ⟨e1, e2⟩ := pl_pair h (mps p hp)
    have hs : ¬ (p.2.u < p.2.v) := by simpa using hr.symm
    rw [← hr] at e1 e2
    simp only [pl_f] at e1 e2
    have hpl : s1.u = p.2.u := by rcases hab with ⟨rfl, rfl⟩ | ⟨rfl, rfl⟩ <;> omega
    have n : ∀ z, (z = p.1 ∨ z = p.2) → z.h ≠ s0.h ∧ z.h ≠ s1.h := by
      intro z hz
      have : z ∈ t :: T ∨ z = s2 := by
        rcases hz with rfl | rfl
        · rcases hmem p.1 p.2 false ⟨p, hp, hr, .inl ⟨rfl, rfl⟩⟩ with h1 | ⟨_, h1⟩ | ⟨h1, _⟩
          · exact .inl h1
          · cases h1
          · exact .inr h1
        · rcases hmem p.2 p.1 false ⟨p, hp, hr, .inr ⟨rfl, rfl⟩⟩ with h1 | ⟨_, h1⟩ | ⟨h1, _⟩
          · exact .inl h1
          · cases h1
          · exact .inr h1
      rcases this with h1 | rfl
      · exact ⟨(hd0.1 z (by simp only [List.mem_cons] at h1 ⊢; exact .inr (.inr h1))).symm, (hd1.1 z (by simp only [List.mem_cons] at h1 ⊢; exact .inr h1)).symm⟩
      · constructor <;> omega
    have n1 := n _ (.inl rfl)
    have n2 := n _ (.inr rfl)
    have := h.r2 _ m01 p (mps p hp) hpl (by simp only; omega) n1.1.symm n2.1.symm n1.2.symm n2.2.symm
    rcases hab with ⟨rfl, rfl⟩ | ⟨rfl, rfl⟩
    · exact this
    · exact this.symm
  case r2p =>
    rintro a b ⟨p, hp, hr, hab⟩ hx
    obtain ⟨e1, e2⟩ := pl_pair h (mps p hp)
    have hs : p.2.u < p.2.v := by simpa using hr.symm
    rw [← hr] at e1 e2
    simp only [pl_t] at e1 e2
    have hpl : s2.u = p.2.u := by rcases hab with ⟨rfl, rfl⟩ | ⟨rfl, rfl⟩ <;> omega
    have n : ∀ z, (z = p.1 ∨ z = p.2) → z.h ≠ s1.h ∧ z.h ≠ s2.h := by
      intro z hz
      have : z ∈ t :: T ∨ z = s0 := by
        rcases hz with rfl | rfl
        · rcases hmem p.1 p.2 true ⟨p, hp, hr, .inl ⟨rfl, rfl⟩⟩ with h1 | ⟨h1, _⟩ | ⟨_, h1⟩
          · exact .inl h1
          · exact .inr h1
          · cases h1
        · rcases hmem p.2 p.1 true ⟨p, hp, hr, .inr ⟨rfl, rfl⟩⟩ with h1 | ⟨h1, _⟩ | ⟨_, h1⟩
          · exact .inl h1
          · exact .inr h1
          · cases h1
      rcases this with h1 | rfl
      · exact ⟨(hd1.1 z (by simp only [List.mem_cons] at h1 ⊢; exact .inr h1)).symm, (hd2.1 z h1).symm⟩
      · constructor <;> omega
    have n1 := n _ (.inl rfl)
    have n2 := n _ (.inr rfl)
    have := h.r2 _ m12 p (mps p hp) hpl (by simp only; omega) n1.1.symm n2.1.symm n1.2.symm n2.2.symm
    rcases hab with ⟨rfl, rfl⟩ | ⟨rfl, rfl⟩
    · exact this
    · exact this.symm
/-! ### one crimp at the front: what comes of it is good -/
def ky (c : Nd) : Int × Int × Int := (c.u, c.v, c.k)
def ang (c : Nd) : Int × Int := (c.hi - c.lo, c.k)
open Classical in
noncomputable def newH (s0 s1 s2 c : Nd) : Int :=
  if c = s0 ∨ c = s2 then s1.h else if Dn Nd.lo Nd.h s0 s1 s2 s1.v s1.u c then c.h - (s2.h - s0.h) else c.h + (s2.h - s0.h)
open Classical in
noncomputable def newN (s0 s1 s2 c : Nd) : Nd :=
  if c = s0 ∨ c = s2 then ⟨s0.u, s2.v, s1.h, s0.k⟩ else ⟨c.u, c.v, newH s0 s1 s2 c, c.k⟩
theorem newN_h (s0 s1 s2 c : Nd) : (newN s0 s1 s2 c).h = newH s0 s1 s2 c := by
  unfold newN newH
  split <;> rfl
theorem newN_m (s0 s1 s2 : Nd) : newN s0 s1 s2 s0 = ⟨s0.u, s2.v, s1.h, s0.k⟩ ∧ newN s0 s1 s2 s2 = ⟨s0.u, s2.v, s1.h, s0.k⟩ := by
  constructor
  · unfold newN; rw [if_pos (.inl rfl)]
  · unfold newN; rw [if_pos (.inr rfl)]
theorem newN_t {s0 s1 s2 c : Nd} (h0 : c ≠ s0) (h2 : c ≠ s2) : newN s0 s1 s2 c = ⟨c.u, c.v, newH s0 s1 s2 c, c.k⟩ := by
  unfold newN
  rw [if_neg (by simp [h0, h2])]
theorem crimp_up {s0 s1 s2 t : Nd} {T : List Nd} (h : Good (s0 :: s1 :: s2 :: t :: T)) (d : s0.u < s0.v) (o1 : s0.h < s1.h) (o2 : s1.h < s2.h)
    (hl : ∀ c ∈ s0 :: s1 :: s2 :: t :: T, s1.u - s1.v ≤ c.hi - c.lo) :
    ∃ M T', Good (M :: T') ∧ ky M = (s0.u, s2.v, s0.k) ∧ T'.map ky = (t :: T).map ky := by
  have W := around h d o1 o2 hl
  have hN : New Nd.lo Nd.h (newH s0 s1 s2) (fun c => c ∈ t :: T) s0 s1 s2 s1.v s1.u := by
    refine ⟨?_, ?_, ?_, ?_⟩
    · unfold newH; rw [if_pos (.inl rfl)]
    · unfold newH; rw [if_pos (.inr rfl)]
    · intro c hc hd
      unfold newH
      rw [if_neg (by simp [W.not_s0 hc, W.not_s2 hc]), if_pos hd]
    · intro c hc hd
      unfold newH
      rw [if_neg (by simp [W.not_s0 hc, W.not_s2 hc]), if_neg hd]
  have hc3 := cyc_three s0 s1 s2 t T
  have m01 : (s0, s1) ∈ cyc (s0 :: s1 :: s2 :: t :: T) := by rw [hc3]; simp
  have m12 : (s1, s2) ∈ cyc (s0 :: s1 :: s2 :: t :: T) := by rw [hc3]; simp
  obtain ⟨a1, b1, _⟩ := h.link _ m01
  obtain ⟨a2, b2, _⟩ := h.link _ m12
  have ne1 := h.ne s1 (by simp)
  have ne2 := h.ne s2 (by simp)
  have l0 := hl s0 (by simp)
  have l2 := hl s2 (by simp)
  simp only at a1 a2 b1 b2
  simp only [Nd.lo, Nd.hi] at l0 l2
  have hT : (t :: T).map (newN s0 s1 s2) = (t :: T).map (fun c => (⟨c.u, c.v, newH s0 s1 s2 c, c.k⟩ : Nd)) := by
    apply List.map_congr_left
    intro c hc
    exact newN_t (W.not_s0 hc) (W.not_s2 hc)
  have hcyc : cyc (newN s0 s1 s2 s0 :: (t :: T).map (newN s0 s1 s2)) = ((lastN t T, s0) :: cp s2 (t :: T)).map fun p => (newN s0 s1 s2 p.1, newN s0 s1 s2 p.2) := by
    have e0 : newN s0 s1 s2 s0 = newN s0 s1 s2 s2 := (newN_m s0 s1 s2).1.trans (newN_m s0 s1 s2).2.symm
    show (lastN (newN s0 s1 s2 t) (T.map (newN s0 s1 s2)), newN s0 s1 s2 s0) :: cp (newN s0 s1 s2 s0) ((t :: T).map (newN s0 s1 s2)) = (newN s0 s1 s2 (lastN t T), newN s0 s1 s2 s0) :: (cp s2 (t :: T)).map _
    rw [lastN_map, ← cp_map, ← e0]
  have mps : ∀ p ∈ (lastN t T, s0) :: cp s2 (t :: T), p ∈ cyc (s0 :: s1 :: s2 :: t :: T) := by
    intro p hp
    rw [hc3]
    simp only [List.mem_cons] at hp ⊢
    rcases hp with hp | hp
    · exact .inl hp
    · exact .inr (.inr (.inr hp))
  have mT : ∀ c, c ∈ t :: T → c ∈ s0 :: s1 :: s2 :: t :: T := fun c hc => by simp only [List.mem_cons] at hc ⊢; exact .inr (.inr (.inr hc))
  have hp1 : ∀ p ∈ (lastN t T, s0) :: cp s2 (t :: T), p.1 ∈ t :: T ∨ p.1 = s2 := by
    intro p hp
    rcases List.mem_cons.1 hp with rfl | hp
    · exact .inl (lastN_mem (X := t :: T) t (by simp))
    · exact ((cp_mem hp).1).symm
  have hp2 : ∀ p ∈ (lastN t T, s0) :: cp s2 (t :: T), p.2 ∈ t :: T ∨ p.2 = s0 := by
    intro p hp
    rcases List.mem_cons.1 hp with rfl | hp
    · exact .inr rfl
    · exact .inl (cp_mem hp).2
  have g1 : ∀ p ∈ (lastN t T, s0) :: cp s2 (t :: T), (newN s0 s1 s2 p.1).v = p.1.v ∧ ((newN s0 s1 s2 p.1).u < (newN s0 s1 s2 p.1).v ↔ p.1.u < p.1.v) := by
    intro p hp
    rcases hp1 p hp with h1 | h1
    · rw [newN_t (W.not_s0 h1) (W.not_s2 h1)]
      exact ⟨rfl, Iff.rfl⟩
    · rw [h1, (newN_m s0 s1 s2).2]
      refine ⟨rfl, ?_⟩
      simp only
      omega
  have g2 : ∀ p ∈ (lastN t T, s0) :: cp s2 (t :: T), (newN s0 s1 s2 p.2).u = p.2.u ∧ ((newN s0 s1 s2 p.2).u < (newN s0 s1 s2 p.2).v ↔ p.2.u < p.2.v) ∧ ((newN s0 s1 s2 p.2).v < (newN s0 s1 s2 p.2).u ↔ p.2.v < p.2.u) ∧ (newN s0 s1 s2 p.2).k = p.2.k := by
    intro p hp
    rcases hp2 p hp with h1 | h1
    · rw [newN_t (W.not_s0 h1) (W.not_s2 h1)]
      exact ⟨rfl, Iff.rfl, Iff.rfl, rfl⟩
    · rw [h1, (newN_m s0 s1 s2).1]
      refine ⟨rfl, ?_, ?_, rfl⟩ <;> simp only <;> omega
  have hPP : ∀ p ∈ (lastN t T, s0) :: cp s2 (t :: T), PP ((lastN t T, s0) :: cp s2 (t :: T)) p.1 p.2 (decide (p.2.u < p.2.v)) := fun p hp => ⟨p, hp, rfl, .inl ⟨rfl, rfl⟩⟩
  have hkey : (newN s0 s1 s2 s0 :: (t :: T).map (newN s0 s1 s2)).Pairwise (fun a b => a.h ≠ b.h) := by
    rw [List.pairwise_cons, List.pairwise_map]
    refine ⟨?_, ?_⟩
    · intro c hc
      obtain ⟨e, he, rfl⟩ := List.mem_map.1 hc
      rw [newN_h, newN_h, hN.m0]
      exact (W.hne1 hN he).symm
    · have hd := h.dis
      have hd2 := ((List.pairwise_cons.1 ((List.pairwise_cons.1 ((List.pairwise_cons.1 hd).2)).2)).2)
      refine hd2.imp_of_mem fun {a b} ha hb hab => ?_
      rw [newN_h, newN_h]
      exact W.hne hN ha hb hab
  refine ⟨newN s0 s1 s2 s0, (t :: T).map (newN s0 s1 s2), ⟨?_, hkey, ?_, ?_, ?_⟩, ?_, ?_⟩
  · intro s hs
    rcases List.mem_cons.1 hs with rfl | hs
    · rw [(newN_m s0 s1 s2).1]
      simp only
      omega
    · rw [hT] at hs
      obtain ⟨e, he, rfl⟩ := List.mem_map.1 hs
      exact h.ne e (mT e he)
  · intro p hp
    rw [hcyc] at hp
    obtain ⟨x, hx, rfl⟩ := List.mem_map.1 hp
    obtain ⟨e1, e2, e3⟩ := h.link x (mps x hx)
    obtain ⟨f1, f2⟩ := g1 x hx
    obtain ⟨f3, f4, f5, f6⟩ := g2 x hx
    simp only [newN_h, f6]
    refine ⟨by omega, by omega, ?_⟩
    rw [← e3, f4]
    have hn := h.nn (mps x hx)
    have i1 := W.n3 hN (hPP x hx)
    have i2 := W.n3 hN (W.sym _ _ _ (hPP x hx))
    have : newH s0 s1 s2 x.2 < newH s0 s1 s2 x.1 ↔ x.2.h < x.1.h := by
      constructor
      · intro hh
        by_cases hlt : x.1.h < x.2.h
        · have := i1 hlt; omega
        · omega
      · exact i2
    rw [this]
  · intro p hp c hc x1 x2
    rw [hcyc] at hp
    obtain ⟨x, hx, rfl⟩ := List.mem_map.1 hp
    obtain ⟨f3, f4, f5, f6⟩ := g2 x hx
    obtain ⟨e1, e2⟩ := pl_pair h (mps x hx)
    simp only [newN_h, f3] at x1 x2 ⊢
    rcases List.mem_cons.1 hc with rfl | hc
    · rw [(newN_m s0 s1 s2).1] at x1 x2 ⊢
      simp only [Nd.lo, Nd.hi] at x1 x2
      have ha : x.1 ∈ t :: T := by
        rcases hp1 x hx with h1 | h1
        · exact h1
        · obtain ⟨z1, _, _⟩ := h.link x (mps x hx)
          rw [h1] at z1
          omega
      have hb : x.2 ∈ t :: T := by
        rcases hp2 x hx with h1 | h1
        · exact h1
        · rw [h1] at x1
          omega
      refine W.n1m hN (hPP x hx) ha hb ?_ ?_
      · rw [e1]; simp only [Nd.lo]; omega
      · rw [e1]; simp only [Nd.hi]; omega
    · obtain ⟨e, he, rfl⟩ := List.mem_map.1 hc
      rw [newN_h]
      rw [newN_t (W.not_s0 he) (W.not_s2 he)] at x1 x2
      simp only [Nd.lo, Nd.hi] at x1 x2
      exact W.n1 hN (hPP x hx) he (by rw [e1]; exact x1) (by rw [e1]; exact x2)
  · intro p hp p' hp' hu hs n1 n2 n3 n4
    rw [hcyc] at hp hp'
    obtain ⟨x, hx, rfl⟩ := List.mem_map.1 hp
    obtain ⟨y, hy, rfl⟩ := List.mem_map.1 hp'
    obtain ⟨f3, f4, f5, f6⟩ := g2 x hx
    obtain ⟨f3', f4', f5', f6'⟩ := g2 y hy
    obtain ⟨e1, e2⟩ := pl_pair h (mps x hx)
    obtain ⟨e1', e2'⟩ := pl_pair h (mps y hy)
    have hs := (f4.symm.trans hs).trans f4'
    simp only [newN_h, f3, f3'] at hu n1 n2 n3 n4 ⊢
    have hr : decide (x.2.u < x.2.v) = decide (y.2.u < y.2.v) := by simpa using hs
    have hy2 := hPP y hy
    rw [← hr] at hy2 e1' e2'
    have ne : ∀ a b : Nd, newH s0 s1 s2 a ≠ newH s0 s1 s2 b → (a ∈ s0 :: s1 :: s2 :: t :: T) → (b ∈ s0 :: s1 :: s2 :: t :: T) → a.h ≠ b.h := fun a b hab ha hb e => hab (by rw [h.inj ha hb e])
    have mx := cyc_mem (mps x hx)
    have my := cyc_mem (mps y hy)
    exact W.n2 hN (hPP x hx) hy2 (by rw [e1, e1', hu]) (ne _ _ n1 mx.1 my.1) (ne _ _ n2 mx.1 my.2) (ne _ _ n3 mx.2 my.1) (ne _ _ n4 mx.2 my.2)
  · rw [(newN_m s0 s1 s2).1]
    rfl
  · rw [hT, List.map_map]
    rfl
theorem ang_of_ky {c d : Nd} (h : ky c = ky d) : ang c = ang d := by
  unfold ky at h
  unfold ang Nd.lo Nd.hi
  simp only [Prod.mk.injEq] at h
  rw [h.1, h.2.1, h.2.2]
theorem ang_ky {A B : List Nd} (h : A.map ky = B.map ky) : A.map ang = B.map ang := by
  induction A generalizing B with
  | nil => cases B with
    | nil => rfl
    | cons b B => simp at h
  | cons a A ih => cases B with
    | nil => simp at h
    | cons b B =>
      simp only [List.map_cons, List.cons.injEq] at h ⊢
      exact ⟨ang_of_ky h.1, ih h.2⟩
theorem ang_mir (N : List Nd) : (N.map mir).map ang = N.map ang := by
  rw [List.map_map]
  apply List.map_congr_left
  intro c _
  simp only [Function.comp, ang, mir, Nd.lo, Nd.hi, Prod.mk.injEq, and_true]
  omega
theorem ang_ovr (N : List Nd) : (N.map ovr).map ang = (N.map ang).map fun p => (p.1, 3 - p.2) := by
  rw [List.map_map, List.map_map]
  apply List.map_congr_left
  intro c _
  rfl
theorem kinds_ang {N N' : List Nd} (h : N.map ang = N'.map ang) (hk : ∀ s ∈ N, s.k = 1 ∨ s.k = 2) : ∀ s ∈ N', s.k = 1 ∨ s.k = 2 := by
  intro s hs
  have : ang s ∈ N.map ang := by rw [h]; exact List.mem_map_of_mem hs
  obtain ⟨c, hc, e⟩ := List.mem_map.1 this
  have : c.k = s.k := congrArg Prod.snd e
  rw [← this]
  exact hk c hc
theorem crimp_right {s0 s1 s2 t : Nd} {T : List Nd} (h : Good (s0 :: s1 :: s2 :: t :: T)) (hk : ∀ s ∈ s0 :: s1 :: s2 :: t :: T, s.k = 1 ∨ s.k = 2) (d : s0.u < s0.v) (hne : s1.k ≠ s2.k)
    (hl : ∀ c ∈ s0 :: s1 :: s2 :: t :: T, s1.hi - s1.lo ≤ c.hi - c.lo) :
    ∃ N', Good N' ∧ N'.map ang = (s0.hi - s0.lo + (s2.hi - s2.lo) - (s1.hi - s1.lo), s0.k) :: (t :: T).map ang := by
  have main : ∀ (s0 s1 s2 t : Nd) (T : List Nd), Good (s0 :: s1 :: s2 :: t :: T) → s0.u < s0.v → s1.k = 2 → s2.k ≠ 2 → (∀ c ∈ s0 :: s1 :: s2 :: t :: T, s1.hi - s1.lo ≤ c.hi - c.lo) →
      ∃ N', Good N' ∧ N'.map ang = (s0.hi - s0.lo + (s2.hi - s2.lo) - (s1.hi - s1.lo), s0.k) :: (t :: T).map ang := by
    intro s0 s1 s2 t T h d k1 k2 hl
    have hc3 := cyc_three s0 s1 s2 t T
    have m01 : (s0, s1) ∈ cyc (s0 :: s1 :: s2 :: t :: T) := by rw [hc3]; simp
    have m12 : (s1, s2) ∈ cyc (s0 :: s1 :: s2 :: t :: T) := by rw [hc3]; simp
    obtain ⟨a1, b1, c1⟩ := h.link _ m01
    obtain ⟨a2, b2, c2⟩ := h.link _ m12
    have ne1 := h.ne s1 (by simp)
    have ne2 := h.ne s2 (by simp)
    have l2 := hl s2 (by simp)
    have l0 := hl s0 (by simp)
    have n1 := h.nn m01
    have n2 := h.nn m12
    simp only at a1 a2 b1 b2 c1 c2 n1 n2
    have o1 : s0.h < s1.h := by
      have := c1.2 k1
      omega
    have o2 : s1.h < s2.h := by
      by_cases hh : s1.h < s2.h
      · exact hh
      · exact absurd (c2.1 (by omega)) k2
    have he : s1.hi - s1.lo = s1.u - s1.v := by simp only [Nd.hi, Nd.lo]; omega
    obtain ⟨M, T', hG, hM, hT'⟩ := crimp_up h d o1 o2 (by rw [← he]; exact hl)
    refine ⟨M :: T', hG, ?_⟩
    rw [List.map_cons, ang_ky hT']
    congr 1
    unfold ky at hM
    simp only [Prod.mk.injEq] at hM
    unfold ang
    rw [hM.2.2]
    congr 1
    simp only [Nd.hi, Nd.lo] at l0 l2 ⊢
    omega
  have hk1 := hk s1 (by simp)
  have hk2 := hk s2 (by simp)
  rcases hk1 with k1 | k1
  · have hG := h.ovr hk
    obtain ⟨N', hN, e⟩ := main (ovr s0) (ovr s1) (ovr s2) (ovr t) (T.map ovr) hG d (by simp only [ovr]; omega) (by simp only [ovr]; omega) (by
      intro c hc
      have : c ∈ (s0 :: s1 :: s2 :: t :: T).map ovr := hc
      obtain ⟨c', hc', rfl⟩ := List.mem_map.1 this
      exact hl c' hc')
    have hkN : ∀ s ∈ N', s.k = 1 ∨ s.k = 2 := by
      intro s hs
      have : ang s ∈ N'.map ang := List.mem_map_of_mem hs
      rw [e] at this
      rcases List.mem_cons.1 this with h1 | h1
      · have h2 : s.k = 3 - s0.k := congrArg Prod.snd h1
        have := hk s0 (by simp)
        omega
      · have : ang s ∈ ((t :: T).map ovr).map ang := h1
        rw [ang_ovr] at this
        obtain ⟨p, hp, e1⟩ := List.mem_map.1 this
        obtain ⟨c, hc, rfl⟩ := List.mem_map.1 hp
        have h2 : 3 - c.k = s.k := congrArg Prod.snd e1
        have := hk c (by simp only [List.mem_cons] at hc ⊢; exact .inr (.inr (.inr hc)))
        omega
    refine ⟨N'.map ovr, hN.ovr hkN, ?_⟩
    rw [ang_ovr, e, List.map_cons]
    have e2 : (ovr t :: T.map ovr).map ang = ((t :: T).map ang).map fun p => (p.1, 3 - p.2) := ang_ovr (t :: T)
    rw [e2, List.map_map]
    congr 1
    · simp only [ovr, Nd.hi, Nd.lo, Prod.mk.injEq, true_and]
      omega
    · conv => rhs; rw [← List.map_id ((t :: T).map ang)]
      apply List.map_congr_left
      intro p _
      simp only [Function.comp, id]
      have : 3 - (3 - p.2) = p.2 := by omega
      rw [this]
  · exact main s0 s1 s2 t T h d k1 (by omega) hl
/-- NECESSITY: a smallest sector with unlike kinds at its ends is crimped. -/
theorem crimp_good {s0 s1 s2 t : Nd} {T : List Nd} (h : Good (s0 :: s1 :: s2 :: t :: T)) (hk : ∀ s ∈ s0 :: s1 :: s2 :: t :: T, s.k = 1 ∨ s.k = 2) (hne : s1.k ≠ s2.k)
    (hl : ∀ c ∈ s0 :: s1 :: s2 :: t :: T, s1.hi - s1.lo ≤ c.hi - c.lo) :
    ∃ N', Good N' ∧ N'.map ang = (s0.hi - s0.lo + (s2.hi - s2.lo) - (s1.hi - s1.lo), s0.k) :: (t :: T).map ang := by
  by_cases d : s0.u < s0.v
  · exact crimp_right h hk d hne hl
  · have hd := h.ne s0 (by simp)
    have hm : ∀ c : Nd, (mir c).hi - (mir c).lo = c.hi - c.lo := fun c => by simp only [mir, Nd.hi, Nd.lo]; omega
    obtain ⟨N', hN, e⟩ := crimp_right (s0 := mir s0) (s1 := mir s1) (s2 := mir s2) (t := mir t) (T := T.map mir) h.mir (by
      intro c hc
      have : c ∈ (s0 :: s1 :: s2 :: t :: T).map mir := hc
      obtain ⟨c', hc', rfl⟩ := List.mem_map.1 this
      exact hk c' hc') (by simp only [mir]; omega) hne (by
      intro c hc
      have : c ∈ (s0 :: s1 :: s2 :: t :: T).map mir := hc
      obtain ⟨c', hc', rfl⟩ := List.mem_map.1 this
      rw [hm, hm]
      exact hl c' hc')
    refine ⟨N', hN, ?_⟩
    rw [e, hm, hm, hm]
    congr 1
    exact ang_mir (t :: T)
end Go.Proofs.Ytcfeejlhhimpjaa.Vo
