/- Orders of the sectors around a point: they are there just where crimps go through. -/
import Derived.Test.YtcfeejlhhimpjaaPo1
namespace Go.Proofs.Ytcfeejlhhimpjaa.Vo
set_option linter.unusedSimpArgs false
set_option linter.unusedVariables false
set_option linter.unusedSectionVars false
set_option linter.unusedVariables false
/-! ### one crimp at the front, the other way: three neighbours in place of one -/
def tr (c : Nd) : Nd := ⟨c.u, c.v, 3 * c.h, c.k⟩
def m0 (M : Nd) (a0 : Int) : Nd := ⟨M.u, M.u + a0, 3 * M.h - 1, M.k⟩
def m1 (M : Nd) (a0 a1 : Int) : Nd := ⟨M.u + a0, M.u + a0 - a1, 3 * M.h, 2⟩
def m2 (M : Nd) (a0 a1 : Int) : Nd := ⟨M.u + a0 - a1, M.v, 3 * M.h + 1, 1⟩
theorem crimp_down {M t : Nd} {T : List Nd} {a0 a1 a2 : Int} (h : Good (M :: t :: T)) (d : M.u < M.v) (ha : M.v - M.u = a0 + a2 - a1) (h1 : 0 < a1) (h2 : a1 ≤ a0) (h3 : a1 ≤ a2) :
    Good (m0 M a0 :: m1 M a0 a1 :: m2 M a0 a1 :: (t :: T).map tr) := by
  have hold : cyc (M :: t :: T) = (lastN t T, M) :: (M, t) :: cp t T := rfl
  have hnew : cyc (m0 M a0 :: m1 M a0 a1 :: m2 M a0 a1 :: (t :: T).map tr) = (tr (lastN t T), m0 M a0) :: (m0 M a0, m1 M a0 a1) :: (m1 M a0 a1, m2 M a0 a1) :: (m2 M a0 a1, tr t) :: (cp t T).map (fun p => (tr p.1, tr p.2)) := by
    rw [← cp_map, ← lastN_map tr t T]
    rfl
  have hMd := (List.pairwise_cons.1 h.dis)
  -- an old crease and what became of it
  have hcr : ∀ p ∈ cyc (m0 M a0 :: m1 M a0 a1 :: m2 M a0 a1 :: (t :: T).map tr), p = (m0 M a0, m1 M a0 a1) ∨ p = (m1 M a0 a1, m2 M a0 a1) ∨
      ∃ x ∈ cyc (M :: t :: T), ((x.1 ∈ t :: T ∧ p.1 = tr x.1) ∨ (x.1 = M ∧ p.1 = m2 M a0 a1)) ∧ ((x.2 ∈ t :: T ∧ p.2 = tr x.2) ∨ (x.2 = M ∧ p.2 = m0 M a0)) := by
    intro p hp
    rw [hnew] at hp
    simp only [List.mem_cons] at hp
    rcases hp with rfl | rfl | rfl | rfl | hp
    · exact .inr (.inr ⟨(lastN t T, M), by rw [hold]; simp, .inl ⟨lastN_mem (X := t :: T) t (by simp), rfl⟩, .inr ⟨rfl, rfl⟩⟩)
    · exact .inl rfl
    · exact .inr (.inl rfl)
    · exact .inr (.inr ⟨(M, t), by rw [hold]; simp, .inr ⟨rfl, rfl⟩, .inl ⟨by simp, rfl⟩⟩)
    · obtain ⟨x, hx, rfl⟩ := List.mem_map.1 hp
      have hm := cp_mem hx
      refine .inr (.inr ⟨x, by rw [hold]; simp [hx], .inl ⟨?_, rfl⟩, .inl ⟨List.mem_cons_of_mem _ hm.2, rfl⟩⟩)
      rcases hm.1 with e | e
      · rw [e]; simp
      · exact List.mem_cons_of_mem _ e
  have mT : ∀ c, c ∈ t :: T → c ∈ M :: t :: T := fun c hc => List.mem_cons_of_mem _ hc
  have hMh : ∀ c, c ∈ t :: T → c.h ≠ M.h := fun c hc => (hMd.1 c hc).symm
  -- the facts on an old crease
  have hfa : ∀ (p x : Nd × Nd), x ∈ cyc (M :: t :: T) → ((x.1 ∈ t :: T ∧ p.1 = tr x.1) ∨ (x.1 = M ∧ p.1 = m2 M a0 a1)) → ((x.2 ∈ t :: T ∧ p.2 = tr x.2) ∨ (x.2 = M ∧ p.2 = m0 M a0)) →
      p.1.v = x.1.v ∧ (p.1.u < p.1.v ↔ x.1.u < x.1.v) ∧ p.2.u = x.2.u ∧ (p.2.u < p.2.v ↔ x.2.u < x.2.v) ∧ (p.2.v < p.2.u ↔ x.2.v < x.2.u) ∧ p.2.k = x.2.k ∧
      (3 * x.1.h ≤ p.1.h ∧ p.1.h ≤ 3 * x.1.h + 1) ∧ (3 * x.2.h - 1 ≤ p.2.h ∧ p.2.h ≤ 3 * x.2.h) := by
    intro p x hx e1 e2
    rcases e1 with ⟨_, e1⟩ | ⟨e1', e1⟩ <;> rcases e2 with ⟨_, e2⟩ | ⟨e2', e2⟩ <;> rw [e1, e2]
    · and_intros <;> simp only [tr] <;> omega
    · rw [e2']; and_intros <;> simp only [tr, m0] <;> omega
    · rw [e1']; and_intros <;> simp only [tr, m2] <;> omega
    · rw [e1', e2']; and_intros <;> simp only [m0, m2] <;> omega
  refine ⟨?_, ?_, ?_, ?_, ?_⟩
  · intro s hs
    simp only [List.mem_cons] at hs
    rcases hs with rfl | rfl | rfl | hs
    · simp only [m0]; omega
    · simp only [m1]; omega
    · simp only [m2]; omega
    · obtain ⟨e, he, rfl⟩ := List.mem_map.1 hs
      exact h.ne e (mT e he)
  · have key : ∀ b ∈ (t :: T).map tr, b.h ≠ 3 * M.h - 1 ∧ b.h ≠ 3 * M.h ∧ b.h ≠ 3 * M.h + 1 := by
      intro b hb
      obtain ⟨e, he, rfl⟩ := List.mem_map.1 hb
      have := hMh e he
      simp only [tr]
      omega
    rw [List.pairwise_cons, List.pairwise_cons, List.pairwise_cons]
    refine ⟨?_, ?_, ?_, ?_⟩
    · intro b hb
      simp only [List.mem_cons] at hb
      rcases hb with rfl | rfl | hb
      · simp only [m0, m1]; omega
      · simp only [m0, m2]; omega
      · exact (key b hb).1.symm
    · intro b hb
      simp only [List.mem_cons] at hb
      rcases hb with rfl | hb
      · simp only [m1, m2]; omega
      · exact (key b hb).2.1.symm
    · intro b hb
      exact (key b hb).2.2.symm
    · rw [List.pairwise_map]
      exact hMd.2.imp fun {a b} hab => by simp only [tr]; omega
  · intro p hp
    rcases hcr p hp with rfl | rfl | ⟨x, hx, e1, e2⟩
    · have x1 : ¬ (M.u + a0 < M.u + a0 - a1) := by omega
      have x2 : ¬ (3 * M.h < 3 * M.h - 1) := by omega
      refine ⟨rfl, by simp only [m0, m1]; omega, ?_⟩
      simp only [m0, m1, x1, x2]
    · have x1 : M.u + a0 - a1 < M.v := by omega
      have x2 : ¬ (3 * M.h + 1 < 3 * M.h) := by omega
      refine ⟨rfl, by simp only [m1, m2]; omega, ?_⟩
      simp only [m1, m2, x1, x2]
      simp
    · obtain ⟨f1, f2, f3, f4, f5, f6, f7, f8⟩ := hfa p x hx e1 e2
      obtain ⟨g1, g2, g3⟩ := h.link x hx
      have hn := h.nn hx
      refine ⟨by omega, by omega, ?_⟩
      rw [f6, ← g3, f4]
      have : p.2.h < p.1.h ↔ x.2.h < x.1.h := by omega
      rw [this]
  · intro p hp c hc x1 x2
    simp only [List.mem_cons] at hc
    rcases hcr p hp with rfl | rfl | ⟨x, hx, e1, e2⟩
    · rcases hc with rfl | rfl | rfl | hc
      · simp only [m0, m1, Btw]; omega
      · simp only [m0, m1, Btw]; omega
      · simp only [m0, m1, m2, Btw]; omega
      · obtain ⟨e, he, rfl⟩ := List.mem_map.1 hc
        simp only [m0, m1, tr, Btw]; omega
    · rcases hc with rfl | rfl | rfl | hc
      · simp only [m0, m1, m2, Btw]; omega
      · simp only [m2, m1, Btw]; omega
      · simp only [m1, m2, Btw]; omega
      · obtain ⟨e, he, rfl⟩ := List.mem_map.1 hc
        simp only [m2, m1, tr, Btw]; omega
    · obtain ⟨f1, f2, f3, f4, f5, f6, f7, f8⟩ := hfa p x hx e1 e2
      obtain ⟨g1, g2, g3⟩ := h.link x hx
      rw [f3] at x1 x2
      have hM : (c = m0 M a0 ∨ c = m1 M a0 a1 ∨ c = m2 M a0 a1) → M.u < x.2.u ∧ x.2.u < M.v := by
        intro hh
        rcases hh with rfl | rfl | rfl
        · simp only [m0, Nd.lo, Nd.hi] at x1 x2; omega
        · simp only [m1, Nd.lo, Nd.hi] at x1 x2; omega
        · simp only [m2, Nd.lo, Nd.hi] at x1 x2; omega
      by_cases hcm : c = m0 M a0 ∨ c = m1 M a0 a1 ∨ c = m2 M a0 a1
      · obtain ⟨y1, y2⟩ := hM hcm
        have old := h.r1 x hx M (by simp) (by simp only [Nd.lo]; omega) (by simp only [Nd.hi]; omega)
        have na : x.1 ∈ t :: T ∧ p.1 = tr x.1 := by
          rcases e1 with e1 | ⟨e1, _⟩
          · exact e1
          · rw [e1] at g1; omega
        have nb : x.2 ∈ t :: T ∧ p.2 = tr x.2 := by
          rcases e2 with e2 | ⟨e2, _⟩
          · exact e2
          · rw [e2] at y1; omega
        have q1 := hMh _ na.1
        have q2 := hMh _ nb.1
        have hch : 3 * M.h - 1 ≤ c.h ∧ c.h ≤ 3 * M.h + 1 := by
          rcases hcm with rfl | rfl | rfl
          · simp only [m0]; omega
          · simp only [m1]; omega
          · simp only [m2]; omega
        rw [na.2, nb.2]
        simp only [tr, Btw] at old ⊢
        omega
      · have hc2 : c ∈ (t :: T).map tr := by
          rcases hc with hc | hc | hc | hc
          · exact absurd (.inl hc) hcm
          · exact absurd (.inr (.inl hc)) hcm
          · exact absurd (.inr (.inr hc)) hcm
          · exact hc
        obtain ⟨e, he, rfl⟩ := List.mem_map.1 hc2
        have old := h.r1 x hx e (mT e he) x1 x2
        have q1 : e.h ≠ x.1.h := fun hh => by
          have := h.inj (mT e he) (cyc_mem hx).1 hh
          subst this
          simp only [tr, Nd.lo, Nd.hi] at x1 x2
          omega
        have q2 : e.h ≠ x.2.h := fun hh => by
          have := h.inj (mT e he) (cyc_mem hx).2 hh
          subst this
          simp only [tr, Nd.lo, Nd.hi] at x1 x2
          omega
        simp only [tr, Btw] at old ⊢
        omega
  · intro p hp p' hp' hu hs n1 n2 n3 n4
    rcases hcr p hp with rfl | rfl | ⟨x, hx, e1, e2⟩
    · rcases hcr p' hp' with rfl | rfl | ⟨y, hy, e1', e2'⟩
      · exact absurd rfl n1
      · exact absurd rfl n3
      · simp only [m0, m1, Btw] at n1 n2 n3 n4 ⊢
        omega
    · rcases hcr p' hp' with rfl | rfl | ⟨y, hy, e1', e2'⟩
      · exact absurd rfl n2
      · exact absurd rfl n1
      · simp only [m2, m1, Btw] at n1 n2 n3 n4 ⊢
        omega
    · obtain ⟨f1, f2, f3, f4, f5, f6, f7, f8⟩ := hfa p x hx e1 e2
      obtain ⟨g1, g2, g3⟩ := h.link x hx
      rcases hcr p' hp' with rfl | rfl | ⟨y, hy, e1', e2'⟩
      · simp only [m0, m1, Btw] at n1 n2 n3 n4 ⊢
        omega
      · simp only [m2, m1, Btw] at n1 n2 n3 n4 ⊢
        omega
      · obtain ⟨f1', f2', f3', f4', f5', f6', f7', f8'⟩ := hfa p' y hy e1' e2'
        obtain ⟨g1', g2', g3'⟩ := h.link y hy
        have hMM := h.ne M (by simp)
        have mx := cyc_mem hx
        have my := cyc_mem hy
        have o1 : x.1.h ≠ y.1.h := fun hh => by
          have := h.inj mx.1 my.1 hh
          apply n1
          rcases e1 with ⟨z1, e1⟩ | ⟨z1, e1⟩ <;> rcases e1' with ⟨z2, e1'⟩ | ⟨z2, e1'⟩
          · rw [e1, e1', this]
          · exact absurd (by rw [this, z2]) (hMh _ z1)
          · exact absurd (by rw [← this, z1]) (hMh _ z2)
          · rw [e1, e1']
        have o4 : x.2.h ≠ y.2.h := fun hh => by
          have := h.inj mx.2 my.2 hh
          apply n4
          rcases e2 with ⟨z1, e1⟩ | ⟨z1, e1⟩ <;> rcases e2' with ⟨z2, e1'⟩ | ⟨z2, e1'⟩
          · rw [e1, e1', this]
          · exact absurd (by rw [this, z2]) (hMh _ z1)
          · exact absurd (by rw [← this, z1]) (hMh _ z2)
          · rw [e1, e1']
        have o2 : x.1.h ≠ y.2.h := fun hh => by
          have := h.inj mx.1 my.2 hh
          rcases e1 with ⟨z1, e1⟩ | ⟨z1, e1⟩ <;> rcases e2' with ⟨z2, e1'⟩ | ⟨z2, e1'⟩
          · apply n2; rw [e1, e1', this]
          · exact absurd (by rw [this, z2]) (hMh _ z1)
          · exact absurd (by rw [← this, z1]) (hMh _ z2)
          · rw [z1] at g1
            rw [z2] at f3'
            omega
        have o3 : x.2.h ≠ y.1.h := fun hh => by
          have := h.inj mx.2 my.1 hh
          rcases e2 with ⟨z1, e1⟩ | ⟨z1, e1⟩ <;> rcases e1' with ⟨z2, e1'⟩ | ⟨z2, e1'⟩
          · apply n3; rw [e1, e1', this]
          · exact absurd (by rw [this, z2]) (hMh _ z1)
          · exact absurd (by rw [← this, z1]) (hMh _ z2)
          · rw [z1] at f3
            rw [z2] at g1'
            omega
        have old := h.r2 x hx y hy (by omega) (by rw [← f4, ← f4']; exact hs) o1 o2 o3 o4
        unfold Btw at old ⊢
        omega
/-! ### which rings of angles and kinds have a good order -/
abbrev R2 := Int × Int
def Sg (l : List R2) : Prop := ∃ N, Good N ∧ N.map ang = l
def KK (l : List R2) : Prop := ∀ p ∈ l, p.2 = 1 ∨ p.2 = 2
theorem kk_nd {N : List Nd} (h : KK (N.map ang)) : ∀ s ∈ N, s.k = 1 ∨ s.k = 2 := fun s hs => h (ang s) (List.mem_map_of_mem hs)
theorem Sg.rot {X Y : List R2} (h : Sg (X ++ Y)) : Sg (Y ++ X) := by
  obtain ⟨N, hG, e⟩ := h
  obtain ⟨A, B, rfl, e1, e2⟩ := List.map_eq_append_iff.1 e
  exact ⟨B ++ A, hG.rot, by rw [List.map_append, e1, e2]⟩
theorem ang_tr (N : List Nd) : (N.map tr).map ang = N.map ang := by
  rw [List.map_map]
  apply List.map_congr_left
  intro c _
  rfl
theorem down_right {M t : Nd} {T : List Nd} {a0 a1 a2 k1 k2 : Int} (h : Good (M :: t :: T)) (hk : ∀ s ∈ M :: t :: T, s.k = 1 ∨ s.k = 2) (d : M.u < M.v) (ha : M.v - M.u = a0 + a2 - a1) (h1 : 0 < a1) (h2 : a1 ≤ a0) (h3 : a1 ≤ a2)
    (hk1 : k1 = 1 ∨ k1 = 2) (hk2 : k2 = 1 ∨ k2 = 2) (hne : k1 ≠ k2) : ∃ N, Good N ∧ N.map ang = (a0, M.k) :: (a1, k1) :: (a2, k2) :: (t :: T).map ang := by
  have angs : ∀ M : Nd, M.v - M.u = a0 + a2 - a1 → ang (m0 M a0) = (a0, M.k) ∧ ang (m1 M a0 a1) = (a1, 2) ∧ ang (m2 M a0 a1) = (a2, 1) := by
    intro M ha
    unfold ang m0 m1 m2 Nd.lo Nd.hi
    simp only [Prod.mk.injEq, and_true]
    omega
  rcases hk1 with rfl | rfl
  · have e2 : k2 = 2 := by omega
    subst e2
    have hG := crimp_down (M := ovr M) (t := ovr t) (T := T.map ovr) (h.ovr hk) d ha h1 h2 h3
    obtain ⟨b0, b1, b2⟩ := angs (ovr M) ha
    have hK : ∀ s ∈ m0 (ovr M) a0 :: m1 (ovr M) a0 a1 :: m2 (ovr M) a0 a1 :: (ovr t :: T.map ovr).map tr, s.k = 1 ∨ s.k = 2 := by
      intro s hs
      simp only [List.mem_cons] at hs
      have o := hk M (by simp)
      rcases hs with rfl | rfl | rfl | hs
      · simp only [m0, ovr]; omega
      · exact .inr rfl
      · exact .inl rfl
      · obtain ⟨c, hc, rfl⟩ := List.mem_map.1 hs
        have : c ∈ (t :: T).map ovr := hc
        obtain ⟨c', hc', rfl⟩ := List.mem_map.1 this
        have := hk c' (List.mem_cons_of_mem _ hc')
        simp only [tr, ovr]
        omega
    refine ⟨_, hG.ovr hK, ?_⟩
    have e3 : ((ovr t :: T.map ovr).map tr).map ang = ((t :: T).map ang).map fun p => (p.1, 3 - p.2) := by rw [ang_tr]; exact ang_ovr (t :: T)
    have e4 : (m0 (ovr M) a0 :: m1 (ovr M) a0 a1 :: m2 (ovr M) a0 a1 :: (ovr t :: T.map ovr).map tr).map ang = (a0, (ovr M).k) :: (a1, 2) :: (a2, 1) :: ((t :: T).map ang).map fun p => (p.1, 3 - p.2) := by
      rw [← e3]
      simp only [List.map_cons, b0, b1, b2]
    rw [ang_ovr, e4, List.map_cons, List.map_cons, List.map_cons, List.map_map]
    have e5 : ((t :: T).map ang).map ((fun p => (p.1, 3 - p.2)) ∘ fun p => (p.1, 3 - p.2)) = (t :: T).map ang := by
      conv => rhs; rw [← List.map_id ((t :: T).map ang)]
      apply List.map_congr_left
      intro p _
      simp only [Function.comp, id]
      have : 3 - (3 - p.2) = p.2 := by omega
      rw [this]
    rw [e5]
    have e6 : 3 - (ovr M).k = M.k := by simp only [ovr]; omega
    simp only [e6]
    rfl
  · have e2 : k2 = 1 := by omega
    subst e2
    obtain ⟨b0, b1, b2⟩ := angs M ha
    refine ⟨_, crimp_down h d ha h1 h2 h3, ?_⟩
    rw [List.map_cons, List.map_cons, List.map_cons, b0, b1, b2, ang_tr]
theorem down_good {M t : Nd} {T : List Nd} {a0 a1 a2 k1 k2 : Int} (h : Good (M :: t :: T)) (hk : ∀ s ∈ M :: t :: T, s.k = 1 ∨ s.k = 2) (ha : M.hi - M.lo = a0 + a2 - a1) (h1 : 0 < a1) (h2 : a1 ≤ a0) (h3 : a1 ≤ a2)
    (hk1 : k1 = 1 ∨ k1 = 2) (hk2 : k2 = 1 ∨ k2 = 2) (hne : k1 ≠ k2) : ∃ N, Good N ∧ N.map ang = (a0, M.k) :: (a1, k1) :: (a2, k2) :: (t :: T).map ang := by
  by_cases d : M.u < M.v
  · exact down_right h hk d (by simp only [Nd.hi, Nd.lo] at ha; omega) h1 h2 h3 hk1 hk2 hne
  · have := h.ne M (by simp)
    obtain ⟨N, hN, e⟩ := down_right (M := mir M) (t := mir t) (T := T.map mir) h.mir (by
      intro c hc
      have : c ∈ (M :: t :: T).map mir := hc
      obtain ⟨c', hc', rfl⟩ := List.mem_map.1 this
      exact hk c' hc') (by simp only [mir]; omega) (by simp only [Nd.hi, Nd.lo] at ha; simp only [mir]; omega) h1 h2 h3 hk1 hk2 hne
    refine ⟨N, hN, ?_⟩
    rw [e]
    have e5 : (mir t :: T.map mir).map ang = (t :: T).map ang := ang_mir (t :: T)
    rw [e5]
    rfl
/-- ONE CRIMP: a smallest angle with unlike kinds at its ends. -/
theorem crimp_iff {a0 k0 a1 k1 a2 k2 : Int} {t : List R2} (ht : t ≠ []) (hK : KK ((a0, k0) :: (a1, k1) :: (a2, k2) :: t)) (hne : k1 ≠ k2) (h1 : 0 < a1) (hl : ∀ p ∈ (a0, k0) :: (a1, k1) :: (a2, k2) :: t, a1 ≤ p.1) :
    Sg ((a0, k0) :: (a1, k1) :: (a2, k2) :: t) ↔ Sg ((a0 + a2 - a1, k0) :: t) := by
  constructor
  · rintro ⟨N, hG, e⟩
    match N, hG, e with
    | s0 :: s1 :: s2 :: [], hG, e =>
      simp only [List.map_cons, List.map_nil, List.cons.injEq] at e
      exact absurd e.2.2.2.symm ht
    | s0 :: s1 :: s2 :: t' :: T, hG, e =>
      have hk := kk_nd (N := s0 :: s1 :: s2 :: t' :: T) (by rw [e]; exact hK)
      simp only [List.map_cons, List.cons.injEq] at e
      obtain ⟨e0, e1, e2, e3⟩ := e
      simp only [ang, Prod.mk.injEq] at e0 e1 e2
      obtain ⟨N', hN', e'⟩ := crimp_good hG hk (by rw [e1.2, e2.2]; exact hne) (by
        intro c hc
        rw [e1.1]
        have hm : ang c ∈ (s0 :: s1 :: s2 :: t' :: T).map ang := List.mem_map_of_mem hc
        have : (s0 :: s1 :: s2 :: t' :: T).map ang = (a0, k0) :: (a1, k1) :: (a2, k2) :: t := by
          simp only [List.map_cons, ← e3]
          simp only [ang, e0.1, e0.2, e1.1, e1.2, e2.1, e2.2]
        rw [this] at hm
        exact hl _ hm)
      refine ⟨N', hN', ?_⟩
      rw [e', e0.1, e1.1, e2.1, e0.2, List.map_cons, ← e3]
  · rintro ⟨N, hG, e⟩
    match N, hG, e with
    | M :: [], hG, e =>
      simp only [List.map_cons, List.map_nil, List.cons.injEq] at e
      exact absurd e.2.symm ht
    | M :: t' :: T, hG, e =>
      have hk := kk_nd (N := M :: t' :: T) (by
        rw [e]
        intro p hp
        rcases List.mem_cons.1 hp with rfl | hp
        · exact hK (a0, k0) (by simp)
        · exact hK p (by simp [hp]))
      simp only [List.map_cons, List.cons.injEq] at e
      obtain ⟨e0, e3⟩ := e
      simp only [ang, Prod.mk.injEq] at e0
      obtain ⟨N', hN', e'⟩ := down_good hG hk (by rw [e0.1]) h1 (hl (a0, k0) (by simp)) (hl (a2, k2) (by simp)) (hK (a1, k1) (by simp)) (hK (a2, k2) (by simp)) hne
      refine ⟨N', hN', ?_⟩
      rw [e', e0.2, ← e3]
      rfl
/-! ### a run whose kinds are all alike cannot be folded: it would go inward and inward -/
theorem pw_mem {N : List Nd} (h : N.Pairwise (fun a b => a.h ≠ b.h)) {A B : List Nd} {x y : Nd} (e : N = A ++ B) (hx : x ∈ A) (hy : y ∈ B) : x.h ≠ y.h := by
  subst e
  exact (List.pairwise_append.1 h).2.2 x hx y hy
theorem place3 {y z w : Nd} {L : Int} (a2 : y.v = z.u) (a3 : z.v = w.u) (b2 : y.u < y.v ↔ z.v < z.u) (b3 : z.u < z.v ↔ w.v < w.u) (nz : z.u ≠ z.v) (nw : w.u ≠ w.v)
    (hy : y.hi - y.lo = L) (hz : z.hi - z.lo = L) : y.u = w.u ∧ (y.u < y.v ↔ w.u < w.v) := by
  simp only [Nd.lo, Nd.hi] at hy hz
  by_cases d : y.u < y.v
  · have d2 := b2.1 d
    have d3 : ¬ (z.u < z.v) := by omega
    have d4 : ¬ (w.v < w.u) := fun h => d3 (b3.2 h)
    omega
  · have d2 : ¬ (z.v < z.u) := fun h => d (b2.2 h)
    have d3 : z.u < z.v := by omega
    have d4 := b3.1 d3
    omega
theorem spiral {N : List Nd} (hG : Good N) {L : Int} {sc : Nd} : ∀ (S : List Nd) (x y : Nd), (x, y) ∈ cyc N → (∀ p ∈ cp y (S ++ [sc]), p ∈ cyc N) → (x :: y :: (S ++ [sc])).Pairwise (fun a b => a.h ≠ b.h) →
    y.hi - y.lo = L → (∀ s ∈ S, s.hi - s.lo = L) → L < sc.hi - sc.lo → (∀ s ∈ S ++ [sc], (s.k = 2 ↔ y.k = 2)) → (∀ z S', S ++ [sc] = z :: S' → Btw z.h x.h y.h) → False := by
  intro S
  induction S with
  | nil =>
    intro x y hxy hcp hpw hy _ hsc hk hb
    have hyz : (y, sc) ∈ cyc N := hcp _ (by simp [cp])
    obtain ⟨a1, b1, c1⟩ := hG.link _ hxy
    obtain ⟨a2, b2, c2⟩ := hG.link _ hyz
    have ny := hG.ne _ (cyc_mem hxy).2
    have nsc := hG.ne _ (cyc_mem hyz).2
    have h1 := hb sc [] rfl
    have := hG.r1 _ hxy sc (cyc_mem hyz).2
    simp only [Nd.lo, Nd.hi] at *
    exact this (by omega) (by omega) h1
  | cons z S ih =>
    intro x y hxy hcp hpw hy hS hsc hk hb
    have hyz : (y, z) ∈ cyc N := hcp _ (by simp [cp])
    obtain ⟨w, S2, hw⟩ : ∃ w S2, S ++ [sc] = w :: S2 := by
      cases S with
      | nil => exact ⟨sc, [], rfl⟩
      | cons a S => exact ⟨a, S ++ [sc], rfl⟩
    have hcp' : ∀ p ∈ cp z (S ++ [sc]), p ∈ cyc N := fun p hp => hcp p (by simp only [List.cons_append, cp]; exact List.mem_cons_of_mem _ hp)
    have hzw : (z, w) ∈ cyc N := hcp' _ (by rw [hw]; simp [cp])
    obtain ⟨a1, b1, c1⟩ := hG.link _ hxy
    obtain ⟨a2, b2, c2⟩ := hG.link _ hyz
    obtain ⟨a3, b3, c3⟩ := hG.link _ hzw
    have ny := hG.ne _ (cyc_mem hxy).2
    have nz := hG.ne _ (cyc_mem hyz).2
    have nw := hG.ne _ (cyc_mem hzw).2
    have h1 := hb z (S ++ [sc]) rfl
    have hz := hS z (by simp)
    have kz := hk z (by simp)
    have kw := hk w (by rw [List.cons_append, hw]; simp)
    rw [List.cons_append, hw] at hpw
    simp only [List.pairwise_cons, List.mem_cons] at hpw
    obtain ⟨p1, p2, p3, _⟩ := hpw
    have q1 : x.h ≠ z.h := p1 z (.inr (.inl rfl))
    have q2 : x.h ≠ w.h := p1 w (.inr (.inr (.inl rfl)))
    have q3 : y.h ≠ z.h := p2 z (.inl rfl)
    have q4 : y.h ≠ w.h := p2 w (.inr (.inl rfl))
    have q5 : z.h ≠ w.h := p3 w (.inl rfl)
    have hr := hG.r2 _ hxy _ hzw
    simp only at a1 a2 a3 b1 b2 b3 c1 c2 c3 hr ny nz nw
    have pl3 := place3 a2 a3 b2 b3 nz nw hy hz
    have hr2 := (hr pl3.1 pl3.2 q1 q2 q3 q4).1 h1
    have key : Btw w.h y.h z.h := by
      unfold Btw at h1 hr2 ⊢
      have t1 : (y.u < y.v ↔ y.h < x.h) ↔ (z.u < z.v ↔ z.h < y.h) := c1.trans (kz.symm.trans c2.symm)
      have t2 : (y.u < y.v ↔ y.h < x.h) ↔ (w.u < w.v ↔ w.h < z.h) := c1.trans (kw.symm.trans c3.symm)
      by_cases d : y.u < y.v
      · have d2 : ¬ (z.u < z.v) := by omega
        have d3 : w.u < w.v := by omega
        simp only [d, d2, d3, true_iff, false_iff] at t1 t2
        omega
      · have d2 : z.u < z.v := by omega
        have d3 : ¬ (w.u < w.v) := by omega
        simp only [d, d2, d3, true_iff, false_iff] at t1 t2
        omega
    refine ih y z hyz hcp' ?_ hz (fun s hs => hS s (List.mem_cons_of_mem _ hs)) hsc (fun s hs => (hk s (by simp only [List.cons_append]; exact List.mem_cons_of_mem _ hs)).trans kz.symm) ?_
    · rw [hw]
      simp only [List.pairwise_cons, List.mem_cons]
      exact ⟨fun a ha => p2 a ha, p3, by assumption⟩
    · intro w' S' e
      rw [hw] at e
      simp only [List.cons.injEq] at e
      rw [← e.1]
      exact key
/-- A run of smallest angles between two that are greater, all kinds alike. -/
theorem run_alike {L d kd c k : Int} {A : List R2} {E : List R2} (hA : A ≠ []) (hAL : ∀ p ∈ A, p.1 = L) (hk : ∀ p ∈ A, (p.2 = 2 ↔ k = 2)) (hd : L < d) (hc : L < c) : ¬ Sg ((d, kd) :: (A ++ (c, k) :: E)) := by
  rintro ⟨N, hG, e⟩
  cases N with
  | nil => simp at e
  | cons sd N =>
    simp only [List.map_cons, List.cons.injEq] at e
    obtain ⟨e0, e⟩ := e
    obtain ⟨S, Y, rfl, e1, e2⟩ := List.map_eq_append_iff.1 e
    cases Y with
    | nil => simp at e2
    | cons sc SE =>
      simp only [List.map_cons, List.cons.injEq] at e2
      obtain ⟨e2, e3⟩ := e2
      have hS : ∀ s ∈ S, s.hi - s.lo = L ∧ (s.k = 2 ↔ k = 2) := by
        intro s hs
        have hm : ang s ∈ A := by rw [← e1]; exact List.mem_map_of_mem hs
        exact ⟨hAL _ hm, hk _ hm⟩
      cases S with
      | nil => exact hA (by rw [← e1]; rfl)
      | cons y S =>
        simp only [ang, Prod.mk.injEq] at e0 e2
        obtain ⟨z, S2, hz⟩ : ∃ z S2, S ++ [sc] = z :: S2 := by
          cases S with
          | nil => exact ⟨sc, [], rfl⟩
          | cons a S => exact ⟨a, S ++ [sc], rfl⟩
        have hN : sd :: (y :: S ++ sc :: SE) = (sd :: y :: (S ++ [sc])) ++ SE := by simp
        have hcyc : ∀ p ∈ cp sd (y :: (S ++ [sc])), p ∈ cyc (sd :: (y :: S ++ sc :: SE)) := by
          intro p hp
          have : cyc (sd :: (y :: S ++ sc :: SE)) = (lastN sd (y :: S ++ sc :: SE), sd) :: cp sd ((y :: (S ++ [sc])) ++ SE) := by
            rw [show (y :: (S ++ [sc])) ++ SE = y :: S ++ sc :: SE by simp]
            rfl
          rw [this, cp_app]
          exact List.mem_cons_of_mem _ (List.mem_append_left _ hp)
        have hpw : (sd :: y :: (S ++ [sc])).Pairwise (fun a b => a.h ≠ b.h) := by
          have := hG.dis
          rw [hN] at this
          exact (List.pairwise_append.1 this).1
        have hxy : (sd, y) ∈ cyc (sd :: (y :: S ++ sc :: SE)) := hcyc _ (by simp [cp])
        have hcp : ∀ p ∈ cp y (S ++ [sc]), p ∈ cyc (sd :: (y :: S ++ sc :: SE)) := fun p hp => hcyc p (by simp only [cp]; exact List.mem_cons_of_mem _ hp)
        have hyz : (y, z) ∈ cyc (sd :: (y :: S ++ sc :: SE)) := hcp _ (by rw [hz]; simp [cp])
        have hkall : ∀ s ∈ S ++ [sc], (s.k = 2 ↔ y.k = 2) := by
          intro s hs
          have ky2 := (hS y (by simp)).2
          rcases List.mem_append.1 hs with hs | hs
          · exact (hS s (List.mem_cons_of_mem _ hs)).2.trans ky2.symm
          · simp at hs
            rw [hs, e2.2]
            exact ky2.symm
        refine spiral hG S sd y hxy hcp hpw (hS y (by simp)).1 (fun s hs => (hS s (List.mem_cons_of_mem _ hs)).1) (by rw [e2.1]; exact hc) hkall ?_
        intro z' S' e'
        rw [hz] at e'
        simp only [List.cons.injEq] at e'
        rw [← e'.1]
        obtain ⟨a1, b1, c1⟩ := hG.link _ hxy
        obtain ⟨a2, b2, c2⟩ := hG.link _ hyz
        have ny := hG.ne _ (cyc_mem hxy).2
        have nx := hG.ne _ (cyc_mem hxy).1
        have nz := hG.ne _ (cyc_mem hyz).2
        have hr := hG.r1 _ hyz sd (cyc_mem hxy).1
        have kz := hkall z (by rw [hz]; simp)
        have hyL := (hS y (by simp)).1
        have hx0 := e0.1
        rw [hz] at hpw
        simp only [List.pairwise_cons, List.mem_cons] at hpw
        obtain ⟨p1, p2, _⟩ := hpw
        have q1 : sd.h ≠ z.h := p1 z (.inr (.inl rfl))
        have q0 : sd.h ≠ y.h := p1 y (.inl rfl)
        have q2 : y.h ≠ z.h := p2 z (.inl rfl)
        simp only at a1 a2 b1 b2 c1 c2 hr ny nz nx
        simp only [Nd.lo, Nd.hi] at hr hyL hx0
        have hr2 := hr (by omega) (by omega)
        have t1 : (y.u < y.v ↔ y.h < sd.h) ↔ (z.u < z.v ↔ z.h < y.h) := c1.trans (kz.symm.trans c2.symm)
        unfold Btw at hr2 ⊢
        by_cases dd : y.u < y.v
        · have d2 : ¬ (z.u < z.v) := by omega
          simp only [dd, d2, true_iff, false_iff] at t1
          omega
        · have d2 : z.u < z.v := by omega
          simp only [dd, d2, true_iff, false_iff] at t1
          omega
/-! ### all angles alike -/
theorem cp_split {z : Nd} {X : List Nd} {p : Nd × Nd} (h : p ∈ cp z X) : (p.1 = z ∧ ∃ Y, X = p.2 :: Y) ∨ ∃ A B, X = A ++ p.1 :: p.2 :: B := by
  induction X generalizing z with
  | nil => cases h
  | cons s X ih =>
    rcases List.mem_cons.1 h with rfl | h
    · exact .inl ⟨rfl, X, rfl⟩
    · rcases ih h with ⟨h1, Y, h2⟩ | ⟨A, B, h2⟩
      · exact .inr ⟨[], Y, by rw [h2, h1]; rfl⟩
      · exact .inr ⟨s :: A, B, by rw [h2]; rfl⟩
theorem lastN_split (s : Nd) (X : List Nd) : ∃ W, s :: X = W ++ [lastN s X] := by
  induction X generalizing s with
  | nil => exact ⟨[], rfl⟩
  | cons t X ih =>
    obtain ⟨W, h⟩ := ih t
    refine ⟨s :: W, ?_⟩
    show s :: t :: X = s :: (W ++ [lastN t X])
    rw [← h]
/-- a ring that is turned so that a crease lies at its ends -/
theorem turn_to {N : List Nd} (hG : Good N) {p : Nd × Nd} (hp : p ∈ cyc N) : ∃ W, Good (p.2 :: (W ++ [p.1])) ∧ (W ++ [p.1]).length + 1 = N.length ∧ ∀ q, q ∈ cyc (p.2 :: (W ++ [p.1])) ↔ q ∈ cyc N := by
  cases N with
  | nil => cases hp
  | cons s X =>
    rcases cp_split (show p ∈ cp (lastN s X) (s :: X) from hp) with ⟨h1, Y, h2⟩ | ⟨A, B, h2⟩
    · cases X with
      | nil =>
        exfalso
        have := hG.nn hp
        simp only [List.cons.injEq] at h2
        rw [h1, ← h2.1] at this
        exact this rfl
      | cons t X =>
        obtain ⟨W, hW⟩ := lastN_split t X
        simp only [List.cons.injEq] at h2
        have h3 : lastN s (t :: X) = lastN t X := rfl
        rw [h3] at h1
        refine ⟨W, ?_, ?_, ?_⟩
        · rw [h1, ← hW, ← h2.1]; exact hG
        · rw [h1, ← hW]; simp
        · rw [h1, ← hW, ← h2.1]; simp
    · refine ⟨B ++ A, ?_, ?_, ?_⟩
      · have : Good ((A ++ [p.1]) ++ (p.2 :: B)) := by rw [← show s :: X = (A ++ [p.1]) ++ (p.2 :: B) by rw [h2]; simp]; exact hG
        have := this.rot
        rw [show p.2 :: (B ++ A ++ [p.1]) = p.2 :: B ++ (A ++ [p.1]) by simp]
        exact this
      · rw [h2]; simp; omega
      · intro q
        rw [show p.2 :: (B ++ A ++ [p.1]) = p.2 :: B ++ (A ++ [p.1]) by simp, cyc_rot, show (A ++ [p.1]) ++ (p.2 :: B) = s :: X by rw [h2]; simp]
theorem least_gap : ∀ (l : List (Nd × Nd)), l ≠ [] → ∃ p ∈ l, ∀ q ∈ l, (p.1.h - p.2.h).natAbs ≤ (q.1.h - q.2.h).natAbs := by
  intro l
  induction l with
  | nil => intro h; exact absurd rfl h
  | cons a l ih =>
    intro _
    by_cases hl : l = []
    · subst hl
      exact ⟨a, by simp, by simp⟩
    · obtain ⟨p, hp, hm⟩ := ih hl
      by_cases h : (a.1.h - a.2.h).natAbs ≤ (p.1.h - p.2.h).natAbs
      · exact ⟨a, by simp, fun q hq => by rcases List.mem_cons.1 hq with rfl | hq; exact Nat.le_refl _; exact Nat.le_trans h (hm q hq)⟩
      · exact ⟨p, by simp [hp], fun q hq => by rcases List.mem_cons.1 hq with rfl | hq; omega; exact hm q hq⟩
theorem gap_end {x y z w : Int} (g1 : (y - z).natAbs ≤ (z - w).natAbs) (g2 : (y - z).natAbs ≤ (x - y).natAbs) (q1 : z ≠ w) (q2 : z ≠ x) (q3 : z ≠ y) (q5 : w ≠ y) (q6 : x ≠ y)
    (t1 : y < x ↔ ¬ z < y) (t2 : y < x ↔ w < z) (hr : Btw z x y ↔ Btw w x y) : False := by
  unfold Btw at hr
  by_cases h : y < x
  · have h1 := t1.1 h
    have h2 := t2.1 h
    have h3 : z < x := by omega
    have h4 : w < y := by omega
    have := hr.1 (.inr ⟨by omega, h3⟩)
    omega
  · have h1 : z < y := Classical.byContradiction fun hh => h (t1.2 hh)
    have h2 : ¬ w < z := fun hh => h (t2.2 hh)
    have h3 : x < z := by omega
    have h4 : y < w := by omega
    have := hr.1 (.inl ⟨h3, h1⟩)
    omega
/-- All angles alike, all kinds alike, four sectors or more: not foldable. -/
theorem all_alike {l : List R2} {a k : Int} (ha : ∀ p ∈ l, p.1 = a) (hk : ∀ p ∈ l, (p.2 = 2 ↔ k = 2)) (hn : 4 ≤ l.length) : ¬ Sg l := by
  rintro ⟨N, hG, rfl⟩
  have hN : 4 ≤ N.length := by simpa using hn
  have hne : cyc N ≠ [] := by
    cases N with
    | nil => simp at hN
    | cons s X => simp [cyc, cp]
  obtain ⟨p, hp, hm⟩ := least_gap _ hne
  obtain ⟨W, hG2, hlen, hc⟩ := turn_to hG hp
  obtain ⟨y, z⟩ := p
  simp only at hG2 hlen hc hm
  cases W with
  | nil => simp at hlen; omega
  | cons w W =>
    rcases List.eq_nil_or_concat W with rfl | ⟨W, x, rfl⟩
    · simp at hlen; omega
    · simp only [List.concat_eq_append] at hG2 hc hlen
      have hcyc : cyc (z :: (w :: (W ++ [x]) ++ [y])) = (y, z) :: (z, w) :: (cp w W ++ [(lastN w W, x), (x, y)]) := by
        have h1 : lastN z (w :: (W ++ [x]) ++ [y]) = y := by
          rw [lastN_app]
          rfl
        show (lastN z (w :: (W ++ [x]) ++ [y]), z) :: cp z (w :: (W ++ [x]) ++ [y]) = _
        rw [h1]
        simp [cp, cp_app]
      have hzw : (z, w) ∈ cyc N := (hc _).1 (by rw [hcyc]; simp)
      have hxy : (x, y) ∈ cyc N := (hc _).1 (by rw [hcyc]; simp)
      have hL : ∀ s ∈ N, s.hi - s.lo = a ∧ (s.k = 2 ↔ k = 2) := fun s hs => ⟨ha _ (List.mem_map_of_mem hs), hk _ (List.mem_map_of_mem hs)⟩
      have g1 := hm _ hzw
      have g2 := hm _ hxy
      have hd := hG2.dis
      simp only [List.cons_append, List.append_assoc, List.pairwise_cons, List.pairwise_append, List.mem_append, List.mem_cons] at hd
      obtain ⟨d1, d2, d3, d4, d5⟩ := hd
      have q1 : z.h ≠ w.h := d1 w (.inl rfl)
      have q2 : z.h ≠ x.h := d1 x (by simp)
      have q3 : z.h ≠ y.h := d1 y (by simp)
      have q4 : w.h ≠ x.h := d2 x (by simp)
      have q5 : w.h ≠ y.h := d2 y (by simp)
      have q6 : x.h ≠ y.h := hG.nn hxy
      obtain ⟨a1, b1, c1⟩ := hG.link _ hxy
      obtain ⟨a2, b2, c2⟩ := hG.link _ hp
      obtain ⟨a3, b3, c3⟩ := hG.link _ hzw
      have ny := hG.ne _ (cyc_mem hxy).2
      have nz := hG.ne _ (cyc_mem hzw).1
      have nw := hG.ne _ (cyc_mem hzw).2
      have ly := (hL y (cyc_mem hxy).2)
      have lz := (hL z (cyc_mem hzw).1)
      have lw := (hL w (cyc_mem hzw).2)
      have hr := hG.r2 _ hxy _ hzw
      simp only at a1 a2 a3 b1 b2 b3 c1 c2 c3 hr ny nz nw g1 g2
      have pl3 := place3 a2 a3 b2 b3 nz nw ly.1 lz.1
      have hr2 := hr pl3.1 pl3.2 q2.symm q4.symm q3.symm q5.symm
      have t1 : (y.u < y.v ↔ y.h < x.h) ↔ (z.u < z.v ↔ z.h < y.h) := c1.trans (ly.2.trans (lz.2.symm.trans c2.symm))
      have t2 : (y.u < y.v ↔ y.h < x.h) ↔ (w.u < w.v ↔ w.h < z.h) := c1.trans (ly.2.trans (lw.2.symm.trans c3.symm))
      by_cases dd : y.u < y.v
      · have e2 : ¬ (z.u < z.v) := by clear t1 t2 hr2 hr hm g1 g2; omega
        have e3 : w.u < w.v := by clear t1 t2 hr2 hr hm g1 g2; omega
        simp only [dd, e2, e3, true_iff, false_iff] at t1 t2
        exact gap_end g1 g2 q1 q2 q3 q5 q6 t1 t2 hr2
      · have e2 : z.u < z.v := by clear t1 t2 hr2 hr hm g1 g2; omega
        have e3 : ¬ (w.u < w.v) := by clear t1 t2 hr2 hr hm g1 g2; omega
        simp only [dd, e2, e3, true_iff, false_iff] at t1 t2
        exact gap_end g1 g2 q1 q2 q3 q5 q6 (by clear hr hr2 hm g1 g2; omega) (by clear hr hr2 hm g1 g2; omega) hr2
/-! ### crimps by runs are orders -/
open Vx
theorem unlike : ∀ (l : List R2) (p0 : R2), (∀ p ∈ p0 :: l, p.2 = p0.2) ∨ ∃ P p q Q, p0 :: l = P ++ p :: q :: Q ∧ p.2 ≠ q.2 := by
  intro l
  induction l with
  | nil => intro p0; exact .inl (fun p hp => by simp at hp; rw [hp])
  | cons a l ih =>
    intro p0
    by_cases h : p0.2 = a.2
    · rcases ih a with h1 | ⟨P, p, q, Q, h1, h2⟩
      · left
        intro p hp
        rcases List.mem_cons.1 hp with rfl | hp
        · rfl
        · rw [h1 p hp, h]
      · exact .inr ⟨p0 :: P, p, q, Q, by rw [h1]; rfl, h2⟩
    · exact .inr ⟨[], p0, a, l, rfl, h⟩
theorem tot_alike {A : List R2} {k : Int} (h : ∀ p ∈ A, p.2 = k) : tot A = A.length * sg k := by
  induction A with
  | nil => simp [tot]
  | cons a A ih =>
    simp only [tot, List.length_cons]
    rw [ih (fun p hp => h p (List.mem_cons_of_mem _ hp)), h a (by simp)]
    push_cast
    rw [Int.add_mul]
    omega
theorem sg_kk {k : Int} (h : k = 1 ∨ k = 2) : sg k = 1 ∨ sg k = -1 := by rcases h with rfl | rfl <;> simp [sg]
theorem sg_un {x y : Int} (hx : x = 1 ∨ x = 2) (hy : y = 1 ∨ y = 2) (h : x ≠ y) : sg x + sg y = 0 := by unfold sg; omega
theorem kd_sg {k k' : Int} (hk : k = 1 ∨ k = 2) : Kd (sg k) k' ↔ k' = k := by
  unfold Kd sg
  omega
theorem Sg.iff_rot {X Y : List R2} : Sg (X ++ Y) ↔ Sg (Y ++ X) := ⟨Sg.rot, Sg.rot⟩
/-- the right side of the law for a run -/
def RunR (L d c kd : Int) (A : List R2) (k : Int) (E : List R2) : Prop :=
  (A.length % 2 = 0 ∧ ∃ k', Kd (tot A + sg k) k' ∧ Sg ((d, kd) :: (c, k') :: E)) ∨ (A.length % 2 = 1 ∧ tot A + sg k = 0 ∧ Sg ((d + c - L, kd) :: E))
theorem RunR.congr {L d c kd : Int} {A A' : List R2} {k k' : Int} {E : List R2} (h1 : A.length % 2 = A'.length % 2) (h2 : tot A + sg k = tot A' + sg k') : RunR L d c kd A k E ↔ RunR L d c kd A' k' E := by
  unfold RunR
  rw [h1, h2]
theorem run_iff {L d c : Int} (hL : 0 < L) (hd : L < d) (hc : L < c) : ∀ (n : Nat) (A : List R2), A.length ≤ n → ∀ (k kd : Int) (E : List R2), (∀ p ∈ A, p.1 = L) → (∀ p ∈ E, L ≤ p.1) →
    KK ((d, kd) :: (A ++ (c, k) :: E)) → (A.length + E.length) % 2 = 0 → (Sg ((d, kd) :: (A ++ (c, k) :: E)) ↔ RunR L d c kd A k E) := by
  intro n
  induction n with
  | zero =>
    intro A hA k kd E _ _ hK _
    have : A = [] := List.length_eq_zero_iff.1 (by omega)
    subst this
    have hk := hK (c, k) (by simp)
    constructor
    · intro h
      exact .inl ⟨rfl, k, by simpa [tot] using (kd_sg hk).2 rfl, h⟩
    · rintro (⟨_, k', h1, h2⟩ | ⟨h, _⟩)
      · have : k' = k := (kd_sg hk).1 (by simpa [tot] using h1)
        rw [← this]
        exact h2
      · simp at h
  | succ n ih =>
    intro A hA k kd E hAL hEL hK hpar
    have hk := hK (c, k) (by simp)
    by_cases hA0 : A = []
    · subst hA0
      exact ih [] (by simp) k kd E hAL hEL hK hpar
    have hKA : ∀ p ∈ A, p.2 = 1 ∨ p.2 = 2 := fun p hp => hK p (by simp [hp])
    have hEn : A.length % 2 = 1 → E ≠ [] := by
      intro h1 h2
      subst h2
      simp at hpar
      omega
    by_cases hall : ∀ p ∈ A, p.2 = k
    · -- all alike: neither side
      constructor
      · intro h
        exact absurd h (run_alike hA0 hAL (fun p hp => by rw [hall p hp]) hd hc)
      · intro h
        exfalso
        have ht := tot_alike hall
        have hlen : 0 < A.length := List.length_pos_iff.2 hA0
        have hs := sg_kk hk
        have hmul : ((A.length : Int) * sg k = A.length ∧ sg k = 1) ∨ ((A.length : Int) * sg k = -A.length ∧ sg k = -1) := by
          rcases hs with hs | hs <;> rw [hs] <;> simp
        rcases h with ⟨h1, k', h2, _⟩ | ⟨h1, h2, _⟩
        · unfold Kd at h2
          omega
        · omega
    · -- two neighbours unlike
      have hun : ∃ P p q Q, A ++ [(c, k)] = P ++ p :: q :: Q ∧ p.2 ≠ q.2 := by
        cases A with
        | nil => exact absurd rfl hA0
        | cons a A =>
          rcases unlike (A ++ [(c, k)]) a with h1 | h1
          · exfalso
            apply hall
            have hka := h1 (c, k) (by simp)
            simp only at hka
            intro p hp
            rw [h1 p (by simp at hp ⊢; rcases hp with rfl | hp; exact .inl rfl; exact .inr (.inl hp)), ← hka]
          · exact h1
      obtain ⟨P, p, q, Q, hPQ, hne⟩ := hun
      rcases List.eq_nil_or_concat Q with rfl | ⟨Q, z, rfl⟩
      · -- the last two
        have h1 : A ++ [(c, k)] = (P ++ [p]) ++ [q] := by rw [hPQ]; simp
        obtain ⟨h2, h3⟩ := List.append_inj' h1 rfl
        simp only [List.cons.injEq, and_true] at h3
        subst h2 h3
        have hp1 : p.1 = L := hAL p (by simp)
        have hp2 := hKA p (by simp)
        have hs := sg_un hp2 hk hne
        obtain ⟨p1, p2⟩ := p
        simp only at hp1 hp2 hs hne
        subst hp1
        rcases List.eq_nil_or_concat P with rfl | ⟨P, z, rfl⟩
        · -- a run of one
          simp only [List.nil_append, List.cons_append] at *
          have hE0 : E ≠ [] := hEn rfl
          have := crimp_iff (a0 := d) (k0 := kd) (a1 := p1) (k1 := p2) (a2 := c) (k2 := k) (t := E) hE0 hK hne hL (by
            intro r hr
            simp only [List.mem_cons] at hr
            rcases hr with rfl | rfl | rfl | hr
            · exact Int.le_of_lt hd
            · exact Int.le_refl _
            · exact Int.le_of_lt hc
            · exact hEL r hr)
          rw [this]
          constructor
          · intro h
            exact .inr ⟨rfl, by simp [tot]; omega, h⟩
          · rintro (⟨h, _⟩ | ⟨_, _, h⟩)
            · simp at h
            · exact h
        · simp only [List.concat_eq_append] at *
          have hz1 : z.1 = p1 := hAL z (by simp)
          have hz2 := hKA z (by simp)
          obtain ⟨z1, z2⟩ := z
          simp only at hz1 hz2
          subst hz1
          have hrot : Sg ((d, kd) :: (P ++ [(z1, z2)] ++ [(z1, p2)] ++ (c, k) :: E)) ↔ Sg ((z1, z2) :: (z1, p2) :: (c, k) :: (E ++ (d, kd) :: P)) := by
            have := @Sg.iff_rot ((d, kd) :: P) ((z1, z2) :: (z1, p2) :: (c, k) :: E)
            simpa using this
          have hcr := crimp_iff (a0 := z1) (k0 := z2) (a1 := z1) (k1 := p2) (a2 := c) (k2 := k) (t := E ++ (d, kd) :: P) (by simp) (by
            intro r hr
            apply hK r
            simp only [List.mem_cons, List.mem_append] at hr ⊢
            rcases hr with rfl | rfl | rfl | hr | rfl | hr <;> simp [*]) hne hL (by
            intro r hr
            simp only [List.mem_cons, List.mem_append] at hr
            rcases hr with rfl | rfl | rfl | hr | rfl | hr
            · exact Int.le_refl _
            · exact Int.le_refl _
            · exact Int.le_of_lt hc
            · exact hEL r hr
            · exact Int.le_of_lt hd
            · rw [hAL r (by simp [hr])]; exact Int.le_refl _)
          have hrot2 : Sg ((z1 + c - z1, z2) :: (E ++ (d, kd) :: P)) ↔ Sg ((d, kd) :: (P ++ (c, z2) :: E)) := by
            rw [show z1 + c - z1 = c by omega]
            have := @Sg.iff_rot ((c, z2) :: E) ((d, kd) :: P)
            simpa using this
          have hih := ih P (by simp at hA; omega) z2 kd E (fun r hr => hAL r (by simp [hr])) hEL (by
            intro r hr
            simp only [List.mem_cons, List.mem_append] at hr
            rcases hr with rfl | hr | rfl | hr
            · exact hK (d, kd) (by simp)
            · exact hK r (by simp [hr])
            · exact hz2
            · exact hK r (by simp [hr])) (by simp at hpar; omega)
          rw [hrot, hcr, hrot2, hih]
          apply RunR.congr
          · first | (simp; done) | (simp; omega)
          · simp only [tot_app, tot]; omega
      · -- two within the run
        simp only [List.concat_eq_append] at hPQ
        have h1 : A ++ [(c, k)] = (P ++ p :: q :: Q) ++ [z] := by rw [hPQ]; simp
        obtain ⟨h2, h3⟩ := List.append_inj' h1 rfl
        subst h2
        have hp1 : p.1 = L := hAL p (by simp)
        have hp2 := hKA p (by simp)
        have hq1 : q.1 = L := hAL q (by simp)
        have hq2 := hKA q (by simp)
        have hs := sg_un hp2 hq2 hne
        obtain ⟨p1, p2⟩ := p
        obtain ⟨q1, q2⟩ := q
        simp only at hp1 hp2 hq1 hq2 hs hne
        subst hp1 hq1
        rcases List.eq_nil_or_concat P with rfl | ⟨P, z, rfl⟩
        · simp only [List.nil_append, List.cons_append] at *
          have hcr := crimp_iff (a0 := d) (k0 := kd) (a1 := q1) (k1 := p2) (a2 := q1) (k2 := q2) (t := Q ++ (c, k) :: E) (by simp) hK hne hL (by
            intro r hr
            simp only [List.mem_cons, List.mem_append] at hr
            rcases hr with rfl | rfl | rfl | hr | rfl | hr
            · exact Int.le_of_lt hd
            · exact Int.le_refl _
            · exact Int.le_refl _
            · rw [hAL r (by simp [hr])]; exact Int.le_refl _
            · exact Int.le_of_lt hc
            · exact hEL r hr)
          have hih := ih Q (by simp at hA; omega) k kd E (fun r hr => hAL r (by simp [hr])) hEL (by
            intro r hr
            apply hK r
            simp only [List.mem_cons, List.mem_append] at hr ⊢
            rcases hr with rfl | hr | rfl | hr <;> simp [*]) (by simp at hpar; omega)
          rw [hcr, show d + q1 - q1 = d by omega, hih]
          apply RunR.congr
          · first | (simp; done) | (simp; omega)
          · simp only [tot]; omega
        · simp only [List.concat_eq_append] at *
          have hz1 : z.1 = q1 := hAL z (by simp)
          have hz2 := hKA z (by simp)
          obtain ⟨z1, z2⟩ := z
          simp only at hz1 hz2
          subst hz1
          have hrot : Sg ((d, kd) :: (P ++ [(z1, z2)] ++ (z1, p2) :: (z1, q2) :: Q ++ (c, k) :: E)) ↔ Sg ((z1, z2) :: (z1, p2) :: (z1, q2) :: (Q ++ (c, k) :: (E ++ (d, kd) :: P))) := by
            have := @Sg.iff_rot ((d, kd) :: P) ((z1, z2) :: (z1, p2) :: (z1, q2) :: (Q ++ (c, k) :: E))
            simpa using this
          have hcr := crimp_iff (a0 := z1) (k0 := z2) (a1 := z1) (k1 := p2) (a2 := z1) (k2 := q2) (t := Q ++ (c, k) :: (E ++ (d, kd) :: P)) (by simp) (by
            intro r hr
            apply hK r
            simp only [List.mem_cons, List.mem_append] at hr ⊢
            rcases hr with rfl | rfl | rfl | hr | rfl | hr | rfl | hr <;> simp [*]) hne hL (by
            intro r hr
            simp only [List.mem_cons, List.mem_append] at hr
            rcases hr with rfl | rfl | rfl | hr | rfl | hr | rfl | hr
            · exact Int.le_refl _
            · exact Int.le_refl _
            · exact Int.le_refl _
            · rw [hAL r (by simp [hr])]; exact Int.le_refl _
            · exact Int.le_of_lt hc
            · exact hEL r hr
            · exact Int.le_of_lt hd
            · rw [hAL r (by simp [hr])]; exact Int.le_refl _)
          have hrot2 : Sg ((z1 + z1 - z1, z2) :: (Q ++ (c, k) :: (E ++ (d, kd) :: P))) ↔ Sg ((d, kd) :: ((P ++ (z1, z2) :: Q) ++ (c, k) :: E)) := by
            rw [show z1 + z1 - z1 = z1 by omega]
            have := @Sg.iff_rot ((z1, z2) :: (Q ++ (c, k) :: E)) ((d, kd) :: P)
            simpa using this
          have hih := ih (P ++ (z1, z2) :: Q) (by simp at hA ⊢; omega) k kd E (fun r hr => hAL r (by
              simp only [List.mem_cons, List.mem_append] at hr ⊢
              rcases hr with hr | rfl | hr <;> simp [*])) hEL (by
            intro r hr
            apply hK r
            simp only [List.mem_cons, List.mem_append] at hr ⊢
            rcases hr with rfl | (hr | rfl | hr) | rfl | hr <;> simp [*]) (by simp at hpar ⊢; omega)
          rw [hrot, hcr, hrot2, hih]
          apply RunR.congr
          · first | (simp; done) | (simp; omega)
          · simp only [tot_app, tot]; omega
/-! ### all angles alike -/
theorem two_iff {a k0 k1 : Int} (ha : 0 < a) (h0 : k0 = 1 ∨ k0 = 2) (h1 : k1 = 1 ∨ k1 = 2) : Sg [(a, k0), (a, k1)] ↔ k0 = k1 := by
  constructor
  · rintro ⟨N, hG, e⟩
    match N, hG, e with
    | [], _, e => simp at e
    | [_], _, e => simp at e
    | _ :: _ :: _ :: _, _, e => simp at e
    | [s0, s1], hG, e =>
      simp only [List.map_cons, List.map_nil, List.cons.injEq, ang, Prod.mk.injEq, and_true] at e
      obtain ⟨a1, b1, c1⟩ := hG.link (s0, s1) (by simp [cyc, cp, lastN])
      obtain ⟨a2, b2, c2⟩ := hG.link (s1, s0) (by simp [cyc, cp, lastN])
      have n0 := hG.ne s0 (by simp)
      have n1 := hG.ne s1 (by simp)
      have hh := hG.nn (p := (s0, s1)) (by simp [cyc, cp, lastN])
      simp only at a1 b1 c1 a2 b2 c2 hh
      obtain ⟨⟨_, e1⟩, _, e2⟩ := e
      by_cases d : s0.u < s0.v
      · have d1 : ¬ (s1.u < s1.v) := by omega
        simp only [d, d1, true_iff, false_iff] at c1 c2
        omega
      · have d1 : s1.u < s1.v := by omega
        simp only [d, d1, true_iff, false_iff] at c1 c2
        omega
  · rintro rfl
    refine ⟨[⟨0, a, if k0 = 2 then 0 else 1, k0⟩, ⟨a, 0, if k0 = 2 then 1 else 0, k0⟩], ⟨?_, ?_, ?_, ?_, ?_⟩, ?_⟩
    · intro s hs
      simp only [List.mem_cons, List.not_mem_nil, or_false] at hs
      rcases hs with rfl | rfl <;> simp only <;> omega
    · simp only [List.pairwise_cons, List.mem_cons, List.not_mem_nil, or_false, false_imp_iff, implies_true, List.Pairwise.nil, and_true]
      rintro _ rfl
      simp only
      split <;> omega
    · intro p hp
      simp only [cyc, cp, lastN, List.mem_cons, List.not_mem_nil, or_false] at hp
      rcases hp with rfl | rfl
      · refine ⟨rfl, by first | (simp only; done) | omega | (simp only; omega), ?_⟩
        rcases h0 with rfl | rfl <;> simp [ha]
      · refine ⟨rfl, by first | (simp only; done) | omega | (simp only; omega), ?_⟩
        have : ¬ (a < 0) := by omega
        rcases h0 with rfl | rfl <;> simp [this]
    · intro p hp c hc
      simp only [cyc, cp, lastN, List.mem_cons, List.not_mem_nil, or_false] at hp hc
      rcases hp with rfl | rfl <;> rcases hc with rfl | rfl <;> simp only [Nd.lo, Nd.hi] <;> omega
    · intro p hp p' hp'
      simp only [cyc, cp, lastN, List.mem_cons, List.not_mem_nil, or_false] at hp hp'
      rcases hp with rfl | rfl <;> rcases hp' with rfl | rfl <;> simp
    · simp only [List.map_cons, List.map_nil, ang, Nd.lo, Nd.hi, List.cons.injEq, Prod.mk.injEq, and_true]
      omega
theorem all_iff {a : Int} (ha : 0 < a) : ∀ (n : Nat) (l : List R2), l.length ≤ n → (∀ p ∈ l, p.1 = a) → KK l → l.length % 2 = 0 → l ≠ [] → (Sg l ↔ tot l = 2 ∨ tot l = -2) := by
  intro n
  induction n with
  | zero => intro l h _ _ _ h2; exact absurd (List.length_eq_zero_iff.1 (by omega)) h2
  | succ n ih =>
    intro l hn hl hK hpar hne
    cases l with
    | nil => exact absurd rfl hne
    | cons p0 l =>
      by_cases h2 : l.length = 1
      · obtain ⟨p1, rfl⟩ := List.length_eq_one_iff.1 h2
        obtain ⟨a0, k0⟩ := p0
        obtain ⟨a1, k1⟩ := p1
        have e0 : a0 = a := hl (a0, k0) (by simp)
        have e1 : a1 = a := hl (a1, k1) (by simp)
        subst e0 e1
        have hk0 := hK (a1, k0) (by simp)
        have hk1 := hK (a1, k1) (by simp)
        rw [two_iff ha hk0 hk1]
        simp only [tot, sg]
        simp only at hk0 hk1
        omega
      · have h4 : 4 ≤ (p0 :: l).length := by
          simp at hpar ⊢
          omega
        rcases unlike l p0 with hall | ⟨P, p, q, Q, hPQ, hun⟩
        · constructor
          · intro h
            exact absurd h (all_alike hl (k := p0.2) (fun p hp => by rw [hall p hp]) h4)
          · intro h
            exfalso
            have := tot_alike hall
            have hs := sg_kk (hK p0 (by simp))
            rcases hs with hs | hs <;> rw [hs] at this <;> omega
        · -- turned so that the two stand behind another one
          have hX : ∃ z T, (∀ r, r ∈ z :: p :: q :: T ↔ r ∈ p0 :: l) ∧ (z :: p :: q :: T).length = (p0 :: l).length ∧ tot (z :: p :: q :: T) = tot (p0 :: l) ∧ (Sg (p0 :: l) ↔ Sg (z :: p :: q :: T)) := by
            rcases List.eq_nil_or_concat P with rfl | ⟨P, z, rfl⟩
            · rcases List.eq_nil_or_concat Q with rfl | ⟨Q, z, rfl⟩
              · rw [hPQ] at h4
                simp at h4
              · simp only [List.concat_eq_append, List.nil_append] at hPQ
                refine ⟨z, Q, ?_, ?_, ?_, ?_⟩
                · intro r; rw [hPQ]; simp only [List.mem_cons, List.mem_append, List.not_mem_nil, or_false]
                  grind
                · rw [hPQ]; simp
                · rw [hPQ]; simp only [tot, tot_app]; omega
                · rw [hPQ]
                  have := @Sg.iff_rot (p :: q :: Q) [z]
                  simpa using this
            · simp only [List.concat_eq_append] at hPQ
              refine ⟨z, Q ++ P, ?_, ?_, ?_, ?_⟩
              · intro r; rw [hPQ]; simp only [List.mem_cons, List.mem_append, List.not_mem_nil, or_false]
                grind
              · rw [hPQ]; simp; omega
              · rw [hPQ]; simp only [tot, tot_app]; omega
              · rw [hPQ]
                have := @Sg.iff_rot P (z :: p :: q :: Q)
                simpa using this
          obtain ⟨z, T, m1, m2, m3, m4⟩ := hX
          have hz := hl z ((m1 z).1 (by simp))
          have hp := hl p ((m1 p).1 (by simp))
          have hq := hl q ((m1 q).1 (by simp))
          have kz := hK z ((m1 z).1 (by simp))
          have kp := hK p ((m1 p).1 (by simp))
          have kq := hK q ((m1 q).1 (by simp))
          obtain ⟨z1, z2⟩ := z
          obtain ⟨p1, p2⟩ := p
          obtain ⟨q1, q2⟩ := q
          simp only at hz hp hq hun kz kp kq
          subst hz hp
          have hT : T ≠ [] := by
            rintro rfl
            rw [← m2] at h4
            simp at h4
          have hcr := crimp_iff (a0 := p1) (k0 := z2) (a1 := p1) (k1 := p2) (a2 := q1) (k2 := q2) (t := T) hT (fun r hr => hK r ((m1 r).1 hr)) hun ha (fun r hr => by rw [hl r ((m1 r).1 hr)]; exact Int.le_refl _)
          have hih := ih ((p1, z2) :: T) (by rw [← m2] at hn; simp at hn ⊢; omega) (fun r hr => by
              rcases List.mem_cons.1 hr with rfl | hr
              · rfl
              · exact hl r ((m1 r).1 (by simp [hr]))) (fun r hr => by
              rcases List.mem_cons.1 hr with rfl | hr
              · exact kz
              · exact hK r ((m1 r).1 (by simp [hr]))) (by rw [← m2] at hpar; simp at hpar ⊢; omega) (by simp)
          rw [m4, hcr, ← m3, show p1 + q1 - p1 = p1 by omega, hih]
          have := sg_un kp kq hun
          simp only [tot]
          omega
/-- CRIMPS ARE ORDERS. -/
theorem sg_F : ∀ (n : Nat) (l : List R2), l.length ≤ n → Ring (l.map (·.1)) → (∀ p ∈ l, 0 < p.1) → KK l → (Sg l ↔ F l) := by
  intro n
  induction n with
  | zero => intro l h hR; exact absurd (by rw [List.length_eq_zero_iff.1 (by omega : l.length = 0)]; rfl) hR.ne
  | succ n ih =>
    intro l hn hR hpos hK
    have hne : l ≠ [] := fun h => hR.ne (by rw [h]; rfl)
    have hev : l.length % 2 = 0 := by simpa using hR.even
    obtain ⟨L, hL, hmin⟩ : ∃ L ∈ l.map (·.1), ∀ x ∈ l.map (·.1), L ≤ x := by
      have : ∀ (A : List Int), A ≠ [] → ∃ L ∈ A, ∀ x ∈ A, L ≤ x := by
        intro A
        induction A with
        | nil => intro h; exact absurd rfl h
        | cons a A ih =>
          intro _
          by_cases h : A = []
          · subst h; exact ⟨a, by simp, by simp⟩
          · obtain ⟨L, h1, h2⟩ := ih h
            by_cases hl : a ≤ L
            · exact ⟨a, by simp, fun x hx => by rcases List.mem_cons.1 hx with rfl | hx; omega; have := h2 x hx; omega⟩
            · exact ⟨L, by simp [h1], fun x hx => by rcases List.mem_cons.1 hx with rfl | hx; omega; exact h2 x hx⟩
      exact this _ hR.ne
    have hLpos : 0 < L := by
      obtain ⟨p, hp, rfl⟩ := List.mem_map.1 hL
      exact hpos p hp
    by_cases hall : ∀ x ∈ l.map (·.1), x = L
    · have hl : ∀ p ∈ l, p.1 = L := fun p hp => hall _ (List.mem_map_of_mem hp)
      rw [all_iff hLpos l.length l (Nat.le_refl _) hl hK hev hne, F_all_eq hl hne]
    · have hx : ∃ x ∈ l.map (·.1), x ≠ L := by
        apply Classical.byContradiction
        intro hn
        exact hall (fun x hx => Classical.byContradiction fun hne => hn ⟨x, hx, hne⟩)
      obtain ⟨X, Y, R, E, h0, h1, h2, h3, ⟨c, E', h4, hc⟩, ⟨d, E0, h5, hd⟩⟩ := turn_ex _ hL hx
      obtain ⟨lX, lY, rfl, rfl, rfl⟩ := List.map_eq_append_iff.1 h0
      have hm2 : (lY ++ lX).map (·.1) = R ++ E := by rw [List.map_append]; exact h1
      obtain ⟨lR, lE, hRE, rfl, rfl⟩ := List.map_eq_append_iff.1 hm2
      have hmem : ∀ p, p ∈ lR ++ lE ↔ p ∈ lX ++ lY := by
        intro p
        rw [← hRE]
        simp only [List.mem_append]
        exact Or.comm
      have hRing : Ring ((lR ++ lE).map (·.1)) := by rw [← hRE]; rw [List.map_append] at hR ⊢; exact hR.rot
      have hlR : ∀ p ∈ lR, p.1 = L := fun p hp => h3 _ (List.mem_map_of_mem hp)
      have hmn : ∀ p ∈ lR ++ lE, L ≤ p.1 := fun p hp => hmin _ (List.mem_map_of_mem ((hmem p).1 hp))
      have hK2 : KK (lR ++ lE) := fun p hp => hK p ((hmem p).1 hp)
      have hpos2 : ∀ p ∈ lR ++ lE, 0 < p.1 := fun p hp => hpos p ((hmem p).1 hp)
      have hlen : (lR ++ lE).length = (lX ++ lY).length := by rw [← hRE]; simp; omega
      have hlRne : lR ≠ [] := fun h => h2 (by rw [h]; rfl)
      -- the ends of lE
      cases lE with
      | nil => simp at h4
      | cons pc lE1 =>
        obtain ⟨c', kc⟩ := pc
        simp only [List.map_cons, List.cons.injEq] at h4
        obtain ⟨rfl, rfl⟩ := h4
        rcases List.eq_nil_or_concat lE1 with rfl | ⟨lE2, pd, rfl⟩
        · -- one alone: no ring
          exfalso
          rw [List.map_append] at hRing
          by_cases hp : (lR.map (·.1)).length % 2 = 1
          · obtain ⟨M, z, hz, _⟩ := Ring.odd (R := lR.map (·.1)) (c := c') (E := []) hRing h3 hc hp
            simp at hz
          · have := hRing.even
            simp at this hp
            omega
        · obtain ⟨d', kd⟩ := pd
          simp only [List.concat_eq_append] at *
          have hd' : d' = d := by
            have : (c' :: lE2.map (·.1)) ++ [d'] = E0 ++ [d] := by rw [← h5]; simp
            have := (List.append_inj' this rfl).2
            simpa using this
          subst hd'
          have hcL : L < c' := by have := hmn (c', kc) (by simp); simp only at this; omega
          have hdL : L < d' := by have := hmn (d', kd) (by simp); simp only at this; omega
          have hop : Opens L lR ((c', kc) :: (lE2 ++ [(d', kd)])) := opens_of (d := d') (kd := kd) hlRne hlR rfl (E0 := (c', kc) :: lE2) (by simp) hc hd (fun p hp => hmn p (by simp only [List.mem_append]; exact .inr hp))
          rw [F_turn rfl hRE hop]
          have hs1 : Sg (lX ++ lY) ↔ Sg ((d', kd) :: (lR ++ (c', kc) :: lE2)) := by
            rw [Sg.iff_rot, hRE]
            have := @Sg.iff_rot (lR ++ (c', kc) :: lE2) [(d', kd)]
            simpa using this
          have hev2 : (lR.length + lE2.length) % 2 = 0 := by
            rw [← hlen] at hev
            simp at hev
            omega
          rw [hs1, run_iff hLpos hdL hcL lR.length lR (Nat.le_refl _) kc kd lE2 hlR (fun p hp => hmn p (by simp [hp])) (by
            intro p hp
            apply hK2 p
            simp only [List.mem_cons, List.mem_append] at hp ⊢
            rcases hp with rfl | hp | rfl | hp <;> simp [*]) hev2]
          have hRpos : 0 < lR.length := List.length_pos_iff.2 hlRne
          rw [← hlen] at hn
          simp at hn
          by_cases hp : lR.length % 2 = 0
          · have hR2 : Ring (c' :: (lE2 ++ [(d', kd)]).map (·.1)) := by
              rw [List.map_append] at hRing
              exact Ring.evn (R := lR.map (·.1)) hRing h3 (by simpa using hp)
            have hih : ∀ k, (k = 1 ∨ k = 2) → (Sg ((d', kd) :: (c', k) :: lE2) ↔ F ((c', k) :: (lE2 ++ [(d', kd)]))) := by
              intro k hk
              have := ih ((c', k) :: (lE2 ++ [(d', kd)])) (by simp; omega) (by simpa using hR2) (by
                intro p hp
                rcases List.mem_cons.1 hp with rfl | hp
                · exact hpos2 (c', kc) (by simp)
                · exact hpos2 p (by simp at hp ⊢; grind)) (by
                intro p hp
                rcases List.mem_cons.1 hp with rfl | hp
                · exact hk
                · exact hK2 p (by simp at hp ⊢; grind))
              rw [← this]
              have := @Sg.iff_rot [(d', kd)] ((c', k) :: lE2)
              simpa using this
            constructor
            · rintro (⟨_, k', hk, hS⟩ | ⟨h, _⟩)
              · have hk' : k' = 1 ∨ k' = 2 := by rcases hk with ⟨_, h⟩ | ⟨_, h⟩; exact .inl h; exact .inr h
                exact ⟨_, close_even hp hk, (hih k' hk').1 hS⟩
              · omega
            · rintro ⟨l', hcl, hF⟩
              rcases close_inv hcl with ⟨_, k', hk, rfl⟩ | ⟨h, _⟩
              · have hk' : k' = 1 ∨ k' = 2 := by rcases hk with ⟨_, h⟩ | ⟨_, h⟩; exact .inl h; exact .inr h
                exact .inl ⟨hp, k', hk, (hih k' hk').2 hF⟩
              · omega
          · have hp1 : lR.length % 2 = 1 := by omega
            have hR2 : Ring ((d' + c' - L) :: lE2.map (·.1)) := by
              rw [List.map_append] at hRing
              obtain ⟨M, z, hz, hR3⟩ := Ring.odd (R := lR.map (·.1)) (c := c') (E := (lE2 ++ [(d', kd)]).map (fun p : R2 => p.1)) (by simpa using hRing) h3 hc (by simpa using hp1)
              rw [List.map_append] at hz
              obtain ⟨z1, z2⟩ := List.append_inj' hz rfl
              simp at z2
              rw [z1, z2]
              exact hR3
            have hih := ih ((d' + c' - L, kd) :: lE2) (by simp; omega) (by simpa using hR2) (by
                intro p hp
                rcases List.mem_cons.1 hp with rfl | hp
                · simp only; omega
                · exact hpos2 p (by simp [hp])) (by
                intro p hp
                rcases List.mem_cons.1 hp with rfl | hp
                · exact hK2 (d', kd) (by simp)
                · exact hK2 p (by simp [hp]))
            constructor
            · rintro (⟨h, _⟩ | ⟨_, h, hS⟩)
              · omega
              · exact ⟨_, close_odd hp1 h, hih.1 hS⟩
            · rintro ⟨l', hcl, hF⟩
              rcases close_inv hcl with ⟨h, _⟩ | ⟨_, h, E', d'', kd', he, rfl⟩
              · omega
              · obtain ⟨z1, z2⟩ := List.append_inj' he rfl
                simp only [List.cons.injEq, Prod.mk.injEq, and_true] at z2
                rw [← z1, ← z2.1, ← z2.2] at hF
                exact .inr ⟨hp1, h, hih.2 hF⟩
end Go.Proofs.Ytcfeejlhhimpjaa.Vo
