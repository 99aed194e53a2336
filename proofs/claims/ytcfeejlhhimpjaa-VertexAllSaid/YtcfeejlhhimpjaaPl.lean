/- Crimps on a ring of angles: whichever run of smallest angles is folded first, the ring can be folded or not; kinds changed; read from the other end; some kinds always serve. -/
import Derived.Test.YtcfeejlhhimpjaaBk
namespace Go.Proofs.Ytcfeejlhhimpjaa.Vx
set_option linter.unusedSimpArgs false
set_option linter.unusedVariables false
abbrev P2 := Int × Int
def sg (k : Int) : Int := 3 - 2 * k
def tot : List P2 → Int
  | [] => 0
  | p :: l => sg p.2 + tot l
theorem tot_app (a b : List P2) : tot (a ++ b) = tot a + tot b := by
  induction a with
  | nil => simp [tot]
  | cons p a ih => simp [tot, ih]; omega
/-- the rest of a ring behind a run of smallest angles (of which 'R' are the creases and angles): what comes of the fold. -/
def close (L : Int) (R : List P2) : List P2 → Option (List P2)
  | [] => none
  | (c, kc) :: E =>
    if R.length % 2 = 1 then
      if tot R + sg kc = 0 then
        match E.getLast? with
        | none => none
        | some (d, kd) => some ((d + c - L, kd) :: E.dropLast)
      else none
    else if tot R + sg kc = 1 then some ((c, 1) :: E)
    else if tot R + sg kc = -1 then some ((c, 2) :: E)
    else none
def Kd (t k : Int) : Prop := (t = 1 ∧ k = 1) ∨ (t = -1 ∧ k = 2)
theorem close_even {L : Int} {R : List P2} {c kc k : Int} {E : List P2} (h : R.length % 2 = 0) (hk : Kd (tot R + sg kc) k) : close L R ((c, kc) :: E) = some ((c, k) :: E) := by
  rcases hk with ⟨h1, rfl⟩ | ⟨h1, rfl⟩ <;> simp [close, h, h1]
theorem close_odd {L : Int} {R : List P2} {c kc d kd : Int} {E : List P2} (h : R.length % 2 = 1) (hk : tot R + sg kc = 0) : close L R ((c, kc) :: (E ++ [(d, kd)])) = some ((d + c - L, kd) :: E) := by
  simp [close, h, hk]
theorem last_of : ∀ (E : List P2), E = [] ∨ ∃ E' d kd, E = E' ++ [(d, kd)] := by
  intro E
  rcases List.eq_nil_or_concat E with h | ⟨E', p, h⟩
  · exact .inl h
  · exact .inr ⟨E', p.1, p.2, by simpa using h⟩
theorem close_inv {L : Int} {R : List P2} {c kc : Int} {E l' : List P2} (h : close L R ((c, kc) :: E) = some l') :
    (R.length % 2 = 0 ∧ ∃ k, Kd (tot R + sg kc) k ∧ l' = (c, k) :: E) ∨ (R.length % 2 = 1 ∧ tot R + sg kc = 0 ∧ ∃ E' d kd, E = E' ++ [(d, kd)] ∧ l' = (d + c - L, kd) :: E') := by
  by_cases hp : R.length % 2 = 1
  · by_cases hk : tot R + sg kc = 0
    · rcases last_of E with rfl | ⟨E', d, kd, rfl⟩
      · simp [close, hp, hk] at h
      · rw [close_odd hp hk] at h
        exact .inr ⟨hp, hk, E', d, kd, rfl, (Option.some.inj h).symm⟩
    · simp [close, hp, hk] at h
  · have hp0 : R.length % 2 = 0 := by omega
    by_cases h1 : tot R + sg kc = 1
    · rw [close_even hp0 (k := 1) (.inl ⟨h1, rfl⟩)] at h
      exact .inl ⟨hp0, 1, .inl ⟨h1, rfl⟩, (Option.some.inj h).symm⟩
    · by_cases h2 : tot R + sg kc = -1
      · rw [close_even hp0 (k := 2) (.inr ⟨h2, rfl⟩)] at h
        exact .inl ⟨hp0, 2, .inr ⟨h2, rfl⟩, (Option.some.inj h).symm⟩
      · simp [close, hp, h1, h2] at h
/-- a ring that begins with a run of its smallest angle, and does not end with it -/
structure Opens (L : Int) (R E : List P2) : Prop where
  ne : R ≠ []
  all : ∀ p ∈ R, p.1 = L
  hd : ∀ p E', E = p :: E' → p.1 ≠ L
  lst : ∀ p E', E = E' ++ [p] → p.1 ≠ L
  le : ∀ p ∈ E, L ≤ p.1
  ene : E ≠ []
inductive F : List P2 → Prop
  | base (l : List P2) (a : Int) (h : ∀ p ∈ l, p.1 = a) (hne : l ≠ []) (ht : tot l = 2 ∨ tot l = -2) : F l
  | step (X Y : List P2) (L : Int) (R E l' : List P2) (hrot : X ++ Y = R ++ E) (ho : Opens L R E) (hc : close L R E = some l') (hF : F l') : F (Y ++ X)
theorem F.rot {X Y : List P2} (h : F (X ++ Y)) : F (Y ++ X) := by
  generalize hl : X ++ Y = l at h
  cases h with
  | base _ a ha hne ht =>
    subst hl
    refine F.base _ a (fun p hp => ha p ?_) ?_ ?_
    · simp at hp ⊢; exact hp.symm
    · intro h; apply hne; simp at h ⊢; exact ⟨h.2, h.1⟩
    · rw [tot_app] at ht ⊢; omega
  | step X' Y' L R E l' hrot ho hc hF =>
    rcases List.append_eq_append_iff.1 hl with ⟨Z, h1, h2⟩ | ⟨Z, h1, h2⟩
    · subst h1 h2
      have := F.step (X' ++ X) Z L R E l' (by rw [← hrot]; simp) ho hc hF
      simpa using this
    · subst h1 h2
      have := F.step Z (Y ++ Y') L R E l' (by rw [← hrot]; simp) ho hc hF
      simpa using this
theorem F.at_front {L : Int} {R E l' : List P2} (ho : Opens L R E) (hc : close L R E = some l') (hF : F l') : F (R ++ E) := by
  have := F.step (R ++ E) [] L R E l' (by simp) ho hc hF
  simpa using this
theorem Opens.last_ne {L : Int} {R E Z : List P2} {p : P2} (h : Opens L R E) (hz : R ++ E = Z ++ [p]) : p.1 ≠ L := by
  rcases last_of E with h0 | ⟨E', d, kd, rfl⟩
  · exact absurd h0 h.ene
  · have h1 := h.lst _ _ rfl
    rw [← List.append_assoc] at hz
    have := (List.append_inj' hz rfl).2
    simp at this
    rw [← this]
    exact h1
theorem Opens.min {L M : Int} {R E R' E' : List P2} (h : Opens L R E) (h' : Opens M R' E') (hm : ∀ p, p ∈ R ++ E ↔ p ∈ R' ++ E') : L = M := by
  obtain ⟨p, hp⟩ := List.exists_mem_of_ne_nil _ h.ne
  obtain ⟨q, hq⟩ := List.exists_mem_of_ne_nil _ h'.ne
  have h1 : ∀ x ∈ R ++ E, L ≤ x.1 := fun x hx => by
    rcases List.mem_append.1 hx with hx | hx
    · rw [h.all x hx]; exact Int.le_refl _
    · exact h.le x hx
  have h2 : ∀ x ∈ R' ++ E', M ≤ x.1 := fun x hx => by
    rcases List.mem_append.1 hx with hx | hx
    · rw [h'.all x hx]; exact Int.le_refl _
    · exact h'.le x hx
  have a1 := h1 q ((hm q).2 (List.mem_append_left _ hq))
  have a2 := h2 p ((hm p).1 (List.mem_append_left _ hp))
  rw [h'.all q hq] at a1
  rw [h.all p hp] at a2
  omega
theorem run_unique {L : Int} : ∀ {R E R' E' : List P2}, Opens L R E → Opens L R' E' → R ++ E = R' ++ E' → R = R' ∧ E = E' := by
  intro R E R' E' h h' he
  have key : ∀ (R R' : List P2), (∀ p ∈ R, p.1 = L) → (∀ p ∈ R', p.1 = L) → R ++ E = R' ++ E' → R = R' ∧ E = E' := by
    intro R
    induction R with
    | nil =>
      intro R' _ hr' he
      cases R' with
      | nil => exact ⟨rfl, by simpa using he⟩
      | cons q R' =>
        simp only [List.nil_append, List.cons_append] at he
        exact absurd (hr' q List.mem_cons_self) (h.hd q _ he)
    | cons p R ih =>
      intro R' hr hr' he
      cases R' with
      | nil =>
        simp only [List.nil_append, List.cons_append] at he
        exact absurd (hr p List.mem_cons_self) (h'.hd p _ he.symm)
      | cons q R' =>
        simp only [List.cons_append, List.cons.injEq] at he
        obtain ⟨rfl, he⟩ := he
        obtain ⟨h1, h2⟩ := ih R' (fun x hx => hr x (List.mem_cons_of_mem _ hx)) (fun x hx => hr' x (List.mem_cons_of_mem _ hx)) he
        exact ⟨by rw [h1], h2⟩
  exact key R R' h.all h'.all he
theorem split2 {L : Int} {R1 E1 R2 E2 P Q : List P2} (h1 : Opens L R1 E1) (h2 : Opens L R2 E2) (e1 : R1 ++ E1 = P ++ Q) (e2 : R2 ++ E2 = Q ++ P) :
    (R1 = R2 ∧ E1 = E2) ∨ ∃ C D, C ≠ [] ∧ D ≠ [] ∧ E1 = C ++ (R2 ++ D) ∧ E2 = D ++ (R1 ++ C) := by
  rcases last_of P with rfl | ⟨P', a, ka, hP⟩
  · exact .inl (run_unique h1 h2 (by rw [e1, e2]; simp))
  rcases last_of Q with rfl | ⟨Q', b, kb, hQ⟩
  · exact .inl (run_unique h1 h2 (by rw [e1, e2]; simp))
  have la : a ≠ L := h2.last_ne (Z := Q ++ P') (p := (a, ka)) (by rw [e2, hP]; simp)
  have lb : b ≠ L := h1.last_ne (Z := P ++ Q') (p := (b, kb)) (by rw [e1, hQ]; simp)
  right
  rcases List.append_eq_append_iff.1 e1 with ⟨C, p1, p2⟩ | ⟨Z, p1, p2⟩
  · rcases List.append_eq_append_iff.1 e2 with ⟨D, q1, q2⟩ | ⟨Z, q1, q2⟩
    · refine ⟨C, D, ?_, ?_, by rw [p2, q1], by rw [q2, p1]⟩
      · rintro rfl
        have := h1.all (a, ka) (by simp at p1; rw [← p1, hP]; simp)
        exact la this
      · rintro rfl
        have := h2.all (b, kb) (by simp at q1; rw [← q1, hQ]; simp)
        exact lb this
    · have := h2.all (b, kb) (by rw [q1, hQ]; simp)
      exact absurd this lb
  · have := h1.all (a, ka) (by rw [p1, hP]; simp)
    exact absurd this la

theorem head_of {E : List P2} (h : E ≠ []) : ∃ c kc E', E = (c, kc) :: E' := by
  cases E with
  | nil => exact absurd rfl h
  | cons p E' => exact ⟨p.1, p.2, E', rfl⟩
theorem lst_tail {L x k : Int} {A D2 : List P2} (hx : x ≠ L) (hD : ∀ D3 y ky, D2 = D3 ++ [(y, ky)] → y ≠ L) : ∀ p E', A ++ (x, k) :: D2 = E' ++ [p] → p.1 ≠ L := by
  intro p E' he
  rcases last_of D2 with rfl | ⟨D3, y, ky, rfl⟩
  · have := (List.append_inj' he rfl).2
    simp at this
    rw [← this]; exact hx
  · have he' : (A ++ (x, k) :: D3) ++ [(y, ky)] = E' ++ [p] := by rw [← he]; simp
    have := (List.append_inj' he' rfl).2
    simp at this
    rw [← this]; exact hD D3 y ky rfl
theorem opens_mk {L : Int} {R A B : List P2} {x k : Int} (h0 : R ≠ []) (h1 : ∀ p ∈ R, p.1 = L) (hx : x ≠ L) (hh : ∀ p A', A = p :: A' → p.1 ≠ L) (hB : ∀ D3 y ky, B = D3 ++ [(y, ky)] → y ≠ L)
    (le : ∀ p ∈ A, L ≤ p.1) (lx : L ≤ x) (lb : ∀ p ∈ B, L ≤ p.1) : Opens L R (A ++ (x, k) :: B) := by
  refine ⟨h0, h1, ?_, lst_tail hx hB, ?_, by simp⟩
  · intro p E' he
    cases A with
    | nil =>
      simp only [List.nil_append, List.cons.injEq] at he
      rw [← he.1]; exact hx
    | cons q A' =>
      simp only [List.cons_append, List.cons.injEq] at he
      rw [← he.1]; exact hh q A' rfl
  · intro p hp
    simp only [List.mem_append, List.mem_cons] at hp
    rcases hp with hp | rfl | hp
    · exact le p hp
    · exact lx
    · exact lb p hp
/-- WHICHEVER RUN IS FOLDED FIRST: the ring behind it can be folded just if it could be folded behind another. -/
theorem conf_step (N : Nat) (ih : ∀ l, l.length < N → F l → ∀ X Y L R E, X ++ Y = l → Y ++ X = R ++ E → Opens L R E → ∃ l', close L R E = some l' ∧ F l')
    {L : Int} {R1 R2 C D l' : List P2} (h1 : Opens L R1 (C ++ (R2 ++ D))) (h2 : Opens L R2 (D ++ (R1 ++ C))) (hC : C ≠ []) (hD : D ≠ []) (hN : (R1 ++ (C ++ (R2 ++ D))).length ≤ N)
    (hc : close L R1 (C ++ (R2 ++ D)) = some l') (hF : F l') : ∃ l2, close L R2 (D ++ (R1 ++ C)) = some l2 ∧ F l2 := by
  obtain ⟨c, kc, C1, rfl⟩ := head_of hC
  obtain ⟨x, kx, D2, hx⟩ := head_of hD
  have cL : c ≠ L := h1.hd _ _ rfl
  have xL : x ≠ L := h2.hd (x, kx) (D2 ++ (R1 ++ (c, kc) :: C1)) (by rw [hx]; rfl)
  have cL2 : L < c := by have := h1.le (c, kc) (by simp); simp at this; omega
  have xL2 : L < x := by have := h2.le (x, kx) (by rw [hx]; simp); simp at this; omega
  have hRpos : 0 < R1.length := List.length_pos_iff.2 h1.ne
  have leC : ∀ p ∈ C1, L ≤ p.1 := fun p hp => h1.le p (by simp [hp])
  have leD : ∀ p ∈ D, L ≤ p.1 := fun p hp => h1.le p (by simp [hp])
  have lstC : ∀ C3 y ky, C1 = C3 ++ [(y, ky)] → y ≠ L := fun C3 y ky e => h2.lst (y, ky) (D ++ (R1 ++ (c, kc) :: C3)) (by rw [e]; simp)
  have lstD : ∀ D3 y ky, D = D3 ++ [(y, ky)] → y ≠ L := fun D3 y ky e => h1.lst (y, ky) ((c, kc) :: C1 ++ (R2 ++ D3)) (by rw [e]; simp)
  have lstD2 : ∀ D3 y ky, D2 = D3 ++ [(y, ky)] → y ≠ L := fun D3 y ky e => lstD ((x, kx) :: D3) y ky (by rw [hx, e]; simp)
  have leD2 : ∀ p ∈ D2, L ≤ p.1 := fun p hp => leD p (by rw [hx]; simp [hp])
  simp only [List.cons_append] at hc
  rcases close_inv hc with ⟨p1, k1, hk1, rfl⟩ | ⟨p1, hk1, E', d, kd, hE, rfl⟩
  · -- the first run is even
    have ho : Opens L R2 (D ++ (c, k1) :: C1) := opens_mk h2.ne h2.all cL (fun p A' e => by rw [hx] at e; simp only [List.cons.injEq] at e; rw [← e.1]; exact xL) lstC leD (Int.le_of_lt cL2) leC
    obtain ⟨Z, hZ, hFZ⟩ := ih ((c, k1) :: (C1 ++ (R2 ++ D))) (by simp at hN ⊢; omega) hF ((c, k1) :: C1) (R2 ++ D) L R2 (D ++ (c, k1) :: C1) (by simp) (by simp) ho
    rw [hx] at hZ ⊢
    simp only [List.cons_append] at hZ ⊢
    rcases close_inv hZ with ⟨p2, k2, hk2, rfl⟩ | ⟨p2, hk2, E', d, kd, hE, rfl⟩
    · refine ⟨_, close_even p2 hk2, ?_⟩
      have hf : F ((c, k1) :: (C1 ++ (x, k2) :: D2)) := by
        have := F.rot (X := (x, k2) :: D2) (Y := (c, k1) :: C1) (by simpa using hFZ)
        simpa using this
      have := F.rot (X := R1 ++ (c, kc) :: C1) (Y := (x, k2) :: D2) (by
        have := F.at_front (L := L) (R := R1) (E := (c, kc) :: (C1 ++ (x, k2) :: D2))
          (opens_mk (A := (c, kc) :: C1) h1.ne h1.all xL (fun p A' e => by simp only [List.cons.injEq] at e; rw [← e.1]; exact cL) lstD2 (fun p hp => by rcases List.mem_cons.1 hp with rfl | hp; exact Int.le_of_lt cL2; exact leC p hp) (Int.le_of_lt xL2) leD2)
          (close_even p1 hk1) hf
        simpa using this)
      simpa using this
    · -- the second one is odd
      rcases last_of C1 with rfl | ⟨C3, y, ky, rfl⟩
      · have he := List.append_inj' hE rfl
        obtain ⟨rfl, he2⟩ := he
        simp at he2
        obtain ⟨rfl, rfl⟩ := he2
        refine ⟨(c + x - L, kc) :: (D2 ++ R1), ?_, ?_⟩
        · have := close_odd (L := L) (R := R2) (c := x) (kc := kx) (d := c) (kd := kc) (E := D2 ++ R1) p2 hk2
          simpa using this
        · have := F.rot (X := R1) (Y := (c + x - L, kc) :: D2) (by
            have := F.at_front (L := L) (R := R1) (E := (c + x - L, kc) :: D2)
              (opens_mk (A := []) h1.ne h1.all (by omega) (fun p A' e => by cases e) lstD2 (fun p hp => by cases hp) (by omega) leD2) (close_even p1 hk1) hFZ
            simpa using this)
          simpa using this
      · have hE' : (D2 ++ (c, k1) :: C3) ++ [(y, ky)] = E' ++ [(d, kd)] := by rw [← hE]; simp
        have he := List.append_inj' hE' rfl
        obtain ⟨rfl, he2⟩ := he
        simp at he2
        obtain ⟨rfl, rfl⟩ := he2
        have yL : y ≠ L := lstC _ _ _ rfl
        have yL2 : L < y := by have := leC (y, ky) (by simp); simp at this; omega
        refine ⟨(y + x - L, ky) :: (D2 ++ (R1 ++ (c, kc) :: C3)), ?_, ?_⟩
        · have := close_odd (L := L) (R := R2) (c := x) (kc := kx) (d := y) (kd := ky) (E := D2 ++ (R1 ++ (c, kc) :: C3)) p2 hk2
          simpa using this
        · have hf : F ((c, k1) :: (C3 ++ (y + x - L, ky) :: D2)) := by
            have := F.rot (X := (y + x - L, ky) :: D2) (Y := (c, k1) :: C3) (by simpa using hFZ)
            simpa using this
          have := F.rot (X := R1 ++ (c, kc) :: C3) (Y := (y + x - L, ky) :: D2) (by
            have := F.at_front (L := L) (R := R1) (E := (c, kc) :: (C3 ++ (y + x - L, ky) :: D2))
              (opens_mk (A := (c, kc) :: C3) h1.ne h1.all (by omega) (fun p A' e => by simp only [List.cons.injEq] at e; rw [← e.1]; exact cL) lstD2 (fun p hp => by rcases List.mem_cons.1 hp with rfl | hp; exact Int.le_of_lt cL2; exact leC p (by simp [hp])) (by omega) leD2)
              (close_even p1 hk1) hf
            simpa using this)
          simpa using this
  · -- the first run is odd
    obtain ⟨D1, hD1, rfl⟩ : ∃ D1, D = D1 ++ [(d, kd)] ∧ E' = C1 ++ (R2 ++ D1) := by
      rcases last_of D with h0 | ⟨D1, d', kd', hd⟩
      · exact absurd h0 hD
      · have he : (C1 ++ (R2 ++ D1)) ++ [(d', kd')] = E' ++ [(d, kd)] := by rw [← hE, hd]; simp
        have he := List.append_inj' he rfl
        obtain ⟨e1, e2⟩ := he
        simp at e2
        exact ⟨D1, by rw [hd, e2.1, e2.2], e1.symm⟩
    have dL : d ≠ L := lstD _ _ _ hD1
    have dL2 : L < d := by have := leD (d, kd) (by rw [hD1]; simp); simp at this; omega
    have hdc : d + c - L ≠ L := by omega
    have leD1 : ∀ p ∈ D1, L ≤ p.1 := fun p hp => leD p (by rw [hD1]; simp [hp])
    have hdD1 : ∀ p A', D1 = p :: A' → p.1 ≠ L := fun p A' e => by
      rw [hD1, e] at hx
      simp only [List.cons_append, List.cons.injEq] at hx
      rw [hx.1]; exact xL
    have ho : Opens L R2 (D1 ++ (d + c - L, kd) :: C1) := opens_mk h2.ne h2.all hdc hdD1 lstC leD1 (by omega) leC
    obtain ⟨Z, hZ, hFZ⟩ := ih ((d + c - L, kd) :: (C1 ++ (R2 ++ D1))) (by rw [hD1] at hN; simp at hN ⊢; omega) hF ((d + c - L, kd) :: C1) (R2 ++ D1) L R2 (D1 ++ (d + c - L, kd) :: C1) (by simp) (by simp) ho
    cases D1 with
    | nil =>
      simp only [List.nil_append] at hD1 hZ
      rw [hD1]
      simp only [List.cons_append, List.nil_append]
      rcases close_inv hZ with ⟨p2, k2, hk2, rfl⟩ | ⟨p2, hk2, E', y, ky, hE2, rfl⟩
      · refine ⟨_, close_even p2 hk2, ?_⟩
        have := F.rot (X := R1 ++ (c, kc) :: C1) (Y := [(d, k2)]) (by
          have := F.at_front (L := L) (R := R1) (E := (c, kc) :: (C1 ++ [(d, k2)]))
            (opens_mk (A := (c, kc) :: C1) h1.ne h1.all dL (fun p A' e => by simp only [List.cons.injEq] at e; rw [← e.1]; exact cL) (fun D3 y ky e => by simp at e) (fun p hp => by rcases List.mem_cons.1 hp with rfl | hp; exact Int.le_of_lt cL2; exact leC p hp) (Int.le_of_lt dL2) (fun p hp => by cases hp))
            (close_odd p1 hk1) hFZ
          simpa using this)
        simpa using this
      · subst hE2
        have yL : y ≠ L := lstC _ _ _ rfl
        have yL2 : L < y := by have := leC (y, ky) (by simp); simp at this; omega
        refine ⟨(y + d - L, ky) :: (R1 ++ (c, kc) :: E'), ?_, ?_⟩
        · have := close_odd (L := L) (R := R2) (c := d) (kc := kd) (d := y) (kd := ky) (E := R1 ++ (c, kc) :: E') p2 hk2
          simpa using this
        · have := F.rot (X := R1 ++ (c, kc) :: E') (Y := [(y + d - L, ky)]) (by
            have := F.at_front (L := L) (R := R1) (E := (c, kc) :: (E' ++ [(y + d - L, ky)]))
              (opens_mk (A := (c, kc) :: E') h1.ne h1.all (by omega) (fun p A' e => by simp only [List.cons.injEq] at e; rw [← e.1]; exact cL) (fun D3 y ky e => by simp at e) (fun p hp => by rcases List.mem_cons.1 hp with rfl | hp; exact Int.le_of_lt cL2; exact leC p (by simp [hp])) (by omega) (fun p hp => by cases hp))
              (close_odd p1 hk1) (by rw [show y + d - L + c - L = y + (d + c - L) - L by omega]; exact hFZ)
            simpa using this)
          simpa using this
    | cons q D3 =>
      obtain ⟨x', kx'⟩ := q
      rw [hD1] at hx
      simp only [List.cons_append, List.cons.injEq, Prod.mk.injEq] at hx
      obtain ⟨⟨rfl, rfl⟩, hx2⟩ := hx
      simp only [List.cons_append] at hD1 hZ
      rw [hD1]
      simp only [List.cons_append, List.append_assoc, List.nil_append]
      have leD3 : ∀ p ∈ D3, L ≤ p.1 := fun p hp => leD1 p (by simp [hp])
      rcases close_inv hZ with ⟨p2, k2, hk2, rfl⟩ | ⟨p2, hk2, E', y, ky, hE2, rfl⟩
      · refine ⟨_, close_even p2 hk2, ?_⟩
        have hf : F ((d + c - L, kd) :: (C1 ++ (x', k2) :: D3)) := by
          have := F.rot (X := (x', k2) :: D3) (Y := (d + c - L, kd) :: C1) (by simpa using hFZ)
          simpa using this
        have := F.rot (X := R1 ++ (c, kc) :: C1) (Y := (x', k2) :: (D3 ++ [(d, kd)])) (by
          have := F.at_front (L := L) (R := R1) (E := (c, kc) :: ((C1 ++ (x', k2) :: D3) ++ [(d, kd)]))
            (by
              have := opens_mk (L := L) (R := R1) (A := (c, kc) :: (C1 ++ (x', k2) :: D3)) (x := d) (k := kd) (B := []) h1.ne h1.all dL (fun p A' e => by simp only [List.cons.injEq] at e; rw [← e.1]; exact cL) (fun D3 y ky e => by simp at e) (fun p hp => by
                simp only [List.mem_cons, List.mem_append] at hp
                rcases hp with rfl | hp | rfl | hp
                · exact Int.le_of_lt cL2
                · exact leC p hp
                · exact Int.le_of_lt xL2
                · exact leD3 p hp) (Int.le_of_lt dL2) (fun p hp => by cases hp)
              simpa using this)
            (close_odd p1 hk1) (by simpa using hf)
          simpa using this)
        simpa using this
      · rcases last_of C1 with rfl | ⟨C3, z, kz, rfl⟩
        · have he := List.append_inj' hE2 rfl
          obtain ⟨rfl, he2⟩ := he
          simp at he2
          obtain ⟨rfl, rfl⟩ := he2
          refine ⟨(c + x' - L, kc) :: (D3 ++ ((d, kd) :: R1)), ?_, ?_⟩
          · have := close_odd (L := L) (R := R2) (c := x') (kc := kx') (d := c) (kd := kc) (E := D3 ++ ((d, kd) :: R1)) p2 hk2
            simpa using this
          · have := F.rot (X := R1) (Y := (c + x' - L, kc) :: (D3 ++ [(d, kd)])) (by
              have := F.at_front (L := L) (R := R1) (E := (c + x' - L, kc) :: (D3 ++ [(d, kd)]))
                (by
                  have := opens_mk (L := L) (R := R1) (A := (c + x' - L, kc) :: D3) (x := d) (k := kd) (B := []) h1.ne h1.all dL (fun p A' e => by simp only [List.cons.injEq] at e; rw [← e.1]; simp; omega) (fun D3 y ky e => by simp at e) (fun p hp => by
                    simp only [List.mem_cons] at hp
                    rcases hp with rfl | hp
                    · simp; omega
                    · exact leD3 p hp) (Int.le_of_lt dL2) (fun p hp => by cases hp)
                  simpa using this)
                (close_odd p1 hk1) (by rw [show d + (c + x' - L) - L = d + c - L + x' - L by omega]; exact hFZ)
              simpa using this)
            simpa using this
        · have hE' : (D3 ++ (d + c - L, kd) :: C3) ++ [(z, kz)] = E' ++ [(y, ky)] := by rw [← hE2]; simp
          have he := List.append_inj' hE' rfl
          obtain ⟨rfl, he2⟩ := he
          simp at he2
          obtain ⟨rfl, rfl⟩ := he2
          have zL : z ≠ L := lstC _ _ _ rfl
          have zL2 : L < z := by have := leC (z, kz) (by simp); simp at this; omega
          refine ⟨(z + x' - L, kz) :: (D3 ++ ((d, kd) :: (R1 ++ (c, kc) :: C3))), ?_, ?_⟩
          · have := close_odd (L := L) (R := R2) (c := x') (kc := kx') (d := z) (kd := kz) (E := D3 ++ ((d, kd) :: (R1 ++ (c, kc) :: C3))) p2 hk2
            simpa using this
          · have hf : F ((d + c - L, kd) :: (C3 ++ (z + x' - L, kz) :: D3)) := by
              have := F.rot (X := (z + x' - L, kz) :: D3) (Y := (d + c - L, kd) :: C3) (by simpa using hFZ)
              simpa using this
            have := F.rot (X := R1 ++ (c, kc) :: C3) (Y := (z + x' - L, kz) :: (D3 ++ [(d, kd)])) (by
              have := F.at_front (L := L) (R := R1) (E := (c, kc) :: ((C3 ++ (z + x' - L, kz) :: D3) ++ [(d, kd)]))
                (by
                  have := opens_mk (L := L) (R := R1) (A := (c, kc) :: (C3 ++ (z + x' - L, kz) :: D3)) (x := d) (k := kd) (B := []) h1.ne h1.all dL (fun p A' e => by simp only [List.cons.injEq] at e; rw [← e.1]; exact cL) (fun D3 y ky e => by simp at e) (fun p hp => by
                    simp only [List.mem_cons, List.mem_append] at hp
                    rcases hp with rfl | hp | rfl | hp
                    · exact Int.le_of_lt cL2
                    · exact leC p (by simp [hp])
                    · simp; omega
                    · exact leD3 p hp) (Int.le_of_lt dL2) (fun p hp => by cases hp)
                  simpa using this)
                (close_odd p1 hk1) (by simpa using hf)
              simpa using this)
            simpa using this
theorem conf : ∀ (N : Nat) (l : List P2), l.length < N → F l → ∀ X Y L R E, X ++ Y = l → Y ++ X = R ++ E → Opens L R E → ∃ l', close L R E = some l' ∧ F l' := by
  intro N
  induction N with
  | zero => intro l h; omega
  | succ N ih =>
    intro l hl hF X Y L R E hXY hYX ho
    cases hF with
    | base _ a ha hne ht =>
      exfalso
      obtain ⟨c, kc, E', rfl⟩ := head_of ho.ene
      obtain ⟨p, hp⟩ := List.exists_mem_of_ne_nil _ ho.ne
      have m1 : ∀ q, q ∈ R ++ (c, kc) :: E' → q.1 = a := fun q hq => ha q (by rw [← hYX] at hq; rw [← hXY]; simp at hq ⊢; exact hq.symm)
      have h1 := m1 p (by simp [hp])
      have h2 := m1 (c, kc) (by simp)
      rw [ho.all p hp] at h1
      exact ho.hd (c, kc) E' rfl (by rw [h2, h1])
    | step X1 Y1 L1 R1 E1 l1 hrot h1 hc hF1 =>
      have hmem : ∀ p, p ∈ R ++ E ↔ p ∈ R1 ++ E1 := fun p => by
        rw [← hYX, ← hrot]
        have : p ∈ X ++ Y ↔ p ∈ Y1 ++ X1 := by rw [hXY]
        simp at this ⊢
        constructor
        · intro h; exact (this.1 h.symm).symm
        · intro h; exact (this.2 h.symm).symm
      obtain rfl : L = L1 := Opens.min ho h1 hmem
      have hlen : (R1 ++ E1).length ≤ N := by
        have e1 : (Y1 ++ X1).length = (X1 ++ Y1).length := by simp; omega
        rw [← hrot, ← e1]; omega
      have hPQ : ∃ P Q, R1 ++ E1 = P ++ Q ∧ R ++ E = Q ++ P := by
        rcases List.append_eq_append_iff.1 hXY with ⟨Z, e1, e2⟩ | ⟨Z, e1, e2⟩
        · exact ⟨X1 ++ X, Z, by rw [← hrot, e1]; simp, by rw [← hYX, e2]; simp⟩
        · exact ⟨Z, Y ++ Y1, by rw [← hrot, e2]; simp, by rw [← hYX, e1]; simp⟩
      obtain ⟨P, Q, e1, e2⟩ := hPQ
      rcases split2 h1 ho e1 e2 with ⟨rfl, rfl⟩ | ⟨C, D, hC, hD, rfl, rfl⟩
      · exact ⟨l1, hc, hF1⟩
      · exact conf_step N ih h1 ho hC hD hlen hc hF1

theorem tot_F {l : List P2} (h : F l) : tot l = 2 ∨ tot l = -2 := by
  induction h with
  | base l a _ _ ht => exact ht
  | step X Y L R E l' hrot ho hc hF ih =>
    obtain ⟨c, kc, E', rfl⟩ := head_of ho.ene
    have h1 : tot (Y ++ X) = tot (R ++ (c, kc) :: E') := by rw [← hrot, tot_app, tot_app]; omega
    rw [h1, tot_app]
    simp only [tot]
    rcases close_inv hc with ⟨_, k, hk, rfl⟩ | ⟨_, hk, M, d, kd, rfl, rfl⟩
    · simp only [tot] at ih
      rcases hk with ⟨hk, rfl⟩ | ⟨hk, rfl⟩ <;> simp [sg] at ih hk ⊢ <;> omega
    · rw [tot_app] at *
      simp only [tot] at ih ⊢
      omega
def flip (l : List P2) : List P2 := l.map fun p => (p.1, 3 - p.2)
theorem tot_flip (l : List P2) : tot (flip l) = - tot l := by
  induction l with
  | nil => rfl
  | cons p l ih => simp only [flip, List.map_cons, tot] at ih ⊢; rw [ih]; simp [sg]; omega
theorem flip_app (a b : List P2) : flip (a ++ b) = flip a ++ flip b := by simp [flip]
theorem mem_flip {p : P2} {l : List P2} (h : p ∈ flip l) : ∃ q ∈ l, p.1 = q.1 := by
  simp only [flip, List.mem_map] at h
  obtain ⟨q, hq, rfl⟩ := h
  exact ⟨q, hq, rfl⟩
theorem opens_of {L : Int} {R E : List P2} {c kc d kd : Int} {E1 E0 : List P2} (h0 : R ≠ []) (h1 : ∀ p ∈ R, p.1 = L) (e1 : E = (c, kc) :: E1) (e2 : E = E0 ++ [(d, kd)]) (hc : c ≠ L) (hd : d ≠ L) (le : ∀ p ∈ E, L ≤ p.1) : Opens L R E := by
  refine ⟨h0, h1, ?_, ?_, le, by rw [e1]; simp⟩
  · intro p E' he
    rw [e1] at he
    simp only [List.cons.injEq] at he
    rw [← he.1]; exact hc
  · intro p E' he
    rw [e2] at he
    have := (List.append_inj' he rfl).2
    simp at this
    rw [← this]; exact hd
theorem Opens.ends {L : Int} {R E : List P2} (h : Opens L R E) : ∃ c kc E1 d kd E0, E = (c, kc) :: E1 ∧ E = E0 ++ [(d, kd)] ∧ c ≠ L ∧ d ≠ L := by
  obtain ⟨c, kc, E1, e1⟩ := head_of h.ene
  rcases last_of E with h0 | ⟨E0, d, kd, e2⟩
  · exact absurd h0 h.ene
  · exact ⟨c, kc, E1, d, kd, E0, e1, e2, h.hd _ _ e1, h.lst _ _ e2⟩
theorem F_flip {l : List P2} (h : F l) : F (flip l) := by
  induction h with
  | base l a ha hne ht =>
    refine F.base _ a (fun p hp => ?_) (by simpa [flip] using hne) (by rw [tot_flip]; omega)
    obtain ⟨q, hq, e⟩ := mem_flip hp
    rw [e]; exact ha q hq
  | step X Y L R E l' hrot ho hc hF ih =>
    obtain ⟨c, kc, E1, d, kd, E0, e1, e2, hcL, hdL⟩ := ho.ends
    rw [flip_app]
    refine F.step (flip X) (flip Y) L (flip R) (flip E) (flip l') (by rw [← flip_app, hrot, flip_app]) ?_ ?_ ih
    · refine opens_of (c := c) (kc := 3 - kc) (E1 := flip E1) (d := d) (kd := 3 - kd) (E0 := flip E0) (by simpa [flip] using ho.ne) (fun p hp => ?_) (by rw [e1]; rfl) (by rw [e2, flip_app]; rfl) hcL hdL (fun p hp => ?_)
      · obtain ⟨q, hq, e⟩ := mem_flip hp
        rw [e]; exact ho.all q hq
      · obtain ⟨q, hq, e⟩ := mem_flip hp
        rw [e]; exact ho.le q hq
    · have hl : (flip R).length = R.length := by simp [flip]
      rw [e1] at hc ⊢
      have hs : sg (3 - kc) = - sg kc := by simp [sg]; omega
      rcases close_inv hc with ⟨p, k, hk, rfl⟩ | ⟨p, hk, M, d', kd', rfl, rfl⟩
      · exact close_even (by rw [hl]; exact p) (by
          show Kd (tot (flip R) + sg (3 - kc)) (3 - k)
          rw [tot_flip, hs]
          rcases hk with ⟨h1, rfl⟩ | ⟨h1, rfl⟩
          · exact .inr ⟨by omega, by omega⟩
          · exact .inl ⟨by omega, by omega⟩)
      · have := close_odd (L := L) (R := flip R) (c := c) (kc := 3 - kc) (d := d') (kd := 3 - kd') (E := flip M) (by rw [hl]; exact p) (by rw [tot_flip, hs]; omega)
        simpa [flip] using this
def hk (l : List P2) (k : Int) : Int := match l with
  | [] => k
  | p :: _ => p.2
/-- A ring read from its other end: k is the crease behind the list. -/
def rvk (k : Int) : List P2 → List P2
  | [] => []
  | p :: t => rvk k t ++ [(p.1, hk t k)]
theorem hk_app {a : List P2} (b : List P2) (k : Int) (h : a ≠ []) : hk (a ++ b) k = hk a k := by
  cases a with
  | nil => exact absurd rfl h
  | cons p a => rfl
theorem hk_ne {a : List P2} (k k' : Int) (h : a ≠ []) : hk a k = hk a k' := by
  cases a with
  | nil => exact absurd rfl h
  | cons p a => rfl
theorem rvk_app (k : Int) (a b : List P2) : rvk k (a ++ b) = rvk k b ++ rvk (hk b k) a := by
  induction a with
  | nil => simp [rvk]
  | cons p a ih =>
    simp only [List.cons_append, rvk, ih, List.append_assoc]
    congr 3
    cases a with
    | nil => rfl
    | cons q a => rfl
theorem rvk_len (k : Int) (l : List P2) : (rvk k l).length = l.length := by
  induction l with
  | nil => rfl
  | cons p l ih => simp [rvk, ih]
theorem rvk_mem {k : Int} {l : List P2} {p : P2} (h : p ∈ rvk k l) : ∃ q ∈ l, p.1 = q.1 := by
  induction l with
  | nil => cases h
  | cons q l ih =>
    simp only [rvk, List.mem_append, List.mem_singleton] at h
    rcases h with h | rfl
    · obtain ⟨x, hx, e⟩ := ih h
      exact ⟨x, List.mem_cons_of_mem _ hx, e⟩
    · exact ⟨q, List.mem_cons_self, rfl⟩
theorem rvk_tot (k : Int) (l : List P2) : tot (rvk k l) + sg (hk l k) = tot l + sg k := by
  induction l with
  | nil => simp [rvk, tot, hk]
  | cons p l ih =>
    show tot (rvk k l ++ [(p.1, hk l k)]) + sg p.2 = sg p.2 + tot l + sg k
    rw [tot_app]
    simp only [tot]
    omega
def rev (l : List P2) : List P2 := rvk (hk l 0) l
theorem rev_rot (X Y : List P2) (hX : X ≠ []) (hY : Y ≠ []) : rev (Y ++ X) = rvk (hk Y 0) X ++ rvk (hk X 0) Y ∧ rev (X ++ Y) = rvk (hk X 0) Y ++ rvk (hk Y 0) X := by
  unfold rev
  rw [hk_app X 0 hY, hk_app Y 0 hX, rvk_app, rvk_app, hk_ne (hk Y 0) 0 hX, hk_ne (hk X 0) 0 hY]
  exact ⟨rfl, rfl⟩
theorem F_rev_rot {X Y : List P2} (h : F (rev (X ++ Y))) : F (rev (Y ++ X)) := by
  by_cases hX : X = []
  · subst hX
    simpa using h
  by_cases hY : Y = []
  · subst hY
    simpa using h
  rw [(rev_rot X Y hX hY).2] at h
  rw [(rev_rot X Y hX hY).1]
  exact h.rot
theorem F_rev {l : List P2} (h : F l) : F (rev l) := by
  induction h with
  | base l a ha hne ht =>
    refine F.base _ a (fun p hp => ?_) ?_ ?_
    · obtain ⟨q, hq, e⟩ := rvk_mem hp
      rw [e]; exact ha q hq
    · intro h0
      have := rvk_len (hk l 0) l
      rw [show rvk (hk l 0) l = [] from h0] at this
      exact hne (List.length_eq_zero_iff.1 this.symm)
    · have := rvk_tot (hk l 0) l
      rw [hk_ne (hk l 0) 0 hne] at this
      have e : tot (rev l) = tot l := by unfold rev; omega
      rw [e]; exact ht
  | step X Y L R E l' hrot ho hc hF ih =>
    apply F_rev_rot
    rw [hrot]
    apply F_rev_rot
    obtain ⟨c, kc, E1, d, kd, E0, e1, e2, hcL, hdL⟩ := ho.ends
    have hE : E ≠ [] := ho.ene
    rw [(rev_rot R E ho.ne hE).1]
    have hkE : hk E 0 = kc := by rw [e1]; rfl
    rw [hkE]
    obtain ⟨k, hkk⟩ : ∃ k, k = hk R 0 := ⟨_, rfl⟩
    rw [← hkk]
    have t1 := rvk_tot kc R
    rw [hk_ne kc 0 ho.ne, ← hkk] at t1
    have hR : rvk kc R ≠ [] := by
      intro h0
      have := rvk_len kc R
      rw [h0] at this
      exact ho.ne (List.length_eq_zero_iff.1 this.symm)
    have hE' : rvk k E = (d, k) :: rvk kd E0 := by rw [e2, rvk_app]; rfl
    have hop : Opens L (rvk kc R) (rvk k E) := by
      refine opens_of (c := d) (kc := k) (E1 := rvk kd E0) (d := c) (kd := hk E1 k) (E0 := rvk k E1) hR (fun p hp => ?_) hE' (by rw [e1]; rfl) hdL hcL (fun p hp => ?_)
      · obtain ⟨q, hq, e⟩ := rvk_mem hp
        rw [e]; exact ho.all q hq
      · obtain ⟨q, hq, e⟩ := rvk_mem hp
        rw [e]; exact ho.le q hq
    rw [e1] at hc
    rcases close_inv hc with ⟨p, κ, hκ, rfl⟩ | ⟨p, hκ, M, d', kd', rfl, rfl⟩
    · have hrl : rev ((c, κ) :: E1) = (d, κ) :: rvk kd E0 := by
        have h1 : rev ((c, κ) :: E1) = rvk κ E := by rw [e1]; rfl
        rw [h1, e2, rvk_app]; rfl
      rw [hrl] at ih
      refine F.at_front hop ?_ ih
      rw [hE']
      exact close_even (by rw [rvk_len]; exact p) (by rw [show tot (rvk kc R) + sg k = tot R + sg kc by omega]; exact hκ)
    · have h3 : E0 = (c, kc) :: M ∧ d = d' ∧ kd = kd' := by
        rw [e1] at e2
        have : ((c, kc) :: M) ++ [(d', kd')] = E0 ++ [(d, kd)] := by rw [← e2]; simp
        have := List.append_inj' this rfl
        obtain ⟨a1, a2⟩ := this
        simp at a2
        exact ⟨a1.symm, a2.1.symm, a2.2.symm⟩
      obtain ⟨rfl, rfl, rfl⟩ := h3
      have hrl : rev ((d + c - L, kd) :: M) = rvk kd M ++ [(d + c - L, hk M kd)] := rfl
      rw [hrl] at ih
      have := ih.rot
      refine F.at_front hop (l' := (c + d - L, hk M kd) :: rvk kd M) ?_ (by rw [show c + d - L = d + c - L by omega]; simpa using this)
      rw [hE']
      exact close_odd (c := d) (kc := k) (d := c) (kd := hk M kd) (E := rvk kd M) (by rw [rvk_len]; exact p) (by omega)

theorem F_all_eq {l : List P2} {a : Int} (ha : ∀ p ∈ l, p.1 = a) (hne : l ≠ []) : F l ↔ (tot l = 2 ∨ tot l = -2) := ⟨tot_F, F.base l a ha hne⟩
theorem F_turn {l X Y R E : List P2} {L : Int} (h : X ++ Y = l) (h1 : Y ++ X = R ++ E) (ho : Opens L R E) : F l ↔ ∃ l', close L R E = some l' ∧ F l' := by
  constructor
  · intro hF
    exact conf (l.length + 1) l (by omega) hF X Y L R E h h1 ho
  · rintro ⟨l', hc, hF⟩
    have := F.step Y X L R E l' h1 ho hc hF
    rw [h] at this
    exact this
/-- Every other one less the others. -/
def alt : List Int → Int
  | [] => 0
  | a :: t => a - alt t
theorem alt_app (a b : List Int) : alt (a ++ b) = alt a + (if a.length % 2 = 0 then alt b else - alt b) := by
  induction a with
  | nil => simp [alt]
  | cons x a ih =>
    simp only [List.cons_append, alt, ih, List.length_cons]
    split <;> split <;> omega
theorem alt_const {L : Int} {R : List Int} (h : ∀ x ∈ R, x = L) : alt R = if R.length % 2 = 0 then 0 else L := by
  induction R with
  | nil => rfl
  | cons x R ih =>
    have := ih (fun y hy => h y (List.mem_cons_of_mem _ hy))
    have hx := h x List.mem_cons_self
    simp only [alt, this, hx, List.length_cons]
    split <;> split <;> omega
theorem alt_rot {X Y : List Int} (he : (X ++ Y).length % 2 = 0) (h : alt (X ++ Y) = 0) : alt (Y ++ X) = 0 := by
  rw [alt_app] at h ⊢
  simp only [List.length_append] at he
  split at h <;> split <;> omega
/-- Rings that may be: an even number of angles, every other one as much as the others. -/
structure Ring (A : List Int) : Prop where
  ne : A ≠ []
  even : A.length % 2 = 0
  alt : alt A = 0
theorem Ring.rot {X Y : List Int} (h : Ring (X ++ Y)) : Ring (Y ++ X) :=
  ⟨by have := h.ne; simp at this ⊢; exact fun h1 h2 => this h2 h1, by have := h.even; simp at this ⊢; omega, alt_rot h.even h.alt⟩
/-- Behind a run of an odd number of smallest angles lie two others at least. -/
theorem Ring.odd {L c : Int} {R E : List Int} (h : Ring (R ++ c :: E)) (hR : ∀ x ∈ R, x = L) (hc : c ≠ L) (hp : R.length % 2 = 1) :
    ∃ M d, E = M ++ [d] ∧ Ring ((d + c - L) :: M) := by
  have h1 := h.alt
  have h2 := h.even
  rw [alt_app, alt_const hR] at h1
  simp only [hp] at h1
  simp only [List.length_append, List.length_cons] at h2
  rcases List.eq_nil_or_concat E with rfl | ⟨M, d, rfl⟩
  · simp [Vx.alt] at h1
    omega
  · refine ⟨M, d, by simp, by simp, ?_, ?_⟩
    · simp at h2 ⊢; omega
    · simp only [List.concat_eq_append, Vx.alt, alt_app] at h1 ⊢
      simp only [List.concat_eq_append, List.length_append, List.length_cons, List.length_nil] at h2
      have : M.length % 2 = 1 := by omega
      simp [this] at h1
      omega
theorem Ring.evn {L c : Int} {R E : List Int} (h : Ring (R ++ c :: E)) (hR : ∀ x ∈ R, x = L) (hp : R.length % 2 = 0) : Ring (c :: E) := by
  have h1 := h.alt
  have h2 := h.even
  rw [alt_app, alt_const hR] at h1
  simp only [hp, if_true] at h1
  simp only [List.length_append] at h2
  exact ⟨by simp, by omega, by omega⟩
/-- A ring whose angles are not all alike can be turned so that it begins with a run of its smallest angle, and does not end with it. -/
theorem turn_ex {L : Int} : ∀ (A : List Int), L ∈ A → (∃ x ∈ A, x ≠ L) → ∃ X Y R E, A = X ++ Y ∧ Y ++ X = R ++ E ∧ R ≠ [] ∧ (∀ x ∈ R, x = L) ∧ (∃ c E', E = c :: E' ∧ c ≠ L) ∧ (∃ d E', E = E' ++ [d] ∧ d ≠ L) := by
  -- a list that begins with L and does not end with it
  have key : ∀ (B : List Int), (∃ B', B = L :: B') → (∃ d B', B = B' ++ [d] ∧ d ≠ L) → ∃ R E, B = R ++ E ∧ R ≠ [] ∧ (∀ x ∈ R, x = L) ∧ (∃ c E', E = c :: E' ∧ c ≠ L) ∧ (∃ d E', E = E' ++ [d] ∧ d ≠ L) := by
    intro B
    induction B with
    | nil => rintro ⟨B', h⟩; cases h
    | cons b B ih =>
      rintro ⟨B', h⟩ ⟨d, B'', h2, hd⟩
      simp only [List.cons.injEq] at h
      obtain ⟨rfl, rfl⟩ := h
      cases B'' with
      | nil => simp at h2; exact absurd h2.1.symm hd
      | cons q B'' =>
        simp only [List.cons_append, List.cons.injEq] at h2
        obtain ⟨rfl, rfl⟩ := h2
        by_cases hb : ∃ T, B'' ++ [d] = b :: T
        · obtain ⟨R, E, e, h3, h4, h5, h6⟩ := ih hb ⟨d, B'', rfl, hd⟩
          exact ⟨b :: R, E, by rw [e]; rfl, by simp, fun x hx => by rcases List.mem_cons.1 hx with rfl | hx; rfl; exact h4 x hx, h5, h6⟩
        · refine ⟨[b], B'' ++ [d], rfl, by simp, by simp, ?_, d, B'', rfl, hd⟩
          cases hB : B'' ++ [d] with
          | nil => simp at hB
          | cons c E' => exact ⟨c, E', rfl, fun e => hb ⟨E', by rw [hB, e]⟩⟩
  -- split at the first L
  have first : ∀ (A : List Int), L ∈ A → ∃ P Q, A = P ++ L :: Q ∧ ∀ x ∈ P, x ≠ L := by
    intro A
    induction A with
    | nil => intro h; cases h
    | cons a A ih =>
      intro h
      by_cases ha : a = L
      · exact ⟨[], A, by rw [ha]; rfl, by simp⟩
      · rcases List.mem_cons.1 h with h | h
        · exact absurd h.symm ha
        · obtain ⟨P, Q, e, hp⟩ := ih h
          exact ⟨a :: P, Q, by rw [e]; rfl, fun x hx => by rcases List.mem_cons.1 hx with rfl | hx; exact ha; exact hp x hx⟩
  intro A hL hx
  obtain ⟨P, Q, rfl, hP⟩ := first A hL
  rcases List.eq_nil_or_concat P with rfl | ⟨P', d, rfl⟩
  · -- A begins with L: turn it to the first that is not
    obtain ⟨x, hx, hxL⟩ := hx
    have second : ∀ (A : List Int), (∃ x ∈ A, x ≠ L) → ∃ P c Q, A = P ++ c :: Q ∧ (∀ x ∈ P, x = L) ∧ c ≠ L := by
      intro A
      induction A with
      | nil => rintro ⟨x, h, _⟩; cases h
      | cons a A ih =>
        rintro ⟨x, h, hn⟩
        by_cases ha : a = L
        · rcases List.mem_cons.1 h with h | h
          · exact absurd (h.trans ha) hn
          · obtain ⟨P, c, Q, e, hp, hc⟩ := ih ⟨x, h, hn⟩
            exact ⟨a :: P, c, Q, by rw [e]; rfl, fun x hx => by rcases List.mem_cons.1 hx with rfl | hx; exact ha; exact hp x hx, hc⟩
        · exact ⟨[], a, A, rfl, by simp, ha⟩
    obtain ⟨P2, c, Q2, e2, hP2, hc⟩ := second _ ⟨x, hx, hxL⟩
    have hP2n : P2 ≠ [] := by
      rintro rfl
      simp at e2
      exact hc e2.1.symm
    obtain ⟨P3, Q3, e3, hP3⟩ := first ((c :: Q2) ++ P2) (by
      obtain ⟨y, hy⟩ := List.exists_mem_of_ne_nil _ hP2n
      have := hP2 y hy
      subst this
      simp [hy])
    -- (c :: Q2) ++ P2 = P3 ++ L :: Q3 ; P3 is not empty
    rcases List.eq_nil_or_concat P3 with rfl | ⟨P4, d, rfl⟩
    · simp at e3
      exact absurd e3.1 hc
    · have hd : d ≠ L := hP3 d (by simp)
      obtain ⟨R, E, e, h3, h4, h5, h6⟩ := key (L :: Q3 ++ (P4 ++ [d])) ⟨_, rfl⟩ ⟨d, L :: Q3 ++ P4, by simp, hd⟩
      simp only [List.concat_eq_append] at e3
      rw [e2]
      rcases List.append_eq_append_iff.1 e3 with ⟨Z, z1, z2⟩ | ⟨Z, z1, z2⟩
      · -- P4 ++ [d] = (c::Q2) ++ Z, P2 = Z ++ L :: Q3
        refine ⟨Z, L :: Q3 ++ (c :: Q2), R, E, by rw [z2]; simp, ?_, h3, h4, h5, h6⟩
        rw [← e, z1]; simp
      · -- c :: Q2 = (P4 ++ [d]) ++ Z, L :: Q3 = Z ++ P2
        refine ⟨P2 ++ (P4 ++ [d]), Z, R, E, by rw [z1]; simp, ?_, h3, h4, h5, h6⟩
        rw [← e, z2]; simp
  · have hd : d ≠ L := hP d (by simp)
    obtain ⟨R, E, e, h3, h4, h5, h6⟩ := key (L :: Q ++ (P' ++ [d])) ⟨_, rfl⟩ ⟨d, L :: Q ++ P', by simp, hd⟩
    exact ⟨P' ++ [d], L :: Q, R, E, by simp, by rw [← e], h3, h4, h5, h6⟩

def altk : Int → Nat → List Int
  | _, 0 => []
  | k, n + 1 => k :: altk (3 - k) n
theorem altk_len (k : Int) (n : Nat) : (altk k n).length = n := by
  induction n generalizing k with
  | zero => rfl
  | succ n ih => simp [altk, ih]
theorem altk_kinds {k : Int} (hk : k = 1 ∨ k = 2) (n : Nat) : ∀ x ∈ altk k n, x = 1 ∨ x = 2 := by
  induction n generalizing k with
  | zero => intro x h; cases h
  | succ n ih =>
    intro x h
    simp only [altk, List.mem_cons] at h
    rcases h with rfl | h
    · exact hk
    · exact ih (by omega) x h
/-- a run of angles with kinds that take turns -/
def runs (L k : Int) (n : Nat) : List P2 := (altk k n).map fun x => (L, x)
theorem runs_tot (L k : Int) (n : Nat) : tot (runs L k n) = if n % 2 = 0 then 0 else sg k := by
  induction n generalizing k with
  | zero => rfl
  | succ n ih =>
    show sg k + tot (runs L (3 - k) n) = _
    rw [ih]
    have : sg (3 - k) = - sg k := by simp [sg]; omega
    rw [this]
    split <;> split <;> omega
theorem runs_len (L k : Int) (n : Nat) : (runs L k n).length = n := by simp [runs, altk_len]
theorem runs_fst (L k : Int) (n : Nat) : (runs L k n).map (·.1) = List.replicate n L := by
  induction n generalizing k with
  | zero => rfl
  | succ n ih =>
    show L :: (runs L (3 - k) n).map (·.1) = _
    rw [ih, List.replicate_succ]
theorem runs_mem {L k : Int} {n : Nat} (hk : k = 1 ∨ k = 2) : ∀ p ∈ runs L k n, p.1 = L ∧ (p.2 = 1 ∨ p.2 = 2) := by
  intro p hp
  simp only [runs, List.mem_map] at hp
  obtain ⟨x, hx, rfl⟩ := hp
  exact ⟨rfl, altk_kinds hk n x hx⟩
def Can (A : List Int) : Prop := ∃ l : List P2, l.map (·.1) = A ∧ (∀ p ∈ l, p.2 = 1 ∨ p.2 = 2) ∧ F l
theorem Can.rot {X Y : List Int} (h : Can (X ++ Y)) : Can (Y ++ X) := by
  obtain ⟨l, h1, h2, h3⟩ := h
  obtain ⟨lx, ly, rfl, rfl, rfl⟩ : ∃ lx ly, l = lx ++ ly ∧ lx.map (·.1) = X ∧ ly.map (·.1) = Y := by
    obtain ⟨a, b, e1, e2, e3⟩ := List.map_eq_append_iff.1 h1
    exact ⟨a, b, e1, e2, e3⟩
  exact ⟨ly ++ lx, by simp, fun p hp => h2 p (by simp at hp ⊢; exact hp.symm), h3.rot⟩
theorem eq_replicate {L : Int} : ∀ {R : List Int}, (∀ x ∈ R, x = L) → R = List.replicate R.length L := by
  intro R h
  exact List.eq_replicate_of_mem h
/-- EACH RING THAT MAY BE CAN BE FOLDED SOMEHOW. -/
theorem can : ∀ (N : Nat) (A : List Int), A.length < N → Ring A → Can A := by
  intro N
  induction N with
  | zero => intro A h; omega
  | succ N ih =>
    intro A hN hA
    obtain ⟨L, hL, hmin⟩ : ∃ L ∈ A, ∀ x ∈ A, L ≤ x := by
      have : ∀ (A : List Int), A ≠ [] → ∃ L ∈ A, ∀ x ∈ A, L ≤ x := by
        intro A
        induction A with
        | nil => intro h; exact absurd rfl h
        | cons a A ih =>
          intro _
          by_cases h : A = []
          · subst h; exact ⟨a, by simp, by simp⟩
          · obtain ⟨L, h1, h2⟩ := ih h
            by_cases hl : a ≤ L
            · exact ⟨a, by simp, fun x hx => by rcases List.mem_cons.1 hx with rfl | hx; omega; have := h2 x hx; omega⟩
            · exact ⟨L, by simp [h1], fun x hx => by rcases List.mem_cons.1 hx with rfl | hx; omega; exact h2 x hx⟩
      exact this A hA.ne
    by_cases hall : ∀ x ∈ A, x = L
    · -- all alike
      have h0 := hA.even
      have hpos : 0 < A.length := List.length_pos_iff.2 hA.ne
      obtain ⟨m, hm⟩ : ∃ m, A.length = m + 2 := ⟨A.length - 2, by omega⟩
      refine ⟨(L, 1) :: (L, 1) :: runs L 1 m, ?_, ?_, ?_⟩
      · rw [eq_replicate hall, hm]
        simp only [List.map_cons, runs_fst, List.replicate_succ]
      · intro p hp
        simp only [List.mem_cons] at hp
        rcases hp with rfl | rfl | hp
        · exact .inl rfl
        · exact .inl rfl
        · exact (runs_mem (.inl rfl) p hp).2
      · refine F.base _ L (fun p hp => ?_) (by simp) (.inl ?_)
        · simp only [List.mem_cons] at hp
          rcases hp with rfl | rfl | hp
          · rfl
          · rfl
          · exact (runs_mem (.inl rfl) p hp).1
        · simp only [tot, runs_tot]
          rw [if_pos (by omega)]
          rfl
    · have hx : ∃ x ∈ A, x ≠ L := by
        apply Classical.byContradiction
        intro hn
        exact hall (fun x hx => Classical.byContradiction fun hne => hn ⟨x, hx, hne⟩)
      obtain ⟨X, Y, R, E, rfl, h1, h2, h3, ⟨c, E', rfl, hc⟩, ⟨d, E0, h5, hd⟩⟩ := turn_ex A hL hx
      have hr : Ring (R ++ c :: E') := by rw [← h1]; exact hA.rot
      have hlen : (R ++ c :: E').length = (X ++ Y).length := by rw [← h1]; simp; omega
      have hRpos : 0 < R.length := List.length_pos_iff.2 h2
      suffices h : Can (R ++ c :: E') by
        rw [← h1] at h
        exact h.rot
      have hmem : ∀ x ∈ R ++ c :: E', L ≤ x := fun x hx => hmin x (by rw [← h1] at hx; simp at hx ⊢; exact hx.symm)
      simp only [List.length_append, List.length_cons] at hlen
      by_cases hp : R.length % 2 = 1
      · obtain ⟨M, z, rfl, hR2⟩ := hr.odd h3 hc hp
        have hz : z ≠ L := by
          have : (c :: M) ++ [z] = E0 ++ [d] := by rw [← h5]; simp
          have := (List.append_inj' this rfl).2
          simp at this
          rw [this]; exact hd
        simp only [List.length_append, List.length_cons, List.length_nil] at hlen
        obtain ⟨l', e1, e2, e3⟩ := ih ((z + c - L) :: M) (by simp at hN ⊢; omega) hR2
        cases l' with
        | nil => simp at e1
        | cons p lM =>
          obtain ⟨a, kd⟩ := p
          simp only [List.map_cons, List.cons.injEq] at e1
          obtain ⟨rfl, e1⟩ := e1
          have hkd := e2 (z + c - L, kd) List.mem_cons_self
          refine ⟨runs L 1 R.length ++ (c, 2) :: (lM ++ [(z, kd)]), ?_, ?_, ?_⟩
          · simp only [List.map_append, List.map_cons, List.map_nil, runs_fst, e1]
            rw [← eq_replicate h3]
          · intro p hp
            simp only [List.mem_append, List.mem_cons, List.not_mem_nil, or_false] at hp
            rcases hp with hp | rfl | hp | rfl
            · exact (runs_mem (.inl rfl) p hp).2
            · exact .inr rfl
            · exact e2 p (List.mem_cons_of_mem _ hp)
            · exact hkd
          · refine F.at_front (L := L) ?_ (close_odd (by rw [runs_len]; exact hp) (by rw [runs_tot, if_neg (by omega)]; rfl)) e3
            refine opens_of (c := c) (kc := 2) (E1 := lM ++ [(z, kd)]) (d := z) (kd := kd) (E0 := (c, 2) :: lM) (fun h0 => ?_) (fun p hp => (runs_mem (.inl rfl) p hp).1) rfl rfl hc hz (fun p hp => ?_)
            · have := runs_len L 1 R.length
              rw [h0] at this
              simp at this
              omega
            · apply hmem
              simp only [List.mem_append, List.mem_cons, List.not_mem_nil, or_false] at hp ⊢
              rcases hp with rfl | hp | rfl
              · exact .inr (.inl rfl)
              · exact .inr (.inr (.inl (by rw [← e1]; exact List.mem_map_of_mem hp)))
              · exact .inr (.inr (.inr rfl))
      · have hp0 : R.length % 2 = 0 := by omega
        have hR2 := hr.evn h3 hp0
        obtain ⟨l', e1, e2, e3⟩ := ih (c :: E') (by simp at hN ⊢; omega) hR2
        cases l' with
        | nil => simp at e1
        | cons p l1 =>
          obtain ⟨a, k⟩ := p
          simp only [List.map_cons, List.cons.injEq] at e1
          obtain ⟨rfl, e1⟩ := e1
          have hk := e2 (a, k) List.mem_cons_self
          simp only at hk
          refine ⟨runs L 1 R.length ++ (a, k) :: l1, ?_, ?_, ?_⟩
          · simp only [List.map_append, List.map_cons, runs_fst, e1]
            rw [← eq_replicate h3]
          · intro p hp
            simp only [List.mem_append] at hp
            rcases hp with hp | hp
            · exact (runs_mem (.inl rfl) p hp).2
            · exact e2 p hp
          · refine F.at_front (L := L) ?_ (close_even (by rw [runs_len]; exact hp0) (k := k) (by
              rw [runs_tot, if_pos (by omega)]
              rcases hk with rfl | rfl
              · exact .inl ⟨rfl, rfl⟩
              · exact .inr ⟨rfl, rfl⟩)) e3
            have hz : ∃ E0' kz, (a, k) :: l1 = E0' ++ [(d, kz)] := by
              rcases last_of ((a, k) :: l1) with h0 | ⟨E0', z, kz, h6⟩
              · cases h0
              · have h7 : a :: E' = E0'.map (·.1) ++ [z] := by
                  have := congrArg (List.map (·.1)) h6
                  simp only [List.map_cons, e1, List.map_append, List.map_nil] at this
                  exact this
                have := List.append_inj' (h5.symm.trans h7) rfl
                have h8 := this.2
                simp at h8
                exact ⟨E0', kz, by rw [h6, h8]⟩
            obtain ⟨E0', kz, h6⟩ := hz
            refine opens_of (c := a) (kc := k) (E1 := l1) (d := d) (kd := kz) (E0 := E0') (fun h0 => ?_) (fun p hp => (runs_mem (.inl rfl) p hp).1) rfl h6 hc hd (fun p hp => ?_)
            · have := runs_len L 1 R.length
              rw [h0] at this
              simp at this
              omega
            · apply hmem
              simp only [List.mem_append, List.mem_cons] at hp ⊢
              rcases hp with rfl | hp
              · exact .inr (.inl rfl)
              · exact .inr (.inr (by rw [← e1]; exact List.mem_map_of_mem hp))
end Go.Proofs.Ytcfeejlhhimpjaa.Vx
