/- What the code of flat computes, in plain words: the turned ring, its run, and what comes of the fold. -/
import Derived.Test.YtcfeejlhhimpjaaCr1
namespace Go.Proofs.Ytcfeejlhhimpjaa
set_option linter.unusedSimpArgs false
set_option linter.unusedVariables false
open Go.RowKit Vx

open Classical in
noncomputable def Fb (l : List P2) : Bool := decide (F l)
theorem Fb_iff {l : List P2} : Fb l = true ↔ F l := by simp [Fb]
theorem Fb_eq {l l' : List P2} (h : F l ↔ F l') : Fb l = Fb l' := by simp [Fb, h]
theorem Fb_no {l : List P2} (h : ¬ F l) : Fb l = false := by simp [Fb, h]

theorem run_split {L : Int} : ∀ (B : List Int), (∃ B', B = L :: B') → (∃ d B', B = B' ++ [d] ∧ d ≠ L) → ∃ R c E, B = R ++ c :: E ∧ R ≠ [] ∧ (∀ x ∈ R, x = L) ∧ c ≠ L := by
  intro B
  induction B with
  | nil => rintro ⟨B', h⟩; cases h
  | cons b B ih =>
    rintro ⟨B', h⟩ ⟨d, B'', h2, hd⟩
    simp only [List.cons.injEq] at h
    obtain ⟨rfl, rfl⟩ := h
    cases B'' with
    | nil => simp at h2; exact absurd h2.1.symm hd
    | cons q B'' =>
      simp only [List.cons_append, List.cons.injEq] at h2
      obtain ⟨rfl, rfl⟩ := h2
      by_cases hb : ∃ T, B'' ++ [d] = b :: T
      · obtain ⟨R, c, E, e, h3, h4, h5⟩ := ih hb ⟨d, B'', rfl, hd⟩
        exact ⟨b :: R, c, E, by rw [e]; rfl, by simp, fun x hx => by rcases List.mem_cons.1 hx with rfl | hx; rfl; exact h4 x hx, h5⟩
      · cases hB : B'' ++ [d] with
        | nil => simp at hB
        | cons c E' => exact ⟨[b], c, E', by simp, by simp, by simp, fun e => hb ⟨E', by rw [hB, e]⟩⟩
/-- The ring turned to an angle that is the smallest, and the one ahead of which is not. -/
def rotL (l : List Int) (i : Nat) : List Int := l.drop i ++ l.take i
theorem rotL_len (l : List Int) (i : Nat) (h : i ≤ l.length) : (rotL l i).length = l.length := by simp [rotL]; omega
theorem rot_head {l : List Int} {i : Nat} {z : Int} (h : l[i]? = some z) : ∃ B, rotL l i = z :: B := by
  have hi := (List.getElem?_eq_some_iff.1 h)
  obtain ⟨hi, hz⟩ := hi
  refine ⟨l.drop (i + 1) ++ l.take i, ?_⟩
  rw [rotL, List.drop_eq_getElem_cons hi, hz]
  rfl
theorem rot_last {l : List Int} {i n : Nat} {z : Int} (hl : l.length = n) (hi : i < n) (h : l[(i + n - 1) % n]? = some z) : ∃ B, rotL l i = B ++ [z] := by
  cases i with
  | zero =>
    rw [show 0 + n - 1 = n - 1 by omega, Nat.mod_eq_of_lt (by omega)] at h
    obtain ⟨h1, h2⟩ := List.getElem?_eq_some_iff.1 h
    refine ⟨l.take (n - 1), ?_⟩
    have : l = l.take (n - 1) ++ [z] := by
      have := List.take_append_drop (n - 1) l
      rw [List.drop_eq_getElem_cons h1, h2, List.drop_of_length_le (by omega)] at this
      exact this.symm
    simp only [rotL, List.drop_zero, List.take_zero, List.append_nil]
    exact this
  | succ i =>
    rw [show i + 1 + n - 1 = i + n by omega, Nat.add_mod_right, Nat.mod_eq_of_lt (by omega)] at h
    exact ⟨l.drop (i + 1) ++ l.take i, by rw [rotL, take_succ h]; simp⟩
/-- Somewhere such an angle lies, if the angles are not all alike. -/
theorem some_start {xs : List Int} {L : Int} {n : Nat} (hl : xs.length = n) (h1 : L ∈ xs) (h2 : ∃ x ∈ xs, x ≠ L) : ∃ i, i < n ∧ xs[i]? = some L ∧ ∀ z, xs[(i + n - 1) % n]? = some z → z ≠ L := by
  obtain ⟨X, Y, R, E, rfl, e1, e2, e3, ⟨c, E', rfl, hc⟩, ⟨d, E0, e4, hd⟩⟩ := turn_ex xs h1 h2
  obtain ⟨a, R', rfl⟩ : ∃ a R', R = a :: R' := by
    cases R with
    | nil => exact absurd rfl e2
    | cons a R' => exact ⟨a, R', rfl⟩
  have ha := e3 a (by simp)
  subst ha
  rw [e4] at e1
  -- Y ++ X begins with a and ends with d
  cases Y with
  | nil =>
    simp only [List.nil_append] at e1
    simp only [List.append_nil] at hl
    subst e1
    refine ⟨0, ?_, ?_, ?_⟩
    · simp at hl; omega
    · simp
    · intro z hz
      rw [show 0 + n - 1 = n - 1 by omega, Nat.mod_eq_of_lt (by simp at hl; omega)] at hz
      have : (a :: R' ++ (E0 ++ [d]))[n - 1]? = some d := by
        rw [← List.append_assoc, show n - 1 = (a :: R' ++ E0).length by simp at hl ⊢; omega]
        simp
      simp only [List.append_nil] at hz
      rw [this] at hz
      rw [← Option.some.inj hz]
      exact hd
  | cons y Y' =>
    simp only [List.cons_append, List.cons.injEq] at e1
    obtain ⟨rfl, e1⟩ := e1
    refine ⟨X.length, by simp at hl; omega, by simp, ?_⟩
    intro z hz
    cases hX : List.eq_nil_or_concat X with
    | inl h0 =>
      subst h0
      simp only [List.nil_append, List.append_nil, List.length_nil] at *
      subst e1
      rw [show 0 + n - 1 = n - 1 by omega, Nat.mod_eq_of_lt (by simp at hl; omega)] at hz
      have : (y :: (R' ++ (E0 ++ [d])))[n - 1]? = some d := by
        rw [show y :: (R' ++ (E0 ++ [d])) = (y :: (R' ++ E0)) ++ [d] by simp, show n - 1 = (y :: (R' ++ E0)).length by simp at hl ⊢; omega]
        simp
      rw [this] at hz
      rw [← Option.some.inj hz]
      exact hd
    | inr h0 =>
      obtain ⟨X', q, rfl⟩ := h0
      have : (Y' ++ X') ++ [q] = (R' ++ E0) ++ [d] := by simpa using e1
      have hq := (List.append_inj' this rfl).2
      simp at hq
      subst hq
      have hn : n = X'.length + 1 + (Y'.length + 1) := by simp at hl; omega
      rw [show (X'.concat q).length + n - 1 = X'.length + n by simp, Nat.add_mod_right, Nat.mod_eq_of_lt (by omega)] at hz
      have : (X'.concat q ++ y :: Y')[X'.length]? = some q := by simp
      rw [this] at hz
      rw [← Option.some.inj hz]
      exact hd
theorem tot_zip : ∀ (a k : List Int), a.length = k.length → tot (a.zip k) = ks k := by
  intro a
  induction a with
  | nil =>
    intro k h
    cases k with
    | nil => rfl
    | cons _ _ => simp at h
  | cons x a ih =>
    intro k h
    cases k with
    | nil => simp at h
    | cons z k => simp only [List.zip_cons_cons, tot, ks]; rw [ih k (by simpa using h)]
/-- The ring that is turned, parted at its run. -/
structure Parts (L : Int) (xs ys : List Int) (aa kk Ra : List Int) (c : Int) (Ea Rk : List Int) (kc : Int) (Ek : List Int) : Prop where
  a : aa = Ra ++ c :: Ea
  k : kk = Rk ++ kc :: Ek
  ne : Ra ≠ []
  all : ∀ x ∈ Ra, x = L
  cL : c ≠ L
  lk : Rk.length = Ra.length
  le : Ek.length = Ea.length
  ring : Ring (Ra ++ c :: Ea)
  op : Opens L (Ra.zip Rk) ((c, kc) :: Ea.zip Ek)
  turn : F (xs.zip ys) ↔ ∃ l', close L (Ra.zip Rk) ((c, kc) :: Ea.zip Ek) = some l' ∧ F l'
theorem parts_of {L : Int} {xs ys : List Int} {n i : Nat} (hl : xs.length = n) (hk : ys.length = n) (hi : i < n) (p0 : xs[i]? = some L) (p1 : ∀ z, xs[(i + n - 1) % n]? = some z → z ≠ L) (hmin : ∀ x ∈ xs, L ≤ x) (hr : Ring xs) :
    ∃ Ra c Ea Rk kc Ek, Parts L xs ys (rotL xs i) (rotL ys i) Ra c Ea Rk kc Ek := by
  obtain ⟨B, hB⟩ := rot_head p0
  have hlt : (i + n - 1) % n < n := Nat.mod_lt _ (by omega)
  obtain ⟨B2, hB2⟩ := rot_last hl hi (List.getElem?_eq_getElem (by rw [hl]; exact hlt))
  have hd := p1 _ (List.getElem?_eq_getElem (by rw [hl]; exact hlt))
  obtain ⟨d, hdd⟩ : ∃ d, d = xs[(i + n - 1) % n]'(by rw [hl]; exact hlt) := ⟨_, rfl⟩
  rw [← hdd] at hB2 hd
  obtain ⟨Ra, c, Ea, e, h1, h2, h3⟩ := run_split (rotL xs i) ⟨B, hB⟩ ⟨d, B2, hB2, hd⟩
  have hlr := rotL_len xs i (by omega)
  have hlk := rotL_len ys i (by omega)
  have hlen : Ra.length + (Ea.length + 1) = n := by rw [e] at hlr; simp at hlr; omega
  obtain ⟨Rk, kc, Ek, ek, lk, lek⟩ : ∃ Rk kc Ek, rotL ys i = Rk ++ kc :: Ek ∧ Rk.length = Ra.length ∧ Ek.length = Ea.length := by
    have hlt2 : Ra.length < (rotL ys i).length := by omega
    refine ⟨(rotL ys i).take Ra.length, (rotL ys i)[Ra.length], (rotL ys i).drop (Ra.length + 1), ?_, ?_, ?_⟩
    · rw [← List.drop_eq_getElem_cons hlt2, List.take_append_drop]
    · simp; omega
    · simp; omega
  have hring : Ring (Ra ++ c :: Ea) := by
    have h5 : Ring (xs.take i ++ xs.drop i) := by rw [List.take_append_drop]; exact hr
    have := h5.rot
    rw [show xs.drop i ++ xs.take i = rotL xs i from rfl, e] at this
    exact this
  have hmem : ∀ x ∈ Ra ++ c :: Ea, L ≤ x := fun x hx => hmin x (by
    rw [← e] at hx
    simp only [rotL, List.mem_append] at hx
    rcases hx with hx | hx
    · exact List.mem_of_mem_drop hx
    · exact List.mem_of_mem_take hx)
  have hzipR : (Ra.zip Rk).map (·.1) = Ra := List.map_fst_zip (by omega)
  have hzipE : (Ea.zip Ek).map (·.1) = Ea := List.map_fst_zip (by omega)
  have hop : Opens L (Ra.zip Rk) ((c, kc) :: Ea.zip Ek) := by
    refine ⟨?_, ?_, ?_, ?_, ?_, by simp⟩
    · intro h0
      rw [h0] at hzipR
      exact h1 hzipR.symm
    · intro p hp
      exact h2 p.1 (by rw [← hzipR]; exact List.mem_map_of_mem hp)
    · intro p E' he
      simp only [List.cons.injEq] at he
      rw [← he.1]; exact h3
    · intro p E' he
      have h7 : c :: Ea = E'.map (·.1) ++ [p.1] := by
        have := congrArg (List.map (·.1)) he
        simpa [hzipE] using this
      rw [e, h7, ← List.append_assoc] at hB2
      have := (List.append_inj' hB2 rfl).2
      simp at this
      rw [this]; exact hd
    · intro p hp
      apply hmem
      simp only [List.mem_cons] at hp
      rcases hp with rfl | hp
      · simp
      · have : p.1 ∈ Ea := by rw [← hzipE]; exact List.mem_map_of_mem hp
        simp [this]
  refine ⟨Ra, c, Ea, Rk, kc, Ek, e, ek, h1, h2, h3, lk, lek, hring, hop, ?_⟩
  refine F_turn (X := (xs.take i).zip (ys.take i)) (Y := (xs.drop i).zip (ys.drop i)) ?_ ?_ hop
  · rw [← List.zip_append (by simp; omega), List.take_append_drop, List.take_append_drop]
  · rw [← List.zip_append (by simp; omega)]
    show (rotL xs i).zip (rotL ys i) = _
    rw [e, ek, List.zip_append (by omega)]
    rfl
section
variable {L : Int} {xs ys aa kk Ra : List Int} {c : Int} {Ea Rk : List Int} {kc : Int} {Ek : List Int}
theorem Parts.sum (h : Parts L xs ys aa kk Ra c Ea Rk kc Ek) : tot (Ra.zip Rk) + sg kc = ks (Rk ++ [kc]) := by
  rw [tot_zip _ _ h.lk.symm, ks_app]
  simp [ks]
theorem Parts.len (h : Parts L xs ys aa kk Ra c Ea Rk kc Ek) : (Ra.zip Rk).length = Ra.length := by
  have := h.lk
  simp; omega
theorem Parts.odd_no (h : Parts L xs ys aa kk Ra c Ea Rk kc Ek) (hp : Ra.length % 2 = 1) (hm : ks (Rk ++ [kc]) ≠ 0) : Fb (xs.zip ys) = false := by
  refine Fb_no fun hF => ?_
  obtain ⟨l', hc, _⟩ := h.turn.1 hF
  rcases close_inv hc with ⟨p, _⟩ | ⟨_, p, _⟩
  · rw [h.len] at p; omega
  · rw [h.sum] at p; exact hm p
theorem Parts.even_no (h : Parts L xs ys aa kk Ra c Ea Rk kc Ek) (hp : Ra.length % 2 = 0) (hm : ks (Rk ++ [kc]) ≠ 1) (hm' : ks (Rk ++ [kc]) ≠ -1) : Fb (xs.zip ys) = false := by
  refine Fb_no fun hF => ?_
  obtain ⟨l', hc, _⟩ := h.turn.1 hF
  rcases close_inv hc with ⟨_, k, hk, _⟩ | ⟨p, _⟩
  · rw [h.sum] at hk
    rcases hk with ⟨h1, _⟩ | ⟨h1, _⟩
    · exact hm h1
    · exact hm' h1
  · rw [h.len] at p; omega
theorem Parts.odd_yes (h : Parts L xs ys aa kk Ra c Ea Rk kc Ek) (hp : Ra.length % 2 = 1) (hm : ks (Rk ++ [kc]) = 0) :
    ∃ Ma d Mk kd, Ea = Ma ++ [d] ∧ Ek = Mk ++ [kd] ∧ Mk.length = Ma.length ∧ Ring ((d + c - L) :: Ma) ∧ Fb (xs.zip ys) = Fb (((d + c - L) :: Ma).zip (kd :: Mk)) := by
  obtain ⟨Ma, d, rfl, hR⟩ := h.ring.odd h.all h.cL hp
  have hle := h.le
  rcases List.eq_nil_or_concat Ek with rfl | ⟨Mk, kd, rfl⟩
  · simp at hle
  · simp only [List.concat_eq_append, List.length_append, List.length_cons, List.length_nil] at hle
    have hc : close L (Ra.zip Rk) ((c, kc) :: (Ma ++ [d]).zip (Mk ++ [kd])) = some ((d + c - L, kd) :: Ma.zip Mk) := by
      rw [List.zip_append (by omega)]
      exact close_odd (by rw [h.len]; exact hp) (by rw [h.sum]; exact hm)
    have ht := h.turn
    simp only [List.concat_eq_append] at ht
    refine ⟨Ma, d, Mk, kd, rfl, by simp, by omega, hR, Fb_eq (ht.trans ⟨?_, ?_⟩)⟩
    · rintro ⟨l', h1, h2⟩
      rw [hc] at h1
      rw [← Option.some.inj h1] at h2
      exact h2
    · intro h2
      exact ⟨_, hc, h2⟩
theorem Parts.even_yes (h : Parts L xs ys aa kk Ra c Ea Rk kc Ek) (hp : Ra.length % 2 = 0) {k : Int} (hk : Kd (ks (Rk ++ [kc])) k) :
    Ring (c :: Ea) ∧ Fb (xs.zip ys) = Fb ((c :: Ea).zip (k :: Ek)) := by
  have hc : close L (Ra.zip Rk) ((c, kc) :: Ea.zip Ek) = some ((c, k) :: Ea.zip Ek) := close_even (by rw [h.len]; exact hp) (by rw [h.sum]; exact hk)
  refine ⟨h.ring.evn h.all hp, Fb_eq (h.turn.trans ⟨?_, ?_⟩)⟩
  · rintro ⟨l', h1, h2⟩
    rw [hc] at h1
    rw [← Option.some.inj h1] at h2
    exact h2
  · intro h2
    exact ⟨_, hc, h2⟩
end
theorem minL_mem {xs : List Int} (h : xs ≠ []) : minL xs ∈ xs ∧ ∀ x ∈ xs, minL xs ≤ x := by
  have : ∀ (l : List Int) (a : Int), (l.foldl min a = a ∨ l.foldl min a ∈ l) ∧ l.foldl min a ≤ a ∧ ∀ x ∈ l, l.foldl min a ≤ x := by
    intro l
    induction l with
    | nil => intro a; simp
    | cons b l ih =>
      intro a
      obtain ⟨h1, h2, h3⟩ := ih (min a b)
      simp only [List.foldl_cons]
      refine ⟨?_, by omega, fun x hx => ?_⟩
      · rcases h1 with h1 | h1
        · rw [h1]
          by_cases hab : a ≤ b
          · exact .inl (by omega)
          · exact .inr (by rw [show min a b = b by omega]; simp)
        · exact .inr (List.mem_cons_of_mem _ h1)
      · rcases List.mem_cons.1 hx with rfl | hx
        · omega
        · exact h3 x hx
  cases xs with
  | nil => exact absurd rfl h
  | cons a l =>
    obtain ⟨h1, h2, h3⟩ := this l a
    refine ⟨?_, fun x hx => ?_⟩
    · show l.foldl min a ∈ a :: l
      rcases h1 with h1 | h1
      · rw [h1]; simp
      · exact List.mem_cons_of_mem _ h1
    · show l.foldl min a ≤ x
      rcases List.mem_cons.1 hx with rfl | hx
      · exact h2
      · exact h3 x hx
theorem maxL_le {xs : List Int} (h : xs ≠ []) : maxL xs ∈ xs ∧ ∀ x ∈ xs, x ≤ maxL xs := by
  have : ∀ (l : List Int) (a : Int), (l.foldl max a = a ∨ l.foldl max a ∈ l) ∧ a ≤ l.foldl max a ∧ ∀ x ∈ l, x ≤ l.foldl max a := by
    intro l
    induction l with
    | nil => intro a; simp
    | cons b l ih =>
      intro a
      obtain ⟨h1, h2, h3⟩ := ih (max a b)
      simp only [List.foldl_cons]
      refine ⟨?_, by omega, fun x hx => ?_⟩
      · rcases h1 with h1 | h1
        · rw [h1]
          by_cases hab : b ≤ a
          · exact .inl (by omega)
          · exact .inr (by rw [show max a b = b by omega]; simp)
        · exact .inr (List.mem_cons_of_mem _ h1)
      · rcases List.mem_cons.1 hx with rfl | hx
        · omega
        · exact h3 x hx
  cases xs with
  | nil => exact absurd rfl h
  | cons a l =>
    obtain ⟨h1, h2, h3⟩ := this l a
    refine ⟨?_, fun x hx => ?_⟩
    · show l.foldl max a ∈ a :: l
      rcases h1 with h1 | h1
      · rw [h1]; simp
      · exact List.mem_cons_of_mem _ h1
    · show x ≤ l.foldl max a
      rcases List.mem_cons.1 hx with rfl | hx
      · exact h2
      · exact h3 x hx
/-- All alike. -/
theorem alike {xs ys : List Int} (hne : xs ≠ []) (hl : ys.length = xs.length) (h : maxL xs = minL xs) : Fb (xs.zip ys) = decide (ks ys = 2 ∨ ks ys = -2) := by
  have hz : (xs.zip ys).map (·.1) = xs := List.map_fst_zip (by omega)
  have h1 := F_all_eq (l := xs.zip ys) (a := minL xs) (fun p hp => by
    have hp1 : p.1 ∈ xs := by rw [← hz]; exact List.mem_map_of_mem hp
    have := (minL_mem hne).2 p.1 hp1
    have := (maxL_le hne).2 p.1 hp1
    omega) (fun h0 => by rw [h0] at hz; exact hne hz.symm)
  rw [tot_zip _ _ hl.symm] at h1
  simp [Fb, h1]
theorem unlike {xs : List Int} (hne : xs ≠ []) (h : maxL xs ≠ minL xs) : ∃ x ∈ xs, x ≠ minL xs := ⟨maxL xs, (maxL_le hne).1, h⟩
end Go.Proofs.Ytcfeejlhhimpjaa
