/- Orders of stamps: plain laws: ties as the program and as the document has them; what is grown and sorted is what the document lists. -/
import Derived.Test.YtjikhdnlcoohbaaBk
namespace Go.Proofs.Ytjikhdnlcoohbaa.St
set_option linter.unusedSimpArgs false
set_option linter.unusedVariables false
set_option linter.unusedVariables false
/-- heights: of stamp s the place -/
def idx (l : List Int) (s : Int) : Nat := l.idxOf s
def hsOf (l : List Int) : List Int := (List.range l.length).map fun (i : Nat) => ((idx l ((i : Int) + 1) : Nat) : Int)
def Perm1 (l : List Int) : Prop := ∀ s : Nat, s < l.length → ((s : Int) + 1) ∈ l
def tiesOf (h : Nat → Int) (n p : Nat) : List (Int × Int) := ((List.range n).filter fun i => decide (0 < i ∧ i % 2 = p)).map fun i => (min (h (i - 1)) (h i), max (h (i - 1)) (h i))
def holdsB (t : Int × Int) (x : Int) : Bool := decide (t.1 < x ∧ x < t.2)
def goodSide (T : List (Int × Int)) : Bool := T.all fun a => T.all fun b => holdsB a b.1 == holdsB a b.2
def goodH (h : Nat → Int) (n : Nat) : Bool := goodSide (tiesOf h n 0) && goodSide (tiesOf h n 1)
def btw (h a b : Int) : Bool := decide ((a < h ∧ h < b) ∨ (b < h ∧ h < a))
/-- the document's way: ties i and k, k = i + 2, i + 4, .. -/
def pairOk (h : Nat → Int) (i k : Nat) : Bool := btw (h (k - 1)) (h (i - 1)) (h i) == btw (h k) (h (i - 1)) (h i)
def goodR (h : Nat → Int) (n : Nat) : Bool := (List.range n).all fun i => (List.range n).all fun k => !decide (0 < i ∧ i < k ∧ i % 2 = k % 2) || pairOk h i k
theorem good_eq {h : Nat → Int} {n : Nat} (hinj : ∀ i j, i < n → j < n → h i = h j → i = j) : goodH h n = goodR h n := by
  rw [Bool.eq_iff_iff]
  have sym : ∀ a b c d : Int, a ≠ c → a ≠ d → b ≠ c → b ≠ d → ((holdsB (min a b, max a b) (min c d) = holdsB (min a b, max a b) (max c d)) ↔ (btw c a b = btw d a b)) := by
    intro a b c d h1 h2 h3 h4
    unfold holdsB btw
    simp only [decide_eq_decide]
    by_cases x1 : a < b <;> by_cases x2 : c < d <;> simp only [Int.min_def, Int.max_def] <;> repeat' split <;> omega
  have flip : ∀ a b c d : Int, a ≠ c → a ≠ d → b ≠ c → b ≠ d → ((btw c a b = btw d a b) ↔ (btw a c d = btw b c d)) := by
    intro a b c d h1 h2 h3 h4
    unfold btw
    simp only [decide_eq_decide]
    omega
  constructor
  · intro hg
    unfold goodR
    simp only [List.all_eq_true, List.mem_range, Bool.or_eq_true, Bool.not_eq_true', decide_eq_false_iff_not]
    intro i hi k hk
    by_cases hc : 0 < i ∧ i < k ∧ i % 2 = k % 2
    · right
      have hs : goodSide (tiesOf h n (i % 2)) = true := by
        unfold goodH at hg
        rw [Bool.and_eq_true] at hg
        have : i % 2 = 0 ∨ i % 2 = 1 := by omega
        rcases this with e | e <;> rw [e]
        · exact hg.1
        · exact hg.2
      unfold goodSide at hs
      simp only [List.all_eq_true, beq_iff_eq] at hs
      have mem : ∀ j, j < n → 0 < j → j % 2 = i % 2 → (min (h (j - 1)) (h j), max (h (j - 1)) (h j)) ∈ tiesOf h n (i % 2) := by
        intro j hj h0 hp
        unfold tiesOf
        refine List.mem_map.2 ⟨j, List.mem_filter.2 ⟨List.mem_range.2 hj, by simp [h0, hp]⟩, rfl⟩
      have h1 := hs _ (mem i hi hc.1 rfl) _ (mem k hk (by omega) hc.2.2.symm)
      unfold pairOk
      rw [beq_iff_eq]
      have ne : ∀ x y, x < n → y < n → x ≠ y → h x ≠ h y := fun x y hx hy hn e => hn (hinj x y hx hy e)
      exact (sym _ _ _ _ (ne _ _ (by omega) (by omega) (by omega)) (ne _ _ (by omega) (by omega) (by omega)) (ne _ _ (by omega) (by omega) (by omega)) (ne _ _ (by omega) (by omega) (by omega))).1 h1
    · exact .inl hc
  · intro hg
    unfold goodR at hg
    simp only [List.all_eq_true, List.mem_range, Bool.or_eq_true, Bool.not_eq_true', decide_eq_false_iff_not] at hg
    have side : ∀ p, goodSide (tiesOf h n p) = true := by
      intro p
      unfold goodSide
      simp only [List.all_eq_true, beq_iff_eq]
      intro a ha b hb
      unfold tiesOf at ha hb
      obtain ⟨i, hi, rfl⟩ := List.mem_map.1 ha
      obtain ⟨k, hk, rfl⟩ := List.mem_map.1 hb
      simp only [List.mem_filter, List.mem_range, decide_eq_true_eq] at hi hk
      obtain ⟨hi, h0, hp⟩ := hi
      obtain ⟨hk, h0', hp'⟩ := hk
      have ne : ∀ x y, x < n → y < n → x ≠ y → h x ≠ h y := fun x y hx hy hn e => hn (hinj x y hx hy e)
      rcases Nat.lt_trichotomy i k with hik | hik | hik
      · have := (hg i hi k hk).resolve_left (by simp; omega)
        unfold pairOk at this
        rw [beq_iff_eq] at this
        exact (sym _ _ _ _ (ne _ _ (by omega) (by omega) (by omega)) (ne _ _ (by omega) (by omega) (by omega)) (ne _ _ (by omega) (by omega) (by omega)) (ne _ _ (by omega) (by omega) (by omega))).2 this
      · subst hik
        unfold holdsB
        simp only [decide_eq_decide]
        omega
      · have := (hg k hk i hi).resolve_left (by simp; omega)
        unfold pairOk at this
        rw [beq_iff_eq] at this
        have n1 := ne (k - 1) (i - 1) (by omega) (by omega) (by omega)
        have n2 := ne (k - 1) i (by omega) (by omega) (by omega)
        have n3 := ne k (i - 1) (by omega) (by omega) (by omega)
        have n4 := ne k i (by omega) (by omega) (by omega)
        exact (sym _ _ _ _ n1.symm n3.symm n2.symm n4.symm).2 ((flip _ _ _ _ n1 n2 n3 n4).1 this)
    unfold goodH
    rw [side 0, side 1]
    rfl
/-! ### each of 1 to n once -/
theorem perm_of_all {os : List Int} {L : List Int} (hnd : L.Nodup) (hsub : ∀ x ∈ L, x ∈ os) (hlen : os.length ≤ L.length) : os.Perm L := by
  induction L generalizing os with
  | nil =>
    have : os = [] := List.length_eq_zero_iff.1 (by simpa using hlen)
    subst this
    exact List.Perm.refl _
  | cons a L ih =>
    have ha := hsub a (by simp)
    have h1 := List.perm_cons_erase ha
    rw [List.nodup_cons] at hnd
    have h2 : (os.erase a).Perm L := by
      refine ih hnd.2 (fun x hx => ?_) ?_
      · have := (h1.mem_iff (a := x)).1 (hsub x (by simp [hx]))
        rcases List.mem_cons.1 this with e | e
        · subst e; exact absurd hx hnd.1
        · exact e
      · have := h1.length_eq
        simp at this hlen
        omega
    exact h1.trans (h2.cons a)
def upto (n : Nat) : List Int := (List.range n).map fun (i : Nat) => (i : Int) + 1
theorem upto_len (n : Nat) : (upto n).length = n := by simp [upto]
theorem upto_mem {n : Nat} {x : Int} : x ∈ upto n ↔ 1 ≤ x ∧ x ≤ n := by
  unfold upto
  simp only [List.mem_map, List.mem_range]
  constructor
  · rintro ⟨i, hi, rfl⟩; omega
  · rintro ⟨h1, h2⟩; exact ⟨(x - 1).toNat, by omega, by omega⟩
theorem upto_sorted (n : Nat) : (upto n).Pairwise (· < ·) := by
  unfold upto
  rw [List.pairwise_map]
  exact (List.pairwise_lt_range (n := n)).imp fun h => by omega
theorem upto_nodup (n : Nat) : (upto n).Nodup := (upto_sorted n).imp fun h => by omega
theorem perm_iff {os : List Int} {n : Nat} (hl : os.length = n) : os.Perm (upto n) ↔ ∀ s : Nat, s < n → ((s : Int) + 1) ∈ os := by
  constructor
  · intro h s hs
    exact h.mem_iff.2 (upto_mem.2 (by omega))
  · intro h
    refine perm_of_all (upto_nodup n) (fun x hx => ?_) (by rw [upto_len]; omega)
    have := upto_mem.1 hx
    have := h (x - 1).toNat (by omega)
    rwa [show (((x - 1).toNat : Nat) : Int) + 1 = x by omega] at this
/-- what is sorted is 1 to n just where each was there -/
theorem sorted_iff {os S : List Int} (hp : S.Perm os) (hs : S.Pairwise (· ≤ ·)) : S = upto os.length ↔ os.Perm (upto os.length) := by
  constructor
  · intro h
    exact hp.symm.trans (by rw [h])
  · intro h
    refine List.Perm.eq_of_pairwise (le := (· ≤ ·)) (fun a b _ _ h1 h2 => by omega) hs ((upto_sorted _).imp fun h => by omega) (hp.trans h)
theorem nodup_at {α : Type} {l : List α} (h : l.Nodup) {i j : Nat} {a : α} (hi : l[i]? = some a) (hj : l[j]? = some a) : i = j := by
  rw [List.nodup_iff_pairwise_ne, List.pairwise_iff_getElem] at h
  obtain ⟨q1, q2⟩ := List.getElem?_eq_some_iff.1 hi
  obtain ⟨q3, q4⟩ := List.getElem?_eq_some_iff.1 hj
  rcases Nat.lt_trichotomy i j with hh | hh | hh
  · exact absurd (q2.trans q4.symm) (h i j q1 q3 hh)
  · exact hh
  · exact absurd (q4.trans q2.symm) (h j i q3 q1 hh)
theorem idx_at {os : List Int} {s : Int} (h : s ∈ os) : os[idx os s]? = some s := by
  unfold idx
  have := List.idxOf_lt_length_iff.2 h
  rw [List.getElem?_eq_getElem this, List.getElem_idxOf this]
theorem idx_eq {os : List Int} (hnd : os.Nodup) {s : Int} {i : Nat} (h : os[i]? = some s) : idx os s = i :=
  nodup_at hnd (idx_at (List.mem_of_getElem? h)) h
theorem idx_lt {os : List Int} {s : Int} (h : s ∈ os) : idx os s < os.length := List.idxOf_lt_length_iff.2 h
theorem hs_len (os : List Int) : (hsOf os).length = os.length := by simp [hsOf]
theorem hs_at {os : List Int} {i : Nat} (hi : i < os.length) : (hsOf os)[i]? = some (idx os ((i : Int) + 1) : Int) := by
  unfold hsOf
  rw [List.getElem?_map, List.getElem?_range hi]
  rfl
def fn (l : List Int) (i : Nat) : Int := l.getD i 0
theorem fn_at {l : List Int} {j : Nat} {a : Int} (h : l[j]? = some a) : fn l j = a := by
  unfold fn
  rw [List.getD_eq_getElem?_getD, h]
  rfl
theorem hs_inj {os : List Int} (hp : os.Perm (upto os.length)) : ∀ i j, i < os.length → j < os.length → fn (hsOf os) i = fn (hsOf os) j → i = j := by
  intro i j hi hj e
  have m1 : ((i : Int) + 1) ∈ os := hp.mem_iff.2 (upto_mem.2 (by omega))
  have m2 : ((j : Int) + 1) ∈ os := hp.mem_iff.2 (upto_mem.2 (by omega))
  rw [fn_at (hs_at hi), fn_at (hs_at hj)] at e
  have e2 : idx os ((i : Int) + 1) = idx os ((j : Int) + 1) := by omega
  have h1 := idx_at m1
  rw [e2, idx_at m2] at h1
  have := Option.some.inj h1
  omega
/-! ### all orders, in the document's way -/
def ordG (o : List Int) : Bool := goodR (fn (hsOf o)) o.length
def goodO (o : List Int) : Bool := goodH (fn (hsOf o)) o.length
theorem goodO_eq {o : List Int} (h : o.Perm (upto o.length)) : goodO o = ordG o := good_eq (hs_inj h)
def ordersOf (n : Nat) : Nat → List Int → List (List Int)
  | 0, b => if ordG b = true then [b] else []
  | r + 1, b => (upto n).flatMap fun s => if b.contains s = true then [] else ordersOf n r (b ++ [s])
def growL : Nat → List Int → List (List Int)
  | 0, o => [o]
  | r + 1, o => (List.range (o.length + 1)).flatMap fun up => if goodO (o.insertIdx up ((o.length : Int) + 1)) = true then growL r (o.insertIdx up ((o.length : Int) + 1)) else []
theorem nodup_le {b : List Int} {n : Nat} (hnd : b.Nodup) (hsub : ∀ x ∈ b, x ∈ upto n) : b.length ≤ n := by
  have key : ∀ (L : List Int) (b : List Int), b.Nodup → (∀ x ∈ b, x ∈ L) → b.length ≤ L.length := by
    intro L b
    induction b generalizing L with
    | nil => intro _ _; simp
    | cons a b ih =>
      intro h1 h2
      rw [List.nodup_cons] at h1
      have h3 := List.perm_cons_erase (h2 a (by simp))
      have := ih (L.erase a) h1.2 (fun x hx => by
        have := h3.mem_iff.1 (h2 x (by simp [hx]))
        rcases List.mem_cons.1 this with e | e
        · subst e; exact absurd hx h1.1
        · exact e)
      have := h3.length_eq
      simp at this ⊢
      omega
  have := key (upto n) b hnd hsub
  rwa [upto_len] at this
theorem perm_of_nodup {x : List Int} {n : Nat} (hnd : x.Nodup) (hsub : ∀ y ∈ x, y ∈ upto n) (hl : x.length = n) : x.Perm (upto n) := by
  have := perm_of_all (os := upto n) (L := x) hnd hsub (by rw [upto_len]; omega)
  exact this.symm
theorem mem_orders {n : Nat} : ∀ (r : Nat) (b x : List Int), b.length + r = n → b.Nodup → (∀ y ∈ b, y ∈ upto n) → (x ∈ ordersOf n r b ↔ (∃ t, x = b ++ t) ∧ x.Perm (upto n) ∧ ordG x = true) := by
  intro r
  induction r with
  | zero =>
    intro b x hl hnd hsub
    simp only [ordersOf]
    have hp := perm_of_nodup hnd hsub (by omega)
    constructor
    · intro h
      split at h
      · simp at h
        subst h
        exact ⟨⟨[], by simp⟩, hp, by assumption⟩
      · simp at h
    · rintro ⟨⟨t, rfl⟩, h1, h2⟩
      have h3 := h1.length_eq
      have ht : t = [] := List.length_eq_zero_iff.1 (by simp [upto_len] at h3; omega)
      subst ht
      simp at h2 ⊢
      rw [h2]
  | succ r ih =>
    intro b x hl hnd hsub
    simp only [ordersOf, List.mem_flatMap]
    constructor
    · rintro ⟨s, hs, hx⟩
      split at hx
      · simp at hx
      · rename_i hc
        have hc' : s ∉ b := by simpa using hc
        have := (ih (b ++ [s]) x (by simp; omega) (by
          rw [List.nodup_append]
          refine ⟨hnd, by simp, ?_⟩
          intro a ha c hc2 e
          simp at hc2
          rw [e, hc2] at ha
          exact hc' ha) (by
          intro y hy
          rcases List.mem_append.1 hy with hy | hy
          · exact hsub y hy
          · simp at hy; rw [hy]; exact hs)).1 hx
        obtain ⟨⟨t, rfl⟩, h1, h2⟩ := this
        exact ⟨⟨s :: t, by simp⟩, h1, h2⟩
    · rintro ⟨⟨t, rfl⟩, h1, h2⟩
      cases t with
      | nil =>
        have := h1.length_eq
        simp [upto_len] at this
        omega
      | cons s t =>
        have hnd2 : (b ++ s :: t).Nodup := h1.nodup_iff.2 (upto_nodup n)
        rw [List.nodup_append] at hnd2
        have hsb : s ∉ b := fun h => hnd2.2.2 s h s (by simp) rfl
        have hs : s ∈ upto n := h1.mem_iff.1 (by simp)
        refine ⟨s, hs, ?_⟩
        rw [if_neg (by simpa using hsb)]
        refine (ih (b ++ [s]) _ (by simp; omega) ?_ ?_).2 ⟨⟨t, by simp⟩, h1, h2⟩
        · rw [List.nodup_append]
          refine ⟨hnd, by simp, ?_⟩
          intro a ha c hc2 e
          simp at hc2
          rw [e, hc2] at ha
          exact hsb ha
        · intro y hy
          rcases List.mem_append.1 hy with hy | hy
          · exact hsub y hy
          · simp at hy; rw [hy]; exact hs
/-- the order of lists: number by number -/
def lexLt : List Int → List Int → Prop
  | [], [] => False
  | [], _ :: _ => True
  | _ :: _, [] => False
  | a :: s, b :: t => a < b ∨ (a = b ∧ lexLt s t)
theorem lexLt_irrefl : ∀ a : List Int, ¬ lexLt a a := by
  intro a
  induction a with
  | nil => simp [lexLt]
  | cons a s ih => simp [lexLt, ih]
theorem lexLt_trans : ∀ {a b c : List Int}, lexLt a b → lexLt b c → lexLt a c := by
  intro a
  induction a with
  | nil =>
    intro b c h1 h2
    cases b with
    | nil => simp [lexLt] at h1
    | cons b t => cases c with
      | nil => simp [lexLt] at h2
      | cons c u => trivial
  | cons a s ih =>
    intro b c h1 h2
    cases b with
    | nil => simp [lexLt] at h1
    | cons b t => cases c with
      | nil => simp [lexLt] at h2
      | cons c u =>
        simp only [lexLt] at h1 h2 ⊢
        rcases h1 with h1 | ⟨rfl, h1⟩
        · rcases h2 with h2 | ⟨rfl, h2⟩
          · exact .inl (by omega)
          · exact .inl h1
        · rcases h2 with h2 | ⟨rfl, h2⟩
          · exact .inl h2
          · exact .inr ⟨rfl, ih h1 h2⟩
theorem lexLt_tri : ∀ (a b : List Int), lexLt a b ∨ a = b ∨ lexLt b a := by
  intro a
  induction a with
  | nil => intro b; cases b <;> simp [lexLt]
  | cons a s ih =>
    intro b
    cases b with
    | nil => simp [lexLt]
    | cons b t =>
      simp only [lexLt, List.cons.injEq]
      rcases ih t with h | h | h <;> rcases Int.lt_trichotomy a b with g | g | g <;> simp [*] <;> omega
theorem lexLt_pre (p : List Int) {a b : List Int} : lexLt (p ++ a) (p ++ b) ↔ lexLt a b := by
  induction p with
  | nil => simp
  | cons x p ih => simp [lexLt, ih]
theorem orders_pre {n : Nat} : ∀ (r : Nat) (b x : List Int), x ∈ ordersOf n r b → ∃ t, x = b ++ t := by
  intro r
  induction r with
  | zero =>
    intro b x h
    simp only [ordersOf] at h
    split at h
    · simp at h; exact ⟨[], by simp [h]⟩
    · simp at h
  | succ r ih =>
    intro b x h
    simp only [ordersOf, List.mem_flatMap] at h
    obtain ⟨s, _, hx⟩ := h
    split at hx
    · simp at hx
    · obtain ⟨t, rfl⟩ := ih _ _ hx
      exact ⟨s :: t, by simp⟩
theorem orders_sorted {n : Nat} : ∀ (r : Nat) (b : List Int), (ordersOf n r b).Pairwise lexLt := by
  intro r
  induction r with
  | zero =>
    intro b
    simp only [ordersOf]
    split <;> simp
  | succ r ih =>
    intro b
    simp only [ordersOf]
    rw [List.pairwise_flatMap]
    refine ⟨?_, ?_⟩
    · intro s _
      split
      · simp
      · exact ih _
    · refine (upto_sorted n).imp ?_
      intro s s' hss x hx y hy
      split at hx
      · simp at hx
      · split at hy
        · simp at hy
        · obtain ⟨t, rfl⟩ := orders_pre _ _ _ hx
          obtain ⟨t', rfl⟩ := orders_pre _ _ _ hy
          rw [List.append_assoc, List.append_assoc, lexLt_pre]
          exact .inl hss
/-- a sorted list is told by what is in it -/
theorem sorted_eq {S O G : List (List Int)} (hp : S.Perm G) (hs : S.Pairwise fun a b => ¬ lexLt b a) (hO : O.Pairwise lexLt) (hG : G.Nodup) (hm : ∀ x, x ∈ G ↔ x ∈ O) : S = O := by
  have hOn : O.Nodup := by
    rw [List.nodup_iff_pairwise_ne]
    exact hO.imp (S := fun a b => a ≠ b) fun h e => lexLt_irrefl _ (by rw [e] at h; exact h)
  have hGO : G.Perm O := (List.perm_ext_iff_of_nodup hG hOn).2 hm
  refine List.Perm.eq_of_pairwise (le := fun a b => ¬ lexLt b a) ?_ hs ?_ (hp.trans hGO)
  · intro a b _ _ h1 h2
    rcases lexLt_tri a b with h | h | h
    · exact absurd h h2
    · exact h
    · exact absurd h h1
  · exact hO.imp fun {a b} h h2 => lexLt_irrefl a (lexLt_trans h h2)
/-! ### all orders, grown stamp by stamp -/
def res (k : Nat) (x : List Int) : List Int := x.filter fun y => decide (y ≤ (k : Int))
theorem res_perm {x : List Int} {n k : Nat} (h : x.Perm (upto n)) (hk : k ≤ n) : (res k x).Perm (upto k) := by
  refine (List.perm_ext_iff_of_nodup ?_ (upto_nodup k)).2 ?_
  · exact (h.nodup_iff.2 (upto_nodup n)).filter _
  · intro y
    unfold res
    rw [List.mem_filter, h.mem_iff, upto_mem, upto_mem]
    simp
    omega
theorem res_len {x : List Int} {n k : Nat} (h : x.Perm (upto n)) (hk : k ≤ n) : (res k x).length = k := by
  have := (res_perm h hk).length_eq
  rwa [upto_len] at this
theorem idx_cons (a : Int) (l : List Int) (s : Int) : idx (a :: l) s = if a = s then 0 else idx l s + 1 := by
  unfold idx
  rw [List.idxOf_cons]
  by_cases h : a = s
  · simp [h]
  · have : (a == s) = false := by simp [h]
    rw [this, if_neg h]
    rfl
theorem idx_filter {p : Int → Bool} {l : List Int} {a b : Int} (ha : p a = true) (hb : p b = true) (ma : a ∈ l) (mb : b ∈ l) : idx (l.filter p) a < idx (l.filter p) b ↔ idx l a < idx l b := by
  induction l with
  | nil => cases ma
  | cons c l ih =>
    rw [List.filter_cons]
    by_cases hca : c = a
    · subst hca
      rw [if_pos ha, idx_cons, idx_cons, idx_cons, idx_cons]
      by_cases hcb : c = b
      · simp [hcb]
      · simp [hcb]
    · by_cases hcb : c = b
      · subst hcb
        rw [if_pos hb, idx_cons, idx_cons, idx_cons, idx_cons]
        simp
      · have ma' : a ∈ l := by rcases List.mem_cons.1 ma with e | e; exact absurd e.symm hca; exact e
        have mb' : b ∈ l := by rcases List.mem_cons.1 mb with e | e; exact absurd e.symm hcb; exact e
        have := ih ma' mb'
        by_cases hp : p c = true
        · rw [if_pos hp, idx_cons, idx_cons, idx_cons, idx_cons, if_neg hca, if_neg hcb, if_neg hca, if_neg hcb]
          omega
        · rw [if_neg hp, idx_cons c l, idx_cons c l, if_neg hca, if_neg hcb]
          omega
theorem good_mono {h h' : Nat → Int} {n k : Nat} (hk : k ≤ n) (hm : ∀ i j, i < k → j < k → (h i < h j ↔ h' i < h' j)) (hg : goodR h n = true) : goodR h' k = true := by
  unfold goodR at hg ⊢
  simp only [List.all_eq_true, List.mem_range, Bool.or_eq_true, Bool.not_eq_true', decide_eq_false_iff_not] at hg ⊢
  intro i hi j hj
  rcases hg i (by omega) j (by omega) with h1 | h1
  · exact .inl h1
  · by_cases hc : 0 < i ∧ i < j ∧ i % 2 = j % 2
    · right
      unfold pairOk btw at h1 ⊢
      rw [beq_iff_eq, decide_eq_decide] at h1 ⊢
      rw [hm (i - 1) (j - 1) (by omega) (by omega), hm (j - 1) i (by omega) (by omega), hm i (j - 1) (by omega) (by omega), hm (j - 1) (i - 1) (by omega) (by omega), hm (i - 1) j (by omega) (by omega), hm j i (by omega) (by omega), hm i j (by omega) (by omega), hm j (i - 1) (by omega) (by omega)] at h1
      exact h1
    · exact .inl hc
theorem hs_fn {os : List Int} {i : Nat} (hi : i < os.length) : fn (hsOf os) i = (idx os ((i : Int) + 1) : Int) := fn_at (hs_at hi)
theorem perm_self {x : List Int} {n : Nat} (h : x.Perm (upto n)) : x.length = n ∧ x.Perm (upto x.length) := by
  have := h.length_eq
  rw [upto_len] at this
  exact ⟨this, by rw [this]; exact h⟩
/-- the first stamps of a good order lie in a good order -/
theorem res_good {x : List Int} {n k : Nat} (h : x.Perm (upto n)) (hk : k ≤ n) (hg : goodO x = true) : goodO (res k x) = true := by
  obtain ⟨hl, hs⟩ := perm_self h
  obtain ⟨hl2, hs2⟩ := perm_self (res_perm h hk)
  rw [goodO_eq hs] at hg
  rw [goodO_eq hs2]
  unfold ordG at hg ⊢
  rw [hl] at hg
  rw [hl2]
  refine good_mono hk ?_ hg
  intro i j hi hj
  rw [hs_fn (by omega), hs_fn (by omega), hs_fn (by omega), hs_fn (by omega)]
  have m1 : ((i : Int) + 1) ∈ x := h.mem_iff.2 (upto_mem.2 (by omega))
  have m2 : ((j : Int) + 1) ∈ x := h.mem_iff.2 (upto_mem.2 (by omega))
  have := idx_filter (p := fun y => decide (y ≤ (k : Int))) (l := x) (a := (i : Int) + 1) (b := (j : Int) + 1) (by simp; omega) (by simp; omega) m1 m2
  unfold res
  omega
theorem insert_back {l : List Int} {a : Int} (hnd : l.Nodup) (ha : a ∈ l) : (l.filter fun y => decide (y ≠ a)).insertIdx (idx l a) a = l := by
  induction l with
  | nil => cases ha
  | cons c l ih =>
    rw [List.nodup_cons] at hnd
    rw [idx_cons, List.filter_cons]
    by_cases hc : c = a
    · subst hc
      simp only [if_true, ne_eq, not_true_eq_false, decide_false, Bool.false_eq_true, if_false, List.insertIdx_zero]
      congr 1
      rw [List.filter_eq_self]
      intro y hy
      simp
      rintro rfl
      exact hnd.1 hy
    · rw [if_neg hc, if_pos (by simp [hc]), List.insertIdx_succ_cons, ih hnd.2 (by
        rcases List.mem_cons.1 ha with e | e
        · exact absurd e.symm hc
        · exact e)]
theorem insert_filter {l : List Int} {a : Int} (ha : a ∉ l) (up : Nat) : (l.insertIdx up a).filter (fun y => decide (y ≠ a)) = l := by
  induction l generalizing up with
  | nil =>
    cases up with
    | zero => simp
    | succ up => simp
  | cons c l ih =>
    have hc : c ≠ a := fun e => ha (by simp [e])
    have hl : a ∉ l := fun h => ha (by simp [h])
    cases up with
    | zero =>
      rw [List.insertIdx_zero, List.filter_cons, if_neg (by simp), List.filter_eq_self]
      intro y hy
      simp
      rintro rfl
      exact ha hy
    | succ up => rw [List.insertIdx_succ_cons, List.filter_cons, if_pos (by simp [hc]), ih hl]
theorem insert_idx {l : List Int} {a : Int} (ha : a ∉ l) {up : Nat} (hu : up ≤ l.length) : idx (l.insertIdx up a) a = up := by
  induction l generalizing up with
  | nil =>
    have : up = 0 := by simpa using hu
    subst this
    simp [idx_cons]
  | cons c l ih =>
    have hc : c ≠ a := fun e => ha (by simp [e])
    have hl : a ∉ l := fun h => ha (by simp [h])
    cases up with
    | zero => rw [List.insertIdx_zero, idx_cons, if_pos rfl]
    | succ up => rw [List.insertIdx_succ_cons, idx_cons, if_neg hc, ih hl (by simpa using hu)]
theorem insert_perm {o : List Int} {k up : Nat} (h : o.Perm (upto k)) (hu : up ≤ k) : (o.insertIdx up ((k : Int) + 1)).Perm (upto (k + 1)) := by
  have hl := (perm_self h).1
  have h1 : (o.insertIdx up ((k : Int) + 1)).Perm (((k : Int) + 1) :: o) := List.perm_insertIdx _ _ (by omega)
  refine h1.trans ?_
  have h2 : upto (k + 1) = upto k ++ [(k : Int) + 1] := by simp [upto, List.range_succ]
  rw [h2]
  exact (h.cons _).trans (List.perm_append_singleton _ _).symm
theorem res_succ {y : List Int} {k : Nat} (h : y.Perm (upto (k + 1))) : res k y = y.filter fun z => decide (z ≠ (k : Int) + 1) := by
  unfold res
  apply List.filter_congr
  intro z hz
  have := upto_mem.1 (h.mem_iff.1 hz)
  simp only [decide_eq_decide]
  omega
theorem res_res {x : List Int} {k : Nat} : res k (res (k + 1) x) = res k x := by
  unfold res
  rw [List.filter_filter]
  apply List.filter_congr
  intro z _
  rw [← Bool.decide_and, decide_eq_decide]
  omega
theorem res_all {x : List Int} {n : Nat} (h : x.Perm (upto n)) : res n x = x := by
  unfold res
  rw [List.filter_eq_self]
  intro z hz
  have := upto_mem.1 (h.mem_iff.1 hz)
  simp
  omega
theorem mem_grow : ∀ (r : Nat) (o x : List Int), o.Perm (upto o.length) → goodO o = true → (x ∈ growL r o ↔ x.Perm (upto (o.length + r)) ∧ goodO x = true ∧ res o.length x = o) := by
  intro r
  induction r with
  | zero =>
    intro o x hp hg
    simp only [growL, List.mem_singleton, Nat.add_zero]
    constructor
    · rintro rfl
      exact ⟨hp, hg, res_all hp⟩
    · rintro ⟨h1, _, h3⟩
      rw [res_all h1] at h3
      exact h3
  | succ r ih =>
    intro o x hp hg
    simp only [growL, List.mem_flatMap, List.mem_range]
    have hno : ((o.length : Int) + 1) ∉ o := fun h => by have := upto_mem.1 (hp.mem_iff.1 h); omega
    constructor
    · rintro ⟨up, hup, hx⟩
      split at hx
      · have hp2 := insert_perm (up := up) hp (by omega)
        obtain ⟨hl2, hs2⟩ := perm_self hp2
        obtain ⟨h1, h2, h3⟩ := (ih _ x hs2 (by assumption)).1 hx
        rw [hl2] at h1 h3
        refine ⟨by rw [show o.length + (r + 1) = o.length + 1 + r by omega]; exact h1, h2, ?_⟩
        rw [← res_res, h3, res_succ hp2, insert_filter hno]
      · simp at hx
    · rintro ⟨h1, h2, h3⟩
      have hy := res_perm (k := o.length + 1) h1 (by omega)
      have hyg := res_good (k := o.length + 1) h1 (by omega) h2
      have hmem : ((o.length : Int) + 1) ∈ res (o.length + 1) x := hy.mem_iff.2 (upto_mem.2 (by omega))
      have hnd := hy.nodup_iff.2 (upto_nodup _)
      have hb := insert_back hnd hmem
      rw [← res_succ hy, res_res, h3] at hb
      have hlt := idx_lt hmem
      rw [(perm_self hy).1] at hlt
      refine ⟨_, hlt, ?_⟩
      rw [hb, if_pos hyg]
      obtain ⟨hl2, hs2⟩ := perm_self hy
      refine (ih _ x hs2 hyg).2 ⟨?_, h2, ?_⟩
      · rw [hl2, show o.length + 1 + r = o.length + (r + 1) by omega]; exact h1
      · rw [hl2]
theorem grow_nodup : ∀ (r : Nat) (o : List Int), o.Perm (upto o.length) → (growL r o).Nodup := by
  intro r
  induction r with
  | zero => intro o _; simp [growL]
  | succ r ih =>
    intro o hp
    have hno : ((o.length : Int) + 1) ∉ o := fun h => by have := upto_mem.1 (hp.mem_iff.1 h); omega
    simp only [growL]
    rw [List.nodup_iff_pairwise_ne, List.pairwise_flatMap]
    refine ⟨?_, ?_⟩
    · intro up hup
      split
      · have hp2 := insert_perm (up := up) hp (by have := List.mem_range.1 hup; omega)
        exact List.nodup_iff_pairwise_ne.1 (ih _ (perm_self hp2).2)
      · simp
    · refine List.Pairwise.imp_of_mem ?_ (List.pairwise_lt_range (n := o.length + 1))
      intro u v hu hv huv x hx y hy e
      subst e
      have hu := List.mem_range.1 hu
      have hv := List.mem_range.1 hv
      split at hx
      · split at hy
        · have hp2 := insert_perm (up := u) hp (by omega)
          have hp3 := insert_perm (up := v) hp (by omega)
          obtain ⟨_, _, h3⟩ := (mem_grow r _ x (perm_self hp2).2 (by assumption)).1 hx
          obtain ⟨_, _, h4⟩ := (mem_grow r _ x (perm_self hp3).2 (by assumption)).1 hy
          rw [(perm_self hp2).1] at h3
          rw [(perm_self hp3).1] at h4
          have := insert_idx hno (up := u) (by omega)
          rw [← h3, h4, insert_idx hno (by omega)] at this
          omega
        · simp at hy
      · simp at hx
/-- THE LAW: what is grown and sorted is what the document lists. -/
theorem grown_sorted {n : Nat} (hn : 0 < n) {S : List (List Int)} (hp : S.Perm (growL (n - 1) [1])) (hs : S.Pairwise fun a b => ¬ lexLt b a) : S = ordersOf n n [] := by
  have hp1 : ([1] : List Int).Perm (upto ([1] : List Int).length) := by
    have : upto ([1] : List Int).length = [1] := by decide
    rw [this]
  have hg1 : goodO [1] = true := by decide
  refine sorted_eq hp hs (orders_sorted n []) (grow_nodup _ _ hp1) ?_
  intro x
  rw [mem_grow _ _ _ hp1 hg1, mem_orders n [] x (by simp) (by simp) (by simp)]
  simp only [List.length_cons, List.length_nil, Nat.zero_add, List.nil_append]
  rw [show 1 + (n - 1) = n by omega]
  constructor
  · rintro ⟨h1, h2, _⟩
    exact ⟨⟨x, rfl⟩, h1, by rw [← goodO_eq (perm_self h1).2]; exact h2⟩
  · rintro ⟨_, h1, h2⟩
    refine ⟨h1, by rw [goodO_eq (perm_self h1).2]; exact h2, ?_⟩
    have h3 := res_perm (k := 1) h1 hn
    have h4 : upto 1 = [1] := by decide
    rw [h4] at h3
    exact List.perm_singleton.1 h3
end Go.Proofs.Ytjikhdnlcoohbaa.St
