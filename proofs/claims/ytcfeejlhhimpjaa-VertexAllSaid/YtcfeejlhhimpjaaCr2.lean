/- The first angle that is not the smallest; a clone; a turned slice. -/
import Derived.Test.YtcfeejlhhimpjaaCr1
import Derived.Lib.SliceRun
namespace Go.Proofs.Ytcfeejlhhimpjaa
set_option linter.unusedSimpArgs false
set_option linter.unusedVariables false
open Go.RowKit Vx

theorem flat1_any (x L : Int) (g : Nat) (w : World) (hc : w.cell? ⟨g, 0, none⟩ = some (.int .i64 L)) :
    Calls Try.prog 28 #[.int .i64 x, .pointer (some ⟨g, 0, none⟩)] w fun e w' => e = .returned (.bool (decide (x ≠ L))) ∧ w = w' := by
  go_enter Try.func28, Try.ntmps28
  go_wp2
  go_ret
  exact ⟨by simp [bne_iff_ne, bne]; rfl, rfl⟩
theorem flat1_enter (args : Array Value) (wx : World) : (callFunc 28 args).run Try.prog wx = .ok (.enter 28 args) wx := by kernel_rfl
set_option maxHeartbeats 800000 in
theorem indexFunc_any (A : Option Addr) (n c : Nat) (xs : List Int) (L : Int) (g r : Nat) (w : World) (h : Rd w 1 A n (vis xs)) (hn : n ≤ 100) (hc : w.cell? ⟨g, 0, none⟩ = some (.int .i64 L)) (hr : r < n)
    (h1 : ∀ (j : Nat) z, j < r → xs[j]? = some z → z = L) (h2 : ∀ z, xs[r]? = some z → z ≠ L) :
    Calls Try.prog 22 #[.slice A n c, .func (.func 28) #[] #[.pointer (some ⟨g, 0, none⟩)]] w fun e w' => e = .returned (.int .i64 r) ∧ w = w' := by
  have HL := Lib.hid h.ints_len
  have H1 := Lib.hid h1
  have H2 := Lib.hid h2
  have CF := Lib.hid (fun x => flat1_any x L g w hc)
  have EF := Lib.hid flat1_enter
  clear h1 h2 hc
  go_enter Try.func22, Try.ntmps22
  go_wp2
  go_loopw [8] (fun i wr => ∃ k : Nat, k ≤ r ∧ i = .int .i64 k ∧ w = wr) (fun i _ => n - (intOf i).toNat)
  case atStart => exact ⟨0, by omega, rfl, rfl⟩
  case round =>
    obtain ⟨k, hk, rfl, rfl⟩ := hrel
    obtain ⟨b, off, z, hA, hb, hz, hcz⟩ := h.int (show k < n by omega)
    subst hA
    have hkn : k < n := by omega
    have hent := EF.out
    go_wp2_with fail
    refine (CF.out z).mono ?_
    rintro e w1 ⟨rfl, rfl⟩
    by_cases hkr : k < r
    · have hzl := H1.out k z hkr hz
      subst hzl
      go_wp2
      go_roundw
      case rel => exact ⟨k + 1, by omega, by go_num, by simp⟩
      case measure => simp [intOf]; omega
    · obtain rfl : k = r := by omega
      have hzl := H2.out z hz
      have hdec : decide (z ≠ L) = true := by simpa using hzl
      simp only [hdec]
      clear hdec hzl
      go_wp2
      go_ret
      exact ⟨rfl, rfl⟩
section
variable {w : World}
theorem app_rd {ops : Array Oper} {rest : List Oper} {o : Oper} {a : Act} {Q : Exit → Act → World → Prop} (hgd : o.guard = none) (s x : Operand)
    (ho : o.op = .call { callee := .builtin .append, args := #[s, x], argTypes := #[22, 22] })
    (base : Nat) (v : Value) (n : Nat) (zs news : List Int) (hs : a.eval s = v) (hown : w.ownsRow base 3 1 v n (vis zs)) (hbase : base ≤ w.heap.size)
    (b off m c : Nat) (hx : a.eval x = .slice (some ⟨b, off, none⟩) m c) (hr : Rd w 1 (some ⟨b, off, none⟩) m (vis news)) (hn : n + m ≤ 2147483648)
    (h : ∀ v' w', w'.ownsRow base 3 1 v' (n + m) (vis (zs ++ news)) → Below base w w' → GrowOf w w' v v' → wpList Try.prog ops Q rest (a.put o.dst v') w') :
    wpList Try.prog ops Q (o :: rest) a w := by
  obtain ⟨i0, hi, hz0, hz1, hz2⟩ := info_parts int_info
  refine wpList_append_own_at _ hgd s x 22 ho base 3 i0 (.int .i64 0) 1 8 Try.underlying22 hi hz0 hz1 hz2 rfl (by decide) v n (vis zs) hs hown ⟨b, off, none⟩ m c (vis news) hx hr.1 ?_
    (fun u hu => by obtain ⟨z, _, rfl⟩ := List.mem_map.1 hu; rfl) (by simp only [maxLen]; omega) (by omega) hbase ?_
  · intro j u hu
    rw [addr_add]
    have hm : 0 < m := by
      have := (List.getElem?_eq_some_iff.1 hu).1
      have := hr.1
      omega
    obtain ⟨b', off', e, _, hc⟩ := hr.2 hm
    simp only [Option.some.injEq, Addr.mk.injEq, and_true] at e
    obtain ⟨rfl, rfl⟩ := e
    exact hc j u hu
  · intro v' w' h1 h2 _ h3
    exact h v' w' (by simpa [vis] using h1) ((Below.refl _ _).grown h2 hbase (fun k hk => (hown.lt k hk).1)) ⟨h2, by
      rcases h3 with h3 | h3
      · exact .inl h3
      · exact .inr ⟨_, h3, Nat.le_refl _⟩⟩
end
set_option maxHeartbeats 800000 in
theorem clone_any (b off n c : Nat) (xs : List Int) (w : World) (h : Rd w 1 (some ⟨b, off, none⟩) n (vis xs)) (hn : n ≤ 1000) :
    Calls Try.prog 29 #[.slice (some ⟨b, off, none⟩) n c] w fun e w' => ∃ v, e = .returned v ∧ w'.ownsRow w.heap.size 3 1 v n (vis xs) ∧ Below w.heap.size w w' := by
  have q22 : ∀ (w : World) (a : Option Addr) (n c n' c' : Nat), (binOp .eql 22 (.slice a n c) (.slice none n' c')).run Try.prog w = .ok (.bool a.isNone) w := fun w a n c n' c' => Lib.run_eql_slice_nil w _ _ a n c n' c' Try.underlying22
  have HR := Lib.hid h
  clear h
  go_enter Try.func29, Try.ntmps29
  go_wp2_with (at_builtin; refine app_rd rfl (.tmp 5) (.tmp 6) rfl w.heap.size _ 0 [] xs rfl (World.ownsRow_made w #[] 0 (Nat.le_refl _) (Nat.zero_le _) rfl) (by simp) b off n c rfl (HR.out.alloc _) (by omega) ?_; intro v' w' hown hb hg)
  go_wp2
  go_ret
  exact ⟨v', rfl, by simpa using hown, (below_new w _).trans (hb.mono (Nat.le_refl _))⟩
end Go.Proofs.Ytcfeejlhhimpjaa
