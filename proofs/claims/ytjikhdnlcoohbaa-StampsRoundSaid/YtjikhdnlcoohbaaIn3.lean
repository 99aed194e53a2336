/- slices.Clone; a yield's depth does not matter at the wide fence. -/
import Derived.Test.YtjikhdnlcoohbaaIn2
import Derived.Laws.AppendOwnNone
import Derived.Lib.SliceRun
namespace Go.Proofs.Ytjikhdnlcoohbaa
set_option linter.unusedSimpArgs false
set_option linter.unusedVariables false
open Go.RowKit St
section
variable {w : World}
theorem app_rd {ops : Array Oper} {rest : List Oper} {o : Oper} {a : Act} {Q : Exit → Act → World → Prop} (hgd : o.guard = none) (s x : Operand)
    (ho : o.op = .call { callee := .builtin .append, args := #[s, x], argTypes := #[22, 22] })
    (base : Nat) (v : Value) (n : Nat) (zs news : List Int) (hs : a.eval s = v) (hown : w.ownsRow base 3 1 v n (vis zs)) (hbase : base ≤ w.heap.size)
    (b off m c : Nat) (hx : a.eval x = .slice (some ⟨b, off, none⟩) m c) (hr : Rd w 1 (some ⟨b, off, none⟩) m (vis news)) (hn : n + m ≤ 2147483648)
    (h : ∀ v' w', w'.ownsRow base 3 1 v' (n + m) (vis (zs ++ news)) → Below base w w' → GrowOf w w' v v' → wpList Try.prog ops Q rest (a.put o.dst v') w') :
    wpList Try.prog ops Q (o :: rest) a w := by
  obtain ⟨i0, hi, hz0, hz1, hz2⟩ := info_parts int_info
  refine wpList_append_own_at _ hgd s x 22 ho base 3 i0 (.int .i64 0) 1 8 Try.underlying22 hi hz0 hz1 hz2 rfl (by decide) v n (vis zs) hs hown ⟨b, off, none⟩ m c (vis news) hx hr.1 ?_
    (fun u hu => by obtain ⟨z, _, rfl⟩ := List.mem_map.1 hu; rfl) (by simp only [maxLen]; omega) (by omega) hbase ?_
  · intro j u hu
    rw [addr_add]
    have hm : 0 < m := by
      have := (List.getElem?_eq_some_iff.1 hu).1
      have := hr.1
      omega
    obtain ⟨b', off', e, _, hc⟩ := hr.2 hm
    simp only [Option.some.injEq, Addr.mk.injEq, and_true] at e
    obtain ⟨rfl, rfl⟩ := e
    exact hc j u hu
  · intro v' w' h1 h2 _ h3
    exact h v' w' (by simpa [vis] using h1) ((Below.refl _ _).grown h2 hbase (fun k hk => (hown.lt k hk).1)) ⟨h2, by
      rcases h3 with h3 | h3
      · exact .inl h3
      · exact .inr ⟨_, h3, Nat.le_refl _⟩⟩
end
set_option maxHeartbeats 800000 in
theorem clone_any (b off n c : Nat) (xs : List Int) (w : World) (h : Rd w 1 (some ⟨b, off, none⟩) n (vis xs)) (hn : n ≤ 1000) :
    Calls Try.prog 52 #[.slice (some ⟨b, off, none⟩) n c] w fun e w' => ∃ v, e = .returned v ∧ w'.ownsRow w.heap.size 3 1 v n (vis xs) ∧ Below w.heap.size w w' := by
  have q22 : ∀ (w : World) (a : Option Addr) (n c n' c' : Nat), (binOp .eql 22 (.slice a n c) (.slice none n' c')).run Try.prog w = .ok (.bool a.isNone) w := fun w a n c n' c' => Lib.run_eql_slice_nil w _ _ a n c n' c' Try.underlying22
  have HR := Lib.hid h
  clear h
  go_enter Try.func52, Try.ntmps52
  go_wp2_with (at_builtin; refine app_rd rfl (.tmp 5) (.tmp 6) rfl w.heap.size _ 0 [] xs rfl (World.ownsRow_made w #[] 0 (Nat.le_refl _) (Nat.zero_le _) rfl) (by simp) b off n c rfl (HR.out.alloc _) (by omega) ?_; intro v' w' hown hb hg)
  go_wp2
  go_ret
  exact ⟨v', rfl, by simpa using hown, (below_new w _).trans (hb.mono (Nat.le_refl _))⟩

theorem yield_wide {m m' : Nat} {P : Program} {l : Nat} {args : Array Value} {W : World} {R : Ending → World → Prop} (h : YieldAt Fence.wide m P l args W R) : YieldAt Fence.wide m' P l args W R := by
  obtain ⟨fn, tmps, assign, body, hy, hR⟩ := h
  exact ⟨fn, tmps, assign, body, hy, hR.1, fun c cs _ => hR.2 c cs (room_wide _)⟩
/-- All rows of numbers that lay there lie there still. -/
def KpI (A C : World) : Prop := A.heap.size ≤ C.heap.size ∧ ∀ (g : Nat) (cs : Array Value), A.heap[g]? = some (.cells cs 3 (0, 0)) → C.heap[g]? = some (.cells cs 3 (0, 0))
theorem KpI.trans {A B C : World} (h1 : KpI A B) (h2 : KpI B C) : KpI A C := ⟨Nat.le_trans h1.1 h2.1, fun g cs h => h2.2 g cs (h1.2 g cs h)⟩
theorem KpI.of_below {A C : World} (h : Below A.heap.size A C) : KpI A C := ⟨h.size, fun g cs hg => blk_below hg h (blk_lt hg)⟩
theorem KpI.refl (A : World) : KpI A A := ⟨Nat.le_refl _, fun _ _ h => h⟩
theorem IRow.keep {A C : World} {g n c : Nat} {o : List Int} (h : IRow A g n c o) (hk : KpI A C) : IRow C g n c o := by
  obtain ⟨h1, h2, h3, cur, h4, h5, h6⟩ := h
  exact ⟨h1, h2, h3, cur, hk.2 g cur h4, h5, h6⟩
end Go.Proofs.Ytjikhdnlcoohbaa
