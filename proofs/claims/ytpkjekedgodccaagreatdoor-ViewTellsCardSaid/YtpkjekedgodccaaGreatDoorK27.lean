/- slices.Clone of a row of maps.. -/
import Derived.Test.YtpkjekedgodccaaGreatDoorK26
namespace Go.Proofs.YtpkjekedgodccaaGreatDoor
set_option linter.unusedSimpArgs false
set_option linter.unusedVariables false
section
open Go.RowKit Go.Maps
theorem map_info6 : (Tryz.prog.info? 63).map (fun i => (i.zero, i.size, i.bytes)) = some (some (.agg #[.int .i64 0, .int .i64 0, .int .i64 0, .int .i64 0, .int .i64 0, .int .i64 0]), 6, 48) := by kernel_rfl
theorem mcs_one6 (ms : List V6) : ∀ u ∈ mcs ms, u.oneCell' = true := by
 intro u hu
 simp only [mcs, List.mem_flatMap, List.mem_cons, List.not_mem_nil, or_false] at hu
 obtain ⟨c, _, h⟩ := hu
 rcases h with rfl | rfl | rfl | rfl | rfl | rfl <;> rfl
theorem app_maps {ops : Array Oper} {rest : List Oper} {o : Oper} {a : Act} {Q : Exit → Act → World → Prop} (hgd : o.guard = none) (s x : Operand) {w : World}
  (ho : o.op = .call { callee := .builtin .append, args := #[s, x], argTypes := #[26, 26] })
  (base : Nat) (v : Value) (hs : a.eval s = v) (hown : w.ownsRow base 63 6 v 0 []) (hbase : base ≤ w.heap.size)
  (b off m c : Nat) (ms : List V6) (hx : a.eval x = .slice (some ⟨b, off, none⟩) m c) (hr : Rd w 6 (some ⟨b, off, none⟩) m (mcs ms)) (hn : m ≤ 1000)
  (h : ∀ v' w', w'.ownsRow base 63 6 v' m (mcs ms) → Below base w w' → wpList Tryz.prog ops Q rest (a.put o.dst v') w') :
  wpList Tryz.prog ops Q (o :: rest) a w := by
 obtain ⟨i0, hi, hz0, hz1, hz2⟩ := info_parts map_info6
 refine wpList_append_own_at _ hgd s x 26 ho base 63 i0 _ 6 48 Tryz.underlying26 hi hz0 hz1 hz2 rfl (by decide) v 0 [] hs hown ⟨b, off, none⟩ m c (mcs ms) hx hr.1 ?_
  (mcs_one6 ms) (by simp only [maxLen]; omega) (by omega) hbase ?_
 ·intro j u hu
  rw [addr_add]
  have hm : 0 < m := by
   have := (List.getElem?_eq_some_iff.1 hu).1
   have := hr.1
   omega
  obtain ⟨b', off', e, _, hc⟩ := hr.2 hm
  simp only [Option.some.injEq, Addr.mk.injEq, and_true] at e
  obtain ⟨rfl, rfl⟩ := e
  exact hc j u hu
 ·intro v' w' h1 h2 _ h3
  exact h v' w' (by simpa using h1) ((Below.refl _ _).grown h2 hbase (fun k hk => (hown.lt k hk).1))
set_option maxHeartbeats 800000 in
theorem cloneM_any (b off n c : Nat) (ms : List V6) (w : World) (h : Rd w 6 (some ⟨b, off, none⟩) n (mcs ms)) (hn : n ≤ 1000) :
  Calls Tryz.prog 29 #[.slice (some ⟨b, off, none⟩) n c] w fun e w' => ∃ v, e = .returned v ∧ w'.ownsRow w.heap.size 63 6 v n (mcs ms) ∧ Below w.heap.size w w' := by
 have q22 : ∀ (w : World) (a : Option Addr) (n c n' c' : Nat), (binOp .eql 26 (.slice a n c) (.slice none n' c')).run Tryz.prog w = .ok (.bool a.isNone) w := fun w a n c n' c' => Lib.run_eql_slice_nil w _ _ a n c n' c' Tryz.underlying26
 have HR := Lib.hid h
 clear h
 go_enter Tryz.func29, Tryz.ntmps29
 go_wp2_with (at_builtin; refine app_maps rfl (.tmp 5) (.tmp 6) rfl w.heap.size _ rfl (World.ownsRow_made w #[] 0 (Nat.le_refl _) (Nat.zero_le _) rfl) (by simp) b off n c ms rfl (HR.out.alloc _) (by omega) ?_; intro v' w' hown hb)
 go_wp2
 go_ret
 exact ⟨v', rfl, hown, (below_new w _).trans (hb.mono (Nat.le_refl _))⟩
end
end Go.Proofs.YtpkjekedgodccaaGreatDoor
