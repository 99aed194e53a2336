/- A turned slice, a turned ring. -/
import Derived.Test.YtcfeejlhhimpjaaCr2
import Derived.Deep.DeepCutAuto
import Derived.Deep.RegionWith
import Derived.Deep.RegionHeld3
namespace Go.Proofs.Ytcfeejlhhimpjaa
set_option linter.unusedSimpArgs false
set_option linter.unusedVariables false
open Go.RowKit Vx

theorem Rd.sub {w : World} {b off n : Nat} {xs : List Int} (h : Rd w 1 (some ⟨b, off, none⟩) n (vis xs)) {lo hi : Nat} (h1 : lo ≤ hi) (h2 : hi ≤ n) : Rd w 1 (some ⟨b, off + lo, none⟩) (hi - lo) (vis ((xs.drop lo).take (hi - lo))) := by
  have hl := h.ints_len
  refine ⟨by simp; omega, fun hp => ?_⟩
  obtain ⟨b', off', e, hb, hc⟩ := h.2 (by omega)
  simp only [Option.some.injEq, Addr.mk.injEq, and_true] at e
  obtain ⟨rfl, rfl⟩ := e
  refine ⟨b, off + lo, rfl, hb, fun j u hu => ?_⟩
  have hj : j < hi - lo := by
    have := (List.getElem?_eq_some_iff.1 hu).1
    simp at this
    omega
  have h4 : (vis xs)[lo + j]? = some u := by
    rw [← hu]
    simp only [vis, List.getElem?_map]
    congr 1
    rw [List.getElem?_take_of_lt hj, List.getElem?_drop]
  rw [Nat.add_assoc]
  exact hc (lo + j) u h4
/-- append of a slice that lies somewhere, at a step of a region that draws its order. -/
theorem step_app_rd {w : World} {ops : Array Oper} {o : Oper} {a : Act} {K : Act → World → Prop} {Q : Exit → Act → World → Prop} {Z : Prop} (hgd : o.guard = none) (s x : Operand)
    (ho : o.op = .call { callee := .builtin .append, args := #[s, x], argTypes := #[22, 22] })
    (base : Nat) (v : Value) (n : Nat) (zs news : List Int) (hs : a.eval s = v) (hown : w.ownsRow base 3 1 v n (vis zs)) (hbase : base ≤ w.heap.size)
    (b off m c : Nat) (hx : a.eval x = .slice (some ⟨b, off, none⟩) m c) (hr : Rd w 1 (some ⟨b, off, none⟩) m (vis news)) (hn : n + m ≤ 2147483648)
    (h : ∀ v' w', w'.ownsRow base 3 1 v' (n + m) (vis (zs ++ news)) → Below base w w' → GrowOf w w' v v' → K (a.put o.dst v') w') :
    if Region.wanted o (yielded ops a.tmps) = true then Oper.wp Try.prog o a w K Q else Z := by
  have hw : Region.wanted o (yielded ops a.tmps) = true := by simp [Region.wanted, hgd]
  rw [if_pos hw]
  obtain ⟨i0, hi, hz0, hz1, hz2⟩ := info_parts int_info
  have hnews : ∀ j u, (vis news)[j]? = some u → w.cell? ((⟨b, off, none⟩ : Addr).add j) = some u := by
    intro j u hu
    rw [addr_add]
    have hm : 0 < m := by
      have := (List.getElem?_eq_some_iff.1 hu).1
      have := hr.1
      omega
    obtain ⟨b', off', e, _, hc⟩ := hr.2 hm
    simp only [Option.some.injEq, Addr.mk.injEq, and_true] at e
    obtain ⟨rfl, rfl⟩ := e
    exact hc j u hu
  obtain ⟨v', w', hrun, h2, h3, _, h5⟩ := run_append_own_at (P := Try.prog) w base 22 o.type 3 i0 (.int .i64 0) 1 8 Try.underlying22 hi hz0 hz1 hz2 rfl (by decide) v n (vis zs) hown ⟨b, off, none⟩ m c (vis news) hr.1 hnews
    (fun u hu => by obtain ⟨z, _, rfl⟩ := List.mem_map.1 hu; rfl) (by simp only [maxLen]; omega) (by omega) hbase
  unfold Oper.wp execOp
  simp only [ho, resolve, invoke, builtin, Sem.run_bind, Sem.run_pure, Result.andThen_ok, List.map_toArray, List.map_cons, List.map_nil, hs, hx, hrun]
  refine h v' w' (by simpa [vis] using h2) ((Below.refl _ _).grown h3 hbase (fun k hk => (hown.lt k hk).1)) ⟨h3, ?_⟩
  rcases h5 with h5 | h5
  · exact .inl h5
  · exact .inr ⟨_, h5, Nat.le_refl _⟩
set_option maxHeartbeats 1600000 in
theorem turn1_any (b off n c : Nat) (xs : List Int) (g k : Nat) (w : World) (h : Rd w 1 (some ⟨b, off, none⟩) n (vis xs)) (hn : n ≤ 100) (hnc : n ≤ c) (hcc : c ≤ maxLen) (hk : k < n) (hc : w.cell? ⟨g, 0, none⟩ = some (.int .i64 k)) :
    Calls Try.prog 33 #[.slice (some ⟨b, off, none⟩) n c, .pointer (some ⟨g, 0, none⟩)] w fun e w' => ∃ v, e = .returned v ∧ w'.ownsRow w.heap.size 3 1 v n (vis (xs.drop k ++ xs.take k)) ∧ Below w.heap.size w w' := by
  have h1 := h.sub (lo := k) (hi := n) (by omega) (Nat.le_refl _)
  have h2 := h.sub (lo := 0) (hi := k) (by omega) (by omega)
  have e1 : (xs.drop k).take (n - k) = xs.drop k := List.take_of_length_le (by have := h.ints_len; simp; omega)
  rw [e1] at h1
  simp only [Nat.add_zero, Nat.sub_zero, List.drop_zero] at h2
  have H1 := Lib.hid h1
  have H2 := Lib.hid h2
  have hck : c ≠ k := by omega
  have hkn : k ≤ n := by omega
  have hkc : k ≤ c := by omega
  clear h h1 h2 e1
  go_enter Try.func33, Try.ntmps33
  go_upto_region 1 with fail
  have hS : w.drew.cell? ⟨g, 0, none⟩ = some (.int .i64 k) ∧ Rd w.drew 1 (some ⟨b, off, none⟩) k (vis (xs.take k)) := ⟨hc, H2.out.drew⟩
  go_region_held3 (fun w' => w'.cell? ⟨g, 0, none⟩ = some (.int .i64 k) ∧ Rd w' 1 (some ⟨b, off, none⟩) k (vis (xs.take k)))
    (first
      | with_reducible exact hS
      | exact ⟨stay_c hc ((Below.refl _ w).drew.trans (hbc.trans hb')) (Nat.le_refl _), H2.out.below ((Below.refl _ w).drew.trans (hbc.trans hb'))⟩
      | exact ⟨stay_c hS.1 hbc (Nat.le_refl _), hS.2.below hbc⟩)
    (first
      | ((refine step_app_rd rfl (.tmp 7) (.tmp 10) rfl w.heap.size _ (n - k) (xs.drop k) (xs.take k) rfl hown hbc.size b off k c rfl (hS.2.below hbc) (by omega) ?_); intro v' w' hown' hb' hg)
      | ((with_reducible refine (clone_any _ _ _ _ _ _ H1.out.drew (by omega)).mono ?_); rintro e wc ⟨v, he, hown, hbc⟩; subst he))
  all_goals
    rename_i hH
    clear hH
    have hnk : n - k + k = n := by omega
    rw [hnk] at hown'
    go_wp2
    go_ret
    exact ⟨v', rfl, hown', (Below.refl _ w).drew.trans ((show Below w.heap.size w.drew wc from hbc).trans hb')⟩
theorem turn1_enter (args : Array Value) (wx : World) : (callFunc 33 args).run Try.prog wx = .ok (.enter 33 args) wx := by kernel_rfl
end Go.Proofs.Ytcfeejlhhimpjaa
