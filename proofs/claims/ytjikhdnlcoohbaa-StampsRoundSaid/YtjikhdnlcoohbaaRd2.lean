/- picked, kinds, equal; a slice's part; an append in a region that draws its order. -/
import Derived.Test.YtjikhdnlcoohbaaRd1
import Derived.Test.YtjikhdnlcoohbaaPick
namespace Go.Proofs.Ytjikhdnlcoohbaa
set_option linter.unusedSimpArgs false
set_option linter.unusedVariables false
open Go.RowKit St
attribute [local go_sem] Oper.semAt_some

theorem Rd.sub {w : World} {b off n : Nat} {xs : List Int} (h : Rd w 1 (some ⟨b, off, none⟩) n (vis xs)) {lo hi : Nat} (h1 : lo ≤ hi) (h2 : hi ≤ n) : Rd w 1 (some ⟨b, off + lo, none⟩) (hi - lo) (vis ((xs.drop lo).take (hi - lo))) := by
  have hl := h.ints_len
  refine ⟨by simp; omega, fun hp => ?_⟩
  obtain ⟨b', off', e, hb, hc⟩ := h.2 (by omega)
  simp only [Option.some.injEq, Addr.mk.injEq, and_true] at e
  obtain ⟨rfl, rfl⟩ := e
  refine ⟨b, off + lo, rfl, hb, fun j u hu => ?_⟩
  have hj : j < hi - lo := by
    have := (List.getElem?_eq_some_iff.1 hu).1
    simp at this
    omega
  have h4 : (vis xs)[lo + j]? = some u := by
    rw [← hu]
    simp only [vis, List.getElem?_map]
    congr 1
    rw [List.getElem?_take_of_lt hj, List.getElem?_drop]
  rw [Nat.add_assoc]
  exact hc (lo + j) u h4
/-- append of a slice that lies somewhere, at a step of a region that draws its order. -/
theorem step_app_rd {w : World} {ops : Array Oper} {o : Oper} {a : Act} {K : Act → World → Prop} {Q : Exit → Act → World → Prop} {Z : Prop} (hgd : o.guard = none) (s x : Operand)
    (ho : o.op = .call { callee := .builtin .append, args := #[s, x], argTypes := #[22, 22] })
    (base : Nat) (v : Value) (n : Nat) (zs news : List Int) (hs : a.eval s = v) (hown : w.ownsRow base 3 1 v n (vis zs)) (hbase : base ≤ w.heap.size)
    (b off m c : Nat) (hx : a.eval x = .slice (some ⟨b, off, none⟩) m c) (hr : Rd w 1 (some ⟨b, off, none⟩) m (vis news)) (hn : n + m ≤ 2147483648)
    (h : ∀ v' w', w'.ownsRow base 3 1 v' (n + m) (vis (zs ++ news)) → Below base w w' → GrowOf w w' v v' → K (a.put o.dst v') w') :
    if Region.wanted o (yielded ops a.tmps) = true then Oper.wp Try.prog o a w K Q else Z := by
  have hw : Region.wanted o (yielded ops a.tmps) = true := by simp [Region.wanted, hgd]
  rw [if_pos hw]
  obtain ⟨i0, hi, hz0, hz1, hz2⟩ := info_parts int_info
  have hnews : ∀ j u, (vis news)[j]? = some u → w.cell? ((⟨b, off, none⟩ : Addr).add j) = some u := by
    intro j u hu
    rw [addr_add]
    have hm : 0 < m := by
      have := (List.getElem?_eq_some_iff.1 hu).1
      have := hr.1
      omega
    obtain ⟨b', off', e, _, hc⟩ := hr.2 hm
    simp only [Option.some.injEq, Addr.mk.injEq, and_true] at e
    obtain ⟨rfl, rfl⟩ := e
    exact hc j u hu
  obtain ⟨v', w', hrun, h2, h3, _, h5⟩ := run_append_own_at (P := Try.prog) w base 22 o.type 3 i0 (.int .i64 0) 1 8 Try.underlying22 hi hz0 hz1 hz2 rfl (by decide) v n (vis zs) hown ⟨b, off, none⟩ m c (vis news) hr.1 hnews
    (fun u hu => by obtain ⟨z, _, rfl⟩ := List.mem_map.1 hu; rfl) (by simp only [maxLen]; omega) (by omega) hbase
  unfold Oper.wp execOp
  simp only [ho, resolve, invoke, builtin, Sem.run_bind, Sem.run_pure, Result.andThen_ok, List.map_toArray, List.map_cons, List.map_nil, hs, hx, hrun]
  refine h v' w' (by simpa [vis] using h2) ((Below.refl _ _).grown h3 hbase (fun k hk => (hown.lt k hk).1)) ⟨h3, ?_⟩
  rcases h5 with h5 | h5
  · exact .inl h5
  · exact .inr ⟨_, h5, Nat.le_refl _⟩
def kindOfRaw (z : Int) : Int := 1 + pick z 2

set_option maxHeartbeats 400000 in
theorem rkinds_any (A : Option Addr) (n c : Nat) (zs : List Int) (m : Nat) (w : World) (h : Rd w 1 A n (vis zs)) (hn : n ≤ 9223372036854775807) (hm : m ≤ 100)
    (hz : ∀ z ∈ zs, -9223372036854775808 ≤ z ∧ z ≤ 9223372036854775807) :
    Calls Try.prog 20 #[.slice A n c, .int .i64 m] w fun e w' =>
      ∃ v, e = .returned v ∧ w'.ownsRow w.heap.size 3 1 v (min n m) (vis ((zs.take m).map kindOfRaw)) ∧ Below w.heap.size w w' := by
  have HL := Lib.hid h.ints_len
  have HZ := Lib.hid hz
  clear hz
  go_enter Try.func20, Try.ntmps20
  go_wp2
  go_loopw [5, 6] (fun v i wr => ∃ k : Nat, k ≤ min n m ∧ i = .int .i64 k ∧ wr.ownsRow w.heap.size 3 1 v k (vis ((zs.take k).map kindOfRaw)) ∧ Below w.heap.size w wr) (fun _ i _ => min n m - (intOf i).toNat)
  case atStart => exact ⟨0, Nat.zero_le _, rfl, World.ownsRow_nil _ _ _ _, Below.refl _ _⟩
  case round =>
    obtain ⟨k, hk, rfl, hown, hbel⟩ := hrel
    obtain ⟨hkn, hkm⟩ : k ≤ n ∧ k ≤ m := by omega
    clear hk
    by_cases hlt : k < n
    · by_cases hltm : k < m
      · obtain ⟨b, off, z, hA, hb, hz, hc⟩ := (h.below hbel).int hlt
        subst hA
        have HZ1 := Lib.hid hz
        clear hz
        have hzb := HZ.out z (List.mem_of_getElem? HZ1.out)
        have p1 := pick_lo z 2 (by omega)
        have p2 := pick_hi z 2 (by omega)
        obtain ⟨z1, z2⟩ := hzb
        go_wp2_with fail
        refine (picked_any z 2 _ z1 z2 (by omega)).mono ?_
        rintro e w1 ⟨rfl, rfl⟩
        go_wp2_with (at_builtin; refine app_ints rfl (.tmp 18) (.tmp 25) rfl w.heap.size _ k ((zs.take k).map kindOfRaw) [kindOfRaw z] rfl hown hbel.size 1 _ rfl rfl rfl (by omega) ?_; intro v' w' hown' hb' _)
        go_roundw
        case rel => exact ⟨k + 1, by omega, by go_num, by rw [List.take_add_one, HZ1.out]; simpa using hown', hbel.trans hb'⟩
        case measure => simp [intOf]; omega
      · go_wp2
        go_ret
        have : k = m := by omega
        subst this
        exact ⟨_, rfl, by rw [Nat.min_eq_right hkn]; exact hown, hbel⟩
    · go_wp2
      go_ret
      have : k = n := by omega
      subst this
      exact ⟨_, rfl, by rw [Nat.min_eq_left hkm, List.take_of_length_le (by have := HL.out; omega)]; rw [List.take_of_length_le (by have := HL.out; omega)] at hown; exact hown, hbel⟩
theorem kequal_any (A B : Option Addr) (n m c d : Nat) (xs ys : List Int) (w : World) (hx : Rd w 1 A n (vis xs)) (hy : Rd w 1 B m (vis ys)) (hn : n ≤ 9223372036854775807) (hm : m ≤ 9223372036854775807) :
    Calls Try.prog 21 #[.slice A n c, .slice B m d] w fun e w' => e = .returned (.bool (decide (xs = ys))) ∧ Below w.heap.size w w' := by
  have hxl := hx.ints_len
  have hyl := hy.ints_len
  by_cases hnm : n = m
  · subst hnm
    have HX := Lib.hid hxl
    have HY := Lib.hid hyl
    clear hxl hyl
    go_enter Try.func21, Try.ntmps21
    go_wp2
    go_loopw [5] (fun i wr => ∃ k : Nat, k ≤ n ∧ i = .int .i64 k ∧ Hid (xs.take k = ys.take k) ∧ Below w.heap.size w wr) (fun i _ => n - (intOf i).toNat)
    case atStart => exact ⟨0, Nat.zero_le _, rfl, Lib.hid rfl, Below.refl _ _⟩
    case round =>
      obtain ⟨k, hk, rfl, heq, hb⟩ := hrel
      by_cases hlt : k < n
      · obtain ⟨b1, o1, x, hA, hb1, hx1, hc1⟩ := (hx.below hb).int hlt
        obtain ⟨b2, o2, y, hB, hb2, hy1, hc2⟩ := (hy.below hb).int hlt
        have HX1 := Lib.hid hx1
        have HY1 := Lib.hid hy1
        have hki : (k : Int) < (n : Int) := by omega
        clear hx1 hy1
        subst hA
        subst hB
        by_cases hxy : x = y
        · subst hxy
          go_wp2
          go_quiet (fail)
          go_wp2
          go_roundw
          case rel => exact ⟨k + 1, by omega, by go_num, Lib.hid (by rw [List.take_add_one, List.take_add_one, HX1.out, HY1.out, heq.out]), below_drewN hb _⟩
          case measure => simp [intOf] <;> omega
        · have hne : (x != y) = true := by simpa using hxy
          go_wp2
          go_quiet (fail)
          go_wp2
          go_ret
          refine ⟨ret_bool ?_, below_drewN hb _⟩
          have : ¬ xs = ys := by
            rintro rfl
            have h1 := HX1.out.symm.trans HY1.out
            injection h1 with h1
            exact hxy h1
          simp [this]
      · have hfin : xs = ys := by
          have h1 := heq.out
          rw [List.take_of_length_le (by rw [HX.out]; omega), List.take_of_length_le (by rw [HY.out]; omega)] at h1
          exact h1
        have HF := Lib.hid hfin
        clear hfin
        go_wp2
        go_ret
        exact ⟨ret_bool (by simp [HF.out]), hb⟩
  · have hne : ((n : Int) != (m : Int)) = true := by simp; omega
    have hxy : ¬ xs = ys := by rintro rfl; omega
    have HXY := Lib.hid hxy
    clear hxl hyl hnm hxy
    go_enter Try.func21, Try.ntmps21
    go_wp2
    go_ret
    exact ⟨ret_bool (by simp [HXY.out]), Below.refl _ _⟩

theorem gdO_of {o : List Int} {n : Nat} (hp : o.Perm (upto n)) (hg : ordG o = true) : gd o = true := by rw [← goodO_gd, goodO_eq (perm_self hp).2]; exact hg
theorem chkE_of {o : List Int} {n : Nat} (hp : o.Perm (upto n)) (h1 : 1 ≤ n) (h8 : n ≤ 8) : chkE o = 0 := by
  obtain ⟨hl, hs⟩ := perm_self hp
  exact chk_zero.2 ⟨by omega, by omega, hs⟩
end Go.Proofs.Ytjikhdnlcoohbaa
