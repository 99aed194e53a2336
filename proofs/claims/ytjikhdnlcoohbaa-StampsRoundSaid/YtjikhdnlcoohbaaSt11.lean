/- The walk of StampsTell. -/
import Derived.Test.YtjikhdnlcoohbaaSt10
namespace Go.Proofs.Ytjikhdnlcoohbaa
set_option linter.unusedSimpArgs false
set_option linter.unusedVariables false
open Go.RowKit St

theorem chk_012 (os : List Int) : chkE os = 2 ∨ chkE os = 1 ∨ chkE os = 0 := by
  unfold chkE
  split
  · exact .inl rfl
  · split
    · exact .inr (.inr rfl)
    · exact .inr (.inl rfl)
theorem own_sl {w : World} {base n sz : Nat} {e : TypeId} {v : Value} {xs : List Value} (h : w.ownsRow base e sz v n xs) : ∃ A c, v = .slice A n c := by
  rcases h.2 with ⟨rfl, h0⟩ | ⟨g, cap, cur, rfl, _⟩
  · exact ⟨none, 0, by rw [h0]⟩
  · exact ⟨_, _, rfl⟩
theorem b3 {w a b : World} (h1 : Below w.heap.size w a) (h2 : Below a.heap.size a b) : Below w.heap.size w b := stay_b h1 h2
set_option maxRecDepth 100000 in
set_option maxHeartbeats 3200000 in
theorem tell_err (A : Option Addr) (n c : Nat) (os : List Int) (w : World) (h : Rd w 1 A n (vis os)) (hn : n * 8 ≤ 140737488351232) (hA : A = none → c = 0) (E : Int) (hE : chkE os = E) (h12 : E = 2 ∨ E = 1) :
    Calls Try.prog 3 #[.slice A n c] w fun e w' => e = .returned (.bool true) ∧ Below w.heap.size w w' := by
  have hne : E ≠ 0 := by omega
  have cI := fun (w1 : World) (hb : Below w.heap.size w w1) => ints_any A n c os w1 (h.below hb) hn hA
  have cM := fun (w1 : World) (A1 : Option Addr) (c1 : Nat) (h1 : Rd w1 1 A1 n (vis os)) => may_err A1 n c1 os w1 h1 E hE hne
  have cK := fun (w1 : World) (A1 : Option Addr) (c1 : Nat) (h1 : Rd w1 1 A1 n (vis os)) => kinds_err A1 n c1 os w1 h1 E hE hne
  have cO := fun (w1 : World) (hb : Below w.heap.size w w1) => orderMay_any A n c os w1 (h.below hb)
  rw [hE] at cO
  have CI := Lib.hid cI
  have CM := Lib.hid cM
  have CK := Lib.hid cK
  have CO := Lib.hid cO
  clear cI cM cK cO h hE hne
  rcases h12 with rfl | rfl
  all_goals
    go_enter Try.func3, Try.ntmps3
    have hb0 : Below w.heap.size w w := Below.refl _ _
    go_wp2_with (go_at_call 9; refine (CI.out _ hb0).mono ?_; rintro e w1 ⟨v, rfl, ho1, hb1⟩)
    obtain ⟨A1, c1, rfl⟩ := own_sl ho1
    have hr1 := Rd.of_own ho1
    clear ho1
    refine (CM.out _ _ _ hr1).mono ?_
    rintro e w2 ⟨rfl, hb2⟩
    have hbb := b3 hb1 hb2
    clear hr1 hb1 hb2
    go_wp2_with (go_at_call 9; refine (CI.out _ hbb).mono ?_; rintro e w3 ⟨v, rfl, ho1, hb3⟩)
    obtain ⟨A2, c2, rfl⟩ := own_sl ho1
    have hr1 := Rd.of_own ho1
    clear ho1
    refine (CK.out _ _ _ hr1).mono ?_
    rintro e w4 ⟨rfl, hb4⟩
    have hbb2 := b3 (b3 hbb hb3) hb4
    clear hr1 hb3 hb4
    go_wp2_with (go_at_call 11; refine (CO.out _ hbb2).mono ?_; rintro e w5 ⟨rfl, hb5⟩)
    go_ret
    exact ⟨rfl, b3 hbb2 hb5⟩
set_option maxRecDepth 100000 in
set_option maxHeartbeats 3200000 in
theorem tell_no (A : Option Addr) (n c : Nat) (os : List Int) (w : World) (h : Rd w 1 A n (vis os)) (hn : n * 8 ≤ 140737488351232) (hA : A = none → c = 0) (hE : chkE os = 0) (hg : gd os = false) :
    Calls Try.prog 3 #[.slice A n c] w fun e w' => e = .returned (.bool true) ∧ Below w.heap.size w w' := by
  obtain ⟨h1, h8, hp⟩ := chk_zero.1 hE
  have hlen := h.ints_len
  have cI := fun (w1 : World) (hb : Below w.heap.size w w1) => ints_any A n c os w1 (h.below hb) hn hA
  have cM := fun (w1 : World) (A1 : Option Addr) (c1 : Nat) (h1 : Rd w1 1 A1 n (vis os)) => may_ok A1 n c1 os w1 h1 hE
  have cK := fun (w1 : World) (A1 : Option Addr) (c1 : Nat) (h1 : Rd w1 1 A1 n (vis os)) => kinds_no A1 n c1 os w1 h1 hE hg
  have cO := fun (w1 : World) (hb : Below w.heap.size w w1) => orderMay_any A n c os w1 (h.below hb)
  have cG := fun (w1 : World) (hb : Below w.heap.size w w1) => orderGood_any A n c os w1 (h.below hb) (by omega) (by omega) hp
  have cS := fun (w1 : World) (hb : Below w.heap.size w w1) => stampKinds_any A n c os w1 (h.below hb) (by omega) (by omega) hp
  rw [hE] at cO
  rw [hg] at cM cG
  have hn8 : n ≤ 8 := by omega
  have CI := Lib.hid cI
  have CM := Lib.hid cM
  have CK := Lib.hid cK
  have CO := Lib.hid cO
  have CG := Lib.hid cG
  have CS := Lib.hid cS
  clear cI cM cK cO cG cS h hE hg hp h1 h8 hlen
  go_enter Try.func3, Try.ntmps3
  have hb0 : Below w.heap.size w w := Below.refl _ _
  go_wp2_with (go_at_call 9; refine (CI.out _ hb0).mono ?_; rintro e w1 ⟨v, rfl, ho1, hb1⟩)
  obtain ⟨A1, c1, rfl⟩ := own_sl ho1
  have hr1 := Rd.of_own ho1
  clear ho1
  refine (CM.out _ _ _ hr1).mono ?_
  rintro e w2 ⟨rfl, hb2⟩
  have hbb := b3 hb1 hb2
  clear hr1 hb1 hb2
  go_wp2_with (go_at_call 9; refine (CI.out _ hbb).mono ?_; rintro e w3 ⟨v, rfl, ho1, hb3⟩)
  obtain ⟨A2, c2, rfl⟩ := own_sl ho1
  have hr1 := Rd.of_own ho1
  clear ho1
  refine (CK.out _ _ _ hr1).mono ?_
  rintro e w4 ⟨rfl, hb4⟩
  have hbb2 := b3 (b3 hbb hb3) hb4
  clear hr1 hb3 hb4
  go_wp2_with (go_at_call 11; refine (CO.out _ hbb2).mono ?_; rintro e w5 ⟨rfl, hb5⟩)
  have hbb3 := b3 hbb2 hb5
  refine (CG.out _ hbb3).mono ?_
  rintro e w6 ⟨rfl, hb6⟩
  have hbb4 := b3 hbb3 hb6
  go_wp2_with fail
  go_ret
  exact ⟨rfl, hbb4⟩
set_option maxRecDepth 100000 in
set_option maxHeartbeats 3200000 in
theorem tell_ok (A : Option Addr) (n c : Nat) (os : List Int) (w : World) (h : Rd w 1 A n (vis os)) (hn : n * 8 ≤ 140737488351232) (hA : A = none → c = 0) (hE : chkE os = 0) (hg : gd os = true) :
    Calls Try.prog 3 #[.slice A n c] w fun e w' => e = .returned (.bool true) ∧ Below w.heap.size w w' := by
  obtain ⟨h1, h8, hp⟩ := chk_zero.1 hE
  have hlen := h.ints_len
  have cI := fun (w1 : World) (hb : Below w.heap.size w w1) => ints_any A n c os w1 (h.below hb) hn hA
  have cM := fun (w1 : World) (A1 : Option Addr) (c1 : Nat) (h1 : Rd w1 1 A1 n (vis os)) => may_ok A1 n c1 os w1 h1 hE
  have cK := fun (w1 : World) (A1 : Option Addr) (c1 : Nat) (h1 : Rd w1 1 A1 n (vis os)) => kinds_ok A1 n c1 os w1 h1 hE hg
  have cO := fun (w1 : World) (hb : Below w.heap.size w w1) => orderMay_any A n c os w1 (h.below hb)
  have cG := fun (w1 : World) (hb : Below w.heap.size w w1) => orderGood_any A n c os w1 (h.below hb) (by omega) (by omega) hp
  have cS := fun (w1 : World) (hb : Below w.heap.size w w1) => stampKinds_any A n c os w1 (h.below hb) (by omega) (by omega) hp
  rw [hE] at cO
  rw [hg] at cM cG
  have hn8 : n ≤ 8 := by omega
  have CI := Lib.hid cI
  have CM := Lib.hid cM
  have CK := Lib.hid cK
  have CO := Lib.hid cO
  have CG := Lib.hid cG
  have CS := Lib.hid cS
  clear cI cM cK cO cG cS h hE hg hp h1 h8 hlen
  go_enter Try.func3, Try.ntmps3
  have hb0 : Below w.heap.size w w := Below.refl _ _
  go_wp2_with (go_at_call 9; refine (CI.out _ hb0).mono ?_; rintro e w1 ⟨v, rfl, ho1, hb1⟩)
  obtain ⟨A1, c1, rfl⟩ := own_sl ho1
  have hr1 := Rd.of_own ho1
  clear ho1
  refine (CM.out _ _ _ hr1).mono ?_
  rintro e w2 ⟨rfl, hb2⟩
  have hbb := b3 hb1 hb2
  clear hr1 hb1 hb2
  go_wp2_with (go_at_call 9; refine (CI.out _ hbb).mono ?_; rintro e w3 ⟨v, rfl, ho1, hb3⟩)
  obtain ⟨A2, c2, rfl⟩ := own_sl ho1
  have hr1 := Rd.of_own ho1
  clear ho1
  refine (CK.out _ _ _ hr1).mono ?_
  rintro e w4 ⟨v, rfl, hoK, hb4⟩
  have hbb2 := b3 (b3 hbb hb3) hb4
  obtain ⟨A3, c3, rfl⟩ := own_sl hoK
  have hrK := Rd.of_own hoK
  clear hr1 hb3 hb4 hoK
  go_wp2_with (go_at_call 11; refine (CO.out _ hbb2).mono ?_; rintro e w5 ⟨rfl, hb5⟩)
  have hbb3 := b3 hbb2 hb5
  have hrK := hrK.below hb5
  refine (CG.out _ hbb3).mono ?_
  rintro e w6 ⟨rfl, hb6⟩
  have hbb4 := b3 hbb3 hb6
  have hrK := hrK.below hb6
  go_wp2_with (go_at_call 14; refine (CS.out _ hbb4).mono ?_; rintro e w7 ⟨v, rfl, hoS, hb7⟩; obtain ⟨A4, c4, rfl⟩ := own_sl hoS)
  have hbb5 := b3 hbb4 hb7
  have hrK := hrK.below hb7
  have hrS := Rd.of_own hoS
  have cE := sameInts_any A3 A4 (n - 1) (n - 1) c3 c4 (kOf os) (kOf os) _ hrK hrS (by omega) (by omega)
  rw [decide_eq_true (rfl : kOf os = kOf os)] at cE
  have CE := Lib.hid cE
  clear cE
  refine CE.out.mono ?_
  rintro e w8 ⟨rfl, hb8⟩
  have hbb6 := b3 hbb5 hb8
  go_wp2_with fail
  go_ret
  exact ⟨rfl, hbb6⟩
theorem tell_walk (A : Option Addr) (n c : Nat) (os : List Int) (w : World) (h : Rd w 1 A n (vis os)) (hn : n * 8 ≤ 140737488351232) (hA : A = none → c = 0) :
    Calls Try.prog 3 #[.slice A n c] w fun e w' => e = .returned (.bool true) ∧ Below w.heap.size w w' := by
  rcases chk_012 os with he | he | he
  · exact tell_err A n c os w h hn hA 2 he (.inl rfl)
  · exact tell_err A n c os w h hn hA 1 he (.inr rfl)
  · cases hg : gd os with
    | false => exact tell_no A n c os w h hn hA he hg
    | true => exact tell_ok A n c os w h hn hA he hg
end Go.Proofs.Ytjikhdnlcoohbaa
