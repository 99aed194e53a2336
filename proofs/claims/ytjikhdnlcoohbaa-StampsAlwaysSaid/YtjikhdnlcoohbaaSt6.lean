/- May and Kinds. -/
import Derived.Test.YtjikhdnlcoohbaaSt5
namespace Go.Proofs.Ytjikhdnlcoohbaa
set_option linter.unusedSimpArgs false
set_option linter.unusedVariables false
open Go.RowKit St

def gd (os : List Int) : Bool := goodH (fn (hsOf os)) os.length
set_option maxHeartbeats 1600000 in
theorem may_err (A : Option Addr) (n c : Nat) (os : List Int) (w : World) (h : Rd w 1 A n (vis os)) (E : Int) (hE : chkE os = E) (hne : E ≠ 0) :
    Calls Try.prog 8 #[.slice A n c] w fun e w' => e = .returned (.tuple #[.bool false, .int .i64 E]) ∧ Below w.heap.size w w' := by
  have cC := check_any A n c os w h
  rw [hE] at cC
  have CC := Lib.hid cC
  clear cC h hE
  go_enter Try.func8, Try.ntmps8
  go_wp2_with (go_at_call 22; refine CC.out.mono ?_; rintro e w1 ⟨rfl, hb1⟩)
  go_ret2
  exact ⟨rfl, hb1⟩
set_option maxHeartbeats 1600000 in
theorem may_ok (A : Option Addr) (n c : Nat) (os : List Int) (w : World) (h : Rd w 1 A n (vis os)) (hE : chkE os = 0) :
    Calls Try.prog 8 #[.slice A n c] w fun e w' => e = .returned (.tuple #[.bool (gd os), .int .i64 0]) ∧ Below w.heap.size w w' := by
  have cC := check_any A n c os w h
  rw [hE] at cC
  obtain ⟨h1, h8, hp⟩ := chk_zero.1 hE
  have hlen := h.ints_len
  obtain ⟨G, hG⟩ : ∃ G, G = gd os := ⟨_, rfl⟩
  rw [← hG]
  have cG : ∀ (w1 : World) (g : Nat), w1.heap[g]? = some (.cells (vis (hsOf os)).toArray 3 (0, 0)) → Calls Try.prog 23 #[.slice (some ⟨g, 0, none⟩) n n] w1 fun e w' => e = .returned (.bool G) ∧ Below w1.heap.size w1 w' := by
    intro w1 g hg
    have := good_any (some ⟨g, 0, none⟩) n n (hsOf os) w1 ⟨by simp [hs_len, hlen], fun _ => ⟨g, 0, rfl, blk_lt hg, fun j u hu => by rw [Nat.zero_add, cell_of_blk hg j]; simpa using hu⟩⟩ (by omega) (by omega)
    rw [hG]
    unfold gd
    rw [hlen]
    exact this
  have cH := fun (w1 : World) (hb : Below w.heap.size w w1) => heights_any A n c os w1 (h.below hb) (by omega) hp
  have CC := Lib.hid cC
  have CG := Lib.hid cG
  have CH := Lib.hid cH
  clear cC h hE cG cH hG hp h1 h8 hlen
  go_enter Try.func8, Try.ntmps8
  go_wp2_with (first
    | (go_at_call 22; refine CC.out.mono ?_; rintro e w1 ⟨rfl, hb1⟩)
    | (go_at_call 24; refine (CH.out _ hb1).mono ?_; rintro e w2 ⟨g, rfl, hg, _, hb2⟩)
    | (go_at_call 23; refine (CG.out _ _ hg).mono ?_; rintro e w3 ⟨rfl, hb3⟩))
  go_ret2
  exact ⟨rfl, hb1.trans ((hb2.mono hb1.size).trans (hb3.mono (Nat.le_trans hb1.size hb2.size)))⟩
set_option maxHeartbeats 1600000 in
theorem kinds_err (A : Option Addr) (n c : Nat) (os : List Int) (w : World) (h : Rd w 1 A n (vis os)) (E : Int) (hE : chkE os = E) (hne : E ≠ 0) :
    Calls Try.prog 10 #[.slice A n c] w fun e w' => e = .returned (.tuple #[.slice none 0 0, .int .i64 E]) ∧ Below w.heap.size w w' := by
  have cC := may_err A n c os w h E hE hne
  have CC := Lib.hid cC
  clear cC h hE
  go_enter Try.func10, Try.ntmps10
  go_wp2_with (go_at_call 8; refine CC.out.mono ?_; rintro e w1 ⟨rfl, hb1⟩)
  go_ret2
  exact ⟨rfl, hb1⟩
set_option maxHeartbeats 1600000 in
theorem kinds_no (A : Option Addr) (n c : Nat) (os : List Int) (w : World) (h : Rd w 1 A n (vis os)) (hE : chkE os = 0) (hg : gd os = false) :
    Calls Try.prog 10 #[.slice A n c] w fun e w' => e = .returned (.tuple #[.slice none 0 0, .int .i64 11]) ∧ Below w.heap.size w w' := by
  have cC := may_ok A n c os w h hE
  rw [hg] at cC
  have CC := Lib.hid cC
  clear cC h hE hg
  go_enter Try.func10, Try.ntmps10
  go_wp2_with (go_at_call 8; refine CC.out.mono ?_; rintro e w1 ⟨rfl, hb1⟩)
  go_ret2
  exact ⟨rfl, hb1⟩
/-- the kinds of an order's creases -/
def kOf (os : List Int) : List Int := ksOf (fn (hsOf os)) (os.length - 1)
set_option maxHeartbeats 1600000 in
theorem kinds_ok (A : Option Addr) (n c : Nat) (os : List Int) (w : World) (h : Rd w 1 A n (vis os)) (hE : chkE os = 0) (hg : gd os = true) :
    Calls Try.prog 10 #[.slice A n c] w fun e w' => ∃ v, e = .returned (.tuple #[v, .int .i64 0]) ∧ w'.ownsRow w.heap.size 3 1 v (n - 1) (vis (kOf os)) ∧ Below w.heap.size w w' := by
  have cC := may_ok A n c os w h hE
  rw [hg] at cC
  obtain ⟨h1, h8, hp⟩ := chk_zero.1 hE
  have hlen := h.ints_len
  have cG : ∀ (w1 : World) (g : Nat), w1.heap[g]? = some (.cells (vis (hsOf os)).toArray 3 (0, 0)) → Calls Try.prog 25 #[.slice (some ⟨g, 0, none⟩) n n] w1 fun e w' => ∃ v, e = .returned v ∧ w'.ownsRow w1.heap.size 3 1 v (n - 1) (vis (kOf os)) ∧ Below w1.heap.size w1 w' := by
    intro w1 g hg
    have := kinds_any (some ⟨g, 0, none⟩) n n (hsOf os) w1 ⟨by simp [hs_len, hlen], fun _ => ⟨g, 0, rfl, blk_lt hg, fun j u hu => by rw [Nat.zero_add, cell_of_blk hg j]; simpa using hu⟩⟩ (by omega) (by omega)
    unfold kOf
    rw [hlen]
    exact this
  have cH := fun (w1 : World) (hb : Below w.heap.size w w1) => heights_any A n c os w1 (h.below hb) (by omega) hp
  have CC := Lib.hid cC
  have CG := Lib.hid cG
  have CH := Lib.hid cH
  clear cC h hE cG cH hg hp h1 h8 hlen
  go_enter Try.func10, Try.ntmps10
  go_wp2_with (first
    | (go_at_call 8; refine CC.out.mono ?_; rintro e w1 ⟨rfl, hb1⟩)
    | (go_at_call 24; refine (CH.out _ hb1).mono ?_; rintro e w2 ⟨g, rfl, hg, _, hb2⟩)
    | (go_at_call 25; refine (CG.out _ _ hg).mono ?_; rintro e w3 ⟨v, rfl, hown, hb3⟩))
  go_ret2
  exact ⟨_, rfl, own_mono hown (Nat.le_trans hb1.size hb2.size), hb1.trans ((hb2.mono hb1.size).trans (hb3.mono (Nat.le_trans hb1.size hb2.size)))⟩
end Go.Proofs.Ytjikhdnlcoohbaa
