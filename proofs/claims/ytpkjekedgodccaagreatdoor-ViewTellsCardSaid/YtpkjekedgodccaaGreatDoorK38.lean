/- The document's MoveOf (taken over from the door seat).. -/
import Derived.Test.YtpkjekedgodccaaGreatDoorK21
namespace Go.Proofs.YtpkjekedgodccaaGreatDoor
set_option linter.unusedSimpArgs false
set_option linter.unusedVariables false
section
open Go.RowKit Go.Maps
def boxes (w : World) (v c x y k : Int) : World := (w.alloc (.cells #[.int .i64 v, .int .i64 c] 113)).alloc (.cells #[.int .i64 x, .int .i64 y, .int .i64 k] 44)
open Go.RowKit
structure Kb (w : World) (im ir g N : Nat) (om or_ oc : Obj) (w' : World) : Prop where
 m : w'.heap[im]? = some om
 r : w'.heap[ir]? = some or_
 c : w'.heap[g]? = some oc
 bel : Below w.heap.size w w'
 nl : N ≤ w'.heap.size
theorem Kb.below {w : World} {im ir g N : Nat} {om or_ oc : Obj} {w1 w2 : World} (h : Kb w im ir g N om or_ oc w1) (hb : Below w1.heap.size w1 w2) : Kb w im ir g N om or_ oc w2 :=
 ⟨blk_below h.m hb (blk_lt h.m), blk_below h.r hb (blk_lt h.r), blk_below h.c hb (blk_lt h.c), stay_b h.bel hb, Nat.le_trans h.nl hb.size⟩
theorem Kb.set2 {w : World} {im ir g N : Nat} {om or_ oc : Obj} {w1 : World} (h : Kb w im ir g N om or_ oc w1) (hm : im < N) (hr : ir < N) (hg : g < N) (hw : w.heap.size ≤ N) {b : Nat} (hb : N ≤ b) (u v : Value) : Kb w im ir g N om or_ oc ((w1.setCell ⟨b, 0, none⟩ u).setCell ⟨b, 1, none⟩ v) :=
 ⟨farb2 h.m (by omega) _ _, farb2 h.r (by omega) _ _, farb2 h.c (by omega) _ _, set2_below h.bel _ (by omega) _ _, by simpa [World.size_setCell] using h.nl⟩
structure Mv (KB : World → Prop) (N g : Nat) (a b c d e f x y X1 Y1 X2 Y2 P0 Q0 P1 Q1 P2 Q2 : Int) (L : Array Bool) (w : World) (s6 s7 s8 s16 s17 s18 s19 s20 s21 s22 s23 s24 s25 s26 s27 s28 s29 s30 : Value) (b6 b7 b8 : Nat) : Prop where
 sz : L.size = 21
 kb : KB w
 p0 : L.getD 0 false = true → s16 = .agg #[.int .i64 a, .int .i64 b, .int .i64 c, .int .i64 d, .int .i64 e, .int .i64 f]
 p1 : L.getD 1 false = true → s17 = .slice (some ⟨g, 0, none⟩) 3 3
 p2 : L.getD 2 false = true → s18 = .pointer (some ⟨g, 0, none⟩)
 p3 : L.getD 3 false = true → s19 = aggP (2 * x + 1) (2 * y + 1)
 p4 : L.getD 4 false = true → s20 = aggP P0 Q0
 p5 : L.getD 5 false = true → s21 = .agg #[.int .i64 a, .int .i64 b, .int .i64 c, .int .i64 d, .int .i64 e, .int .i64 f]
 p6 : L.getD 6 false = true → s22 = .slice (some ⟨g, 0, none⟩) 3 3
 p7 : L.getD 7 false = true → s23 = .pointer (some ⟨g, 2, none⟩)
 p8 : L.getD 8 false = true → s24 = aggP X1 Y1
 p9 : L.getD 9 false = true → s25 = aggP P1 Q1
 p10 : L.getD 10 false = true → s26 = .agg #[.int .i64 a, .int .i64 b, .int .i64 c, .int .i64 d, .int .i64 e, .int .i64 f]
 p11 : L.getD 11 false = true → s27 = .slice (some ⟨g, 0, none⟩) 3 3
 p12 : L.getD 12 false = true → s28 = .pointer (some ⟨g, 4, none⟩)
 p13 : L.getD 13 false = true → s29 = aggP X2 Y2
 p14 : L.getD 14 false = true → s30 = aggP P2 Q2
 p15 : L.getD 15 false = true → s6 = .pointer (some ⟨b6, 0, none⟩) ∧ N ≤ b6 ∧ ∃ u v : Int, w.heap[b6]? = some (.cells #[.int .i64 u, .int .i64 v] 98 (0, 0))
 p16 : L.getD 16 false = true → s7 = .pointer (some ⟨b7, 0, none⟩) ∧ N ≤ b7 ∧ ∃ u v : Int, w.heap[b7]? = some (.cells #[.int .i64 u, .int .i64 v] 98 (0, 0))
 p17 : L.getD 17 false = true → s8 = .pointer (some ⟨b8, 0, none⟩) ∧ N ≤ b8 ∧ ∃ u v : Int, w.heap[b8]? = some (.cells #[.int .i64 u, .int .i64 v] 98 (0, 0))
 q0 : L.getD 15 false = true → L.getD 16 false = true → b6 ≠ b7
 q1 : L.getD 15 false = true → L.getD 17 false = true → b6 ≠ b8
 q2 : L.getD 16 false = true → L.getD 17 false = true → b7 ≠ b8
 p18 : L.getD 18 false = true → L.getD 15 false = true ∧ w.heap[b6]? = some (.cells #[.int .i64 P0, .int .i64 Q0] 98 (0, 0))
 p19 : L.getD 19 false = true → L.getD 16 false = true ∧ w.heap[b7]? = some (.cells #[.int .i64 P1, .int .i64 Q1] 98 (0, 0))
 p20 : L.getD 20 false = true → L.getD 17 false = true ∧ w.heap[b8]? = some (.cells #[.int .i64 P2, .int .i64 Q2] 98 (0, 0))
theorem Mv.below {KB : World → Prop} {N g : Nat} {a b c d e f x y X1 Y1 X2 Y2 P0 Q0 P1 Q1 P2 Q2 : Int} {L : Array Bool} {w w' : World} {s6 s7 s8 s16 s17 s18 s19 s20 s21 s22 s23 s24 s25 s26 s27 s28 s29 s30 : Value} {b6 b7 b8 : Nat} (h : Mv KB N g a b c d e f x y X1 Y1 X2 Y2 P0 Q0 P1 Q1 P2 Q2 L w s6 s7 s8 s16 s17 s18 s19 s20 s21 s22 s23 s24 s25 s26 s27 s28 s29 s30 b6 b7 b8) (hb : Below w.heap.size w w') (hk : KB w') :
  Mv KB N g a b c d e f x y X1 Y1 X2 Y2 P0 Q0 P1 Q1 P2 Q2 L w' s6 s7 s8 s16 s17 s18 s19 s20 s21 s22 s23 s24 s25 s26 s27 s28 s29 s30 b6 b7 b8 := by
 refine ⟨h.sz, hk, h.p0, h.p1, h.p2, h.p3, h.p4, h.p5, h.p6, h.p7, h.p8, h.p9, h.p10, h.p11, h.p12, h.p13, h.p14, ?_, ?_, ?_, h.q0, h.q1, h.q2, ?_, ?_, ?_⟩
 ·intro hl
  obtain ⟨h1, h2, u, v, h3⟩ := h.p15 hl
  exact ⟨h1, h2, u, v, blk_below h3 hb (blk_lt h3)⟩
 ·intro hl
  obtain ⟨h1, h2, u, v, h3⟩ := h.p16 hl
  exact ⟨h1, h2, u, v, blk_below h3 hb (blk_lt h3)⟩
 ·intro hl
  obtain ⟨h1, h2, u, v, h3⟩ := h.p17 hl
  exact ⟨h1, h2, u, v, blk_below h3 hb (blk_lt h3)⟩
 ·intro hl
  obtain ⟨h1, h3⟩ := h.p18 hl
  exact ⟨h1, blk_below h3 hb (blk_lt h3)⟩
 ·intro hl
  obtain ⟨h1, h3⟩ := h.p19 hl
  exact ⟨h1, blk_below h3 hb (blk_lt h3)⟩
 ·intro hl
  obtain ⟨h1, h3⟩ := h.p20 hl
  exact ⟨h1, blk_below h3 hb (blk_lt h3)⟩
theorem keepL {L : Array Bool} {i j : Nat} (h : L.getD j false = true) : (L.setIfInBounds i true).getD j false = true := getD_set_true h
theorem Mv.l0 {KB : World → Prop} {N g : Nat} {a b c d e f x y X1 Y1 X2 Y2 P0 Q0 P1 Q1 P2 Q2 : Int} {L : Array Bool} {w : World} {s6 s7 s8 s16 s17 s18 s19 s20 s21 s22 s23 s24 s25 s26 s27 s28 s29 s30 : Value} {b6 b7 b8 : Nat} {v : Value} (h : Mv KB N g a b c d e f x y X1 Y1 X2 Y2 P0 Q0 P1 Q1 P2 Q2 L w s6 s7 s8 s16 s17 s18 s19 s20 s21 s22 s23 s24 s25 s26 s27 s28 s29 s30 b6 b7 b8) (hv : v = .agg #[.int .i64 a, .int .i64 b, .int .i64 c, .int .i64 d, .int .i64 e, .int .i64 f]) :
  Mv KB N g a b c d e f x y X1 Y1 X2 Y2 P0 Q0 P1 Q1 P2 Q2 (L.setIfInBounds 0 true) w s6 s7 s8 v s17 s18 s19 s20 s21 s22 s23 s24 s25 s26 s27 s28 s29 s30 b6 b7 b8 :=
 ⟨by simpa using h.sz, h.kb, fun _ => hv, fun hl => h.p1 (up (by decide) hl), fun hl => h.p2 (up (by decide) hl), fun hl => h.p3 (up (by decide) hl), fun hl => h.p4 (up (by decide) hl), fun hl => h.p5 (up (by decide) hl), fun hl => h.p6 (up (by decide) hl), fun hl => h.p7 (up (by decide) hl), fun hl => h.p8 (up (by decide) hl), fun hl => h.p9 (up (by decide) hl), fun hl => h.p10 (up (by decide) hl), fun hl => h.p11 (up (by decide) hl), fun hl => h.p12 (up (by decide) hl), fun hl => h.p13 (up (by decide) hl), fun hl => h.p14 (up (by decide) hl), fun hl => h.p15 (up (by decide) hl), fun hl => h.p16 (up (by decide) hl), fun hl => h.p17 (up (by decide) hl), fun h1 h2 => h.q0 (up (by decide) h1) (up (by decide) h2), fun h1 h2 => h.q1 (up (by decide) h1) (up (by decide) h2), fun h1 h2 => h.q2 (up (by decide) h1) (up (by decide) h2), fun hl => ⟨keepL (h.p18 (up (by decide) hl)).1, (h.p18 (up (by decide) hl)).2⟩, fun hl => ⟨keepL (h.p19 (up (by decide) hl)).1, (h.p19 (up (by decide) hl)).2⟩, fun hl => ⟨keepL (h.p20 (up (by decide) hl)).1, (h.p20 (up (by decide) hl)).2⟩⟩
theorem Mv.l1 {KB : World → Prop} {N g : Nat} {a b c d e f x y X1 Y1 X2 Y2 P0 Q0 P1 Q1 P2 Q2 : Int} {L : Array Bool} {w : World} {s6 s7 s8 s16 s17 s18 s19 s20 s21 s22 s23 s24 s25 s26 s27 s28 s29 s30 : Value} {b6 b7 b8 : Nat} {v : Value} (h : Mv KB N g a b c d e f x y X1 Y1 X2 Y2 P0 Q0 P1 Q1 P2 Q2 L w s6 s7 s8 s16 s17 s18 s19 s20 s21 s22 s23 s24 s25 s26 s27 s28 s29 s30 b6 b7 b8) (hv : v = .slice (some ⟨g, 0, none⟩) 3 3) :
  Mv KB N g a b c d e f x y X1 Y1 X2 Y2 P0 Q0 P1 Q1 P2 Q2 (L.setIfInBounds 1 true) w s6 s7 s8 s16 v s18 s19 s20 s21 s22 s23 s24 s25 s26 s27 s28 s29 s30 b6 b7 b8 :=
 ⟨by simpa using h.sz, h.kb, fun hl => h.p0 (up (by decide) hl), fun _ => hv, fun hl => h.p2 (up (by decide) hl), fun hl => h.p3 (up (by decide) hl), fun hl => h.p4 (up (by decide) hl), fun hl => h.p5 (up (by decide) hl), fun hl => h.p6 (up (by decide) hl), fun hl => h.p7 (up (by decide) hl), fun hl => h.p8 (up (by decide) hl), fun hl => h.p9 (up (by decide) hl), fun hl => h.p10 (up (by decide) hl), fun hl => h.p11 (up (by decide) hl), fun hl => h.p12 (up (by decide) hl), fun hl => h.p13 (up (by decide) hl), fun hl => h.p14 (up (by decide) hl), fun hl => h.p15 (up (by decide) hl), fun hl => h.p16 (up (by decide) hl), fun hl => h.p17 (up (by decide) hl), fun h1 h2 => h.q0 (up (by decide) h1) (up (by decide) h2), fun h1 h2 => h.q1 (up (by decide) h1) (up (by decide) h2), fun h1 h2 => h.q2 (up (by decide) h1) (up (by decide) h2), fun hl => ⟨keepL (h.p18 (up (by decide) hl)).1, (h.p18 (up (by decide) hl)).2⟩, fun hl => ⟨keepL (h.p19 (up (by decide) hl)).1, (h.p19 (up (by decide) hl)).2⟩, fun hl => ⟨keepL (h.p20 (up (by decide) hl)).1, (h.p20 (up (by decide) hl)).2⟩⟩
theorem Mv.l2 {KB : World → Prop} {N g : Nat} {a b c d e f x y X1 Y1 X2 Y2 P0 Q0 P1 Q1 P2 Q2 : Int} {L : Array Bool} {w : World} {s6 s7 s8 s16 s17 s18 s19 s20 s21 s22 s23 s24 s25 s26 s27 s28 s29 s30 : Value} {b6 b7 b8 : Nat} {v : Value} (h : Mv KB N g a b c d e f x y X1 Y1 X2 Y2 P0 Q0 P1 Q1 P2 Q2 L w s6 s7 s8 s16 s17 s18 s19 s20 s21 s22 s23 s24 s25 s26 s27 s28 s29 s30 b6 b7 b8) (hv : v = .pointer (some ⟨g, 0, none⟩)) :
  Mv KB N g a b c d e f x y X1 Y1 X2 Y2 P0 Q0 P1 Q1 P2 Q2 (L.setIfInBounds 2 true) w s6 s7 s8 s16 s17 v s19 s20 s21 s22 s23 s24 s25 s26 s27 s28 s29 s30 b6 b7 b8 :=
 ⟨by simpa using h.sz, h.kb, fun hl => h.p0 (up (by decide) hl), fun hl => h.p1 (up (by decide) hl), fun _ => hv, fun hl => h.p3 (up (by decide) hl), fun hl => h.p4 (up (by decide) hl), fun hl => h.p5 (up (by decide) hl), fun hl => h.p6 (up (by decide) hl), fun hl => h.p7 (up (by decide) hl), fun hl => h.p8 (up (by decide) hl), fun hl => h.p9 (up (by decide) hl), fun hl => h.p10 (up (by decide) hl), fun hl => h.p11 (up (by decide) hl), fun hl => h.p12 (up (by decide) hl), fun hl => h.p13 (up (by decide) hl), fun hl => h.p14 (up (by decide) hl), fun hl => h.p15 (up (by decide) hl), fun hl => h.p16 (up (by decide) hl), fun hl => h.p17 (up (by decide) hl), fun h1 h2 => h.q0 (up (by decide) h1) (up (by decide) h2), fun h1 h2 => h.q1 (up (by decide) h1) (up (by decide) h2), fun h1 h2 => h.q2 (up (by decide) h1) (up (by decide) h2), fun hl => ⟨keepL (h.p18 (up (by decide) hl)).1, (h.p18 (up (by decide) hl)).2⟩, fun hl => ⟨keepL (h.p19 (up (by decide) hl)).1, (h.p19 (up (by decide) hl)).2⟩, fun hl => ⟨keepL (h.p20 (up (by decide) hl)).1, (h.p20 (up (by decide) hl)).2⟩⟩
theorem Mv.l3 {KB : World → Prop} {N g : Nat} {a b c d e f x y X1 Y1 X2 Y2 P0 Q0 P1 Q1 P2 Q2 : Int} {L : Array Bool} {w : World} {s6 s7 s8 s16 s17 s18 s19 s20 s21 s22 s23 s24 s25 s26 s27 s28 s29 s30 : Value} {b6 b7 b8 : Nat} {v : Value} (h : Mv KB N g a b c d e f x y X1 Y1 X2 Y2 P0 Q0 P1 Q1 P2 Q2 L w s6 s7 s8 s16 s17 s18 s19 s20 s21 s22 s23 s24 s25 s26 s27 s28 s29 s30 b6 b7 b8) (hv : v = aggP (2 * x + 1) (2 * y + 1)) :
  Mv KB N g a b c d e f x y X1 Y1 X2 Y2 P0 Q0 P1 Q1 P2 Q2 (L.setIfInBounds 3 true) w s6 s7 s8 s16 s17 s18 v s20 s21 s22 s23 s24 s25 s26 s27 s28 s29 s30 b6 b7 b8 :=
 ⟨by simpa using h.sz, h.kb, fun hl => h.p0 (up (by decide) hl), fun hl => h.p1 (up (by decide) hl), fun hl => h.p2 (up (by decide) hl), fun _ => hv, fun hl => h.p4 (up (by decide) hl), fun hl => h.p5 (up (by decide) hl), fun hl => h.p6 (up (by decide) hl), fun hl => h.p7 (up (by decide) hl), fun hl => h.p8 (up (by decide) hl), fun hl => h.p9 (up (by decide) hl), fun hl => h.p10 (up (by decide) hl), fun hl => h.p11 (up (by decide) hl), fun hl => h.p12 (up (by decide) hl), fun hl => h.p13 (up (by decide) hl), fun hl => h.p14 (up (by decide) hl), fun hl => h.p15 (up (by decide) hl), fun hl => h.p16 (up (by decide) hl), fun hl => h.p17 (up (by decide) hl), fun h1 h2 => h.q0 (up (by decide) h1) (up (by decide) h2), fun h1 h2 => h.q1 (up (by decide) h1) (up (by decide) h2), fun h1 h2 => h.q2 (up (by decide) h1) (up (by decide) h2), fun hl => ⟨keepL (h.p18 (up (by decide) hl)).1, (h.p18 (up (by decide) hl)).2⟩, fun hl => ⟨keepL (h.p19 (up (by decide) hl)).1, (h.p19 (up (by decide) hl)).2⟩, fun hl => ⟨keepL (h.p20 (up (by decide) hl)).1, (h.p20 (up (by decide) hl)).2⟩⟩
theorem Mv.l4 {KB : World → Prop} {N g : Nat} {a b c d e f x y X1 Y1 X2 Y2 P0 Q0 P1 Q1 P2 Q2 : Int} {L : Array Bool} {w : World} {s6 s7 s8 s16 s17 s18 s19 s20 s21 s22 s23 s24 s25 s26 s27 s28 s29 s30 : Value} {b6 b7 b8 : Nat} {v : Value} (h : Mv KB N g a b c d e f x y X1 Y1 X2 Y2 P0 Q0 P1 Q1 P2 Q2 L w s6 s7 s8 s16 s17 s18 s19 s20 s21 s22 s23 s24 s25 s26 s27 s28 s29 s30 b6 b7 b8) (hv : v = aggP P0 Q0) :
  Mv KB N g a b c d e f x y X1 Y1 X2 Y2 P0 Q0 P1 Q1 P2 Q2 (L.setIfInBounds 4 true) w s6 s7 s8 s16 s17 s18 s19 v s21 s22 s23 s24 s25 s26 s27 s28 s29 s30 b6 b7 b8 :=
 ⟨by simpa using h.sz, h.kb, fun hl => h.p0 (up (by decide) hl), fun hl => h.p1 (up (by decide) hl), fun hl => h.p2 (up (by decide) hl), fun hl => h.p3 (up (by decide) hl), fun _ => hv, fun hl => h.p5 (up (by decide) hl), fun hl => h.p6 (up (by decide) hl), fun hl => h.p7 (up (by decide) hl), fun hl => h.p8 (up (by decide) hl), fun hl => h.p9 (up (by decide) hl), fun hl => h.p10 (up (by decide) hl), fun hl => h.p11 (up (by decide) hl), fun hl => h.p12 (up (by decide) hl), fun hl => h.p13 (up (by decide) hl), fun hl => h.p14 (up (by decide) hl), fun hl => h.p15 (up (by decide) hl), fun hl => h.p16 (up (by decide) hl), fun hl => h.p17 (up (by decide) hl), fun h1 h2 => h.q0 (up (by decide) h1) (up (by decide) h2), fun h1 h2 => h.q1 (up (by decide) h1) (up (by decide) h2), fun h1 h2 => h.q2 (up (by decide) h1) (up (by decide) h2), fun hl => ⟨keepL (h.p18 (up (by decide) hl)).1, (h.p18 (up (by decide) hl)).2⟩, fun hl => ⟨keepL (h.p19 (up (by decide) hl)).1, (h.p19 (up (by decide) hl)).2⟩, fun hl => ⟨keepL (h.p20 (up (by decide) hl)).1, (h.p20 (up (by decide) hl)).2⟩⟩
theorem Mv.l5 {KB : World → Prop} {N g : Nat} {a b c d e f x y X1 Y1 X2 Y2 P0 Q0 P1 Q1 P2 Q2 : Int} {L : Array Bool} {w : World} {s6 s7 s8 s16 s17 s18 s19 s20 s21 s22 s23 s24 s25 s26 s27 s28 s29 s30 : Value} {b6 b7 b8 : Nat} {v : Value} (h : Mv KB N g a b c d e f x y X1 Y1 X2 Y2 P0 Q0 P1 Q1 P2 Q2 L w s6 s7 s8 s16 s17 s18 s19 s20 s21 s22 s23 s24 s25 s26 s27 s28 s29 s30 b6 b7 b8) (hv : v = .agg #[.int .i64 a, .int .i64 b, .int .i64 c, .int .i64 d, .int .i64 e, .int .i64 f]) :
  Mv KB N g a b c d e f x y X1 Y1 X2 Y2 P0 Q0 P1 Q1 P2 Q2 (L.setIfInBounds 5 true) w s6 s7 s8 s16 s17 s18 s19 s20 v s22 s23 s24 s25 s26 s27 s28 s29 s30 b6 b7 b8 :=
 ⟨by simpa using h.sz, h.kb, fun hl => h.p0 (up (by decide) hl), fun hl => h.p1 (up (by decide) hl), fun hl => h.p2 (up (by decide) hl), fun hl => h.p3 (up (by decide) hl), fun hl => h.p4 (up (by decide) hl), fun _ => hv, fun hl => h.p6 (up (by decide) hl), fun hl => h.p7 (up (by decide) hl), fun hl => h.p8 (up (by decide) hl), fun hl => h.p9 (up (by decide) hl), fun hl => h.p10 (up (by decide) hl), fun hl => h.p11 (up (by decide) hl), fun hl => h.p12 (up (by decide) hl), fun hl => h.p13 (up (by decide) hl), fun hl => h.p14 (up (by decide) hl), fun hl => h.p15 (up (by decide) hl), fun hl => h.p16 (up (by decide) hl), fun hl => h.p17 (up (by decide) hl), fun h1 h2 => h.q0 (up (by decide) h1) (up (by decide) h2), fun h1 h2 => h.q1 (up (by decide) h1) (up (by decide) h2), fun h1 h2 => h.q2 (up (by decide) h1) (up (by decide) h2), fun hl => ⟨keepL (h.p18 (up (by decide) hl)).1, (h.p18 (up (by decide) hl)).2⟩, fun hl => ⟨keepL (h.p19 (up (by decide) hl)).1, (h.p19 (up (by decide) hl)).2⟩, fun hl => ⟨keepL (h.p20 (up (by decide) hl)).1, (h.p20 (up (by decide) hl)).2⟩⟩
theorem Mv.l6 {KB : World → Prop} {N g : Nat} {a b c d e f x y X1 Y1 X2 Y2 P0 Q0 P1 Q1 P2 Q2 : Int} {L : Array Bool} {w : World} {s6 s7 s8 s16 s17 s18 s19 s20 s21 s22 s23 s24 s25 s26 s27 s28 s29 s30 : Value} {b6 b7 b8 : Nat} {v : Value} (h : Mv KB N g a b c d e f x y X1 Y1 X2 Y2 P0 Q0 P1 Q1 P2 Q2 L w s6 s7 s8 s16 s17 s18 s19 s20 s21 s22 s23 s24 s25 s26 s27 s28 s29 s30 b6 b7 b8) (hv : v = .slice (some ⟨g, 0, none⟩) 3 3) :
  Mv KB N g a b c d e f x y X1 Y1 X2 Y2 P0 Q0 P1 Q1 P2 Q2 (L.setIfInBounds 6 true) w s6 s7 s8 s16 s17 s18 s19 s20 s21 v s23 s24 s25 s26 s27 s28 s29 s30 b6 b7 b8 :=
 ⟨by simpa using h.sz, h.kb, fun hl => h.p0 (up (by decide) hl), fun hl => h.p1 (up (by decide) hl), fun hl => h.p2 (up (by decide) hl), fun hl => h.p3 (up (by decide) hl), fun hl => h.p4 (up (by decide) hl), fun hl => h.p5 (up (by decide) hl), fun _ => hv, fun hl => h.p7 (up (by decide) hl), fun hl => h.p8 (up (by decide) hl), fun hl => h.p9 (up (by decide) hl), fun hl => h.p10 (up (by decide) hl), fun hl => h.p11 (up (by decide) hl), fun hl => h.p12 (up (by decide) hl), fun hl => h.p13 (up (by decide) hl), fun hl => h.p14 (up (by decide) hl), fun hl => h.p15 (up (by decide) hl), fun hl => h.p16 (up (by decide) hl), fun hl => h.p17 (up (by decide) hl), fun h1 h2 => h.q0 (up (by decide) h1) (up (by decide) h2), fun h1 h2 => h.q1 (up (by decide) h1) (up (by decide) h2), fun h1 h2 => h.q2 (up (by decide) h1) (up (by decide) h2), fun hl => ⟨keepL (h.p18 (up (by decide) hl)).1, (h.p18 (up (by decide) hl)).2⟩, fun hl => ⟨keepL (h.p19 (up (by decide) hl)).1, (h.p19 (up (by decide) hl)).2⟩, fun hl => ⟨keepL (h.p20 (up (by decide) hl)).1, (h.p20 (up (by decide) hl)).2⟩⟩
theorem Mv.l7 {KB : World → Prop} {N g : Nat} {a b c d e f x y X1 Y1 X2 Y2 P0 Q0 P1 Q1 P2 Q2 : Int} {L : Array Bool} {w : World} {s6 s7 s8 s16 s17 s18 s19 s20 s21 s22 s23 s24 s25 s26 s27 s28 s29 s30 : Value} {b6 b7 b8 : Nat} {v : Value} (h : Mv KB N g a b c d e f x y X1 Y1 X2 Y2 P0 Q0 P1 Q1 P2 Q2 L w s6 s7 s8 s16 s17 s18 s19 s20 s21 s22 s23 s24 s25 s26 s27 s28 s29 s30 b6 b7 b8) (hv : v = .pointer (some ⟨g, 2, none⟩)) :
  Mv KB N g a b c d e f x y X1 Y1 X2 Y2 P0 Q0 P1 Q1 P2 Q2 (L.setIfInBounds 7 true) w s6 s7 s8 s16 s17 s18 s19 s20 s21 s22 v s24 s25 s26 s27 s28 s29 s30 b6 b7 b8 :=
 ⟨by simpa using h.sz, h.kb, fun hl => h.p0 (up (by decide) hl), fun hl => h.p1 (up (by decide) hl), fun hl => h.p2 (up (by decide) hl), fun hl => h.p3 (up (by decide) hl), fun hl => h.p4 (up (by decide) hl), fun hl => h.p5 (up (by decide) hl), fun hl => h.p6 (up (by decide) hl), fun _ => hv, fun hl => h.p8 (up (by decide) hl), fun hl => h.p9 (up (by decide) hl), fun hl => h.p10 (up (by decide) hl), fun hl => h.p11 (up (by decide) hl), fun hl => h.p12 (up (by decide) hl), fun hl => h.p13 (up (by decide) hl), fun hl => h.p14 (up (by decide) hl), fun hl => h.p15 (up (by decide) hl), fun hl => h.p16 (up (by decide) hl), fun hl => h.p17 (up (by decide) hl), fun h1 h2 => h.q0 (up (by decide) h1) (up (by decide) h2), fun h1 h2 => h.q1 (up (by decide) h1) (up (by decide) h2), fun h1 h2 => h.q2 (up (by decide) h1) (up (by decide) h2), fun hl => ⟨keepL (h.p18 (up (by decide) hl)).1, (h.p18 (up (by decide) hl)).2⟩, fun hl => ⟨keepL (h.p19 (up (by decide) hl)).1, (h.p19 (up (by decide) hl)).2⟩, fun hl => ⟨keepL (h.p20 (up (by decide) hl)).1, (h.p20 (up (by decide) hl)).2⟩⟩
theorem Mv.l8 {KB : World → Prop} {N g : Nat} {a b c d e f x y X1 Y1 X2 Y2 P0 Q0 P1 Q1 P2 Q2 : Int} {L : Array Bool} {w : World} {s6 s7 s8 s16 s17 s18 s19 s20 s21 s22 s23 s24 s25 s26 s27 s28 s29 s30 : Value} {b6 b7 b8 : Nat} {v : Value} (h : Mv KB N g a b c d e f x y X1 Y1 X2 Y2 P0 Q0 P1 Q1 P2 Q2 L w s6 s7 s8 s16 s17 s18 s19 s20 s21 s22 s23 s24 s25 s26 s27 s28 s29 s30 b6 b7 b8) (hv : v = aggP X1 Y1) :
  Mv KB N g a b c d e f x y X1 Y1 X2 Y2 P0 Q0 P1 Q1 P2 Q2 (L.setIfInBounds 8 true) w s6 s7 s8 s16 s17 s18 s19 s20 s21 s22 s23 v s25 s26 s27 s28 s29 s30 b6 b7 b8 :=
 ⟨by simpa using h.sz, h.kb, fun hl => h.p0 (up (by decide) hl), fun hl => h.p1 (up (by decide) hl), fun hl => h.p2 (up (by decide) hl), fun hl => h.p3 (up (by decide) hl), fun hl => h.p4 (up (by decide) hl), fun hl => h.p5 (up (by decide) hl), fun hl => h.p6 (up (by decide) hl), fun hl => h.p7 (up (by decide) hl), fun _ => hv, fun hl => h.p9 (up (by decide) hl), fun hl => h.p10 (up (by decide) hl), fun hl => h.p11 (up (by decide) hl), fun hl => h.p12 (up (by decide) hl), fun hl => h.p13 (up (by decide) hl), fun hl => h.p14 (up (by decide) hl), fun hl => h.p15 (up (by decide) hl), fun hl => h.p16 (up (by decide) hl), fun hl => h.p17 (up (by decide) hl), fun h1 h2 => h.q0 (up (by decide) h1) (up (by decide) h2), fun h1 h2 => h.q1 (up (by decide) h1) (up (by decide) h2), fun h1 h2 => h.q2 (up (by decide) h1) (up (by decide) h2), fun hl => ⟨keepL (h.p18 (up (by decide) hl)).1, (h.p18 (up (by decide) hl)).2⟩, fun hl => ⟨keepL (h.p19 (up (by decide) hl)).1, (h.p19 (up (by decide) hl)).2⟩, fun hl => ⟨keepL (h.p20 (up (by decide) hl)).1, (h.p20 (up (by decide) hl)).2⟩⟩
theorem Mv.l9 {KB : World → Prop} {N g : Nat} {a b c d e f x y X1 Y1 X2 Y2 P0 Q0 P1 Q1 P2 Q2 : Int} {L : Array Bool} {w : World} {s6 s7 s8 s16 s17 s18 s19 s20 s21 s22 s23 s24 s25 s26 s27 s28 s29 s30 : Value} {b6 b7 b8 : Nat} {v : Value} (h : Mv KB N g a b c d e f x y X1 Y1 X2 Y2 P0 Q0 P1 Q1 P2 Q2 L w s6 s7 s8 s16 s17 s18 s19 s20 s21 s22 s23 s24 s25 s26 s27 s28 s29 s30 b6 b7 b8) (hv : v = aggP P1 Q1) :
  Mv KB N g a b c d e f x y X1 Y1 X2 Y2 P0 Q0 P1 Q1 P2 Q2 (L.setIfInBounds 9 true) w s6 s7 s8 s16 s17 s18 s19 s20 s21 s22 s23 s24 v s26 s27 s28 s29 s30 b6 b7 b8 :=
 ⟨by simpa using h.sz, h.kb, fun hl => h.p0 (up (by decide) hl), fun hl => h.p1 (up (by decide) hl), fun hl => h.p2 (up (by decide) hl), fun hl => h.p3 (up (by decide) hl), fun hl => h.p4 (up (by decide) hl), fun hl => h.p5 (up (by decide) hl), fun hl => h.p6 (up (by decide) hl), fun hl => h.p7 (up (by decide) hl), fun hl => h.p8 (up (by decide) hl), fun _ => hv, fun hl => h.p10 (up (by decide) hl), fun hl => h.p11 (up (by decide) hl), fun hl => h.p12 (up (by decide) hl), fun hl => h.p13 (up (by decide) hl), fun hl => h.p14 (up (by decide) hl), fun hl => h.p15 (up (by decide) hl), fun hl => h.p16 (up (by decide) hl), fun hl => h.p17 (up (by decide) hl), fun h1 h2 => h.q0 (up (by decide) h1) (up (by decide) h2), fun h1 h2 => h.q1 (up (by decide) h1) (up (by decide) h2), fun h1 h2 => h.q2 (up (by decide) h1) (up (by decide) h2), fun hl => ⟨keepL (h.p18 (up (by decide) hl)).1, (h.p18 (up (by decide) hl)).2⟩, fun hl => ⟨keepL (h.p19 (up (by decide) hl)).1, (h.p19 (up (by decide) hl)).2⟩, fun hl => ⟨keepL (h.p20 (up (by decide) hl)).1, (h.p20 (up (by decide) hl)).2⟩⟩
theorem Mv.l10 {KB : World → Prop} {N g : Nat} {a b c d e f x y X1 Y1 X2 Y2 P0 Q0 P1 Q1 P2 Q2 : Int} {L : Array Bool} {w : World} {s6 s7 s8 s16 s17 s18 s19 s20 s21 s22 s23 s24 s25 s26 s27 s28 s29 s30 : Value} {b6 b7 b8 : Nat} {v : Value} (h : Mv KB N g a b c d e f x y X1 Y1 X2 Y2 P0 Q0 P1 Q1 P2 Q2 L w s6 s7 s8 s16 s17 s18 s19 s20 s21 s22 s23 s24 s25 s26 s27 s28 s29 s30 b6 b7 b8) (hv : v = .agg #[.int .i64 a, .int .i64 b, .int .i64 c, .int .i64 d, .int .i64 e, .int .i64 f]) :
  Mv KB N g a b c d e f x y X1 Y1 X2 Y2 P0 Q0 P1 Q1 P2 Q2 (L.setIfInBounds 10 true) w s6 s7 s8 s16 s17 s18 s19 s20 s21 s22 s23 s24 s25 v s27 s28 s29 s30 b6 b7 b8 :=
 ⟨by simpa using h.sz, h.kb, fun hl => h.p0 (up (by decide) hl), fun hl => h.p1 (up (by decide) hl), fun hl => h.p2 (up (by decide) hl), fun hl => h.p3 (up (by decide) hl), fun hl => h.p4 (up (by decide) hl), fun hl => h.p5 (up (by decide) hl), fun hl => h.p6 (up (by decide) hl), fun hl => h.p7 (up (by decide) hl), fun hl => h.p8 (up (by decide) hl), fun hl => h.p9 (up (by decide) hl), fun _ => hv, fun hl => h.p11 (up (by decide) hl), fun hl => h.p12 (up (by decide) hl), fun hl => h.p13 (up (by decide) hl), fun hl => h.p14 (up (by decide) hl), fun hl => h.p15 (up (by decide) hl), fun hl => h.p16 (up (by decide) hl), fun hl => h.p17 (up (by decide) hl), fun h1 h2 => h.q0 (up (by decide) h1) (up (by decide) h2), fun h1 h2 => h.q1 (up (by decide) h1) (up (by decide) h2), fun h1 h2 => h.q2 (up (by decide) h1) (up (by decide) h2), fun hl => ⟨keepL (h.p18 (up (by decide) hl)).1, (h.p18 (up (by decide) hl)).2⟩, fun hl => ⟨keepL (h.p19 (up (by decide) hl)).1, (h.p19 (up (by decide) hl)).2⟩, fun hl => ⟨keepL (h.p20 (up (by decide) hl)).1, (h.p20 (up (by decide) hl)).2⟩⟩
theorem Mv.l11 {KB : World → Prop} {N g : Nat} {a b c d e f x y X1 Y1 X2 Y2 P0 Q0 P1 Q1 P2 Q2 : Int} {L : Array Bool} {w : World} {s6 s7 s8 s16 s17 s18 s19 s20 s21 s22 s23 s24 s25 s26 s27 s28 s29 s30 : Value} {b6 b7 b8 : Nat} {v : Value} (h : Mv KB N g a b c d e f x y X1 Y1 X2 Y2 P0 Q0 P1 Q1 P2 Q2 L w s6 s7 s8 s16 s17 s18 s19 s20 s21 s22 s23 s24 s25 s26 s27 s28 s29 s30 b6 b7 b8) (hv : v = .slice (some ⟨g, 0, none⟩) 3 3) :
  Mv KB N g a b c d e f x y X1 Y1 X2 Y2 P0 Q0 P1 Q1 P2 Q2 (L.setIfInBounds 11 true) w s6 s7 s8 s16 s17 s18 s19 s20 s21 s22 s23 s24 s25 s26 v s28 s29 s30 b6 b7 b8 :=
 ⟨by simpa using h.sz, h.kb, fun hl => h.p0 (up (by decide) hl), fun hl => h.p1 (up (by decide) hl), fun hl => h.p2 (up (by decide) hl), fun hl => h.p3 (up (by decide) hl), fun hl => h.p4 (up (by decide) hl), fun hl => h.p5 (up (by decide) hl), fun hl => h.p6 (up (by decide) hl), fun hl => h.p7 (up (by decide) hl), fun hl => h.p8 (up (by decide) hl), fun hl => h.p9 (up (by decide) hl), fun hl => h.p10 (up (by decide) hl), fun _ => hv, fun hl => h.p12 (up (by decide) hl), fun hl => h.p13 (up (by decide) hl), fun hl => h.p14 (up (by decide) hl), fun hl => h.p15 (up (by decide) hl), fun hl => h.p16 (up (by decide) hl), fun hl => h.p17 (up (by decide) hl), fun h1 h2 => h.q0 (up (by decide) h1) (up (by decide) h2), fun h1 h2 => h.q1 (up (by decide) h1) (up (by decide) h2), fun h1 h2 => h.q2 (up (by decide) h1) (up (by decide) h2), fun hl => ⟨keepL (h.p18 (up (by decide) hl)).1, (h.p18 (up (by decide) hl)).2⟩, fun hl => ⟨keepL (h.p19 (up (by decide) hl)).1, (h.p19 (up (by decide) hl)).2⟩, fun hl => ⟨keepL (h.p20 (up (by decide) hl)).1, (h.p20 (up (by decide) hl)).2⟩⟩
theorem Mv.l12 {KB : World → Prop} {N g : Nat} {a b c d e f x y X1 Y1 X2 Y2 P0 Q0 P1 Q1 P2 Q2 : Int} {L : Array Bool} {w : World} {s6 s7 s8 s16 s17 s18 s19 s20 s21 s22 s23 s24 s25 s26 s27 s28 s29 s30 : Value} {b6 b7 b8 : Nat} {v : Value} (h : Mv KB N g a b c d e f x y X1 Y1 X2 Y2 P0 Q0 P1 Q1 P2 Q2 L w s6 s7 s8 s16 s17 s18 s19 s20 s21 s22 s23 s24 s25 s26 s27 s28 s29 s30 b6 b7 b8) (hv : v = .pointer (some ⟨g, 4, none⟩)) :
  Mv KB N g a b c d e f x y X1 Y1 X2 Y2 P0 Q0 P1 Q1 P2 Q2 (L.setIfInBounds 12 true) w s6 s7 s8 s16 s17 s18 s19 s20 s21 s22 s23 s24 s25 s26 s27 v s29 s30 b6 b7 b8 :=
 ⟨by simpa using h.sz, h.kb, fun hl => h.p0 (up (by decide) hl), fun hl => h.p1 (up (by decide) hl), fun hl => h.p2 (up (by decide) hl), fun hl => h.p3 (up (by decide) hl), fun hl => h.p4 (up (by decide) hl), fun hl => h.p5 (up (by decide) hl), fun hl => h.p6 (up (by decide) hl), fun hl => h.p7 (up (by decide) hl), fun hl => h.p8 (up (by decide) hl), fun hl => h.p9 (up (by decide) hl), fun hl => h.p10 (up (by decide) hl), fun hl => h.p11 (up (by decide) hl), fun _ => hv, fun hl => h.p13 (up (by decide) hl), fun hl => h.p14 (up (by decide) hl), fun hl => h.p15 (up (by decide) hl), fun hl => h.p16 (up (by decide) hl), fun hl => h.p17 (up (by decide) hl), fun h1 h2 => h.q0 (up (by decide) h1) (up (by decide) h2), fun h1 h2 => h.q1 (up (by decide) h1) (up (by decide) h2), fun h1 h2 => h.q2 (up (by decide) h1) (up (by decide) h2), fun hl => ⟨keepL (h.p18 (up (by decide) hl)).1, (h.p18 (up (by decide) hl)).2⟩, fun hl => ⟨keepL (h.p19 (up (by decide) hl)).1, (h.p19 (up (by decide) hl)).2⟩, fun hl => ⟨keepL (h.p20 (up (by decide) hl)).1, (h.p20 (up (by decide) hl)).2⟩⟩
theorem Mv.l13 {KB : World → Prop} {N g : Nat} {a b c d e f x y X1 Y1 X2 Y2 P0 Q0 P1 Q1 P2 Q2 : Int} {L : Array Bool} {w : World} {s6 s7 s8 s16 s17 s18 s19 s20 s21 s22 s23 s24 s25 s26 s27 s28 s29 s30 : Value} {b6 b7 b8 : Nat} {v : Value} (h : Mv KB N g a b c d e f x y X1 Y1 X2 Y2 P0 Q0 P1 Q1 P2 Q2 L w s6 s7 s8 s16 s17 s18 s19 s20 s21 s22 s23 s24 s25 s26 s27 s28 s29 s30 b6 b7 b8) (hv : v = aggP X2 Y2) :
  Mv KB N g a b c d e f x y X1 Y1 X2 Y2 P0 Q0 P1 Q1 P2 Q2 (L.setIfInBounds 13 true) w s6 s7 s8 s16 s17 s18 s19 s20 s21 s22 s23 s24 s25 s26 s27 s28 v s30 b6 b7 b8 :=
 ⟨by simpa using h.sz, h.kb, fun hl => h.p0 (up (by decide) hl), fun hl => h.p1 (up (by decide) hl), fun hl => h.p2 (up (by decide) hl), fun hl => h.p3 (up (by decide) hl), fun hl => h.p4 (up (by decide) hl), fun hl => h.p5 (up (by decide) hl), fun hl => h.p6 (up (by decide) hl), fun hl => h.p7 (up (by decide) hl), fun hl => h.p8 (up (by decide) hl), fun hl => h.p9 (up (by decide) hl), fun hl => h.p10 (up (by decide) hl), fun hl => h.p11 (up (by decide) hl), fun hl => h.p12 (up (by decide) hl), fun _ => hv, fun hl => h.p14 (up (by decide) hl), fun hl => h.p15 (up (by decide) hl), fun hl => h.p16 (up (by decide) hl), fun hl => h.p17 (up (by decide) hl), fun h1 h2 => h.q0 (up (by decide) h1) (up (by decide) h2), fun h1 h2 => h.q1 (up (by decide) h1) (up (by decide) h2), fun h1 h2 => h.q2 (up (by decide) h1) (up (by decide) h2), fun hl => ⟨keepL (h.p18 (up (by decide) hl)).1, (h.p18 (up (by decide) hl)).2⟩, fun hl => ⟨keepL (h.p19 (up (by decide) hl)).1, (h.p19 (up (by decide) hl)).2⟩, fun hl => ⟨keepL (h.p20 (up (by decide) hl)).1, (h.p20 (up (by decide) hl)).2⟩⟩
theorem Mv.l14 {KB : World → Prop} {N g : Nat} {a b c d e f x y X1 Y1 X2 Y2 P0 Q0 P1 Q1 P2 Q2 : Int} {L : Array Bool} {w : World} {s6 s7 s8 s16 s17 s18 s19 s20 s21 s22 s23 s24 s25 s26 s27 s28 s29 s30 : Value} {b6 b7 b8 : Nat} {v : Value} (h : Mv KB N g a b c d e f x y X1 Y1 X2 Y2 P0 Q0 P1 Q1 P2 Q2 L w s6 s7 s8 s16 s17 s18 s19 s20 s21 s22 s23 s24 s25 s26 s27 s28 s29 s30 b6 b7 b8) (hv : v = aggP P2 Q2) :
  Mv KB N g a b c d e f x y X1 Y1 X2 Y2 P0 Q0 P1 Q1 P2 Q2 (L.setIfInBounds 14 true) w s6 s7 s8 s16 s17 s18 s19 s20 s21 s22 s23 s24 s25 s26 s27 s28 s29 v b6 b7 b8 :=
 ⟨by simpa using h.sz, h.kb, fun hl => h.p0 (up (by decide) hl), fun hl => h.p1 (up (by decide) hl), fun hl => h.p2 (up (by decide) hl), fun hl => h.p3 (up (by decide) hl), fun hl => h.p4 (up (by decide) hl), fun hl => h.p5 (up (by decide) hl), fun hl => h.p6 (up (by decide) hl), fun hl => h.p7 (up (by decide) hl), fun hl => h.p8 (up (by decide) hl), fun hl => h.p9 (up (by decide) hl), fun hl => h.p10 (up (by decide) hl), fun hl => h.p11 (up (by decide) hl), fun hl => h.p12 (up (by decide) hl), fun hl => h.p13 (up (by decide) hl), fun _ => hv, fun hl => h.p15 (up (by decide) hl), fun hl => h.p16 (up (by decide) hl), fun hl => h.p17 (up (by decide) hl), fun h1 h2 => h.q0 (up (by decide) h1) (up (by decide) h2), fun h1 h2 => h.q1 (up (by decide) h1) (up (by decide) h2), fun h1 h2 => h.q2 (up (by decide) h1) (up (by decide) h2), fun hl => ⟨keepL (h.p18 (up (by decide) hl)).1, (h.p18 (up (by decide) hl)).2⟩, fun hl => ⟨keepL (h.p19 (up (by decide) hl)).1, (h.p19 (up (by decide) hl)).2⟩, fun hl => ⟨keepL (h.p20 (up (by decide) hl)).1, (h.p20 (up (by decide) hl)).2⟩⟩
theorem Mv.l15 {KB : World → Prop} {N g : Nat} {a b c d e f x y X1 Y1 X2 Y2 P0 Q0 P1 Q1 P2 Q2 : Int} {L : Array Bool} {w : World} {s6 s7 s8 s16 s17 s18 s19 s20 s21 s22 s23 s24 s25 s26 s27 s28 s29 s30 : Value} {b6 b7 b8 : Nat} (h : Mv KB N g a b c d e f x y X1 Y1 X2 Y2 P0 Q0 P1 Q1 P2 Q2 L w s6 s7 s8 s16 s17 s18 s19 s20 s21 s22 s23 s24 s25 s26 s27 s28 s29 s30 b6 b7 b8) (hn : N ≤ w.heap.size) (hk : KB (w.alloc (.cells #[.int .i64 0, .int .i64 0] 98))) (hno : L.getD 18 false = false) :
  Mv KB N g a b c d e f x y X1 Y1 X2 Y2 P0 Q0 P1 Q1 P2 Q2 (L.setIfInBounds 15 true) (w.alloc (.cells #[.int .i64 0, .int .i64 0] 98)) (.pointer (some ⟨w.heap.size, 0, none⟩)) s7 s8 s16 s17 s18 s19 s20 s21 s22 s23 s24 s25 s26 s27 s28 s29 s30 w.heap.size b7 b8 := by
 have h2 := h.below (below_new w _) hk
 refine ⟨by simpa using h.sz, hk, fun hl => h.p0 (up (by decide) hl), fun hl => h.p1 (up (by decide) hl), fun hl => h.p2 (up (by decide) hl), fun hl => h.p3 (up (by decide) hl), fun hl => h.p4 (up (by decide) hl), fun hl => h.p5 (up (by decide) hl), fun hl => h.p6 (up (by decide) hl), fun hl => h.p7 (up (by decide) hl), fun hl => h.p8 (up (by decide) hl), fun hl => h.p9 (up (by decide) hl), fun hl => h.p10 (up (by decide) hl), fun hl => h.p11 (up (by decide) hl), fun hl => h.p12 (up (by decide) hl), fun hl => h.p13 (up (by decide) hl), fun hl => h.p14 (up (by decide) hl), fun _ => ⟨rfl, hn, 0, 0, heap_alloc_new w _⟩, fun hl => h2.p16 (up (by decide) hl), fun hl => h2.p17 (up (by decide) hl), ?_, ?_, ?_, fun hl => absurd ((hno).symm.trans (up (by decide) hl)) (by decide), fun hl => ⟨keepL (h2.p19 (up (by decide) hl)).1, (h2.p19 (up (by decide) hl)).2⟩, fun hl => ⟨keepL (h2.p20 (up (by decide) hl)).1, (h2.p20 (up (by decide) hl)).2⟩⟩
 ·intro _ h3 he
  obtain ⟨_, _, _, _, h4⟩ := h.p16 (up (by decide) h3)
  have := blk_lt h4
  omega
 ·intro _ h3 he
  obtain ⟨_, _, _, _, h4⟩ := h.p17 (up (by decide) h3)
  have := blk_lt h4
  omega
 ·exact fun h3 h4 => h.q2 (up (by decide) h3) (up (by decide) h4)
theorem Mv.l16 {KB : World → Prop} {N g : Nat} {a b c d e f x y X1 Y1 X2 Y2 P0 Q0 P1 Q1 P2 Q2 : Int} {L : Array Bool} {w : World} {s6 s7 s8 s16 s17 s18 s19 s20 s21 s22 s23 s24 s25 s26 s27 s28 s29 s30 : Value} {b6 b7 b8 : Nat} (h : Mv KB N g a b c d e f x y X1 Y1 X2 Y2 P0 Q0 P1 Q1 P2 Q2 L w s6 s7 s8 s16 s17 s18 s19 s20 s21 s22 s23 s24 s25 s26 s27 s28 s29 s30 b6 b7 b8) (hn : N ≤ w.heap.size) (hk : KB (w.alloc (.cells #[.int .i64 0, .int .i64 0] 98))) (hno : L.getD 19 false = false) :
  Mv KB N g a b c d e f x y X1 Y1 X2 Y2 P0 Q0 P1 Q1 P2 Q2 (L.setIfInBounds 16 true) (w.alloc (.cells #[.int .i64 0, .int .i64 0] 98)) s6 (.pointer (some ⟨w.heap.size, 0, none⟩)) s8 s16 s17 s18 s19 s20 s21 s22 s23 s24 s25 s26 s27 s28 s29 s30 b6 w.heap.size b8 := by
 have h2 := h.below (below_new w _) hk
 refine ⟨by simpa using h.sz, hk, fun hl => h.p0 (up (by decide) hl), fun hl => h.p1 (up (by decide) hl), fun hl => h.p2 (up (by decide) hl), fun hl => h.p3 (up (by decide) hl), fun hl => h.p4 (up (by decide) hl), fun hl => h.p5 (up (by decide) hl), fun hl => h.p6 (up (by decide) hl), fun hl => h.p7 (up (by decide) hl), fun hl => h.p8 (up (by decide) hl), fun hl => h.p9 (up (by decide) hl), fun hl => h.p10 (up (by decide) hl), fun hl => h.p11 (up (by decide) hl), fun hl => h.p12 (up (by decide) hl), fun hl => h.p13 (up (by decide) hl), fun hl => h.p14 (up (by decide) hl), fun hl => h2.p15 (up (by decide) hl), fun _ => ⟨rfl, hn, 0, 0, heap_alloc_new w _⟩, fun hl => h2.p17 (up (by decide) hl), ?_, ?_, ?_, fun hl => ⟨keepL (h2.p18 (up (by decide) hl)).1, (h2.p18 (up (by decide) hl)).2⟩, fun hl => absurd ((hno).symm.trans (up (by decide) hl)) (by decide), fun hl => ⟨keepL (h2.p20 (up (by decide) hl)).1, (h2.p20 (up (by decide) hl)).2⟩⟩
 ·intro h3 _ he
  obtain ⟨_, _, _, _, h4⟩ := h.p15 (up (by decide) h3)
  have := blk_lt h4
  omega
 ·exact fun h3 h4 => h.q1 (up (by decide) h3) (up (by decide) h4)
 ·intro _ h3 he
  obtain ⟨_, _, _, _, h4⟩ := h.p17 (up (by decide) h3)
  have := blk_lt h4
  omega
theorem Mv.l17 {KB : World → Prop} {N g : Nat} {a b c d e f x y X1 Y1 X2 Y2 P0 Q0 P1 Q1 P2 Q2 : Int} {L : Array Bool} {w : World} {s6 s7 s8 s16 s17 s18 s19 s20 s21 s22 s23 s24 s25 s26 s27 s28 s29 s30 : Value} {b6 b7 b8 : Nat} (h : Mv KB N g a b c d e f x y X1 Y1 X2 Y2 P0 Q0 P1 Q1 P2 Q2 L w s6 s7 s8 s16 s17 s18 s19 s20 s21 s22 s23 s24 s25 s26 s27 s28 s29 s30 b6 b7 b8) (hn : N ≤ w.heap.size) (hk : KB (w.alloc (.cells #[.int .i64 0, .int .i64 0] 98))) (hno : L.getD 20 false = false) :
  Mv KB N g a b c d e f x y X1 Y1 X2 Y2 P0 Q0 P1 Q1 P2 Q2 (L.setIfInBounds 17 true) (w.alloc (.cells #[.int .i64 0, .int .i64 0] 98)) s6 s7 (.pointer (some ⟨w.heap.size, 0, none⟩)) s16 s17 s18 s19 s20 s21 s22 s23 s24 s25 s26 s27 s28 s29 s30 b6 b7 w.heap.size := by
 have h2 := h.below (below_new w _) hk
 refine ⟨by simpa using h.sz, hk, fun hl => h.p0 (up (by decide) hl), fun hl => h.p1 (up (by decide) hl), fun hl => h.p2 (up (by decide) hl), fun hl => h.p3 (up (by decide) hl), fun hl => h.p4 (up (by decide) hl), fun hl => h.p5 (up (by decide) hl), fun hl => h.p6 (up (by decide) hl), fun hl => h.p7 (up (by decide) hl), fun hl => h.p8 (up (by decide) hl), fun hl => h.p9 (up (by decide) hl), fun hl => h.p10 (up (by decide) hl), fun hl => h.p11 (up (by decide) hl), fun hl => h.p12 (up (by decide) hl), fun hl => h.p13 (up (by decide) hl), fun hl => h.p14 (up (by decide) hl), fun hl => h2.p15 (up (by decide) hl), fun hl => h2.p16 (up (by decide) hl), fun _ => ⟨rfl, hn, 0, 0, heap_alloc_new w _⟩, ?_, ?_, ?_, fun hl => ⟨keepL (h2.p18 (up (by decide) hl)).1, (h2.p18 (up (by decide) hl)).2⟩, fun hl => ⟨keepL (h2.p19 (up (by decide) hl)).1, (h2.p19 (up (by decide) hl)).2⟩, fun hl => absurd ((hno).symm.trans (up (by decide) hl)) (by decide)⟩
 ·exact fun h3 h4 => h.q0 (up (by decide) h3) (up (by decide) h4)
 ·intro h3 _ he
  obtain ⟨_, _, _, _, h4⟩ := h.p15 (up (by decide) h3)
  have := blk_lt h4
  omega
 ·intro h3 _ he
  obtain ⟨_, _, _, _, h4⟩ := h.p16 (up (by decide) h3)
  have := blk_lt h4
  omega
theorem Mv.l18 {KB : World → Prop} {N g : Nat} {a b c d e f x y X1 Y1 X2 Y2 P0 Q0 P1 Q1 P2 Q2 : Int} {L : Array Bool} {w : World} {s6 s7 s8 s16 s17 s18 s19 s20 s21 s22 s23 s24 s25 s26 s27 s28 s29 s30 : Value} {b6 b7 b8 : Nat} (h : Mv KB N g a b c d e f x y X1 Y1 X2 Y2 P0 Q0 P1 Q1 P2 Q2 L w s6 s7 s8 s16 s17 s18 s19 s20 s21 s22 s23 s24 s25 s26 s27 s28 s29 s30 b6 b7 b8) (hd : L.getD 15 false = true) (hk : KB ((w.setCell ⟨b6, 0, none⟩ (.int .i64 P0)).setCell ⟨b6, 1, none⟩ (.int .i64 Q0))) :
  Mv KB N g a b c d e f x y X1 Y1 X2 Y2 P0 Q0 P1 Q1 P2 Q2 (L.setIfInBounds 18 true) ((w.setCell ⟨b6, 0, none⟩ (.int .i64 P0)).setCell ⟨b6, 1, none⟩ (.int .i64 Q0)) s6 s7 s8 s16 s17 s18 s19 s20 s21 s22 s23 s24 s25 s26 s27 s28 s29 s30 b6 b7 b8 := by
 obtain ⟨e1, e2, u, v, e3⟩ := h.p15 hd
 refine ⟨by simpa using h.sz, hk, fun hl => h.p0 (up (by decide) hl), fun hl => h.p1 (up (by decide) hl), fun hl => h.p2 (up (by decide) hl), fun hl => h.p3 (up (by decide) hl), fun hl => h.p4 (up (by decide) hl), fun hl => h.p5 (up (by decide) hl), fun hl => h.p6 (up (by decide) hl), fun hl => h.p7 (up (by decide) hl), fun hl => h.p8 (up (by decide) hl), fun hl => h.p9 (up (by decide) hl), fun hl => h.p10 (up (by decide) hl), fun hl => h.p11 (up (by decide) hl), fun hl => h.p12 (up (by decide) hl), fun hl => h.p13 (up (by decide) hl), fun hl => h.p14 (up (by decide) hl), fun _ => ⟨e1, e2, _, _, set2_blk e3 _ _⟩, ?_, ?_, fun h1 h2 => h.q0 (up (by decide) h1) (up (by decide) h2), fun h1 h2 => h.q1 (up (by decide) h1) (up (by decide) h2), fun h1 h2 => h.q2 (up (by decide) h1) (up (by decide) h2), fun _ => ⟨keepL hd, set2_blk e3 _ _⟩, ?_, ?_⟩
 ·intro hl
  have hl2 := up (by decide) hl
  obtain ⟨f1, f2, u2, v2, f3⟩ := h.p16 hl2
  exact ⟨f1, f2, u2, v2, farb2 f3 (Ne.symm (h.q0 hd hl2)) _ _⟩
 ·intro hl
  have hl2 := up (by decide) hl
  obtain ⟨f1, f2, u2, v2, f3⟩ := h.p17 hl2
  exact ⟨f1, f2, u2, v2, farb2 f3 (Ne.symm (h.q1 hd hl2)) _ _⟩
 ·intro hl
  obtain ⟨hl2, f3⟩ := h.p19 (up (by decide) hl)
  exact ⟨keepL hl2, farb2 f3 (Ne.symm (h.q0 hd hl2)) _ _⟩
 ·intro hl
  obtain ⟨hl2, f3⟩ := h.p20 (up (by decide) hl)
  exact ⟨keepL hl2, farb2 f3 (Ne.symm (h.q1 hd hl2)) _ _⟩
theorem Mv.l19 {KB : World → Prop} {N g : Nat} {a b c d e f x y X1 Y1 X2 Y2 P0 Q0 P1 Q1 P2 Q2 : Int} {L : Array Bool} {w : World} {s6 s7 s8 s16 s17 s18 s19 s20 s21 s22 s23 s24 s25 s26 s27 s28 s29 s30 : Value} {b6 b7 b8 : Nat} (h : Mv KB N g a b c d e f x y X1 Y1 X2 Y2 P0 Q0 P1 Q1 P2 Q2 L w s6 s7 s8 s16 s17 s18 s19 s20 s21 s22 s23 s24 s25 s26 s27 s28 s29 s30 b6 b7 b8) (hd : L.getD 16 false = true) (hk : KB ((w.setCell ⟨b7, 0, none⟩ (.int .i64 P1)).setCell ⟨b7, 1, none⟩ (.int .i64 Q1))) :
  Mv KB N g a b c d e f x y X1 Y1 X2 Y2 P0 Q0 P1 Q1 P2 Q2 (L.setIfInBounds 19 true) ((w.setCell ⟨b7, 0, none⟩ (.int .i64 P1)).setCell ⟨b7, 1, none⟩ (.int .i64 Q1)) s6 s7 s8 s16 s17 s18 s19 s20 s21 s22 s23 s24 s25 s26 s27 s28 s29 s30 b6 b7 b8 := by
 obtain ⟨e1, e2, u, v, e3⟩ := h.p16 hd
 refine ⟨by simpa using h.sz, hk, fun hl => h.p0 (up (by decide) hl), fun hl => h.p1 (up (by decide) hl), fun hl => h.p2 (up (by decide) hl), fun hl => h.p3 (up (by decide) hl), fun hl => h.p4 (up (by decide) hl), fun hl => h.p5 (up (by decide) hl), fun hl => h.p6 (up (by decide) hl), fun hl => h.p7 (up (by decide) hl), fun hl => h.p8 (up (by decide) hl), fun hl => h.p9 (up (by decide) hl), fun hl => h.p10 (up (by decide) hl), fun hl => h.p11 (up (by decide) hl), fun hl => h.p12 (up (by decide) hl), fun hl => h.p13 (up (by decide) hl), fun hl => h.p14 (up (by decide) hl), ?_, fun _ => ⟨e1, e2, _, _, set2_blk e3 _ _⟩, ?_, fun h1 h2 => h.q0 (up (by decide) h1) (up (by decide) h2), fun h1 h2 => h.q1 (up (by decide) h1) (up (by decide) h2), fun h1 h2 => h.q2 (up (by decide) h1) (up (by decide) h2), ?_, fun _ => ⟨keepL hd, set2_blk e3 _ _⟩, ?_⟩
 ·intro hl
  have hl2 := up (by decide) hl
  obtain ⟨f1, f2, u2, v2, f3⟩ := h.p15 hl2
  exact ⟨f1, f2, u2, v2, farb2 f3 (h.q0 hl2 hd) _ _⟩
 ·intro hl
  have hl2 := up (by decide) hl
  obtain ⟨f1, f2, u2, v2, f3⟩ := h.p17 hl2
  exact ⟨f1, f2, u2, v2, farb2 f3 (Ne.symm (h.q2 hd hl2)) _ _⟩
 ·intro hl
  obtain ⟨hl2, f3⟩ := h.p18 (up (by decide) hl)
  exact ⟨keepL hl2, farb2 f3 (h.q0 hl2 hd) _ _⟩
 ·intro hl
  obtain ⟨hl2, f3⟩ := h.p20 (up (by decide) hl)
  exact ⟨keepL hl2, farb2 f3 (Ne.symm (h.q2 hd hl2)) _ _⟩
theorem Mv.l20 {KB : World → Prop} {N g : Nat} {a b c d e f x y X1 Y1 X2 Y2 P0 Q0 P1 Q1 P2 Q2 : Int} {L : Array Bool} {w : World} {s6 s7 s8 s16 s17 s18 s19 s20 s21 s22 s23 s24 s25 s26 s27 s28 s29 s30 : Value} {b6 b7 b8 : Nat} (h : Mv KB N g a b c d e f x y X1 Y1 X2 Y2 P0 Q0 P1 Q1 P2 Q2 L w s6 s7 s8 s16 s17 s18 s19 s20 s21 s22 s23 s24 s25 s26 s27 s28 s29 s30 b6 b7 b8) (hd : L.getD 17 false = true) (hk : KB ((w.setCell ⟨b8, 0, none⟩ (.int .i64 P2)).setCell ⟨b8, 1, none⟩ (.int .i64 Q2))) :
  Mv KB N g a b c d e f x y X1 Y1 X2 Y2 P0 Q0 P1 Q1 P2 Q2 (L.setIfInBounds 20 true) ((w.setCell ⟨b8, 0, none⟩ (.int .i64 P2)).setCell ⟨b8, 1, none⟩ (.int .i64 Q2)) s6 s7 s8 s16 s17 s18 s19 s20 s21 s22 s23 s24 s25 s26 s27 s28 s29 s30 b6 b7 b8 := by
 obtain ⟨e1, e2, u, v, e3⟩ := h.p17 hd
 refine ⟨by simpa using h.sz, hk, fun hl => h.p0 (up (by decide) hl), fun hl => h.p1 (up (by decide) hl), fun hl => h.p2 (up (by decide) hl), fun hl => h.p3 (up (by decide) hl), fun hl => h.p4 (up (by decide) hl), fun hl => h.p5 (up (by decide) hl), fun hl => h.p6 (up (by decide) hl), fun hl => h.p7 (up (by decide) hl), fun hl => h.p8 (up (by decide) hl), fun hl => h.p9 (up (by decide) hl), fun hl => h.p10 (up (by decide) hl), fun hl => h.p11 (up (by decide) hl), fun hl => h.p12 (up (by decide) hl), fun hl => h.p13 (up (by decide) hl), fun hl => h.p14 (up (by decide) hl), ?_, ?_, fun _ => ⟨e1, e2, _, _, set2_blk e3 _ _⟩, fun h1 h2 => h.q0 (up (by decide) h1) (up (by decide) h2), fun h1 h2 => h.q1 (up (by decide) h1) (up (by decide) h2), fun h1 h2 => h.q2 (up (by decide) h1) (up (by decide) h2), ?_, ?_, fun _ => ⟨keepL hd, set2_blk e3 _ _⟩⟩
 ·intro hl
  have hl2 := up (by decide) hl
  obtain ⟨f1, f2, u2, v2, f3⟩ := h.p15 hl2
  exact ⟨f1, f2, u2, v2, farb2 f3 (h.q1 hl2 hd) _ _⟩
 ·intro hl
  have hl2 := up (by decide) hl
  obtain ⟨f1, f2, u2, v2, f3⟩ := h.p16 hl2
  exact ⟨f1, f2, u2, v2, farb2 f3 (h.q2 hl2 hd) _ _⟩
 ·intro hl
  obtain ⟨hl2, f3⟩ := h.p18 (up (by decide) hl)
  exact ⟨keepL hl2, farb2 f3 (h.q1 hl2 hd) _ _⟩
 ·intro hl
  obtain ⟨hl2, f3⟩ := h.p19 (up (by decide) hl)
  exact ⟨keepL hl2, farb2 f3 (h.q2 hl2 hd) _ _⟩
open Go.RowKit
def CornAt (X Y n P1 Q1 P2 Q2 : Int) : Prop := ((cornX X n = P1 ∧ cornY Y n = Q1) ∧ (cornX X (n + 1) = P2 ∧ cornY Y (n + 1) = Q2)) ∨ ((cornX X n = P2 ∧ cornY Y n = Q2) ∧ (cornX X (n + 1) = P1 ∧ cornY Y (n + 1) = Q1))
theorem cx0 (X : Int) : cornX X 0 = 2 * X := by simp [cornX, stepX]; omega
theorem cx1 (X : Int) : cornX X 1 = 2 * X + 2 := by simp [cornX, stepX]; omega
theorem cx2 (X : Int) : cornX X 2 = 2 * X + 2 := by simp [cornX, stepX]; omega
theorem cx3 (X : Int) : cornX X 3 = 2 * X := by simp [cornX, stepX]; omega
theorem cx4 (X : Int) : cornX X 4 = 2 * X := by simp [cornX, stepX]; omega
theorem cy0 (X : Int) : cornY X 0 = 2 * X := by simp [cornY, stepY]; omega
theorem cy1 (X : Int) : cornY X 1 = 2 * X := by simp [cornY, stepY]; omega
theorem cy2 (X : Int) : cornY X 2 = 2 * X + 2 := by simp [cornY, stepY]; omega
theorem cy3 (X : Int) : cornY X 3 = 2 * X + 2 := by simp [cornY, stepY]; omega
theorem cy4 (X : Int) : cornY X 4 = 2 * X := by simp [cornY, stepY]; omega
theorem at_law {X Y P0 Q0 P1 Q1 P2 Q2 K dx dy : Int} (h0 : 2 * X + 1 = P0) (h1 : 2 * Y + 1 = Q0) (hx : P1 + P2 - 2 * P0 = dx) (hy : Q1 + Q2 - 2 * Q0 = dy)
  (hk : (K = 0 ∧ dx = 0 ∧ dy = -2 ∧ (P1 - P0 = -1 ∨ P1 - P0 = 1) ∧ Q1 - Q0 = -1) ∨ (K = 1 ∧ dx = 2 ∧ dy = 0 ∧ (Q1 - Q0 = -1 ∨ Q1 - Q0 = 1) ∧ P1 - P0 = 1) ∨ (K = 2 ∧ dx = 0 ∧ dy = 2 ∧ (P1 - P0 = -1 ∨ P1 - P0 = 1) ∧ Q1 - Q0 = 1) ∨ (K = 3 ∧ dx = -2 ∧ dy = 0 ∧ (Q1 - Q0 = -1 ∨ Q1 - Q0 = 1) ∧ P1 - P0 = -1)) :
  ofK dx dy = K ∧ ∀ n : Int, 0 ≤ n → n ≤ 3 → (CornAt X Y n P1 Q1 P2 Q2 ↔ n = K) := by
 constructor
 ·rcases hk with ⟨rfl, rfl, rfl, _⟩ | ⟨rfl, rfl, rfl, _⟩ | ⟨rfl, rfl, rfl, _⟩ | ⟨rfl, rfl, rfl, _⟩ <;> rfl
 ·intro n n1 n2
  have hn : n = 0 ∨ n = 1 ∨ n = 2 ∨ n = 3 := by omega
  unfold CornAt
  rcases hn with rfl | rfl | rfl | rfl
  ·simp only [Int.zero_add, cx0, cx1, cy0, cy1]
   omega
  ·rw [show (1 : Int) + 1 = 2 from rfl]
   simp only [cx2, cx1, cy2, cy1]
   omega
  ·rw [show (2 : Int) + 1 = 3 from rfl]
   simp only [cx2, cx3, cy2, cy3]
   omega
  ·rw [show (3 : Int) + 1 = 4 from rfl]
   simp only [cx4, cx3, cy4, cy3]
   omega
set_option maxHeartbeats 6400000 in
theorem mv_law {a b c d e f x y k P0 Q0 P1 Q1 P2 Q2 : Int} (hP0 : P0 = a * (2 * x + 1) + b * (2 * y + 1) + e) (hQ0 : Q0 = c * (2 * x + 1) + d * (2 * y + 1) + f)
  (hP1 : P1 = a * cornX x k + b * cornY y k + e) (hQ1 : Q1 = c * cornX x k + d * cornY y k + f) (hP2 : P2 = a * cornX x (k + 1) + b * cornY y (k + 1) + e) (hQ2 : Q2 = c * cornX x (k + 1) + d * cornY y (k + 1) + f)
  (h : turnedB a b c d = true) (he : e % 2 = 0) (hf : f % 2 = 0) (k1 : 0 ≤ k) (k2 : k ≤ 3) (x1 : -1000000 ≤ x) (x2 : x ≤ 1000000) (y1 : -1000000 ≤ y) (y2 : y ≤ 1000000) (e1 : -1000000 ≤ e) (e2 : e ≤ 1000000) (f1 : -1000000 ≤ f) (f2 : f ≤ 1000000) :
  (2 * (P0 / 2) + 1 = P0 ∧ 2 * (Q0 / 2) + 1 = Q0 ∧ (-3100000 ≤ P0 ∧ P0 ≤ 3100000) ∧ (-3100000 ≤ Q0 ∧ Q0 ≤ 3100000)) ∧ (0 ≤ ofK (P1 + P2 - 2 * P0) (Q1 + Q2 - 2 * Q0) ∧ ofK (P1 + P2 - 2 * P0) (Q1 + Q2 - 2 * Q0) ≤ 3) ∧
   ∀ n : Int, 0 ≤ n → n ≤ 3 → (CornAt (P0 / 2) (Q0 / 2) n P1 Q1 P2 Q2 ↔ n = ofK (P1 + P2 - 2 * P0) (Q1 + Q2 - 2 * Q0)) := by
 have hk : k = 0 ∨ k = 1 ∨ k = 2 ∨ k = 3 := by omega
 rcases turned_ways h with ⟨rfl, rfl, rfl, rfl⟩ | ⟨rfl, rfl, rfl, rfl⟩ | ⟨rfl, rfl, rfl, rfl⟩ | ⟨rfl, rfl, rfl, rfl⟩ | ⟨rfl, rfl, rfl, rfl⟩ | ⟨rfl, rfl, rfl, rfl⟩ | ⟨rfl, rfl, rfl, rfl⟩ | ⟨rfl, rfl, rfl, rfl⟩
 ·rcases hk with rfl | rfl | rfl | rfl
  ·rw [Int.zero_add] at hP2 hQ2
   simp only [cx0, cy0] at hP1 hQ1
   simp only [cx1, cy1] at hP2 hQ2
   obtain ⟨hK, hn⟩ := at_law (X := P0 / 2) (Y := Q0 / 2) (P0 := P0) (Q0 := Q0) (P1 := P1) (Q1 := Q1) (P2 := P2) (Q2 := Q2) (K := 0) (dx := 0) (dy := -2) (by omega) (by omega) (by omega) (by omega) (by omega)
   rw [show P1 + P2 - 2 * P0 = 0 by omega, show Q1 + Q2 - 2 * Q0 = -2 by omega, hK]
   exact ⟨⟨by omega, by omega, by omega, by omega⟩, by omega, hn⟩
  ·rw [show (1 : Int) + 1 = 2 from rfl] at hP2 hQ2
   simp only [cx1, cy1] at hP1 hQ1
   simp only [cx2, cy2] at hP2 hQ2
   obtain ⟨hK, hn⟩ := at_law (X := P0 / 2) (Y := Q0 / 2) (P0 := P0) (Q0 := Q0) (P1 := P1) (Q1 := Q1) (P2 := P2) (Q2 := Q2) (K := 1) (dx := 2) (dy := 0) (by omega) (by omega) (by omega) (by omega) (by omega)
   rw [show P1 + P2 - 2 * P0 = 2 by omega, show Q1 + Q2 - 2 * Q0 = 0 by omega, hK]
   exact ⟨⟨by omega, by omega, by omega, by omega⟩, by omega, hn⟩
  ·rw [show (2 : Int) + 1 = 3 from rfl] at hP2 hQ2
   simp only [cx2, cy2] at hP1 hQ1
   simp only [cx3, cy3] at hP2 hQ2
   obtain ⟨hK, hn⟩ := at_law (X := P0 / 2) (Y := Q0 / 2) (P0 := P0) (Q0 := Q0) (P1 := P1) (Q1 := Q1) (P2 := P2) (Q2 := Q2) (K := 2) (dx := 0) (dy := 2) (by omega) (by omega) (by omega) (by omega) (by omega)
   rw [show P1 + P2 - 2 * P0 = 0 by omega, show Q1 + Q2 - 2 * Q0 = 2 by omega, hK]
   exact ⟨⟨by omega, by omega, by omega, by omega⟩, by omega, hn⟩
  ·rw [show (3 : Int) + 1 = 4 from rfl] at hP2 hQ2
   simp only [cx3, cy3] at hP1 hQ1
   simp only [cx4, cy4] at hP2 hQ2
   obtain ⟨hK, hn⟩ := at_law (X := P0 / 2) (Y := Q0 / 2) (P0 := P0) (Q0 := Q0) (P1 := P1) (Q1 := Q1) (P2 := P2) (Q2 := Q2) (K := 3) (dx := -2) (dy := 0) (by omega) (by omega) (by omega) (by omega) (by omega)
   rw [show P1 + P2 - 2 * P0 = -2 by omega, show Q1 + Q2 - 2 * Q0 = 0 by omega, hK]
   exact ⟨⟨by omega, by omega, by omega, by omega⟩, by omega, hn⟩
 ·rcases hk with rfl | rfl | rfl | rfl
  ·rw [Int.zero_add] at hP2 hQ2
   simp only [cx0, cy0] at hP1 hQ1
   simp only [cx1, cy1] at hP2 hQ2
   obtain ⟨hK, hn⟩ := at_law (X := P0 / 2) (Y := Q0 / 2) (P0 := P0) (Q0 := Q0) (P1 := P1) (Q1 := Q1) (P2 := P2) (Q2 := Q2) (K := 0) (dx := 0) (dy := -2) (by omega) (by omega) (by omega) (by omega) (by omega)
   rw [show P1 + P2 - 2 * P0 = 0 by omega, show Q1 + Q2 - 2 * Q0 = -2 by omega, hK]
   exact ⟨⟨by omega, by omega, by omega, by omega⟩, by omega, hn⟩
  ·rw [show (1 : Int) + 1 = 2 from rfl] at hP2 hQ2
   simp only [cx1, cy1] at hP1 hQ1
   simp only [cx2, cy2] at hP2 hQ2
   obtain ⟨hK, hn⟩ := at_law (X := P0 / 2) (Y := Q0 / 2) (P0 := P0) (Q0 := Q0) (P1 := P1) (Q1 := Q1) (P2 := P2) (Q2 := Q2) (K := 3) (dx := -2) (dy := 0) (by omega) (by omega) (by omega) (by omega) (by omega)
   rw [show P1 + P2 - 2 * P0 = -2 by omega, show Q1 + Q2 - 2 * Q0 = 0 by omega, hK]
   exact ⟨⟨by omega, by omega, by omega, by omega⟩, by omega, hn⟩
  ·rw [show (2 : Int) + 1 = 3 from rfl] at hP2 hQ2
   simp only [cx2, cy2] at hP1 hQ1
   simp only [cx3, cy3] at hP2 hQ2
   obtain ⟨hK, hn⟩ := at_law (X := P0 / 2) (Y := Q0 / 2) (P0 := P0) (Q0 := Q0) (P1 := P1) (Q1 := Q1) (P2 := P2) (Q2 := Q2) (K := 2) (dx := 0) (dy := 2) (by omega) (by omega) (by omega) (by omega) (by omega)
   rw [show P1 + P2 - 2 * P0 = 0 by omega, show Q1 + Q2 - 2 * Q0 = 2 by omega, hK]
   exact ⟨⟨by omega, by omega, by omega, by omega⟩, by omega, hn⟩
  ·rw [show (3 : Int) + 1 = 4 from rfl] at hP2 hQ2
   simp only [cx3, cy3] at hP1 hQ1
   simp only [cx4, cy4] at hP2 hQ2
   obtain ⟨hK, hn⟩ := at_law (X := P0 / 2) (Y := Q0 / 2) (P0 := P0) (Q0 := Q0) (P1 := P1) (Q1 := Q1) (P2 := P2) (Q2 := Q2) (K := 1) (dx := 2) (dy := 0) (by omega) (by omega) (by omega) (by omega) (by omega)
   rw [show P1 + P2 - 2 * P0 = 2 by omega, show Q1 + Q2 - 2 * Q0 = 0 by omega, hK]
   exact ⟨⟨by omega, by omega, by omega, by omega⟩, by omega, hn⟩
 ·rcases hk with rfl | rfl | rfl | rfl
  ·rw [Int.zero_add] at hP2 hQ2
   simp only [cx0, cy0] at hP1 hQ1
   simp only [cx1, cy1] at hP2 hQ2
   obtain ⟨hK, hn⟩ := at_law (X := P0 / 2) (Y := Q0 / 2) (P0 := P0) (Q0 := Q0) (P1 := P1) (Q1 := Q1) (P2 := P2) (Q2 := Q2) (K := 2) (dx := 0) (dy := 2) (by omega) (by omega) (by omega) (by omega) (by omega)
   rw [show P1 + P2 - 2 * P0 = 0 by omega, show Q1 + Q2 - 2 * Q0 = 2 by omega, hK]
   exact ⟨⟨by omega, by omega, by omega, by omega⟩, by omega, hn⟩
  ·rw [show (1 : Int) + 1 = 2 from rfl] at hP2 hQ2
   simp only [cx1, cy1] at hP1 hQ1
   simp only [cx2, cy2] at hP2 hQ2
   obtain ⟨hK, hn⟩ := at_law (X := P0 / 2) (Y := Q0 / 2) (P0 := P0) (Q0 := Q0) (P1 := P1) (Q1 := Q1) (P2 := P2) (Q2 := Q2) (K := 1) (dx := 2) (dy := 0) (by omega) (by omega) (by omega) (by omega) (by omega)
   rw [show P1 + P2 - 2 * P0 = 2 by omega, show Q1 + Q2 - 2 * Q0 = 0 by omega, hK]
   exact ⟨⟨by omega, by omega, by omega, by omega⟩, by omega, hn⟩
  ·rw [show (2 : Int) + 1 = 3 from rfl] at hP2 hQ2
   simp only [cx2, cy2] at hP1 hQ1
   simp only [cx3, cy3] at hP2 hQ2
   obtain ⟨hK, hn⟩ := at_law (X := P0 / 2) (Y := Q0 / 2) (P0 := P0) (Q0 := Q0) (P1 := P1) (Q1 := Q1) (P2 := P2) (Q2 := Q2) (K := 0) (dx := 0) (dy := -2) (by omega) (by omega) (by omega) (by omega) (by omega)
   rw [show P1 + P2 - 2 * P0 = 0 by omega, show Q1 + Q2 - 2 * Q0 = -2 by omega, hK]
   exact ⟨⟨by omega, by omega, by omega, by omega⟩, by omega, hn⟩
  ·rw [show (3 : Int) + 1 = 4 from rfl] at hP2 hQ2
   simp only [cx3, cy3] at hP1 hQ1
   simp only [cx4, cy4] at hP2 hQ2
   obtain ⟨hK, hn⟩ := at_law (X := P0 / 2) (Y := Q0 / 2) (P0 := P0) (Q0 := Q0) (P1 := P1) (Q1 := Q1) (P2 := P2) (Q2 := Q2) (K := 3) (dx := -2) (dy := 0) (by omega) (by omega) (by omega) (by omega) (by omega)
   rw [show P1 + P2 - 2 * P0 = -2 by omega, show Q1 + Q2 - 2 * Q0 = 0 by omega, hK]
   exact ⟨⟨by omega, by omega, by omega, by omega⟩, by omega, hn⟩
 ·rcases hk with rfl | rfl | rfl | rfl
  ·rw [Int.zero_add] at hP2 hQ2
   simp only [cx0, cy0] at hP1 hQ1
   simp only [cx1, cy1] at hP2 hQ2
   obtain ⟨hK, hn⟩ := at_law (X := P0 / 2) (Y := Q0 / 2) (P0 := P0) (Q0 := Q0) (P1 := P1) (Q1 := Q1) (P2 := P2) (Q2 := Q2) (K := 2) (dx := 0) (dy := 2) (by omega) (by omega) (by omega) (by omega) (by omega)
   rw [show P1 + P2 - 2 * P0 = 0 by omega, show Q1 + Q2 - 2 * Q0 = 2 by omega, hK]
   exact ⟨⟨by omega, by omega, by omega, by omega⟩, by omega, hn⟩
  ·rw [show (1 : Int) + 1 = 2 from rfl] at hP2 hQ2
   simp only [cx1, cy1] at hP1 hQ1
   simp only [cx2, cy2] at hP2 hQ2
   obtain ⟨hK, hn⟩ := at_law (X := P0 / 2) (Y := Q0 / 2) (P0 := P0) (Q0 := Q0) (P1 := P1) (Q1 := Q1) (P2 := P2) (Q2 := Q2) (K := 3) (dx := -2) (dy := 0) (by omega) (by omega) (by omega) (by omega) (by omega)
   rw [show P1 + P2 - 2 * P0 = -2 by omega, show Q1 + Q2 - 2 * Q0 = 0 by omega, hK]
   exact ⟨⟨by omega, by omega, by omega, by omega⟩, by omega, hn⟩
  ·rw [show (2 : Int) + 1 = 3 from rfl] at hP2 hQ2
   simp only [cx2, cy2] at hP1 hQ1
   simp only [cx3, cy3] at hP2 hQ2
   obtain ⟨hK, hn⟩ := at_law (X := P0 / 2) (Y := Q0 / 2) (P0 := P0) (Q0 := Q0) (P1 := P1) (Q1 := Q1) (P2 := P2) (Q2 := Q2) (K := 0) (dx := 0) (dy := -2) (by omega) (by omega) (by omega) (by omega) (by omega)
   rw [show P1 + P2 - 2 * P0 = 0 by omega, show Q1 + Q2 - 2 * Q0 = -2 by omega, hK]
   exact ⟨⟨by omega, by omega, by omega, by omega⟩, by omega, hn⟩
  ·rw [show (3 : Int) + 1 = 4 from rfl] at hP2 hQ2
   simp only [cx3, cy3] at hP1 hQ1
   simp only [cx4, cy4] at hP2 hQ2
   obtain ⟨hK, hn⟩ := at_law (X := P0 / 2) (Y := Q0 / 2) (P0 := P0) (Q0 := Q0) (P1 := P1) (Q1 := Q1) (P2 := P2) (Q2 := Q2) (K := 1) (dx := 2) (dy := 0) (by omega) (by omega) (by omega) (by omega) (by omega)
   rw [show P1 + P2 - 2 * P0 = 2 by omega, show Q1 + Q2 - 2 * Q0 = 0 by omega, hK]
   exact ⟨⟨by omega, by omega, by omega, by omega⟩, by omega, hn⟩
 ·rcases hk with rfl | rfl | rfl | rfl
  ·rw [Int.zero_add] at hP2 hQ2
   simp only [cx0, cy0] at hP1 hQ1
   simp only [cx1, cy1] at hP2 hQ2
   obtain ⟨hK, hn⟩ := at_law (X := P0 / 2) (Y := Q0 / 2) (P0 := P0) (Q0 := Q0) (P1 := P1) (Q1 := Q1) (P2 := P2) (Q2 := Q2) (K := 3) (dx := -2) (dy := 0) (by omega) (by omega) (by omega) (by omega) (by omega)
   rw [show P1 + P2 - 2 * P0 = -2 by omega, show Q1 + Q2 - 2 * Q0 = 0 by omega, hK]
   exact ⟨⟨by omega, by omega, by omega, by omega⟩, by omega, hn⟩
  ·rw [show (1 : Int) + 1 = 2 from rfl] at hP2 hQ2
   simp only [cx1, cy1] at hP1 hQ1
   simp only [cx2, cy2] at hP2 hQ2
   obtain ⟨hK, hn⟩ := at_law (X := P0 / 2) (Y := Q0 / 2) (P0 := P0) (Q0 := Q0) (P1 := P1) (Q1 := Q1) (P2 := P2) (Q2 := Q2) (K := 2) (dx := 0) (dy := 2) (by omega) (by omega) (by omega) (by omega) (by omega)
   rw [show P1 + P2 - 2 * P0 = 0 by omega, show Q1 + Q2 - 2 * Q0 = 2 by omega, hK]
   exact ⟨⟨by omega, by omega, by omega, by omega⟩, by omega, hn⟩
  ·rw [show (2 : Int) + 1 = 3 from rfl] at hP2 hQ2
   simp only [cx2, cy2] at hP1 hQ1
   simp only [cx3, cy3] at hP2 hQ2
   obtain ⟨hK, hn⟩ := at_law (X := P0 / 2) (Y := Q0 / 2) (P0 := P0) (Q0 := Q0) (P1 := P1) (Q1 := Q1) (P2 := P2) (Q2 := Q2) (K := 1) (dx := 2) (dy := 0) (by omega) (by omega) (by omega) (by omega) (by omega)
   rw [show P1 + P2 - 2 * P0 = 2 by omega, show Q1 + Q2 - 2 * Q0 = 0 by omega, hK]
   exact ⟨⟨by omega, by omega, by omega, by omega⟩, by omega, hn⟩
  ·rw [show (3 : Int) + 1 = 4 from rfl] at hP2 hQ2
   simp only [cx3, cy3] at hP1 hQ1
   simp only [cx4, cy4] at hP2 hQ2
   obtain ⟨hK, hn⟩ := at_law (X := P0 / 2) (Y := Q0 / 2) (P0 := P0) (Q0 := Q0) (P1 := P1) (Q1 := Q1) (P2 := P2) (Q2 := Q2) (K := 0) (dx := 0) (dy := -2) (by omega) (by omega) (by omega) (by omega) (by omega)
   rw [show P1 + P2 - 2 * P0 = 0 by omega, show Q1 + Q2 - 2 * Q0 = -2 by omega, hK]
   exact ⟨⟨by omega, by omega, by omega, by omega⟩, by omega, hn⟩
 ·rcases hk with rfl | rfl | rfl | rfl
  ·rw [Int.zero_add] at hP2 hQ2
   simp only [cx0, cy0] at hP1 hQ1
   simp only [cx1, cy1] at hP2 hQ2
   obtain ⟨hK, hn⟩ := at_law (X := P0 / 2) (Y := Q0 / 2) (P0 := P0) (Q0 := Q0) (P1 := P1) (Q1 := Q1) (P2 := P2) (Q2 := Q2) (K := 1) (dx := 2) (dy := 0) (by omega) (by omega) (by omega) (by omega) (by omega)
   rw [show P1 + P2 - 2 * P0 = 2 by omega, show Q1 + Q2 - 2 * Q0 = 0 by omega, hK]
   exact ⟨⟨by omega, by omega, by omega, by omega⟩, by omega, hn⟩
  ·rw [show (1 : Int) + 1 = 2 from rfl] at hP2 hQ2
   simp only [cx1, cy1] at hP1 hQ1
   simp only [cx2, cy2] at hP2 hQ2
   obtain ⟨hK, hn⟩ := at_law (X := P0 / 2) (Y := Q0 / 2) (P0 := P0) (Q0 := Q0) (P1 := P1) (Q1 := Q1) (P2 := P2) (Q2 := Q2) (K := 2) (dx := 0) (dy := 2) (by omega) (by omega) (by omega) (by omega) (by omega)
   rw [show P1 + P2 - 2 * P0 = 0 by omega, show Q1 + Q2 - 2 * Q0 = 2 by omega, hK]
   exact ⟨⟨by omega, by omega, by omega, by omega⟩, by omega, hn⟩
  ·rw [show (2 : Int) + 1 = 3 from rfl] at hP2 hQ2
   simp only [cx2, cy2] at hP1 hQ1
   simp only [cx3, cy3] at hP2 hQ2
   obtain ⟨hK, hn⟩ := at_law (X := P0 / 2) (Y := Q0 / 2) (P0 := P0) (Q0 := Q0) (P1 := P1) (Q1 := Q1) (P2 := P2) (Q2 := Q2) (K := 3) (dx := -2) (dy := 0) (by omega) (by omega) (by omega) (by omega) (by omega)
   rw [show P1 + P2 - 2 * P0 = -2 by omega, show Q1 + Q2 - 2 * Q0 = 0 by omega, hK]
   exact ⟨⟨by omega, by omega, by omega, by omega⟩, by omega, hn⟩
  ·rw [show (3 : Int) + 1 = 4 from rfl] at hP2 hQ2
   simp only [cx3, cy3] at hP1 hQ1
   simp only [cx4, cy4] at hP2 hQ2
   obtain ⟨hK, hn⟩ := at_law (X := P0 / 2) (Y := Q0 / 2) (P0 := P0) (Q0 := Q0) (P1 := P1) (Q1 := Q1) (P2 := P2) (Q2 := Q2) (K := 0) (dx := 0) (dy := -2) (by omega) (by omega) (by omega) (by omega) (by omega)
   rw [show P1 + P2 - 2 * P0 = 0 by omega, show Q1 + Q2 - 2 * Q0 = -2 by omega, hK]
   exact ⟨⟨by omega, by omega, by omega, by omega⟩, by omega, hn⟩
 ·rcases hk with rfl | rfl | rfl | rfl
  ·rw [Int.zero_add] at hP2 hQ2
   simp only [cx0, cy0] at hP1 hQ1
   simp only [cx1, cy1] at hP2 hQ2
   obtain ⟨hK, hn⟩ := at_law (X := P0 / 2) (Y := Q0 / 2) (P0 := P0) (Q0 := Q0) (P1 := P1) (Q1 := Q1) (P2 := P2) (Q2 := Q2) (K := 3) (dx := -2) (dy := 0) (by omega) (by omega) (by omega) (by omega) (by omega)
   rw [show P1 + P2 - 2 * P0 = -2 by omega, show Q1 + Q2 - 2 * Q0 = 0 by omega, hK]
   exact ⟨⟨by omega, by omega, by omega, by omega⟩, by omega, hn⟩
  ·rw [show (1 : Int) + 1 = 2 from rfl] at hP2 hQ2
   simp only [cx1, cy1] at hP1 hQ1
   simp only [cx2, cy2] at hP2 hQ2
   obtain ⟨hK, hn⟩ := at_law (X := P0 / 2) (Y := Q0 / 2) (P0 := P0) (Q0 := Q0) (P1 := P1) (Q1 := Q1) (P2 := P2) (Q2 := Q2) (K := 0) (dx := 0) (dy := -2) (by omega) (by omega) (by omega) (by omega) (by omega)
   rw [show P1 + P2 - 2 * P0 = 0 by omega, show Q1 + Q2 - 2 * Q0 = -2 by omega, hK]
   exact ⟨⟨by omega, by omega, by omega, by omega⟩, by omega, hn⟩
  ·rw [show (2 : Int) + 1 = 3 from rfl] at hP2 hQ2
   simp only [cx2, cy2] at hP1 hQ1
   simp only [cx3, cy3] at hP2 hQ2
   obtain ⟨hK, hn⟩ := at_law (X := P0 / 2) (Y := Q0 / 2) (P0 := P0) (Q0 := Q0) (P1 := P1) (Q1 := Q1) (P2 := P2) (Q2 := Q2) (K := 1) (dx := 2) (dy := 0) (by omega) (by omega) (by omega) (by omega) (by omega)
   rw [show P1 + P2 - 2 * P0 = 2 by omega, show Q1 + Q2 - 2 * Q0 = 0 by omega, hK]
   exact ⟨⟨by omega, by omega, by omega, by omega⟩, by omega, hn⟩
  ·rw [show (3 : Int) + 1 = 4 from rfl] at hP2 hQ2
   simp only [cx3, cy3] at hP1 hQ1
   simp only [cx4, cy4] at hP2 hQ2
   obtain ⟨hK, hn⟩ := at_law (X := P0 / 2) (Y := Q0 / 2) (P0 := P0) (Q0 := Q0) (P1 := P1) (Q1 := Q1) (P2 := P2) (Q2 := Q2) (K := 2) (dx := 0) (dy := 2) (by omega) (by omega) (by omega) (by omega) (by omega)
   rw [show P1 + P2 - 2 * P0 = 0 by omega, show Q1 + Q2 - 2 * Q0 = 2 by omega, hK]
   exact ⟨⟨by omega, by omega, by omega, by omega⟩, by omega, hn⟩
 ·rcases hk with rfl | rfl | rfl | rfl
  ·rw [Int.zero_add] at hP2 hQ2
   simp only [cx0, cy0] at hP1 hQ1
   simp only [cx1, cy1] at hP2 hQ2
   obtain ⟨hK, hn⟩ := at_law (X := P0 / 2) (Y := Q0 / 2) (P0 := P0) (Q0 := Q0) (P1 := P1) (Q1 := Q1) (P2 := P2) (Q2 := Q2) (K := 1) (dx := 2) (dy := 0) (by omega) (by omega) (by omega) (by omega) (by omega)
   rw [show P1 + P2 - 2 * P0 = 2 by omega, show Q1 + Q2 - 2 * Q0 = 0 by omega, hK]
   exact ⟨⟨by omega, by omega, by omega, by omega⟩, by omega, hn⟩
  ·rw [show (1 : Int) + 1 = 2 from rfl] at hP2 hQ2
   simp only [cx1, cy1] at hP1 hQ1
   simp only [cx2, cy2] at hP2 hQ2
   obtain ⟨hK, hn⟩ := at_law (X := P0 / 2) (Y := Q0 / 2) (P0 := P0) (Q0 := Q0) (P1 := P1) (Q1 := Q1) (P2 := P2) (Q2 := Q2) (K := 0) (dx := 0) (dy := -2) (by omega) (by omega) (by omega) (by omega) (by omega)
   rw [show P1 + P2 - 2 * P0 = 0 by omega, show Q1 + Q2 - 2 * Q0 = -2 by omega, hK]
   exact ⟨⟨by omega, by omega, by omega, by omega⟩, by omega, hn⟩
  ·rw [show (2 : Int) + 1 = 3 from rfl] at hP2 hQ2
   simp only [cx2, cy2] at hP1 hQ1
   simp only [cx3, cy3] at hP2 hQ2
   obtain ⟨hK, hn⟩ := at_law (X := P0 / 2) (Y := Q0 / 2) (P0 := P0) (Q0 := Q0) (P1 := P1) (Q1 := Q1) (P2 := P2) (Q2 := Q2) (K := 3) (dx := -2) (dy := 0) (by omega) (by omega) (by omega) (by omega) (by omega)
   rw [show P1 + P2 - 2 * P0 = -2 by omega, show Q1 + Q2 - 2 * Q0 = 0 by omega, hK]
   exact ⟨⟨by omega, by omega, by omega, by omega⟩, by omega, hn⟩
  ·rw [show (3 : Int) + 1 = 4 from rfl] at hP2 hQ2
   simp only [cx3, cy3] at hP1 hQ1
   simp only [cx4, cy4] at hP2 hQ2
   obtain ⟨hK, hn⟩ := at_law (X := P0 / 2) (Y := Q0 / 2) (P0 := P0) (Q0 := Q0) (P1 := P1) (Q1 := Q1) (P2 := P2) (Q2 := Q2) (K := 2) (dx := 0) (dy := 2) (by omega) (by omega) (by omega) (by omega) (by omega)
   rw [show P1 + P2 - 2 * P0 = 0 by omega, show Q1 + Q2 - 2 * Q0 = 2 by omega, hK]
   exact ⟨⟨by omega, by omega, by omega, by omega⟩, by omega, hn⟩
open Go.RowKit
set_option maxRecDepth 100000 in
set_option maxHeartbeats 6400000 in
theorem moveOf_any (a b c d e f x y k : Int) (w : World) (ha : Sm a b c d e f) (ht : turnedB a b c d = true) (he0 : e % 2 = 0) (hf0 : f % 2 = 0) (x1 : -1000000 ≤ x) (x2 : x ≤ 1000000) (y1 : -1000000 ≤ y) (y2 : y ≤ 1000000) (k1 : 0 ≤ k) (k2 : k ≤ 3) :
  Calls Tryz.prog 21 #[.agg #[.int .i64 a, .int .i64 b, .int .i64 c, .int .i64 d, .int .i64 e, .int .i64 f], aggT x y k] w fun e' w' => e' = .returned (aggT3 (moveT a b c d e f x y k)) ∧ Below w.heap.size w w' := by
 have bX1 := cornX_bd k x1 x2
 have bX2 := cornX_bd (k + 1) x1 x2
 have bY1 := cornY_bd k y1 y2
 have bY2 := cornY_bd (k + 1) y1 y2
 obtain ⟨X1, hX1⟩ : ∃ a, a = cornX x k := ⟨_, rfl⟩
 obtain ⟨Y1, hY1⟩ : ∃ a, a = cornY y k := ⟨_, rfl⟩
 obtain ⟨X2, hX2⟩ : ∃ a, a = cornX x (k + 1) := ⟨_, rfl⟩
 obtain ⟨Y2, hY2⟩ : ∃ a, a = cornY y (k + 1) := ⟨_, rfl⟩
 rw [← hX1] at bX1
 rw [← hX2] at bX2
 rw [← hY1] at bY1
 rw [← hY2] at bY2
 have HX1 := Lib.hid hX1
 clear hX1
 have HY1 := Lib.hid hY1
 clear hY1
 have HX2 := Lib.hid hX2
 clear hX2
 have HY2 := Lib.hid hY2
 clear hY2
 have oa0 := prod_bd (a := a) (x := 2 * x + 1) (M := 2000002) ha.a1 ha.a2 (by omega) (by omega)
 have ob0 := prod_bd (a := b) (x := 2 * y + 1) (M := 2000002) ha.b1 ha.b2 (by omega) (by omega)
 have oc0 := prod_bd (a := c) (x := 2 * x + 1) (M := 2000002) ha.c1 ha.c2 (by omega) (by omega)
 have od0 := prod_bd (a := d) (x := 2 * y + 1) (M := 2000002) ha.d1 ha.d2 (by omega) (by omega)
 obtain ⟨P0, hP0⟩ : ∃ z, z = a * (2 * x + 1) + b * (2 * y + 1) + e := ⟨_, rfl⟩
 obtain ⟨Q0, hQ0⟩ : ∃ z, z = c * (2 * x + 1) + d * (2 * y + 1) + f := ⟨_, rfl⟩
 have oa1 := prod_bd (a := a) (x := X1) (M := 2000002) ha.a1 ha.a2 (by omega) (by omega)
 have ob1 := prod_bd (a := b) (x := Y1) (M := 2000002) ha.b1 ha.b2 (by omega) (by omega)
 have oc1 := prod_bd (a := c) (x := X1) (M := 2000002) ha.c1 ha.c2 (by omega) (by omega)
 have od1 := prod_bd (a := d) (x := Y1) (M := 2000002) ha.d1 ha.d2 (by omega) (by omega)
 obtain ⟨P1, hP1⟩ : ∃ z, z = a * X1 + b * Y1 + e := ⟨_, rfl⟩
 obtain ⟨Q1, hQ1⟩ : ∃ z, z = c * X1 + d * Y1 + f := ⟨_, rfl⟩
 have oa2 := prod_bd (a := a) (x := X2) (M := 2000002) ha.a1 ha.a2 (by omega) (by omega)
 have ob2 := prod_bd (a := b) (x := Y2) (M := 2000002) ha.b1 ha.b2 (by omega) (by omega)
 have oc2 := prod_bd (a := c) (x := X2) (M := 2000002) ha.c1 ha.c2 (by omega) (by omega)
 have od2 := prod_bd (a := d) (x := Y2) (M := 2000002) ha.d1 ha.d2 (by omega) (by omega)
 obtain ⟨P2, hP2⟩ : ∃ z, z = a * X2 + b * Y2 + e := ⟨_, rfl⟩
 obtain ⟨Q2, hQ2⟩ : ∃ z, z = c * X2 + d * Y2 + f := ⟨_, rfl⟩
 have he1 := ha.e1
 have he2 := ha.e2
 have hf1 := ha.f1
 have hf2 := ha.f2
 have A0 : Hid (∀ w : World, Calls Tryz.prog 51 #[.agg #[.int .i64 a, .int .i64 b, .int .i64 c, .int .i64 d, .int .i64 e, .int .i64 f], aggP (2 * x + 1) (2 * y + 1)] w fun e' w' => e' = .returned (aggP P0 Q0) ∧ Below w.heap.size w w') := Lib.hid (fun w => by
  have h := pointOf_any a b c d e f (2 * x + 1) (2 * y + 1) w (by omega) (by omega) (by omega) (by omega) (by omega) (by omega)
  rw [← hP0, ← hQ0] at h
  exact h)
 have A1 : Hid (∀ w : World, Calls Tryz.prog 51 #[.agg #[.int .i64 a, .int .i64 b, .int .i64 c, .int .i64 d, .int .i64 e, .int .i64 f], aggP X1 Y1] w fun e' w' => e' = .returned (aggP P1 Q1) ∧ Below w.heap.size w w') := Lib.hid (fun w => by
  have h := pointOf_any a b c d e f X1 Y1 w (by omega) (by omega) (by omega) (by omega) (by omega) (by omega)
  rw [← hP1, ← hQ1] at h
  exact h)
 have A2 : Hid (∀ w : World, Calls Tryz.prog 51 #[.agg #[.int .i64 a, .int .i64 b, .int .i64 c, .int .i64 d, .int .i64 e, .int .i64 f], aggP X2 Y2] w fun e' w' => e' = .returned (aggP P2 Q2) ∧ Below w.heap.size w w') := Lib.hid (fun w => by
  have h := pointOf_any a b c d e f X2 Y2 w (by omega) (by omega) (by omega) (by omega) (by omega) (by omega)
  rw [← hP2, ← hQ2] at h
  exact h)
 have hlaw := mv_law (x := x) (y := y) (k := k) (P0 := P0) (Q0 := Q0) (P1 := P1) (Q1 := Q1) (P2 := P2) (Q2 := Q2) hP0 hQ0 (by rw [hP1, HX1.out, HY1.out]) (by rw [hQ1, HX1.out, HY1.out]) (by rw [hP2, HX2.out, HY2.out]) (by rw [hQ2, HX2.out, HY2.out]) ht he0 hf0 k1 k2 x1 x2 y1 y2 he1 he2 hf1 hf2
 obtain ⟨T, hT⟩ : ∃ T, T = moveT a b c d e f x y k := ⟨_, rfl⟩
 rw [← hT]
 have hT2 : (P0 / 2, Q0 / 2, ofK (P1 + P2 - 2 * P0) (Q1 + Q2 - 2 * Q0)) = T := by
  rw [hT, hP0, hP1, hP2, hQ0, hQ1, hQ2, HX1.out, HX2.out, HY1.out, HY2.out]
  rfl
 obtain ⟨X, hX⟩ : ∃ X, X = P0 / 2 := ⟨_, rfl⟩
 obtain ⟨Y, hY⟩ : ∃ Y, Y = Q0 / 2 := ⟨_, rfl⟩
 obtain ⟨K, hK⟩ : ∃ K, K = ofK (P1 + P2 - 2 * P0) (Q1 + Q2 - 2 * Q0) := ⟨_, rfl⟩
 rw [← hX, ← hY, ← hK] at hlaw hT2
 obtain ⟨⟨l1, l2, ⟨l3, l4⟩, l5, l6⟩, ⟨l7, l8⟩, hcn⟩ := hlaw
 subst hT2
 clear hT hX hY hK
 have HCN := Lib.hid hcn
 clear hcn
 have tX : (P0 - 1).tdiv 2 = X := by
  rw [← l1]
  rw [show 2 * X + 1 - 1 = 2 * X by omega]
  exact Int.mul_tdiv_cancel_left X (by decide)
 have tY : (Q0 - 1).tdiv 2 = Y := by
  rw [← l2]
  rw [show 2 * Y + 1 - 1 = 2 * Y by omega]
  exact Int.mul_tdiv_cancel_left Y (by decide)
 have g1 : IntKind.i64.wrap (P0 - 1) = P0 - 1 := IntWalk.i64_in _ (by omega)
 have g2 : IntKind.i64.wrap (Q0 - 1) = Q0 - 1 := IntWalk.i64_in _ (by omega)
 have g3 : IntKind.i64.wrap X = X := IntWalk.i64_in _ (by omega)
 have g4 : IntKind.i64.wrap Y = Y := IntWalk.i64_in _ (by omega)
 have G := Lib.hid (And.intro l1 (And.intro l2 (And.intro tX (And.intro tY (And.intro g1 (And.intro g2 (And.intro g3 g4)))))))
 clear l1 l2 tX tY g1 g2 g3 g4 ht he0 hf0
 have HP0 := Lib.hid hP0
 have HQ0 := Lib.hid hQ0
 clear hP0 hQ0
 have HP1 := Lib.hid hP1
 have HQ1 := Lib.hid hQ1
 clear hP1 hQ1
 have HP2 := Lib.hid hP2
 have HQ2 := Lib.hid hQ2
 clear hP2 hQ2
 clear he1 he2 hf1 hf2 bX1 bX2 bY1 bY2 ha oa0 oa1 oa2 ob0 ob1 ob2 oc0 oc1 oc2 od0 od1 od2
 go_enter Tryz.func21, Tryz.ntmps21
 go_wp2_with fail
 refine (cornersOf_any x y k _ x1 x2 y1 y2 k1 k2).mono ?_
 rintro e w1 ⟨⟨g, he, hg⟩, hb1⟩
 subst he
 rw [← HX1.out, ← HY1.out, ← HX2.out, ← HY2.out] at hg
 have k_m_1 : w1.heap[w.heap.size]? = some (.cells #[.int .i64 a, .int .i64 b, .int .i64 c, .int .i64 d, .int .i64 e, .int .i64 f] 63 (0, 0)) := blk_below (blk_alloc (blk_alloc (new_blk (.cells #[.int .i64 a, .int .i64 b, .int .i64 c, .int .i64 d, .int .i64 e, .int .i64 f] 63) (by first | rfl | (simp; done) | (simp; omega))) _) _) hb1 (by first | (simp; done) | (simp; omega))
 have k_t_1 : w1.heap[w.heap.size + 1]? = some (.cells #[.int .i64 x, .int .i64 y, .int .i64 k] 44 (0, 0)) := blk_below (blk_alloc (new_blk (.cells #[.int .i64 x, .int .i64 y, .int .i64 k] 44) (by first | rfl | (simp; done) | (simp; omega))) _) hb1 (by first | (simp; done) | (simp; omega))
 have k_r_1 : w1.heap[w.heap.size + 1 + 1]? = some (.cells #[.int .i64 0, .int .i64 0, .int .i64 0] 44 (0, 0)) := blk_below (new_blk (.cells #[.int .i64 0, .int .i64 0, .int .i64 0] 44) (by first | rfl | (simp; done) | (simp; omega))) hb1 (by first | (simp; done) | (simp; omega))
 have hw_1 : Below w.heap.size w w1 := stay_b (ba (ba (ba (Below.refl _ _) _) _) _) hb1
 clear hb1
 have c_m_0 := cell_of_blk k_m_1 0
 have c_m_1 := cell_of_blk k_m_1 1
 have c_m_2 := cell_of_blk k_m_1 2
 have c_m_3 := cell_of_blk k_m_1 3
 have c_m_4 := cell_of_blk k_m_1 4
 have c_m_5 := cell_of_blk k_m_1 5
 simp only [List.getElem?_toArray, List.getElem?_cons_zero, List.getElem?_cons_succ] at c_m_0 c_m_1 c_m_2 c_m_3 c_m_4 c_m_5
 have f_m := frozen_of_blk k_m_1
 have s_m := blk_lt k_m_1
 have c_t_0 := cell_of_blk k_t_1 0
 have c_t_1 := cell_of_blk k_t_1 1
 have c_t_2 := cell_of_blk k_t_1 2
 simp only [List.getElem?_toArray, List.getElem?_cons_zero, List.getElem?_cons_succ] at c_t_0 c_t_1 c_t_2
 have f_t := frozen_of_blk k_t_1
 have s_t := blk_lt k_t_1
 have c_r_0 := cell_of_blk k_r_1 0
 have c_r_1 := cell_of_blk k_r_1 1
 have c_r_2 := cell_of_blk k_r_1 2
 simp only [List.getElem?_toArray, List.getElem?_cons_zero, List.getElem?_cons_succ] at c_r_0 c_r_1 c_r_2
 have f_r := frozen_of_blk k_r_1
 have s_r := blk_lt k_r_1
 go_wp2_with fail
 have hsm : w.heap.size < w1.heap.size := s_m
 have hsr : w.heap.size + 1 + 1 < w1.heap.size := s_r
 have hsg : g < w1.heap.size := blk_lt hg
 clear c_m_0 c_m_1 c_m_2 c_m_3 c_m_4 c_m_5 f_m s_m c_t_0 c_t_1 c_t_2 f_t s_t c_r_0 c_r_1 c_r_2 f_r s_r
 have hkb : (Kb w w.heap.size (w.heap.size + 1 + 1) g w1.heap.size (.cells #[.int .i64 a, .int .i64 b, .int .i64 c, .int .i64 d, .int .i64 e, .int .i64 f] 63 (0, 0)) (.cells #[.int .i64 0, .int .i64 0, .int .i64 0] 44 (0, 0)) (.cells #[.int .i64 (2 * x + 1), .int .i64 (2 * y + 1), .int .i64 X1, .int .i64 Y1, .int .i64 X2, .int .i64 Y2] 98 (0, 0))) w1.drew := ⟨k_m_1, k_r_1, hg, hw_1.drew, Nat.le_refl _⟩
 have HKB := Lib.hid hkb
 clear hkb k_m_1 k_t_1 k_r_1 hg hw_1
 refine wp_region_inv (fun L a0 w0 => ∃ (s6 s7 s8 s16 s17 s18 s19 s20 s21 s22 s23 s24 s25 s26 s27 s28 s29 s30 : Value) (b6 b7 b8 : Nat), a0 = { tmps := #[.agg #[.int .i64 a, .int .i64 b, .int .i64 c, .int .i64 d, .int .i64 e, .int .i64 f], aggT x y k, .pointer (some ⟨w.heap.size, 0, none⟩), .pointer (some ⟨w.heap.size + 1, 0, none⟩), .pointer (some ⟨w.heap.size + 1 + 1, 0, none⟩), .slice (some ⟨g, 0, none⟩) 3 3, s6, s7, s8, undef, undef, undef, undef, undef, aggT x y k, .slice (some ⟨g, 0, none⟩) 3 3, s16, s17, s18, s19, s20, s21, s22, s23, s24, s25, s26, s27, s28, s29, s30, undef, undef, undef, undef, undef, undef, undef, undef, undef, undef, undef, undef, undef, undef, undef, undef, undef, undef, undef, undef, undef, undef, undef, undef, undef, undef, undef, undef, undef, undef, undef, undef, undef, undef, undef, undef, undef, undef, undef, undef, undef, undef, undef, undef, undef, undef, undef, undef, undef, undef, undef, undef, undef, undef, undef, undef, undef, undef, undef, undef, undef, undef], defers := [] } ∧ Mv (Kb w w.heap.size (w.heap.size + 1 + 1) g w1.heap.size (.cells #[.int .i64 a, .int .i64 b, .int .i64 c, .int .i64 d, .int .i64 e, .int .i64 f] 63 (0, 0)) (.cells #[.int .i64 0, .int .i64 0, .int .i64 0] 44 (0, 0)) (.cells #[.int .i64 (2 * x + 1), .int .i64 (2 * y + 1), .int .i64 X1, .int .i64 Y1, .int .i64 X2, .int .i64 Y2] 98 (0, 0))) w1.heap.size g a b c d e f x y X1 Y1 X2 Y2 P0 Q0 P1 Q1 P2 Q2 L w0 s6 s7 s8 s16 s17 s18 s19 s20 s21 s22 s23 s24 s25 s26 s27 s28 s29 s30 b6 b7 b8) (by kernel_rfl) ?_ ?_ ?_
 ·exact ⟨undef, undef, undef, undef, undef, undef, undef, undef, undef, undef, undef, undef, undef, undef, undef, undef, undef, undef, 0, 0, 0, rfl, ⟨by simp, HKB.out, fun h => absurd h (by decide), fun h => absurd h (by decide), fun h => absurd h (by decide), fun h => absurd h (by decide), fun h => absurd h (by decide), fun h => absurd h (by decide), fun h => absurd h (by decide), fun h => absurd h (by decide), fun h => absurd h (by decide), fun h => absurd h (by decide), fun h => absurd h (by decide), fun h => absurd h (by decide), fun h => absurd h (by decide), fun h => absurd h (by decide), fun h => absurd h (by decide), fun h => absurd h (by decide), fun h => absurd h (by decide), fun h => absurd h (by decide), fun h => absurd h (by decide), fun h => absurd h (by decide), fun h => absurd h (by decide), fun h => absurd h (by decide), fun h => absurd h (by decide), fun h => absurd h (by decide)⟩⟩
 ·intro L a0 w0 i hI hr
  obtain ⟨s6, s7, s8, s16, s17, s18, s19, s20, s21, s22, s23, s24, s25, s26, s27, s28, s29, s30, b6, b7, b8, rfl, hv⟩ := hI
  have hi : i < 21 := ready_lt hr
  have HV := Lib.hid hv
  clear hv
  have hc : i = 0 ∨ i = 1 ∨ i = 2 ∨ i = 3 ∨ i = 4 ∨ i = 5 ∨ i = 6 ∨ i = 7 ∨ i = 8 ∨ i = 9 ∨ i = 10 ∨ i = 11 ∨ i = 12 ∨ i = 13 ∨ i = 14 ∨ i = 15 ∨ i = 16 ∨ i = 17 ∨ i = 18 ∨ i = 19 ∨ i = 20 := by omega
  clear hi
  rcases hc with rfl | rfl | rfl | rfl | rfl | rfl | rfl | rfl | rfl | rfl | rfl | rfl | rfl | rfl | rfl | rfl | rfl | rfl | rfl | rfl | rfl
  ·clear hr
   have c0 := cell_of_blk HV.out.kb.m 0
   have c1 := cell_of_blk HV.out.kb.m 1
   have c2 := cell_of_blk HV.out.kb.m 2
   have c3 := cell_of_blk HV.out.kb.m 3
   have c4 := cell_of_blk HV.out.kb.m 4
   have c5 := cell_of_blk HV.out.kb.m 5
   simp only [List.getElem?_toArray, List.getElem?_cons_zero, List.getElem?_cons_succ] at c0 c1 c2 c3 c4 c5
   refine wpOp_step rfl (fun K hK => ?_)
   go_simp
   refine hK _ _ ?_
   exact ⟨_, _, _, _, _, _, _, _, _, _, _, _, _, _, _, _, _, _, b6, b7, b8, rfl, Mv.l0 HV.out rfl⟩
  ·clear hr
   refine wpOp_step rfl (fun K hK => ?_)
   go_simp
   refine hK _ _ ?_
   exact ⟨_, _, _, _, _, _, _, _, _, _, _, _, _, _, _, _, _, _, b6, b7, b8, rfl, Mv.l1 HV.out rfl⟩
  ·have d1 := ready_dep hr (k := 1) (by kernel_rfl)
   clear hr
   obtain rfl := HV.out.p1 d1
   refine wpOp_step rfl (fun K hK => ?_)
   go_simp
   refine hK _ _ ?_
   exact ⟨_, _, _, _, _, _, _, _, _, _, _, _, _, _, _, _, _, _, b6, b7, b8, rfl, Mv.l2 HV.out rfl⟩
  ·have d2 := ready_dep hr (k := 2) (by kernel_rfl)
   clear hr
   obtain rfl := HV.out.p2 d2
   have c0 := cell_of_blk HV.out.kb.c 0
   have c1 := cell_of_blk HV.out.kb.c 1
   have c2 := cell_of_blk HV.out.kb.c 2
   have c3 := cell_of_blk HV.out.kb.c 3
   have c4 := cell_of_blk HV.out.kb.c 4
   have c5 := cell_of_blk HV.out.kb.c 5
   simp only [List.getElem?_toArray, List.getElem?_cons_zero, List.getElem?_cons_succ] at c0 c1 c2 c3 c4 c5
   refine wpOp_step rfl (fun K hK => ?_)
   go_simp
   refine hK _ _ ?_
   exact ⟨_, _, _, _, _, _, _, _, _, _, _, _, _, _, _, _, _, _, b6, b7, b8, rfl, Mv.l3 HV.out rfl⟩
  ·have d0 := ready_dep hr (k := 0) (by kernel_rfl)
   have d3 := ready_dep hr (k := 3) (by kernel_rfl)
   clear hr
   obtain rfl := HV.out.p0 d0
   obtain rfl := HV.out.p3 d3
   refine wpOp_step rfl (fun K hK => ?_)
   go_wp2_with fail
   refine (A0.out _).mono ?_
   rintro e' wc ⟨he, hbc⟩
   subst he
   refine hK _ _ ?_
   exact ⟨_, _, _, _, _, _, _, _, _, _, _, _, _, _, _, _, _, _, b6, b7, b8, rfl, Mv.l4 (HV.out.below hbc (HV.out.kb.below hbc)) rfl⟩
  ·clear hr
   have c0 := cell_of_blk HV.out.kb.m 0
   have c1 := cell_of_blk HV.out.kb.m 1
   have c2 := cell_of_blk HV.out.kb.m 2
   have c3 := cell_of_blk HV.out.kb.m 3
   have c4 := cell_of_blk HV.out.kb.m 4
   have c5 := cell_of_blk HV.out.kb.m 5
   simp only [List.getElem?_toArray, List.getElem?_cons_zero, List.getElem?_cons_succ] at c0 c1 c2 c3 c4 c5
   refine wpOp_step rfl (fun K hK => ?_)
   go_simp
   refine hK _ _ ?_
   exact ⟨_, _, _, _, _, _, _, _, _, _, _, _, _, _, _, _, _, _, b6, b7, b8, rfl, Mv.l5 HV.out rfl⟩
  ·clear hr
   refine wpOp_step rfl (fun K hK => ?_)
   go_simp
   refine hK _ _ ?_
   exact ⟨_, _, _, _, _, _, _, _, _, _, _, _, _, _, _, _, _, _, b6, b7, b8, rfl, Mv.l6 HV.out rfl⟩
  ·have d6 := ready_dep hr (k := 6) (by kernel_rfl)
   clear hr
   obtain rfl := HV.out.p6 d6
   refine wpOp_step rfl (fun K hK => ?_)
   go_simp
   refine hK _ _ ?_
   exact ⟨_, _, _, _, _, _, _, _, _, _, _, _, _, _, _, _, _, _, b6, b7, b8, rfl, Mv.l7 HV.out rfl⟩
  ·have d7 := ready_dep hr (k := 7) (by kernel_rfl)
   clear hr
   obtain rfl := HV.out.p7 d7
   have c0 := cell_of_blk HV.out.kb.c 0
   have c1 := cell_of_blk HV.out.kb.c 1
   have c2 := cell_of_blk HV.out.kb.c 2
   have c3 := cell_of_blk HV.out.kb.c 3
   have c4 := cell_of_blk HV.out.kb.c 4
   have c5 := cell_of_blk HV.out.kb.c 5
   simp only [List.getElem?_toArray, List.getElem?_cons_zero, List.getElem?_cons_succ] at c0 c1 c2 c3 c4 c5
   refine wpOp_step rfl (fun K hK => ?_)
   go_simp
   refine hK _ _ ?_
   exact ⟨_, _, _, _, _, _, _, _, _, _, _, _, _, _, _, _, _, _, b6, b7, b8, rfl, Mv.l8 HV.out rfl⟩
  ·have d5 := ready_dep hr (k := 5) (by kernel_rfl)
   have d8 := ready_dep hr (k := 8) (by kernel_rfl)
   clear hr
   obtain rfl := HV.out.p5 d5
   obtain rfl := HV.out.p8 d8
   refine wpOp_step rfl (fun K hK => ?_)
   go_wp2_with fail
   refine (A1.out _).mono ?_
   rintro e' wc ⟨he, hbc⟩
   subst he
   refine hK _ _ ?_
   exact ⟨_, _, _, _, _, _, _, _, _, _, _, _, _, _, _, _, _, _, b6, b7, b8, rfl, Mv.l9 (HV.out.below hbc (HV.out.kb.below hbc)) rfl⟩
  ·clear hr
   have c0 := cell_of_blk HV.out.kb.m 0
   have c1 := cell_of_blk HV.out.kb.m 1
   have c2 := cell_of_blk HV.out.kb.m 2
   have c3 := cell_of_blk HV.out.kb.m 3
   have c4 := cell_of_blk HV.out.kb.m 4
   have c5 := cell_of_blk HV.out.kb.m 5
   simp only [List.getElem?_toArray, List.getElem?_cons_zero, List.getElem?_cons_succ] at c0 c1 c2 c3 c4 c5
   refine wpOp_step rfl (fun K hK => ?_)
   go_simp
   refine hK _ _ ?_
   exact ⟨_, _, _, _, _, _, _, _, _, _, _, _, _, _, _, _, _, _, b6, b7, b8, rfl, Mv.l10 HV.out rfl⟩
  ·clear hr
   refine wpOp_step rfl (fun K hK => ?_)
   go_simp
   refine hK _ _ ?_
   exact ⟨_, _, _, _, _, _, _, _, _, _, _, _, _, _, _, _, _, _, b6, b7, b8, rfl, Mv.l11 HV.out rfl⟩
  ·have d11 := ready_dep hr (k := 11) (by kernel_rfl)
   clear hr
   obtain rfl := HV.out.p11 d11
   refine wpOp_step rfl (fun K hK => ?_)
   go_simp
   refine hK _ _ ?_
   exact ⟨_, _, _, _, _, _, _, _, _, _, _, _, _, _, _, _, _, _, b6, b7, b8, rfl, Mv.l12 HV.out rfl⟩
  ·have d12 := ready_dep hr (k := 12) (by kernel_rfl)
   clear hr
   obtain rfl := HV.out.p12 d12
   have c0 := cell_of_blk HV.out.kb.c 0
   have c1 := cell_of_blk HV.out.kb.c 1
   have c2 := cell_of_blk HV.out.kb.c 2
   have c3 := cell_of_blk HV.out.kb.c 3
   have c4 := cell_of_blk HV.out.kb.c 4
   have c5 := cell_of_blk HV.out.kb.c 5
   simp only [List.getElem?_toArray, List.getElem?_cons_zero, List.getElem?_cons_succ] at c0 c1 c2 c3 c4 c5
   refine wpOp_step rfl (fun K hK => ?_)
   go_simp
   refine hK _ _ ?_
   exact ⟨_, _, _, _, _, _, _, _, _, _, _, _, _, _, _, _, _, _, b6, b7, b8, rfl, Mv.l13 HV.out rfl⟩
  ·have d10 := ready_dep hr (k := 10) (by kernel_rfl)
   have d13 := ready_dep hr (k := 13) (by kernel_rfl)
   clear hr
   obtain rfl := HV.out.p10 d10
   obtain rfl := HV.out.p13 d13
   refine wpOp_step rfl (fun K hK => ?_)
   go_wp2_with fail
   refine (A2.out _).mono ?_
   rintro e' wc ⟨he, hbc⟩
   subst he
   refine hK _ _ ?_
   exact ⟨_, _, _, _, _, _, _, _, _, _, _, _, _, _, _, _, _, _, b6, b7, b8, rfl, Mv.l14 (HV.out.below hbc (HV.out.kb.below hbc)) rfl⟩
  ·have hno : L.getD 18 false = false := by
    cases h : L.getD 18 false with
    | false => rfl
    | true => exact absurd ((HV.out.p18 h).1.symm.trans (getD_both (mem_ready.1 hr).1)) (by decide)
   clear hr
   refine wpOp_step rfl (fun K hK => ?_)
   go_simp
   refine hK _ _ ?_
   exact ⟨_, _, _, _, _, _, _, _, _, _, _, _, _, _, _, _, _, _, _, b7, b8, rfl, Mv.l15 HV.out HV.out.kb.nl (HV.out.kb.below (below_new _ _)) hno⟩
  ·have hno : L.getD 19 false = false := by
    cases h : L.getD 19 false with
    | false => rfl
    | true => exact absurd ((HV.out.p19 h).1.symm.trans (getD_both (mem_ready.1 hr).1)) (by decide)
   clear hr
   refine wpOp_step rfl (fun K hK => ?_)
   go_simp
   refine hK _ _ ?_
   exact ⟨_, _, _, _, _, _, _, _, _, _, _, _, _, _, _, _, _, _, b6, _, b8, rfl, Mv.l16 HV.out HV.out.kb.nl (HV.out.kb.below (below_new _ _)) hno⟩
  ·have hno : L.getD 20 false = false := by
    cases h : L.getD 20 false with
    | false => rfl
    | true => exact absurd ((HV.out.p20 h).1.symm.trans (getD_both (mem_ready.1 hr).1)) (by decide)
   clear hr
   refine wpOp_step rfl (fun K hK => ?_)
   go_simp
   refine hK _ _ ?_
   exact ⟨_, _, _, _, _, _, _, _, _, _, _, _, _, _, _, _, _, _, b6, b7, _, rfl, Mv.l17 HV.out HV.out.kb.nl (HV.out.kb.below (below_new _ _)) hno⟩
  ·have d15 := ready_dep hr (k := 15) (by kernel_rfl)
   have d4 := ready_dep hr (k := 4) (by kernel_rfl)
   clear hr
   obtain rfl := HV.out.p4 d4
   obtain ⟨rfl, hbN, u, v, hb⟩ := HV.out.p15 d15
   have z0 := cell_of_blk hb 0
   have z1 := cell_of_blk hb 1
   simp only [List.getElem?_toArray, List.getElem?_cons_zero, List.getElem?_cons_succ] at z0 z1
   have zf := frozen_of_blk hb
   have zl := blk_lt hb
   refine wpOp_step rfl (fun K hK => ?_)
   go_simp
   refine hK _ _ ?_
   exact ⟨_, _, _, _, _, _, _, _, _, _, _, _, _, _, _, _, _, _, b6, b7, b8, rfl, Mv.l18 HV.out d15 (HV.out.kb.set2 hsm hsr hsg (by omega) hbN _ _)⟩
  ·have d16 := ready_dep hr (k := 16) (by kernel_rfl)
   have d9 := ready_dep hr (k := 9) (by kernel_rfl)
   clear hr
   obtain rfl := HV.out.p9 d9
   obtain ⟨rfl, hbN, u, v, hb⟩ := HV.out.p16 d16
   have z0 := cell_of_blk hb 0
   have z1 := cell_of_blk hb 1
   simp only [List.getElem?_toArray, List.getElem?_cons_zero, List.getElem?_cons_succ] at z0 z1
   have zf := frozen_of_blk hb
   have zl := blk_lt hb
   refine wpOp_step rfl (fun K hK => ?_)
   go_simp
   refine hK _ _ ?_
   exact ⟨_, _, _, _, _, _, _, _, _, _, _, _, _, _, _, _, _, _, b6, b7, b8, rfl, Mv.l19 HV.out d16 (HV.out.kb.set2 hsm hsr hsg (by omega) hbN _ _)⟩
  ·have d17 := ready_dep hr (k := 17) (by kernel_rfl)
   have d14 := ready_dep hr (k := 14) (by kernel_rfl)
   clear hr
   obtain rfl := HV.out.p14 d14
   obtain ⟨rfl, hbN, u, v, hb⟩ := HV.out.p17 d17
   have z0 := cell_of_blk hb 0
   have z1 := cell_of_blk hb 1
   simp only [List.getElem?_toArray, List.getElem?_cons_zero, List.getElem?_cons_succ] at z0 z1
   have zf := frozen_of_blk hb
   have zl := blk_lt hb
   refine wpOp_step rfl (fun K hK => ?_)
   go_simp
   refine hK _ _ ?_
   exact ⟨_, _, _, _, _, _, _, _, _, _, _, _, _, _, _, _, _, _, b6, b7, b8, rfl, Mv.l20 HV.out d17 (HV.out.kb.set2 hsm hsr hsg (by omega) hbN _ _)⟩
 ·intro L a0 w0 hI hrd
  obtain ⟨s6, s7, s8, s16, s17, s18, s19, s20, s21, s22, s23, s24, s25, s26, s27, s28, s29, s30, b6, b7, b8, rfl, hv⟩ := hI
  have hall := all_listedM hrd hv.sz (by kernel_rfl)
  clear hrd
  have h15 := hv.p15 (hall 15 (by decide))
  have h16 := hv.p16 (hall 16 (by decide))
  have h17 := hv.p17 (hall 17 (by decide))
  have h18 := (hv.p18 (hall 18 (by decide))).2
  have h19 := (hv.p19 (hall 19 (by decide))).2
  have h20 := (hv.p20 (hall 20 (by decide))).2
  have hkb := hv.kb
  clear hv hall
  obtain ⟨rfl, hb6, _⟩ := h15
  obtain ⟨rfl, hb7, _⟩ := h16
  obtain ⟨rfl, hb8, _⟩ := h17
  have k_p_10 := h18
  have k_q_10 := h19
  have k_v_10 := h20
  have k_r_10 := hkb.r
  have hw_10 := hkb.bel
  clear h18 h19 h20 hkb HKB A0 A1 A2
  obtain ⟨l1, l2, tX, tY, g1, g2, g3, g4⟩ := G.out
  clear G
  dsimp only
  have c_p_0 := cell_of_blk k_p_10 0
  have c_p_1 := cell_of_blk k_p_10 1
  simp only [List.getElem?_toArray, List.getElem?_cons_zero, List.getElem?_cons_succ] at c_p_0 c_p_1
  have f_p := frozen_of_blk k_p_10
  have s_p := blk_lt k_p_10
  have c_q_0 := cell_of_blk k_q_10 0
  have c_q_1 := cell_of_blk k_q_10 1
  simp only [List.getElem?_toArray, List.getElem?_cons_zero, List.getElem?_cons_succ] at c_q_0 c_q_1
  have f_q := frozen_of_blk k_q_10
  have s_q := blk_lt k_q_10
  have c_v_0 := cell_of_blk k_v_10 0
  have c_v_1 := cell_of_blk k_v_10 1
  simp only [List.getElem?_toArray, List.getElem?_cons_zero, List.getElem?_cons_succ] at c_v_0 c_v_1
  have f_v := frozen_of_blk k_v_10
  have s_v := blk_lt k_v_10
  have c_r_0 := cell_of_blk k_r_10 0
  have c_r_1 := cell_of_blk k_r_10 1
  have c_r_2 := cell_of_blk k_r_10 2
  simp only [List.getElem?_toArray, List.getElem?_cons_zero, List.getElem?_cons_succ] at c_r_0 c_r_1 c_r_2
  have f_r := frozen_of_blk k_r_10
  have s_r := blk_lt k_r_10
  go_wp2_with fail
  go_quiet (fail)
  go_wp2_with fail
  clear c_p_0 c_p_1 f_p s_p k_p_10 g1 g2 g3 g4 tX tY
  go_loopw [11] (fun i wr => ∃ n : Int, 0 ≤ n ∧ n ≤ K ∧ i = .int .i64 n ∧ Below w0.heap.size w0 wr) (fun i _ => (4 - intOf i).toNat)
  case atStart => exact ⟨0, by omega, l7, rfl, below_drewN (Below.refl _ _) _⟩
  case round =>
   obtain ⟨n, hn1, hn2, rfl, hbel⟩ := hrel
   have k_q_50 := blk_below k_q_10 hbel (blk_lt k_q_10)
   have k_v_50 := blk_below k_v_10 hbel (blk_lt k_v_10)
   have k_r_50 := blk_below k_r_10 hbel (blk_lt k_r_10)
   have hw_50 : Below w.heap.size w wr := hw_10.trans (hbel.mono hw_10.size)
   clear c_q_0 c_q_1 f_q s_q c_v_0 c_v_1 f_v s_v c_r_0 c_r_1 c_r_2 f_r s_r
   obtain ⟨U1, hU1⟩ : ∃ z, z = cornX X n := ⟨_, rfl⟩
   obtain ⟨W1, hW1⟩ : ∃ z, z = cornY Y n := ⟨_, rfl⟩
   obtain ⟨U2, hU2⟩ : ∃ z, z = cornX X (n + 1) := ⟨_, rfl⟩
   obtain ⟨W2, hW2⟩ : ∃ z, z = cornY Y (n + 1) := ⟨_, rfl⟩
   have hcn := HCN.out n hn1 (by omega)
   unfold CornAt at hcn
   rw [← hU1, ← hU2, ← hW1, ← hW2] at hcn
   have HC := Lib.hid hcn
   have HU1 := Lib.hid hU1
   have HU2 := Lib.hid hU2
   have HW1 := Lib.hid hW1
   have HW2 := Lib.hid hW2
   clear hcn hU1 hU2 hW1 hW2
   have c_q_0 := cell_of_blk k_q_50 0
   have c_q_1 := cell_of_blk k_q_50 1
   simp only [List.getElem?_toArray, List.getElem?_cons_zero, List.getElem?_cons_succ] at c_q_0 c_q_1
   have f_q := frozen_of_blk k_q_50
   have s_q := blk_lt k_q_50
   have c_v_0 := cell_of_blk k_v_50 0
   have c_v_1 := cell_of_blk k_v_50 1
   simp only [List.getElem?_toArray, List.getElem?_cons_zero, List.getElem?_cons_succ] at c_v_0 c_v_1
   have f_v := frozen_of_blk k_v_50
   have s_v := blk_lt k_v_50
   have c_r_0 := cell_of_blk k_r_50 0
   have c_r_1 := cell_of_blk k_r_50 1
   have c_r_2 := cell_of_blk k_r_50 2
   simp only [List.getElem?_toArray, List.getElem?_cons_zero, List.getElem?_cons_succ] at c_r_0 c_r_1 c_r_2
   have f_r := frozen_of_blk k_r_50
   have s_r := blk_lt k_r_50
   go_wp2_with fail
   refine (cornersOf_wide X Y n _ (by omega) (by omega) (by omega) (by omega) hn1 (by omega)).mono ?_
   rintro e w51 ⟨⟨g2, he, hg2⟩, hb51⟩
   subst he
   rw [← HU1.out, ← HU2.out, ← HW1.out, ← HW2.out] at hg2
   have hbq := stay_b (ba hbel _) hb51
   have k_q_51 : w51.heap[b7]? = some (.cells #[.int .i64 P1, .int .i64 Q1] 98 (0, 0)) := blk_below (blk_alloc k_q_50 _) hb51 (blk_lt (blk_alloc k_q_50 _))
   have k_v_51 : w51.heap[b8]? = some (.cells #[.int .i64 P2, .int .i64 Q2] 98 (0, 0)) := blk_below (blk_alloc k_v_50 _) hb51 (blk_lt (blk_alloc k_v_50 _))
   have k_r_51 : w51.heap[w.heap.size + 1 + 1]? = some (.cells #[.int .i64 0, .int .i64 0, .int .i64 0] 44 (0, 0)) := blk_below (blk_alloc k_r_50 _) hb51 (blk_lt (blk_alloc k_r_50 _))
   have k_u_51 : w51.heap[wr.heap.size]? = some (.cells #[.int .i64 X, .int .i64 Y, .int .i64 n] 44 (0, 0)) := blk_below (new_blk (.cells #[.int .i64 X, .int .i64 Y, .int .i64 n] 44) (by first | rfl | (simp; done) | (simp; omega))) hb51 (by first | (simp; done) | (simp; omega))
   have hw_51 : Below w.heap.size w w51 := stay_b (ba hw_50 _) hb51
   clear c_q_0 c_q_1 f_q s_q c_v_0 c_v_1 f_v s_v c_r_0 c_r_1 c_r_2 f_r s_r k_q_50 k_v_50 k_r_50 hb51 hw_50
   have c_q_0 := cell_of_blk k_q_51 0
   have c_q_1 := cell_of_blk k_q_51 1
   simp only [List.getElem?_toArray, List.getElem?_cons_zero, List.getElem?_cons_succ] at c_q_0 c_q_1
   have f_q := frozen_of_blk k_q_51
   have s_q := blk_lt k_q_51
   have c_v_0 := cell_of_blk k_v_51 0
   have c_v_1 := cell_of_blk k_v_51 1
   simp only [List.getElem?_toArray, List.getElem?_cons_zero, List.getElem?_cons_succ] at c_v_0 c_v_1
   have f_v := frozen_of_blk k_v_51
   have s_v := blk_lt k_v_51
   have c_r_0 := cell_of_blk k_r_51 0
   have c_r_1 := cell_of_blk k_r_51 1
   have c_r_2 := cell_of_blk k_r_51 2
   simp only [List.getElem?_toArray, List.getElem?_cons_zero, List.getElem?_cons_succ] at c_r_0 c_r_1 c_r_2
   have f_r := frozen_of_blk k_r_51
   have s_r := blk_lt k_r_51
   have c_u_0 := cell_of_blk k_u_51 0
   have c_u_1 := cell_of_blk k_u_51 1
   have c_u_2 := cell_of_blk k_u_51 2
   simp only [List.getElem?_toArray, List.getElem?_cons_zero, List.getElem?_cons_succ] at c_u_0 c_u_1 c_u_2
   have f_u := frozen_of_blk k_u_51
   have s_u := blk_lt k_u_51
   have d0 := cell_of_blk hg2 0
   have d1 := cell_of_blk hg2 1
   have d2 := cell_of_blk hg2 2
   have d3 := cell_of_blk hg2 3
   have d4 := cell_of_blk hg2 4
   have d5 := cell_of_blk hg2 5
   simp only [List.getElem?_toArray, List.getElem?_cons_zero, List.getElem?_cons_succ] at d0 d1 d2 d3 d4 d5
   clear hg2 k_q_51 k_v_51 k_r_51 k_u_51 HU1 HU2 HW1 HW2
   rcases Bool.eq_false_or_eq_true (eqL [(U1, P1), (W1, Q1)]) with he1 | he1
   ·rcases Bool.eq_false_or_eq_true (eqL [(U2, P2), (W2, Q2)]) with he2 | he2
    ·have HN : Hid (n = K) := Lib.hid (HC.out.1 (by simp [eqL] at he1 he2; omega))
     have re1 : ∀ w : World, (binOp .eql 98 (aggP U1 W1) (aggP P1 Q1)).run Tryz.prog w = .ok (.bool true) w := fun w => by rw [eqP, he1]
     have re2 : ∀ w : World, (binOp .eql 98 (aggP U2 W2) (aggP P2 Q2)).run Tryz.prog w = .ok (.bool true) w := fun w => by rw [eqP, he2]
     clear he1 he2
     go_wp2_with fail
     go_quiet (fail)
     go_wp2
     refine bodyPost_ret (v := aggT X Y n) (by simp [results, Tryz.results21, go_sem, c_r_0, c_r_1, c_r_2]) rfl ⟨by rw [HN.out], ?_⟩
     exact set3_below (below_drewN hw_51 _) _ (by omega) _ _ _
    ·rcases Bool.eq_false_or_eq_true (eqL [(U1, P2), (W1, Q2)]) with he3 | he3
     ·rcases Bool.eq_false_or_eq_true (eqL [(U2, P1), (W2, Q1)]) with he4 | he4
      ·have HN : Hid (n = K) := Lib.hid (HC.out.1 (by simp [eqL] at he1 he2 he3 he4; omega))
       have re1 : ∀ w : World, (binOp .eql 98 (aggP U1 W1) (aggP P1 Q1)).run Tryz.prog w = .ok (.bool true) w := fun w => by rw [eqP, he1]
       have re2 : ∀ w : World, (binOp .eql 98 (aggP U2 W2) (aggP P2 Q2)).run Tryz.prog w = .ok (.bool false) w := fun w => by rw [eqP, he2]
       have re3 : ∀ w : World, (binOp .eql 98 (aggP U1 W1) (aggP P2 Q2)).run Tryz.prog w = .ok (.bool true) w := fun w => by rw [eqP, he3]
       have re4 : ∀ w : World, (binOp .eql 98 (aggP U2 W2) (aggP P1 Q1)).run Tryz.prog w = .ok (.bool true) w := fun w => by rw [eqP, he4]
       clear he1 he2 he3 he4
       go_wp2_with fail
       go_quiet (fail)
       go_wp2
       refine bodyPost_ret (v := aggT X Y n) (by simp [results, Tryz.results21, go_sem, c_r_0, c_r_1, c_r_2]) rfl ⟨by rw [HN.out], ?_⟩
       exact set3_below (below_drewN hw_51 _) _ (by omega) _ _ _
      ·have HN : Hid (n ≠ K) := Lib.hid (fun h => by
        have h5 := HC.out.2 h
        simp [eqL] at he1 he2 he3 he4
        omega)
       have re1 : ∀ w : World, (binOp .eql 98 (aggP U1 W1) (aggP P1 Q1)).run Tryz.prog w = .ok (.bool true) w := fun w => by rw [eqP, he1]
       have re2 : ∀ w : World, (binOp .eql 98 (aggP U2 W2) (aggP P2 Q2)).run Tryz.prog w = .ok (.bool false) w := fun w => by rw [eqP, he2]
       have re3 : ∀ w : World, (binOp .eql 98 (aggP U1 W1) (aggP P2 Q2)).run Tryz.prog w = .ok (.bool true) w := fun w => by rw [eqP, he3]
       have re4 : ∀ w : World, (binOp .eql 98 (aggP U2 W2) (aggP P1 Q1)).run Tryz.prog w = .ok (.bool false) w := fun w => by rw [eqP, he4]
       clear he1 he2 he3 he4
       go_wp2_with fail
       go_quiet (fail)
       go_wp2
       go_roundw
       case rel => exact ⟨n + 1, by omega, by have := HN.out; omega, rfl, below_drewN hbq _⟩
       case measure => simp [intOf]; omega
     ·have HN : Hid (n ≠ K) := Lib.hid (fun h => by
       have h5 := HC.out.2 h
       simp [eqL] at he1 he2 he3
       omega)
      have re1 : ∀ w : World, (binOp .eql 98 (aggP U1 W1) (aggP P1 Q1)).run Tryz.prog w = .ok (.bool true) w := fun w => by rw [eqP, he1]
      have re2 : ∀ w : World, (binOp .eql 98 (aggP U2 W2) (aggP P2 Q2)).run Tryz.prog w = .ok (.bool false) w := fun w => by rw [eqP, he2]
      have re3 : ∀ w : World, (binOp .eql 98 (aggP U1 W1) (aggP P2 Q2)).run Tryz.prog w = .ok (.bool false) w := fun w => by rw [eqP, he3]
      clear he1 he2 he3
      go_wp2_with fail
      go_quiet (fail)
      go_wp2
      go_roundw
      case rel => exact ⟨n + 1, by omega, by have := HN.out; omega, rfl, below_drewN hbq _⟩
      case measure => simp [intOf]; omega
   ·rcases Bool.eq_false_or_eq_true (eqL [(U1, P2), (W1, Q2)]) with he3 | he3
    ·rcases Bool.eq_false_or_eq_true (eqL [(U2, P1), (W2, Q1)]) with he4 | he4
     ·have HN : Hid (n = K) := Lib.hid (HC.out.1 (by simp [eqL] at he1 he3 he4; omega))
      have re1 : ∀ w : World, (binOp .eql 98 (aggP U1 W1) (aggP P1 Q1)).run Tryz.prog w = .ok (.bool false) w := fun w => by rw [eqP, he1]
      have re3 : ∀ w : World, (binOp .eql 98 (aggP U1 W1) (aggP P2 Q2)).run Tryz.prog w = .ok (.bool true) w := fun w => by rw [eqP, he3]
      have re4 : ∀ w : World, (binOp .eql 98 (aggP U2 W2) (aggP P1 Q1)).run Tryz.prog w = .ok (.bool true) w := fun w => by rw [eqP, he4]
      clear he1 he3 he4
      go_wp2_with fail
      go_quiet (fail)
      go_wp2
      refine bodyPost_ret (v := aggT X Y n) (by simp [results, Tryz.results21, go_sem, c_r_0, c_r_1, c_r_2]) rfl ⟨by rw [HN.out], ?_⟩
      exact set3_below (below_drewN hw_51 _) _ (by omega) _ _ _
     ·have HN : Hid (n ≠ K) := Lib.hid (fun h => by
       have h5 := HC.out.2 h
       simp [eqL] at he1 he3 he4
       omega)
      have re1 : ∀ w : World, (binOp .eql 98 (aggP U1 W1) (aggP P1 Q1)).run Tryz.prog w = .ok (.bool false) w := fun w => by rw [eqP, he1]
      have re3 : ∀ w : World, (binOp .eql 98 (aggP U1 W1) (aggP P2 Q2)).run Tryz.prog w = .ok (.bool true) w := fun w => by rw [eqP, he3]
      have re4 : ∀ w : World, (binOp .eql 98 (aggP U2 W2) (aggP P1 Q1)).run Tryz.prog w = .ok (.bool false) w := fun w => by rw [eqP, he4]
      clear he1 he3 he4
      go_wp2_with fail
      go_quiet (fail)
      go_wp2
      go_roundw
      case rel => exact ⟨n + 1, by omega, by have := HN.out; omega, rfl, below_drewN hbq _⟩
      case measure => simp [intOf]; omega
    ·have HN : Hid (n ≠ K) := Lib.hid (fun h => by
      have h5 := HC.out.2 h
      simp [eqL] at he1 he3
      omega)
     have re1 : ∀ w : World, (binOp .eql 98 (aggP U1 W1) (aggP P1 Q1)).run Tryz.prog w = .ok (.bool false) w := fun w => by rw [eqP, he1]
     have re3 : ∀ w : World, (binOp .eql 98 (aggP U1 W1) (aggP P2 Q2)).run Tryz.prog w = .ok (.bool false) w := fun w => by rw [eqP, he3]
     clear he1 he3
     go_wp2_with fail
     go_quiet (fail)
     go_wp2
     go_roundw
     case rel => exact ⟨n + 1, by omega, by have := HN.out; omega, rfl, below_drewN hbq _⟩
     case measure => simp [intOf]; omega
end
end Go.Proofs.YtpkjekedgodccaaGreatDoor
