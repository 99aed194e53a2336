/- slices.Values, AppendSeq, Collect: a copy of the numbers. -/
import Derived.Test.YtjikhdnlcoohbaaCr8
import Derived.Test.YtjikhdnlcoohbaaSt4
import Derived.Shelf.Abstract
import Derived.Shelf.RegionOpen
import Derived.OwnWalkIn
import Derived.TacticsInMore
import Derived.LoopNIn
import Derived.LoopIn
namespace Go.Proofs.Ytjikhdnlcoohbaa
set_option linter.unusedSimpArgs false
set_option linter.unusedVariables false
open Go.RowKit St
attribute [local go_sem] Oper.semAt_some

theorem keeps_below {B : Nat} {W W' : World} (h : Below W.heap.size W W') : KeepsFrom B W W' := ⟨h.size, fun k o _ hk _ => blk_below hk h (blk_lt hk)⟩
theorem own_cells {w : World} {base sz n : Nat} {e : TypeId} {v : Value} {xs : List Value} (h : w.ownsRow base e sz v n xs) : ∀ j, v.ownBlock = some j → ∃ cs, w.heap[j]? = some (.cells cs e (0, 0)) := by
  intro j hj
  rcases h.2 with ⟨h0, _⟩ | ⟨g, cap, cur, rfl, h1, h2, _⟩
  · rw [h0] at hj; cases hj
  · obtain rfl : g = j := by simpa [Value.ownBlock] using hj
    exact ⟨cur, h2⟩
theorem one_new (w : World) (u : Value) (e : TypeId) : ∀ (j : Nat) (u' : Value), [u][j]? = some u' → (w.alloc (.cells #[u] e)).cell? ((⟨w.heap.size, 0, none⟩ : Addr).add j) = some u' := by
  intro j u' h
  rw [addr_add, Nat.zero_add, cell_of_blk (heap_alloc_new w _) j]
  simpa using h
theorem put_cells {W : World} {g l : Nat} {o o' : Obj} {cs : Array Value} {t : TypeId} (h : W.heap[g]? = some (.cells cs t (0, 0))) (hl : W.heap[l]? = some o) (ho : o.isCells = false) : (W.putObj l o').heap[g]? = some (.cells cs t (0, 0)) := by
  refine (World.putObj_heap_other ?_).trans h
  rintro rfl
  rw [h] at hl
  rw [← Option.some.inj hl] at ho
  cases ho
theorem own_put {W : World} {base l n sz : Nat} {e : TypeId} {v : Value} {xs : List Value} {o o' : Obj} (h : W.ownsRow base e sz v n xs) (hl : W.heap[l]? = some o) (ho : o.isCells = false) : (W.putObj l o').ownsRow base e sz v n xs := by
  refine ⟨h.1, ?_⟩
  rcases h.2 with h0 | ⟨g, cap, cur, rfl, h1, h2, rest⟩
  · exact .inl h0
  · exact .inr ⟨g, cap, cur, rfl, h1, put_cells h2 hl ho, rest⟩
theorem below_put {B : Nat} {w W : World} {l : Nat} {o' : Obj} (h : Below B w W) (hB : B ≤ l) (hs : B ≤ W.heap.size) : Below B w (W.putObj l o') :=
  h.grown (grownBy_putObj' W l o') hs (fun k e => by cases e; exact hB)
set_option maxRecDepth 100000 in
set_option maxHeartbeats 1600000 in
theorem values1_mem (F : Fence) (n : Nat) (hf : F.fn 47) (hro : F.round = none) (hn : 1 ≤ n) (Bs b off len cap n0 : Nat) (zs : List Int) (w : World) (hr : Rd w 1 (some ⟨b, off, none⟩) len (vis zs)) (hb : b < n0) (hn0 : n0 ≤ w.heap.size)
    (hl : len ≤ 1000) (hBs : Bs < w.heap.size) (hc : w.cell? ⟨Bs, 0, none⟩ = some (.slice (some ⟨b, off, none⟩) len cap)) :
    SeqMem F n Try.prog 47 #[.pointer (some ⟨Bs, 0, none⟩)] (fun x : Int => #[Value.int .i64 x]) (fun pre x _ => zs[pre.length]? = some x) (Below n0) (fun ys => ys = zs) w := by
  intro l J W hW hJ hY h0
  have hcs := fun k (hk : k < len) => (hr.below hW).at_fn hk
  have hbx := (hW.cell (p := ⟨Bs, 0, none⟩) hBs).trans hc
  have hlen := hr.ints_len
  have HCS := Lib.hid hcs
  have HL := Lib.hid hlen
  clear hcs hlen hr hc hW
  refine callsIn_of_wp Try.func47 rfl hf ?_ hro
  simp only [Try.ntmps47, List.size_toArray, List.length_cons, List.length_nil, Nat.reduceAdd, Nat.reduceSub, Array.replicate_succ, Array.replicate_zero, List.push_toArray, List.append_toArray, List.nil_append, List.cons_append]
  gi_wp2
  clear hbx
  gi_loopw [7] (fun i wr => ∃ k : Nat, k ≤ len ∧ i = .int .i64 k ∧ J (zs.take k) wr ∧ Below n0 W wr) (fun i _ => len - (intOf i).toNat)
  case atStart => exact ⟨0, Nat.zero_le _, rfl, by simpa using h0, Below.refl _ _⟩
  case round =>
    obtain ⟨k, hk, rfl, hJs, hnx⟩ := hrel
    by_cases hlt : k < len
    · have hcx := keep_c (HCS.out k hlt) hnx hb
      have hz : zs[k]? = some (fn zs k) := by
        obtain ⟨z, hz⟩ : ∃ z, zs[k]? = some z := ⟨_, List.getElem?_eq_getElem (by rw [HL.out]; exact hlt)⟩
        rw [fn_at hz]; exact hz
      have hts := take_succ hz
      obtain ⟨fn', tmps, assign, body, hy, hR⟩ := hY _ (fn zs k) wr hJs (by rw [List.length_take, HL.out, Nat.min_eq_left (by omega)]; exact hz)
      rw [← hts] at hR
      have HTS := Lib.hid hts
      have HZ := Lib.hid hz
      clear hts hz
      generalize fn zs k = z at hcx hy hR
      gi_wp2
      refine hR.mono ?_
      rintro e W3 ⟨rfl, hJ3, hk3⟩
      gi_wp2
      go_roundw
      case rel => exact ⟨k + 1, by omega, by go_num, hJ3, hnx.trans hk3⟩
      case measure => simp [intOf]; omega
    · obtain rfl : k = len := by omega
      gi_wp2
      go_end0
      exact ⟨⟨_, rfl⟩, zs, rfl, by rw [List.take_of_length_le (by rw [HL.out]; exact Nat.le_refl _)] at hJs; exact hJs⟩
theorem values_in (F : Fence) (n : Nat) (hf : F.fn 36) (hro : F.round = none) (a : Option Addr) (len cap : Nat) (w : World) :
    CallsIn F n Try.prog 36 #[.slice a len cap] w fun e w' => e = .returned (.func (.func 47) #[] #[.pointer (some ⟨w.heap.size, 0, none⟩)]) ∧ w' = w.alloc (.cells #[.slice a len cap] 22) := by
  refine callsIn_of_wp Try.func36 rfl hf ?_ hro
  simp only [Try.ntmps36, List.size_toArray, List.length_cons, List.length_nil, Nat.reduceAdd, Nat.reduceSub, Array.replicate_succ, Array.replicate_zero, List.push_toArray, List.append_toArray, List.nil_append, List.cons_append]
  gi_wp2
  go_ret
  exact ⟨rfl, rfl⟩
end Go.Proofs.Ytjikhdnlcoohbaa
