/- slices.Sorted of a slice's numbers; check. -/
import Derived.Test.YtjikhdnlcoohbaaSo2
import Derived.Test.YtjikhdnlcoohbaaSh
import Derived.Sort.OwnSorted
import Derived.Lib.SlKeysI
namespace Go.Proofs.Ytjikhdnlcoohbaa
set_option linter.unusedSimpArgs false
set_option linter.unusedVariables false
open Go.RowKit Go.Sort Go.Shelf St
attribute [local go_sem] Oper.semAt_some

def srt (zs : List Int) : List Int := zs.mergeSort fun x y => decide (x ≤ y)
theorem srt_perm (zs : List Int) : (srt zs).Perm zs := List.mergeSort_perm _ _
theorem srt_len (zs : List Int) : (srt zs).length = zs.length := (srt_perm zs).length_eq
theorem srt_le (zs : List Int) : (srt zs).Pairwise (· ≤ ·) := by
  have := List.pairwise_mergeSort (le := fun x y : Int => decide (x ≤ y)) (fun a b c h1 h2 => by simp at *; omega) (fun a b => by simp; omega) zs
  exact this.imp (by simp)
theorem sort_any (blk cap : Nat) (zs : List Int) (w : World) (hH : Holds encZ w blk 0 zs.toArray) (hblk : blk < w.heap.size) (hsz : zs.length < 4611686018427387904) :
    Calls Try.prog 46 #[.slice (some ⟨blk, 0, none⟩) zs.length cap] w fun e w' => e = .returned (.tuple #[]) ∧ ∃ n os, w' = grow (putRow encZ (Sort.ahead w n) blk 0 (srt zs).toArray) os :=
  AnyM.slices_Sort_int sortA blk 0 cap zs w hH hblk hsz
set_option maxRecDepth 100000 in
set_option maxHeartbeats 1600000 in
theorem collect_in (n Bs b off len cap : Nat) (zs : List Int) (w : World) (hn : 4 ≤ n) (hr : Rd w 1 (some ⟨b, off, none⟩) len (vis zs)) (hb : b < w.heap.size)
    (hl : len ≤ 1000) (hBs : Bs < w.heap.size) (hc : w.cell? ⟨Bs, 0, none⟩ = some (.slice (some ⟨b, off, none⟩) len cap)) :
    CallsIn Fence.wide n Try.prog 45 #[.func (.func 47) #[] #[.pointer (some ⟨Bs, 0, none⟩)]] w fun e w' => ∃ v, e = .returned v ∧ w'.ownsRow w.heap.size 3 1 v len (vis zs) ∧ Below w.heap.size w w' := by
  have cA := appseq_in (n - 1) Bs b off len cap zs w (by omega) hr hb hl hBs hc
  have h1 : 1 ≤ n := by omega
  have hf1 : Fence.wide.fn 54 := trivial
  refine callsIn_of_wp Try.func45 rfl trivial ?_ rfl
  simp only [Try.ntmps45, List.size_toArray, List.length_cons, List.length_nil, Nat.reduceAdd, Nat.reduceSub, Array.replicate_succ, Array.replicate_zero, List.push_toArray, List.append_toArray, List.nil_append, List.cons_append]
  gi_wp2_with (gi_at_call 54; refine cA.mono ?_; rintro e w1 ⟨v, rfl, ho, hb1⟩)
  go_ret
  exact ⟨v, rfl, ho, hb1⟩
set_option maxRecDepth 100000 in
set_option maxHeartbeats 1600000 in
theorem sorted_in (n Bs b off len cap : Nat) (zs : List Int) (w : World) (hn : 5 ≤ n) (hr : Rd w 1 (some ⟨b, off, none⟩) len (vis zs)) (hb : b < w.heap.size) (h0 : 0 < len)
    (hl : len ≤ 1000) (hBs : Bs < w.heap.size) (hc : w.cell? ⟨Bs, 0, none⟩ = some (.slice (some ⟨b, off, none⟩) len cap)) :
    CallsIn Fence.wide n Try.prog 35 #[.func (.func 47) #[] #[.pointer (some ⟨Bs, 0, none⟩)]] w fun e w' => ∃ v, e = .returned v ∧ w'.ownsRow w.heap.size 3 1 v len (vis (srt zs)) ∧ Below w.heap.size w w' := by
  have hlen := hr.ints_len
  have cA := collect_in (n - 1) Bs b off len cap zs w (by omega) hr hb hl hBs hc
  have h1 : 1 ≤ n := by omega
  have hf1 : Fence.wide.fn 45 := trivial
  have hf2 : Fence.wide.fn 46 := trivial
  refine callsIn_of_wp Try.func35 rfl trivial ?_ rfl
  simp only [Try.ntmps35, List.size_toArray, List.length_cons, List.length_nil, Nat.reduceAdd, Nat.reduceSub, Array.replicate_succ, Array.replicate_zero, List.push_toArray, List.append_toArray, List.nil_append, List.cons_append]
  gi_wp2_with (gi_at_call 45; refine cA.mono ?_; rintro e W ⟨v, rfl, hrow, hb1⟩)
  rcases hrow.2 with ⟨_, hz⟩ | ⟨gb, cap, cur, rfl, hbase, hgb, r1, r2, r3, r4⟩
  · omega
  · subst hlen
    have hH : Holds encZ W gb 0 zs.toArray := holds_of_block_i hgb (by simpa [vis] using r4)
    have hgl : gb < W.heap.size := (Array.getElem?_eq_some_iff.1 hgb).1
    have cS := sort_any gb cap zs W hH hgl (by omega)
    gi_wp2_with (gi_at_call 46; refine (callsIn_wide.2 cS).mono ?_; rintro e w' ⟨rfl, nn, os, rfl⟩)
    go_ret
    exact ⟨_, rfl, ownsRow_sorted_i (srt_len zs) hbase hgb r1 r2 r3, hb1.grown (grownBy_sorted_i _) hb1.size (fun j hj => by cases hj; exact hbase)⟩
end Go.Proofs.Ytjikhdnlcoohbaa
