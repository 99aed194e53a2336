/- The document's Dec. -/
import Derived.Test.YtoienokpchbglaaDoorSz
namespace Go.Proofs.YtoienokpchbglaaDoor
set_option linter.unusedSimpArgs false
set_option linter.unusedVariables false
open Go.RowKit Go.Maps

theorem conv1 (w : World) (x : Int) : (convert 74 9 (.slice (some ⟨w.heap.size, 0, none⟩) 1 1)).run Tryd.prog (w.alloc (.cells #[.int .u8 x] 5)) = .ok (.string ⟨#[UInt8.ofNat x.toNat]⟩) (w.alloc (.cells #[.int .u8 x] 5)) := by
  rw [run_convert_bytes_string _ _ _ _ _ _ _ Tryd.underlying74 Tryd.underlying5 Tryd.underlying9]
  rw [run_bytesToString _ _ 1 1 [x] ?_]
  · rfl
  · have h := heap_alloc_new w (.cells #[.int .u8 x] 5)
    have hc := cell_of_blk h 0
    simp at hc
    simp [loadCells, go_sem, hc]
set_option maxRecDepth 100000 in
set_option maxHeartbeats 3200000 in
theorem dec1_any (n : Int) (w : World) (h0 : 0 ≤ n) (h1 : n < 10) :
    Calls Tryd.prog 38 #[.int .i64 n] w fun e w' => e = .returned (.string ⟨(decN n).toArray⟩) ∧ Below w.heap.size w w' := by
  have m1 : IntKind.i64.wrap (48 + n) = 48 + n := IntWalk.i64_in _ (by omega)
  have m2 : IntKind.u8.wrap (48 + n) = 48 + n := IntWalk.u8_in _ (by omega)
  have hn0 : ¬ n < 0 := by omega
  have hcv := conv1 w (48 + n)
  have hd : (⟨#[UInt8.ofNat (48 + n).toNat]⟩ : ByteArray) = ⟨(decN n).toArray⟩ := by
    rw [decN_small h0 h1, show (48 + n).toNat = 48 + n.toNat by omega]
  rw [hd] at hcv
  clear hd
  go_enter Tryd.func38, Tryd.ntmps38
  go_wp2
  go_ret
  exact ⟨rfl, below_new _ _⟩
set_option maxRecDepth 100000 in
set_option maxHeartbeats 3200000 in
theorem dec_any (n : Int) (w : World) (h0 : 0 ≤ n) (h1 : n < 100) :
    Calls Tryd.prog 38 #[.int .i64 n] w fun e w' => e = .returned (.string ⟨(decN n).toArray⟩) ∧ Below w.heap.size w w' := by
  by_cases hs : n < 10
  · exact dec1_any n w h0 hs
  have hn0 : ¬ n < 0 := by omega
  have q1 : n.tdiv 10 = n / 10 := Int.tdiv_eq_ediv_of_nonneg h0
  have q2 : n.tmod 10 = n % 10 := Int.tmod_eq_emod_of_nonneg h0
  have q3 : IntKind.i64.wrap (n / 10) = n / 10 := IntWalk.i64_in _ (by omega)
  have q4 : IntKind.i64.wrap (n % 10) = n % 10 := IntWalk.i64_in _ (by omega)
  have cA := fun (W : World) => dec1_any (n / 10) W (by omega) (by omega)
  have cB := fun (W : World) => dec1_any (n % 10) W (by omega) (by omega)
  have hd : decN n = decN (n / 10) ++ decN (n % 10) := by
    rw [decN_two (by omega) h1, decN_small (n := n / 10) (by omega) (by omega), decN_small (n := n % 10) (by omega) (by omega)]; rfl
  have hl1 := decN_len (n := n / 10) (by omega) (by omega)
  have hl2 := decN_len (n := n % 10) (by omega) (by omega)
  obtain ⟨A, hA⟩ : ∃ A, A = (⟨(decN (n / 10)).toArray⟩ : ByteArray) := ⟨_, rfl⟩
  obtain ⟨B, hB⟩ : ∃ A, A = (⟨(decN (n % 10)).toArray⟩ : ByteArray) := ⟨_, rfl⟩
  have hAB : (⟨(decN n).toArray⟩ : ByteArray) = A ++ B := by rw [hd, hA, hB, ByteArray.mk_append_mk]
  have hAs : A.size = (decN (n / 10)).length := by rw [hA]; simp [ByteArray.size]
  have hBs : B.size = (decN (n % 10)).length := by rw [hB]; simp [ByteArray.size]
  have hsz : ¬ 9223372036854775807 < A.size + B.size := by omega
  rw [hAB]
  rw [← hA] at cA
  rw [← hB] at cB
  have CA := Lib.hid cA
  have CB := Lib.hid cB
  clear cA cB hd hA hB hAB hAs hBs hl1 hl2
  go_enter Tryd.func38, Tryd.ntmps38
  go_wp2_with fail
  refine (CA.out _).mono ?_
  rintro e w1 ⟨rfl, hb1⟩
  go_wp2_with fail
  refine (CB.out _).mono ?_
  rintro e w2 ⟨rfl, hb2⟩
  have HB := Lib.hid (stay_b hb1 hb2)
  clear hb1 hb2
  go_wp2
  go_ret
  exact ⟨rfl, HB.out⟩
end Go.Proofs.YtoienokpchbglaaDoor
