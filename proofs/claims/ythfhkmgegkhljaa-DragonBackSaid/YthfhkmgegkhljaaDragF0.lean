/- Counting ones; comparing lists once more. -/
import Derived.Test.YthfhkmgegkhljaaDragT1
import Derived.WalkLawsBesides
namespace Go.Proofs.Ythfhkmgegkhljaa
open Go.RowKit

def o1 (x : Int) : Int := IntKind.u64.wrap (bits .and .u64 (x / 2) 6148914691236517205 + bits .and .u64 x 6148914691236517205)
def o2 (x : Int) : Int := IntKind.u64.wrap (bits .and .u64 (o1 x / 4) 3689348814741910323 + bits .and .u64 (o1 x) 3689348814741910323)
def o3 (x : Int) : Int := bits .and .u64 (IntKind.u64.wrap (o2 x / 16 + o2 x)) 1085102592571150095
def o4 (x : Int) : Int := IntKind.u64.wrap (o3 x + o3 x / 256)
def o5 (x : Int) : Int := IntKind.u64.wrap (o4 x + o4 x / 65536)
def o6 (x : Int) : Int := IntKind.u64.wrap (o5 x + o5 x / 4294967296)
/-- The ones of a number, as bits.OnesCount64 reckons them. -/
def ones (x : Int) : Int := bits .and .i64 (wrap64 (o6 x)) 127
set_option maxHeartbeats 800000 in
theorem ones64_any (x : Int) (w : World) (h0 : 0 ≤ x) (h1 : x ≤ 18446744073709551615) :
    Calls Try.prog 53 #[.int .u64 x] w fun e w' => e = .returned (.int .i64 (ones x)) ∧ w = w' := by
  go_enter Try.func53, Try.ntmps53
  go_wp2
  go_ret
  exact ⟨rfl, rfl⟩
theorem ones_any (x : Int) (w : World) (h0 : 0 ≤ x) (h1 : x ≤ 18446744073709551615) :
    Calls Try.prog 41 #[.int .u64 x] w fun e w' => e = .returned (.int .i64 (ones x)) ∧ w = w' := by
  go_enter Try.func41, Try.ntmps41
  go_wp2_with fail
  refine (ones64_any x w h0 h1).mono ?_
  rintro e w1 ⟨rfl, rfl⟩
  go_wp2
  go_ret
  exact ⟨rfl, rfl⟩
def powB (n : Nat) : Bool := n == 1 || n == 2 || n == 4 || n == 8 || n == 16 || n == 32 || n == 64 || n == 128 || n == 256 || n == 512 || n == 1024
theorem ones_small : ∀ n : Fin 1025, 1 ≤ n.val → (ones (n.val : Int) == 1) = powB n.val := by decide +kernel
theorem ones_pow {n : Nat} (h1 : 1 ≤ n) (h2 : n ≤ 1024) : (ones (n : Int) == 1) = powB n := ones_small ⟨n, by omega⟩ h1
end Go.Proofs.Ythfhkmgegkhljaa
