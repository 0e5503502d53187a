/- What FromBits gives on both sides. -/
import Derived.Test.YtidnhbengmjpkaaWb
namespace Go.Proofs.Ytidnhbengmjpkaa
set_option maxRecDepth 100000
open Go.RowKit

set_option maxHeartbeats 400000 in
theorem spec_l00In (n lo hi : Int) (w : World) :
    Calls Try.prog 52 #[.int .i64 n, .int .i64 lo, .int .i64 hi] w (RetV (.bool (decide (lo ≤ n) && decide (n ≤ hi))) w) := by
  go_enter Try.func52, Try.ntmps52
  go_wp2
  all_goals go_ret
  all_goals exact RetV.mk0 (by simp_all <;> omega)

set_option maxHeartbeats 400000 in
theorem impl_within (n lo hi : Int) (w : World) :
    Calls Try.prog 44 #[.int .i64 n, .int .i64 lo, .int .i64 hi] w (RetV (.bool (decide (lo ≤ n) && decide (n ≤ hi))) w) := by
  go_enter Try.func44, Try.ntmps44
  go_wp2
  all_goals go_ret
  all_goals exact RetV.mk0 (by simp_all <;> omega)

/-- what FromBits gives -/
def fromC (n : Int) : Option Nat := if 0 ≤ n ∧ n ≤ 4294967295 then cn .f32 n.toNat else some 0

theorem FE_self {k : FloatKind} {x : Nat} (h : x < 2 * k.format.signWeight) : FE k x (cn k x) := ⟨rfl, h⟩

theorem FE_zero32 : FE .f32 0 (some 0) := ⟨cn_zero32, by rw [f32_sign]; omega⟩

end Go.Proofs.Ytidnhbengmjpkaa
