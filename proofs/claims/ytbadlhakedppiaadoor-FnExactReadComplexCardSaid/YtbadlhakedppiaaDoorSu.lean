/- What SumNumbers gives on both sides. -/
import Derived.Test.YtbadlhakedppiaaDoorTs
namespace Go.Proofs.YtbadlhakedppiaaDoor
set_option maxRecDepth 100000
open Go.RowKit

/-! sums -/
def sumC (xs : List Nat) : Option Nat := xs.foldl (fun a x => cop .add .f32 a (cn .f32 x)) (some 0)
theorem sumC_snoc (xs : List Nat) (k : Nat) (h : k < xs.length) : sumC (xs.take (k + 1)) = cop .add .f32 (sumC (xs.take k)) (cn .f32 (xs.getD k 0)) := by
  unfold sumC
  rw [take_snocN xs k h, List.foldl_append]; rfl

def sumR (xs : List Nat) : Option Nat := if xs.length ≤ 256 then sumC xs else some 0

set_option maxHeartbeats 400000 in
theorem spec_l01Few (a : Option Addr) (cap n : Nat) (hn : n ≤ 1048577) (w : World) :
    Calls Tryd.prog 19 #[.slice a n cap] w (RetV (.bool (decide (n ≤ 256))) w) := by
  go_enter Tryd.func19, Tryd.ntmps19
  go_wp2
  go_ret
  refine RetV.mk0 ?_
  show Value.bool (decide ((n : Int) ≤ 256)) = _
  congr 1
  rw [decide_eq_decide]
  omega

end Go.Proofs.YtbadlhakedppiaaDoor
