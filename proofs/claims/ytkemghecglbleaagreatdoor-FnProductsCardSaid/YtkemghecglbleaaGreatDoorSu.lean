/- What SumNumbers gives on both sides. -/
import Derived.Test.YtkemghecglbleaaGreatDoorTs
namespace Go.Proofs.YtkemghecglbleaaGreatDoor
set_option maxRecDepth 100000
open Go.RowKit

/-! sums -/
def sumC (xs : List Nat) : Option Nat := xs.foldl (fun a x => cop .add .f32 a (cn .f32 x)) (some 0)
theorem sumC_snoc (xs : List Nat) (k : Nat) (h : k < xs.length) : sumC (xs.take (k + 1)) = cop .add .f32 (sumC (xs.take k)) (cn .f32 (xs.getD k 0)) := by
  unfold sumC
  rw [take_snocN xs k h, List.foldl_append]; rfl

def sumR (xs : List Nat) : Option Nat := if xs.length ≤ 256 then sumC xs else some 0

end Go.Proofs.YtkemghecglbleaaGreatDoor
