/- What OverlapOf gives on both sides. -/
import Derived.Test.YtkemghecglbleaaGreatDoorDo
namespace Go.Proofs.YtkemghecglbleaaGreatDoor
set_option maxRecDepth 100000
set_option linter.unusedVariables false
open Go.RowKit

/-! whether all numbers are finite; a number that must be finite -/
def numC (c : Option Nat) : Option Nat := if isFin c then c else some 0
/-! the overlap -/
def ovB (xs ys : List Nat) : Bool := decide (1 ≤ xs.length ∧ xs.length ≤ 48 ∧ ys.length = xs.length) && (allFin xs && allFin ys)
def ovF (xs ys : List Nat) : Bool := ovB xs ys && isFin (dotK xs ys xs.length)
def ovR (xs ys : List Nat) : Option Nat := if ovF xs ys then dotK xs ys xs.length else some 0
theorem ovR_bad {xs ys : List Nat} (h : ovF xs ys = false) : ovR xs ys = some 0 := by unfold ovR; rw [h]; rfl
theorem ovF_good {xs ys : List Nat} (h : ovB xs ys = true) : ovF xs ys = isFin (dotK xs ys xs.length) := by unfold ovF; rw [h]; rfl
theorem ovR_good {xs ys : List Nat} (h : ovB xs ys = true) : ovR xs ys = numC (dotK xs ys xs.length) := by unfold ovR numC; rw [ovF_good h]

end Go.Proofs.YtkemghecglbleaaGreatDoor
