/- What CountBelow gives on both sides. -/
import Derived.Test.YtkemghecglbleaaGreatDoorOv
import Derived.Deep.DeepCutAuto
namespace Go.Proofs.YtkemghecglbleaaGreatDoor
set_option maxRecDepth 100000
set_option linter.unusedVariables false
open Go.RowKit

def nzC (c : Option Nat) : Option Nat := if cord .f32 c (some 0) == some .eq then some 897988541 else c
def ltC (c : Option Nat) : Bool := cord .f32 c (some 0) == some .lt
def eqC (c : Option Nat) : Bool := cord .f32 c (some 0) == some .eq
/-- ahead of the look whether it is zero -/
def cbX (xs : List Nat) (be en q : Option Nat) (k : Nat) : Option Nat :=
  if k = 0 then cop .sub .f32 (cn .f32 (xs.getD k 0)) en else cop .sub .f32 (cop .sub .f32 (cn .f32 (xs.getD k 0)) en) (cop .quo .f32 (cop .mul .f32 be be) q)
def cbQ (xs : List Nat) (be en : Option Nat) : Nat → Option Nat
  | 0 => some 0
  | k + 1 => nzC (cbX xs be en (cbQ xs be en k) k)
def cbN (xs : List Nat) (be en : Option Nat) : Nat → Int
  | 0 => 0
  | k + 1 => cbN xs be en k + (if ltC (cbQ xs be en (k + 1)) then 1 else 0)

theorem eq_is {r : Nat} {c : Option Nat} (h : FE .f32 r c) : (FloatKind.f32.format.order r 0 == some .eq) = eqC c := by rw [order_cord, h.out, cn_zero32]; rfl
theorem lt_is {r : Nat} {c : Option Nat} (h : FE .f32 r c) : (FloatKind.f32.format.order r 0 == some .lt) = ltC c := by rw [order_cord, h.out, cn_zero32]; rfl
theorem tiny_cn : cn .f32 897988541 = some 897988541 := by decide
theorem tiny_FE : FE .f32 897988541 (some 897988541) := ⟨tiny_cn, by decide⟩
theorem tiny_lt : ltC (some 897988541) = false := by decide
theorem nz_true {c : Option Nat} (h : eqC c = true) : nzC c = some 897988541 := by unfold nzC; unfold eqC at h; rw [h]; rfl
theorem nz_false {c : Option Nat} (h : eqC c = false) : nzC c = c := by unfold nzC; unfold eqC at h; rw [h]; rfl
theorem cbN_true {xs : List Nat} {be en : Option Nat} {k : Nat} (h : ltC (cbQ xs be en (k + 1)) = true) : cbN xs be en (k + 1) = cbN xs be en k + 1 := by
  show cbN xs be en k + _ = _; rw [h]; rfl
theorem cbN_false {xs : List Nat} {be en : Option Nat} {k : Nat} (h : ltC (cbQ xs be en (k + 1)) = false) : cbN xs be en (k + 1) = cbN xs be en k := by
  show cbN xs be en k + _ = _; rw [h]; simp

/-- behind the test for zero -/
theorem cb_last {xs : List Nat} {be en : Option Nat} {k r : Nat} {m : Int} (hm : m = cbN xs be en k) (hr : FE .f32 r (cbQ xs be en (k + 1))) (b : Bool) (hb : (FloatKind.f32.format.order r 0 == some .lt) = b) :
    (if b then m + 1 else m) = cbN xs be en (k + 1) := by
  rw [lt_is hr] at hb
  cases b with
  | true => rw [cbN_true hb, hm]; rfl
  | false => rw [cbN_false hb, hm]; rfl

def rwB (xs : List Nat) (be : Option Nat) : Bool := decide (1 ≤ xs.length ∧ xs.length ≤ 48) && (allFin xs && isFin be)
def cbB (xs : List Nat) (be en : Option Nat) : Bool := rwB xs be && isFin en
def cbV (xs : List Nat) (be en : Option Nat) : Value := .tuple #[.int .i64 (if cbB xs be en then cbN xs be en xs.length else 0), .bool (cbB xs be en)]
theorem cbV_bad {xs : List Nat} {be en : Option Nat} (h : cbB xs be en = false) : cbV xs be en = .tuple #[.int .i64 0, .bool false] := by unfold cbV; rw [h]; rfl
theorem cbV_good {xs : List Nat} {be en : Option Nat} (h : cbB xs be en = true) : cbV xs be en = .tuple #[.int .i64 (cbN xs be en xs.length), .bool true] := by unfold cbV; rw [h]; rfl

end Go.Proofs.YtkemghecglbleaaGreatDoor
