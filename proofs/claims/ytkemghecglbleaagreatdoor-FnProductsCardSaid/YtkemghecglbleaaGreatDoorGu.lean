/- ReadComplex on the reference's side; the statement walked. -/
import Derived.Test.YtkemghecglbleaaGreatDoorGy
import Derived.Test.YtkemghecglbleaaGreatDoorGw
namespace Go.Proofs.YtkemghecglbleaaGreatDoor
set_option maxRecDepth 100000
set_option linter.unusedVariables false
open Go.Lib Go.RowKit Go.Sort
/-- a number and whether it is one; nothing but draws -/
def RetDd (o : Option Nat) (w : World) (e : Ending) (w' : World) : Prop := ∃ (x n : Nat), e = .returned (.tuple #[.float .f32 x, .bool o.isSome]) ∧ (∀ m, o = some m → x = m) ∧ w' = w.drewN n
theorem RetDd.no {o : Option Nat} (h : o = none) (w : World) (n x : Nat) : RetDd o w (.returned (.tuple #[.float .f32 x, .bool false])) (w.drewN n) := ⟨x, n, by rw [h]; rfl, (fun m hm => by rw [h] at hm; cases hm), rfl⟩
theorem RetDd.no0 {o : Option Nat} (h : o = none) (w : World) (x : Nat) : RetDd o w (.returned (.tuple #[.float .f32 x, .bool false])) w := ⟨x, 0, by rw [h]; rfl, (fun m hm => by rw [h] at hm; cases hm), rfl⟩
theorem RetDd.yes {o : Option Nat} {m : Nat} (h : o = some m) (w : World) (n : Nat) : RetDd o w (.returned (.tuple #[.float .f32 m, .bool true])) (w.drewN n) := ⟨m, n, by rw [h]; rfl, (fun k hk => by rw [h] at hk; injection hk), rfl⟩
end Go.Proofs.YtkemghecglbleaaGreatDoor
