/- What every row's proof uses: the laws' end, and how floats and slices of floats are read. -/
import Derived.Test.YtkemghecglbleaaGreatDoorRows
import Derived.Test.YtkemghecglbleaaGreatDoorYa
import Derived.WalkKit
import Derived.ProofKit
import Derived.OpenShut
import Derived.ShutString
import Derived.ChangeOld
import Derived.Below
import Derived.WalkSmall
namespace Go.Proofs.YtkemghecglbleaaGreatDoor
open Go.ChangeShapes Go.WideShapes Go.ChangeAt Go.RowKit

theorem Tryz.own : ownKnob Tryz.prog.godebug = none := by kernel_rfl
theorem Tryz.laidOut : laidOutB Tryz.prog = true := by kernel_rfl

/-- a law's end: it hands back true; of what was there nothing has turned -/
def LawTrue (w : World) (e : Ending) (w' : World) : Prop := e = .returned (.bool true) ∧ Below w.heap.size w w'
theorem LawTrue.of {w : World} {e : Ending} {w' : World} (h : RetV (.bool true) w e w') : LawTrue w e w' := by
  obtain ⟨n, rfl, rfl⟩ := h
  exact ⟨rfl, below_drewN (Below.refl _ _) n⟩

theorem wf32 {x : Nat} (h : (Lit.float .f32 x).wf = true) : x < 4294967296 := by
  have := wf_sign h
  rw [f32_sign] at this
  omega
theorem wf64 {x : Nat} (h : (Lit.float .f64 x).wf = true) : x < 18446744073709551616 := by
  have := wf_sign h
  rw [f64_sign] at this
  omega
end Go.Proofs.YtkemghecglbleaaGreatDoor
