/- What FromBits gives on both sides. -/
import Derived.Test.YtkdojogjalkddaaWb
namespace Go.Proofs.Ytkdojogjalkddaa
set_option maxRecDepth 100000
open Go.RowKit

/-- what FromBits gives -/
def fromC (n : Int) : Option Nat := if 0 ≤ n ∧ n ≤ 4294967295 then cn .f32 n.toNat else some 0

theorem FE_self {k : FloatKind} {x : Nat} (h : x < 2 * k.format.signWeight) : FE k x (cn k x) := ⟨rfl, h⟩

theorem FE_zero32 : FE .f32 0 (some 0) := ⟨cn_zero32, by rw [f32_sign]; omega⟩

end Go.Proofs.Ytkdojogjalkddaa
