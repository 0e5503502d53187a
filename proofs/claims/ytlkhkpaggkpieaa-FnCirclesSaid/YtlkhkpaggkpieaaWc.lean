/- What FromBits gives on both sides. -/
import Derived.Test.YtlkhkpaggkpieaaWb
namespace Go.Proofs.Ytlkhkpaggkpieaa
set_option maxRecDepth 100000
open Go.RowKit

/-- what FromBits gives -/
def fromC (n : Int) : Option Nat := if 0 ≤ n ∧ n ≤ 4294967295 then cn .f32 n.toNat else some 0

theorem FE_self {k : FloatKind} {x : Nat} (h : x < 2 * k.format.signWeight) : FE k x (cn k x) := ⟨rfl, h⟩

theorem FE_zero32 : FE .f32 0 (some 0) := ⟨cn_zero32, by rw [f32_sign]; omega⟩

set_option maxHeartbeats 400000 in
theorem spec_l01From (n : Int) (h0 : 0 ≤ n) (h1 : n ≤ 4294967295) (w : World) :
    Calls Try.prog 49 #[.int .i64 n] w (RetV (.float .f32 n.toNat) w) := by
  have e := ext_f32from
  go_enter Try.func49, Try.ntmps49
  go_wp2
  go_ret
  exact RetV.mk0 rfl

end Go.Proofs.Ytlkhkpaggkpieaa
