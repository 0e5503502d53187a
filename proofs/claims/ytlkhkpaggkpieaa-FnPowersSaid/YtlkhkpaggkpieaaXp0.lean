/- Products of exponentials at eighths, reckoned by the kernel. -/
import Derived.Test.YtlkhkpaggkpieaaXe
namespace Go.Proofs.Ytlkhkpaggkpieaa
set_option maxRecDepth 100000
def pairB (i j : Nat) : Bool := cop .add .f32 (some (eighth (i + 32))) (some (eighth (j + 32))) == some (eighth (i + j)) &&
  forceO (cop .mul .f64 (some (expW (i + 32))) (some (expW (j + 32)))) fun m => gapB m (expW (i + j)) fun g => ltB .f64 g (thr (i + j))
theorem pairs0 : ∀ i : Fin 22, ∀ j : Fin 65, pairB (i.val + 0) j.val = true := by decide +kernel
end Go.Proofs.Ytlkhkpaggkpieaa
