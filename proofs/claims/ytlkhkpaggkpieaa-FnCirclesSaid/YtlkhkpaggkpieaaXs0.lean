/- Products of phasors, reckoned by the kernel. -/
import Derived.Test.YtlkhkpaggkpieaaXr
namespace Go.Proofs.Ytlkhkpaggkpieaa
set_option maxRecDepth 100000
theorem prodsB0 : ∀ i : Fin 4, ∀ j : Fin 64, mulB (i.val + 0) j.val = true := by decide +kernel
theorem prodsB4 : ∀ i : Fin 4, ∀ j : Fin 64, mulB (i.val + 4) j.val = true := by decide +kernel
theorem prodsB8 : ∀ i : Fin 4, ∀ j : Fin 64, mulB (i.val + 8) j.val = true := by decide +kernel
theorem prodsB12 : ∀ i : Fin 4, ∀ j : Fin 64, mulB (i.val + 12) j.val = true := by decide +kernel
end Go.Proofs.Ytlkhkpaggkpieaa
