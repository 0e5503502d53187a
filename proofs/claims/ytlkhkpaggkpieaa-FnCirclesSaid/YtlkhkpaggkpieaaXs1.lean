/- Products of phasors, reckoned by the kernel. -/
import Derived.Test.YtlkhkpaggkpieaaXr
namespace Go.Proofs.Ytlkhkpaggkpieaa
set_option maxRecDepth 100000
theorem prodsB16 : ∀ i : Fin 4, ∀ j : Fin 64, mulB (i.val + 16) j.val = true := by decide +kernel
theorem prodsB20 : ∀ i : Fin 4, ∀ j : Fin 64, mulB (i.val + 20) j.val = true := by decide +kernel
theorem prodsB24 : ∀ i : Fin 4, ∀ j : Fin 64, mulB (i.val + 24) j.val = true := by decide +kernel
theorem prodsB28 : ∀ i : Fin 4, ∀ j : Fin 64, mulB (i.val + 28) j.val = true := by decide +kernel
end Go.Proofs.Ytlkhkpaggkpieaa
