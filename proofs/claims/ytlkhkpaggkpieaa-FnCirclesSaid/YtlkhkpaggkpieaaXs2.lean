/- Products of phasors, reckoned by the kernel. -/
import Derived.Test.YtlkhkpaggkpieaaXr
namespace Go.Proofs.Ytlkhkpaggkpieaa
set_option maxRecDepth 100000
theorem prodsB32 : ∀ i : Fin 4, ∀ j : Fin 64, mulB (i.val + 32) j.val = true := by decide +kernel
theorem prodsB36 : ∀ i : Fin 4, ∀ j : Fin 64, mulB (i.val + 36) j.val = true := by decide +kernel
theorem prodsB40 : ∀ i : Fin 4, ∀ j : Fin 64, mulB (i.val + 40) j.val = true := by decide +kernel
theorem prodsB44 : ∀ i : Fin 4, ∀ j : Fin 64, mulB (i.val + 44) j.val = true := by decide +kernel
end Go.Proofs.Ytlkhkpaggkpieaa
