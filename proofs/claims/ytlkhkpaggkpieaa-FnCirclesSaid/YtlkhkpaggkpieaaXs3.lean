/- Products of phasors, reckoned by the kernel. -/
import Derived.Test.YtlkhkpaggkpieaaXr
namespace Go.Proofs.Ytlkhkpaggkpieaa
set_option maxRecDepth 100000
theorem prodsB48 : ∀ i : Fin 4, ∀ j : Fin 64, mulB (i.val + 48) j.val = true := by decide +kernel
theorem prodsB52 : ∀ i : Fin 4, ∀ j : Fin 64, mulB (i.val + 52) j.val = true := by decide +kernel
theorem prodsB56 : ∀ i : Fin 4, ∀ j : Fin 64, mulB (i.val + 56) j.val = true := by decide +kernel
theorem prodsB60 : ∀ i : Fin 4, ∀ j : Fin 64, mulB (i.val + 60) j.val = true := by decide +kernel
end Go.Proofs.Ytlkhkpaggkpieaa
